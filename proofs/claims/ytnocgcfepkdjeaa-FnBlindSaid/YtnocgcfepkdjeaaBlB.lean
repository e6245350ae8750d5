/- Contract: points not told from others, by the reference. -/
import Derived.Test.YtnocgcfepkdjeaaBlRow
import Derived.Test.YtnocgcfepkdjeaaSiC
import Derived.Test.YtnocgcfepkdjeaaSiE
import Derived.Test.YtnocgcfepkdjeaaSiF
import Derived.Test.YtnocgcfepkdjeaaSeq
namespace Go.Proofs.Ytnocgcfepkdjeaa
open Go.RowKit

theorem own_drew {w : World} {base : Nat} {e : TypeId} {size : Nat} {v u : Value} {n : Nat} {xs : List Value} {a : Addr} (h : (w.setCell a u).ownsRow base e size v n xs) : (w.drew.setCell a u).ownsRow base e size v n xs := h
theorem cl_lens (l : List Pt) : ∀ n, ∀ b ∈ (clN (blF l) n).1, b.length = l.length
  | 0, b, h => by simp [clN] at h
  | n + 1, b, h => by
    have ih := cl_lens l n
    simp only [clN, clS] at h
    split at h
    · exact ih b h
    · rcases List.mem_append.1 h with h2 | h2
      · exact ih b h2
      · rw [List.mem_singleton.1 h2]; exact nrm_len _ _

theorem infoRows : (Try.prog.info? 30).map (fun i => (i.zero, i.size, i.bytes)) = some (some (.slice none 0 0), 1, 24) := by kernel_rfl

theorem infoInt3 : (Try.prog.info? 3).map (fun i => (i.zero, i.size, i.bytes)) = some (some (.int .i64 0), 1, 8) := by kernel_rfl

theorem l1Same_c (A1 A2 : Option Addr) (c1 c2 : Nat) (l1 l2 : List Int) (w : World) (h1 : Hid (Reads w w.heap.size 1 A1 l1.length (ints l1))) (h2 : Hid (Reads w w.heap.size 1 A2 l2.length (ints l2))) (b1 : l1.length ≤ 4000000) (b2 : l2.length ≤ 4000000)  : Calls Try.prog 72 #[.slice A1 l1.length c1, .slice A2 l2.length c2] w (Gives w (.bool (decide (l1 = l2)))) := by
  by_cases he : l1.length = l2.length
  rotate_left
  · have HF := hide (show decide (l1 = l2) = false from decide_eq_false (len_ne he))
    have hb : ((l1.length : Int) != (l2.length : Int)) = true := by simp; omega
    go_enter Try.func72, Try.ntmps72
    go_wp2
    go_returns
    exact ⟨ret_eq (by rw [HF.out]; simp), by go_grown⟩
  obtain ⟨n, hn⟩ : ∃ n, l1.length = n := ⟨_, rfl⟩
  have hn2 : l2.length = n := by omega
  clear he
  rw [hn] at b1 h1 ⊢
  rw [hn2] at b2 h2 ⊢
  have Hn := hide hn
  have Hn2 := hide hn2
  clear hn hn2
  go_enter Try.func72, Try.ntmps72
  go_wp2
  go_loopw [5] (fun iv wr => ∃ (i : Nat), i ≤ n ∧ iv = .int .i64 i ∧ Hid (l1.take i = l2.take i) ∧ Below w.heap.size w wr) (fun iv _ => n - (intOf iv).toNat)
  case atStart => exact ⟨0, by omega, rfl, hide rfl, Below.refl _ _⟩
  case round =>
    obtain ⟨i, hi, rfl, H, hB⟩ := hrel
    by_cases hlt : i < n
    · have hl1 : i < l1.length := by have := Hn.out; omega
      have hl2 : i < l2.length := by have := Hn2.out; omega
      obtain ⟨a1, rfl, ekb, ex⟩ := (h1.out.below hB).num (k := i) (by omega)
      obtain ⟨a2, rfl, fkb, fx⟩ := (h2.out.below hB).num (k := i) (by omega)
      by_cases hc : nth l1 i = nth l2 i
      · have HS := hide (num_step H.out hl1 hl2 hc)
        clear hl1 hl2
        have hcb : (nth l1 i != nth l2 i) = false := by simp [hc]
        clear hc
        go_wp2
        refine wp_region_det (fun w' => w'.cell? (a1.add i) = some (.int .i64 (nth l1 i)) ∧ w'.cell? (a2.add i) = some (.int .i64 (nth l2 i)) ∧ Below w.heap.size w w') (by kernel_rfl) (by kernel_rfl) (by first | (with_reducible assumption) | (exact hS) | (exact ⟨hS.1, hS.2.1, (by go_grown)⟩) | (exact ⟨(by first | (with_reducible assumption) | (simp [go_sem]; done) | ((simp only [go_sem]); (with_reducible assumption)) | ((refine keep_cell ?_ (by with_reducible assumption)); go_grown; done) | (simp [go_sem, *]; done)), (by first | (with_reducible assumption) | (simp [go_sem]; done) | ((simp only [go_sem]); (with_reducible assumption)) | ((refine keep_cell ?_ (by with_reducible assumption)); go_grown; done) | (simp [go_sem, *]; done)), (by go_grown)⟩)) ?_
        repeat (first
          | ((refine wpDet_skip (by rfl) ?_); simp only [Act.put, List.setIfInBounds_toArray, List.set_cons_zero, List.set_cons_succ])
          | ((refine wpDet_val (v := ?_) (by rfl) (fun w hS => ?_) ?_); rotate_left; (focus ((try dsimp only at hS); go_simp; (try (with_reducible rfl)); done)); simp only [Act.put, List.setIfInBounds_toArray, List.set_cons_zero, List.set_cons_succ]))
        refine wpDet_nil ?_
        intro w1 hS
        have hT : w1.cell? (a1.add i) = some (.int .i64 (nth l1 i)) ∧ w1.cell? (a2.add i) = some (.int .i64 (nth l2 i)) ∧ Below w.heap.size w w1 := hS
        clear hS
        have hS := hT
        obtain ⟨c0, c1, hB⟩ := hT
        have hzw : w.heap.size ≤ w1.heap.size := hB.size
        go_wp2
        go_roundw
        case rel => exact ⟨i + 1, by omega, by go_num, HS, by go_grown⟩
        case measure => simp [intOf]; omega
      have HF := hide (show decide (l1 = l2) = false from decide_eq_false (num_ne hc))
      have hcb : (nth l1 i != nth l2 i) = true := by simp [hc]
      clear hc hl1 hl2
      go_wp2
      refine wp_region_det (fun w' => w'.cell? (a1.add i) = some (.int .i64 (nth l1 i)) ∧ w'.cell? (a2.add i) = some (.int .i64 (nth l2 i)) ∧ Below w.heap.size w w') (by kernel_rfl) (by kernel_rfl) (by first | (with_reducible assumption) | (exact hS) | (exact ⟨hS.1, hS.2.1, (by go_grown)⟩) | (exact ⟨(by first | (with_reducible assumption) | (simp [go_sem]; done) | ((simp only [go_sem]); (with_reducible assumption)) | ((refine keep_cell ?_ (by with_reducible assumption)); go_grown; done) | (simp [go_sem, *]; done)), (by first | (with_reducible assumption) | (simp [go_sem]; done) | ((simp only [go_sem]); (with_reducible assumption)) | ((refine keep_cell ?_ (by with_reducible assumption)); go_grown; done) | (simp [go_sem, *]; done)), (by go_grown)⟩)) ?_
      repeat (first
        | ((refine wpDet_skip (by rfl) ?_); simp only [Act.put, List.setIfInBounds_toArray, List.set_cons_zero, List.set_cons_succ])
        | ((refine wpDet_val (v := ?_) (by rfl) (fun w hS => ?_) ?_); rotate_left; (focus ((try dsimp only at hS); go_simp; (try (with_reducible rfl)); done)); simp only [Act.put, List.setIfInBounds_toArray, List.set_cons_zero, List.set_cons_succ]))
      refine wpDet_nil ?_
      intro w1 hS
      have hT : w1.cell? (a1.add i) = some (.int .i64 (nth l1 i)) ∧ w1.cell? (a2.add i) = some (.int .i64 (nth l2 i)) ∧ Below w.heap.size w w1 := hS
      clear hS
      have hS := hT
      obtain ⟨c0, c1, hB⟩ := hT
      have hzw : w.heap.size ≤ w1.heap.size := hB.size
      go_wp2
      go_returns
      exact ⟨ret_eq (by rw [HF.out]; simp), by go_grown⟩
    obtain rfl : i = n := by omega
    have HF := hide (show decide (l1 = l2) = true from decide_eq_true (num_all (by rw [Hn.out]; exact H.out) (by rw [Hn.out, Hn2.out])))
    go_wp2
    go_returns
    exact ⟨ret_eq (by rw [HF.out]; simp), by go_grown⟩

set_option maxRecDepth 100000 in
set_option maxHeartbeats 8000000 in
theorem sBlind_c (A : Option Addr) (c : Nat) (l : List Pt) (w : World) (h1 : Hid (Reads w w.heap.size 2 A l.length (flat l))) (b1 : l.length ≤ 4000000)  : Calls Try.prog 14 #[.slice A l.length c] w (Gives w (.tuple #[.int .i64 (blV l), .bool (okS l)])) := by
  rcases k1 : okS l with _ | _
  · have HK := hide k1
    have HV := hide (show blV l = 0 from by unfold blV; rw [k1]; rfl)
    go_enter Try.func14, Try.ntmps14
    go_wp2_with (first | (go_at_call 70; refine (l10Good_c A c l _ (hide (reads_below h1.out (by go_grown))) b1).mono ?_; rintro e w1 ⟨rfl, hb⟩; have hT : Below w.heap.size w w1 := (fun W h hb => below_via h (hb) : ∀ W : World, (Below w.heap.size w W) → Below W.heap.size W w1 → (Below w.heap.size w w1)) _ (by first | (with_reducible assumption) | go_grown) hb; (try clear hS); have hS := hT; clear hT; have hB := hS; have hzw : w.heap.size ≤ w1.heap.size := hB.size; clear hb))
    go_returns
    exact ⟨ret_eq (by rw [HV.out]; simp), by go_grown⟩
  obtain ⟨n1, n5⟩ := (okS_iff.1 k1).1
  have hsm := hide (okS_small k1)
  have HOK := hide k1
  have HK := hide k1
  have HV := hide (show blV l = ibN l 961 from by unfold blV; rw [if_pos k1])
  have hE : ((3 : Nat) : TypeId) ≠ 30 := by decide
  obtain ⟨i0, hi0, iz0, iy0, ix0⟩ := info_parts infoRows
  obtain ⟨i1, hi1, iz1, iy1, ix1⟩ := info_parts infoInt3
  go_enter Try.func14, Try.ntmps14
  go_wp2_with (first | (go_at_call 70; refine (l10Good_c A c l _ (hide (reads_below h1.out (by go_grown))) b1).mono ?_; rintro e w1 ⟨rfl, hb⟩; have hT : Below w.heap.size w w1 := (fun W h hb => below_via h (hb) : ∀ W : World, (Below w.heap.size w W) → Below W.heap.size W w1 → (Below w.heap.size w w1)) _ (by first | (with_reducible assumption) | go_grown) hb; (try clear hS); have hS := hT; clear hT; have hB := hS; have hzw : w.heap.size ≤ w1.heap.size := hB.size; clear hb))
  go_loopw [4, 5, 6] (fun sv tv yv wr => ∃ (y : Nat) (K : List (List Int)) (T : List Int) (vals : List Value) (B C : Option Addr) (d e : Nat), y ≤ 31 ∧ yv = .int .i64 y ∧ sv = .slice B K.length d ∧ tv = .slice C T.length e ∧ Hid (clN (blF l) (31 * y) = (K, T)) ∧ K.length ≤ 31 * y ∧ Hid (BlI wr w.heap.size 3 30 (.slice B K.length d) (.slice C T.length e) vals K T) ∧ Below w.heap.size w wr) (fun _ _ yv _ => 31 - (intOf yv).toNat)
  case atStart =>
    refine ⟨0, [], [], [], _, _, _, _, by omega, rfl, rfl, rfl, hide rfl, by simp, hide (BlI.nil ?_ ?_), by go_grown⟩
    · exact World.ownsRow.alloc (own_empty _ (by first | rfl | simp) (by omega)) _
    · exact own_empty _ (by first | rfl | simp) (by first | omega | (simp; omega))
  case round =>
    obtain ⟨y, K, T, vals, B, C, d, e, hy, rfl, rfl, rfl, HC, hKl, HBL, hB⟩ := hrel
    have hzw : w.heap.size ≤ wr.heap.size := hB.size
    by_cases hlt : y < 31
    rotate_left
    · obtain rfl : y = 31 := by omega
      have hco := cl_ok (blF l) 961
      have hsame := bl_same n1
      have hCC := HC.out
      rw [show 31 * 31 = 961 from rfl] at hCC
      rw [hCC] at hco hsame
      have HSM := hide hsame
      have hTb : T.length ≤ 961 := by rw [hco.len]; omega
      have HBD := hide (fun k (h : k ≤ T.length) => bs_bd (blF l) 961 K T hco k (by rw [← hco.len]; exact h))
      have HNB := hide (fun j (h : j < T.length) => cl_bd (blF l) hco h)
      clear hco hsame hCC
      have HTM := hide HBL.out.times
      obtain ⟨wo, hwo⟩ : ∃ wo : World, wo = wr := ⟨_, rfl⟩
      rw [← hwo] at HBL HTM hB hzw ⊢
      clear hwo
      go_wp2
      go_loopw [12, 13] (fun nv kv wq => ∃ k : Nat, k ≤ T.length ∧ kv = .int .i64 k ∧ nv = .int .i64 (bsN T k) ∧ Hid (wq.ownsRow w.heap.size 3 1 (.slice C T.length e) T.length (ints T)) ∧ Below w.heap.size w wq) (fun _ kv _ => T.length - (intOf kv).toNat)
      case atStart => exact ⟨0, by omega, rfl, rfl, HTM, hB⟩
      case round =>
        obtain ⟨k, hk, rfl, rfl, HT, hB⟩ := hrel
        have hzw : w.heap.size ≤ wr.heap.size := hB.size
        by_cases hltk : k < T.length
        rotate_left
        · obtain rfl : k = T.length := by omega
          go_wp2
          go_returns
          exact ⟨ret_eq (by rw [HV.out, ← HSM.out]; simp), hB⟩
        obtain ⟨gt, rfl, hgt0, hgt1⟩ := own_at HT.out (by omega)
        have hcell : wr.cell? ⟨gt, k, none⟩ = some (.int .i64 (nth T k)) := by rw [World.ownsRow.cellAt HT.out k (by omega), ints_at T k hltk]
        have hb0 := HBD.out k (by omega)
        have hb1 := HBD.out (k + 1) (by omega)
        have hb2 := HNB.out k hltk
        have hstep : bsN T (k + 1) = if nth T k > 1 then bsN T k + nth T k else bsN T k := rfl
        obtain ⟨N, hN⟩ : ∃ q, nth T k = q := ⟨_, rfl⟩
        rw [hN] at hcell hb2 hstep
        clear hN
        obtain ⟨S, hS⟩ : ∃ q, bsN T k = q := ⟨_, rfl⟩
        obtain ⟨S2, hS2⟩ : ∃ q, bsN T (k + 1) = q := ⟨_, rfl⟩
        rw [hS] at hb0 hstep ⊢
        rw [hS2] at hb1 hstep
        have HS2 := hide hS2
        clear hS hS2
        by_cases hn1 : N > 1
        · rw [if_pos hn1] at hstep
          have HS := hide (HS2.out.trans hstep)
          have ew : IntKind.i64.wrap (S + N) = S + N := IntWalk.i64_in _ (by omega)
          have hcb : decide (N > 1) = true := decide_eq_true hn1
          clear hstep hn1
          go_wp2
          go_roundw
          case rel => exact ⟨k + 1, by omega, by go_num, int_eq (by rw [HS.out]), hide (own_below HT.out (by go_grown)), by go_grown⟩
          case measure => simp [intOf]; omega
        · rw [if_neg hn1] at hstep
          have HS := hide (HS2.out.trans hstep)
          have hcb : decide (N > 1) = false := decide_eq_false hn1
          clear hstep hn1
          go_wp2
          go_roundw
          case rel => exact ⟨k + 1, by omega, by go_num, int_eq (by rw [HS.out]), hide (own_below HT.out (by go_grown)), by go_grown⟩
          case measure => simp [intOf]; omega
    have hy30 : (y : Int) ≤ 30 := by omega
    go_wp2
    obtain ⟨wo, hwo⟩ : ∃ wo : World, wo = wr := ⟨_, rfl⟩
    rw [← hwo] at HBL hB hzw ⊢
    clear hwo
    go_loopw [4, 5, 7] (fun sv tv xv wr => ∃ (x : Nat) (K : List (List Int)) (T : List Int) (vals : List Value) (B C : Option Addr) (d e : Nat), x ≤ 31 ∧ xv = .int .i64 x ∧ sv = .slice B K.length d ∧ tv = .slice C T.length e ∧ Hid (clN (blF l) (31 * y + x) = (K, T)) ∧ K.length ≤ 31 * y + x ∧ Hid (BlI wr w.heap.size 3 30 (.slice B K.length d) (.slice C T.length e) vals K T) ∧ Below w.heap.size w wr) (fun _ _ xv _ => 31 - (intOf xv).toNat)
    case atStart => exact ⟨0, K, T, vals, B, C, d, e, by omega, rfl, rfl, rfl, HC, hKl, HBL, hB⟩
    case round =>
      obtain ⟨x, K, T, vals, B, C, d, e, hx, rfl, rfl, rfl, HC, hKl, HBL, hB⟩ := hrel
      have hzw : w.heap.size ≤ wr.heap.size := hB.size
      by_cases hltx : x < 31
      rotate_left
      · obtain rfl : x = 31 := by omega
        go_wp2
        go_roundw
        case rel => exact ⟨y + 1, K, T, vals, B, C, d, e, by omega, by go_num, rfl, rfl, by rw [show 31 * (y + 1) = 31 * y + 31 from by omega]; exact HC, by omega, HBL, hB⟩
        case measure => simp [intOf]; omega
      have hx30 : (x : Int) ≤ 30 := by omega
      have HP := hide (gpt_at (y := y) hltx)
      have hpt : pt ((x : Int), (y : Int)) = true := pt_iff.2 (by omega)
      have HSM := hide (fun i (h : i < l.length) => arr_small HOK.out hpt h)
      have hal := arrL_len l ((x : Int), (y : Int)) 0
      have hnl := nrm_len l ((x : Int), (y : Int))
      have HNA := hide (fun i (h : i < l.length) => nrm_arr (p := ((x : Int), (y : Int))) h)
      obtain ⟨a, ha⟩ : ∃ a, arrL l ((x : Int), (y : Int)) 0 = a := ⟨_, rfl⟩
      obtain ⟨nr, hnr⟩ : ∃ a, nrm l ((x : Int), (y : Int)) = a := ⟨_, rfl⟩
      rw [ha] at HSM hal HNA
      rw [hnr] at hnl HNA
      have HA := hide ha
      have hlen9 : ∀ b, b ∈ K → b.length ≤ 4000000 := fun b hb9 => by have h := (cl_lens l (31 * y + x)); rw [HC.out] at h; rw [h b hb9]; omega
      have HAL := hide hal
      have HNL := hide hnl
      have HST := hide (show clN (blF l) (31 * y + (x + 1)) = clS (K, T) nr from by rw [show 31 * y + (x + 1) = 31 * y + x + 1 from by omega]; simp only [clN]; rw [HC.out]; unfold blF; rw [HP.out, hnr])
      clear ha hal hnr hnl hpt
      go_wp2_with (first | (go_at_call 71; refine (l10Arrivals_c _ A c l x y 0 (hide (reads_below h1.out (by go_grown))) (by omega) hsm (by omega) (by omega) (by omega) (by omega) (by omega) (by omega)).mono ?_; rw [HA.out]; rintro e9 w1 ⟨D, f, rfl, ho, hb⟩))
      obtain ⟨ga, rfl, hga0, hga1⟩ := own_at ho (by omega)
      have hB1 := hB.trans (hb.mono hB.size)
      have HO := hide ho
      clear ho
      obtain ⟨W0, hW0⟩ : ∃ W0 : World, W0 = wr := ⟨_, rfl⟩
      rw [← hW0] at HBL hB hzw HO hb hga0
      go_loopw [9] (fun iv wq => ∃ (i : Int) (m : Nat), m ≤ l.length ∧ iv = .int .i64 i ∧ i = (m : Int) - 1 ∧ Hid (wq.ownsRow W0.heap.size 3 1 (.slice (some ⟨ga, 0, none⟩) l.length f) l.length (ints (mixL a nr m))) ∧ Below W0.heap.size W0 wq) (fun iv _ => (intOf iv + 1).toNat)
      case atStart => exact ⟨_, l.length, Nat.le_refl _, rfl, rfl, hide (by rw [← HAL.out, mix_all a nr (by rw [HAL.out, HNL.out]), HAL.out]; exact HO.out), by go_grown⟩
      case round =>
        obtain ⟨i, m, hm, rfl, hi, HO, hb⟩ := hrel
        by_cases hm0 : m = 0
        rotate_left
        · obtain ⟨j, rfl⟩ : ∃ j, m = j + 1 := ⟨m - 1, by omega⟩
          obtain rfl : i = (j : Int) := by omega
          clear hi hm0
          have hja : j < a.length := by have := HAL.out; omega
          have cj : wr.cell? ⟨ga, j, none⟩ = some (.int .i64 (nth a j)) := by rw [World.ownsRow.cellAt HO.out j (by omega)]; exact mix_low (by omega) (by have := HAL.out; omega)
          have c0 : wr.cell? ⟨ga, 0, none⟩ = some (.int .i64 (nth a 0)) := by rw [World.ownsRow.cellAt HO.out 0 (by omega)]; exact mix_low (by omega) (by have := HAL.out; omega)
          have hs0 := HSM.out j (by omega)
          have hs1 := HSM.out 0 (by omega)
          have hst := HO.out.stored j (.int .i64 (nth nr j))
          rw [mix_set (by rw [HAL.out, HNL.out]) hja] at hst
          have hnj := HNA.out j (by omega)
          have hfz := HO.out.frozenAt j
          obtain ⟨P, hP⟩ : ∃ q, nth a j = q := ⟨_, rfl⟩
          obtain ⟨Q, hQ⟩ : ∃ q, nth a 0 = q := ⟨_, rfl⟩
          rw [hP] at cj hs0 hnj
          rw [hQ] at c0 hs1 hnj
          rw [hnj] at hst
          clear hP hQ hnj
          have ew : IntKind.i64.wrap (P - Q) = P - Q := IntWalk.i64_in _ (by omega)
          have hgz : ga < wr.heap.size := World.block_lt_of_cell? wr _ c0
          have hjl : j < l.length := by omega
          have h0l : 0 < l.length := by omega
          have HST2 := hide hst.1
          have hb2 : Below W0.heap.size W0 (wr.drew.setCell ⟨ga, j, none⟩ (.int .i64 (P - Q))) := (Below.drew hb).setCell (p := ⟨ga, j, none⟩) hga0 _
          go_wp2
          obtain ⟨X0, hX0⟩ : ∃ X, wr.drew = X := ⟨_, rfl⟩
          have dj : X0.cell? ⟨ga, j, none⟩ = some (.int .i64 P) := by rw [← hX0]; simpa [go_sem] using cj
          have d0 : X0.cell? ⟨ga, 0, none⟩ = some (.int .i64 Q) := by rw [← hX0]; simpa [go_sem] using c0
          have dz : ∀ i, X0.frozen? ⟨ga, i, none⟩ = false := fun i => by rw [← hX0]; simpa [go_sem] using HO.out.frozenAt i
          obtain ⟨X1, hX1⟩ : ∃ X, X0.setCell ⟨ga, j, none⟩ (.int .i64 (P - Q)) = X := ⟨_, rfl⟩
          refine wp_region_ph [] (fun p W => W = (if p = 0 then X0 else X1)) (by kernel_rfl) (by kernel_rfl) (by kernel_rfl) hX0 ?_
          repeat (first
            | ((refine wpPh_skip (by rfl) (by rfl) ?_); simp only [Act.put, List.setIfInBounds_toArray, List.set_cons_zero, List.set_cons_succ])
            | ((refine wpPh_pure (v := ?_) (by rfl) (by rfl) (by rfl) (fun w => ?_) ?_); rotate_left; (focus (go_simp; (try (with_reducible rfl)); done)); simp only [Act.put, List.setIfInBounds_toArray, List.set_cons_zero, List.set_cons_succ])
            | ((refine wpPh_val (v := ?_) (by rfl) (by rfl) (by rfl) (fun wq hS => ?_) ?_); rotate_left; (focus (obtain rfl : wq = X0 := hS; go_simp; (try (with_reducible rfl)); done)); simp only [Act.put, List.setIfInBounds_toArray, List.set_cons_zero, List.set_cons_succ])
            | ((refine wpPh_store (by rfl) (by rfl) (by rfl) (fun wq hS => ?_) ?_); (focus (obtain rfl : wq = X0 := hS; apply Exists.intro; refine And.intro ?_ ?_; (focus (go_simp; (with_reducible rfl))); (exact (by first | rfl | exact hX1))))))
          refine wpPh_nil ?_
          intro wz hz
          rw [show wz = X1 from hz]
          clear hz
          have hO3 := HST2.out
          have hb3 : Below W0.heap.size W0 X1 := by rw [← hX1, ← hX0]; exact hb2
          go_wp2
          go_roundw
          case rel => exact ⟨(j : Int) - 1, j, by omega, by go_num, rfl, hide (by rw [← hX1, ← hX0]; exact own_drew HST2.out), hb3⟩
          case measure => first | (simp [intOf]; done) | (simp [intOf]; omega)
        subst hm0
        obtain rfl : i = -1 := by omega
        clear hi
        have HO := hide (show wr.ownsRow W0.heap.size 3 1 (.slice (some ⟨ga, 0, none⟩) l.length f) l.length (ints nr) from by have h := HO.out; rw [mix_zero] at h; exact h)
        go_wp2
        obtain ⟨W1, hW1⟩ : ∃ W1 : World, W1 = wr := ⟨_, rfl⟩
        rw [← hW1] at HO hb ⊢
        clear hW1
        go_loopw [10, 11] (fun av kv wq => ∃ (k : Nat) (t : Int), k ≤ K.length ∧ kv = .int .i64 k ∧ av = .int .i64 t ∧ ((t = -1 ∧ Hid (∀ j, j < k → K[j]? ≠ some nr)) ∨ ∃ j : Nat, t = (j : Int) ∧ Hid (K[j]? = some nr ∧ ∀ i, i < j → K[i]? ≠ some nr) ∧ j < K.length) ∧ Hid (wq.ownsRow W0.heap.size 3 1 (.slice (some ⟨ga, 0, none⟩) l.length f) l.length (ints nr)) ∧ Below W0.heap.size W0 wq) (fun _ kv _ => K.length - (intOf kv).toNat)
        case atStart => exact ⟨0, -1, by omega, rfl, rfl, .inl ⟨rfl, hide (fun j h => absurd h (by omega))⟩, HO, hb⟩
        case round =>
          obtain ⟨k, t, hk, rfl, rfl, ht, HO, hb⟩ := hrel
          have hBw : Below w.heap.size w wr := hB.trans (hb.mono hzw)
          have hzr : w.heap.size ≤ wr.heap.size := hBw.size
          rcases ht with ⟨rfl, HNO⟩ | ⟨j, rfl, HYES, hjl⟩
          · by_cases hltk : k < K.length
            · obtain ⟨b, hbk⟩ : ∃ b, K[k]? = some b := ⟨K[k], List.getElem?_eq_getElem hltk⟩
              obtain ⟨gs, ge, ce, rfl, hgs, cs, RE⟩ := (HBL.out.below hb).row rfl hbk
              have HRE := hide RE
              clear RE
              have hbl : b.length ≤ 4000000 := hlen9 b (List.mem_of_getElem? hbk)
              have hsame : ∀ W : World, Hid (Reads W W.heap.size 1 (some ⟨ge, 0, none⟩) b.length (ints b)) → Hid (Reads W W.heap.size 1 (some ⟨ga, 0, none⟩) l.length (ints nr)) → Calls Try.prog 72 #[.slice (some ⟨ge, 0, none⟩) b.length ce, .slice (some ⟨ga, 0, none⟩) l.length f] W (Gives W (.bool (decide (b = nr)))) := fun W g1 g2 => by
                have h := l1Same_c (some ⟨ge, 0, none⟩) (some ⟨ga, 0, none⟩) ce f b nr W g1 (by rw [HNL.out]; exact g2) hbl (by rw [HNL.out]; omega)
                rw [HNL.out] at h
                exact h
              by_cases hbn : b = nr
              · have HD := hide (decide_eq_true hbn)
                subst hbn
                have HY := hide (show K[k]? = some b ∧ ∀ i, i < k → K[i]? ≠ some b from ⟨hbk, HNO.out⟩)
                go_wp2_with (first | (go_at_call 72; refine (hsame _ (hide (reads_below HRE.out (by go_grown))) (hide (own_reads (own_below HO.out (by go_grown))))).mono ?_; rw [HD.out]; rintro e9 w3 ⟨rfl, hb9⟩; have hb4 : Below W0.heap.size W0 w3 := below_via hb hb9; have HO4 := hide (own_below HO.out hb9); clear hb9))
                go_roundw
                case rel => exact ⟨k + 1, k, by omega, by go_num, rfl, .inr ⟨k, rfl, HY, hltk⟩, HO4, hb4⟩
                case measure => simp [intOf]; omega
              have HD := hide (decide_eq_false hbn)
              have HN2 := hide (show ∀ j, j < k + 1 → K[j]? ≠ some nr from fun j hj => by
                by_cases e : j = k
                · subst e; rw [hbk]; intro e2; injection e2 with e2; exact hbn e2
                · exact HNO.out j (by omega))
              clear hbn
              go_wp2_with (first | (go_at_call 72; refine (hsame _ (hide (reads_below HRE.out (by go_grown))) (hide (own_reads (own_below HO.out (by go_grown))))).mono ?_; rw [HD.out]; rintro e9 w3 ⟨rfl, hb9⟩; have hb4 : Below W0.heap.size W0 w3 := below_via hb hb9; have HO4 := hide (own_below HO.out hb9); clear hb9))
              go_roundw
              case rel => exact ⟨k + 1, -1, by omega, by go_num, rfl, .inl ⟨rfl, HN2⟩, HO4, hb4⟩
              case measure => simp [intOf]; omega
            obtain rfl : k = K.length := by omega
            have HS2 := hide (show clN (blF l) (31 * y + (x + 1)) = (K ++ [nr], T ++ [1]) from by rw [HST.out]; exact clS_no (fun j hj => HNO.out j hj))
            have HBW := hide (HBL.out.below hb)
            have hTl : T.length ≤ 31 * y + x := by have h := (cl_ok (blF l) (31 * y + x)).len; rw [HC.out] at h; show T.length ≤ _; rw [show T.length = K.length from h]; exact hKl
            have hgt : some ga ≠ (Value.slice C T.length e).ownBlock := fun e9 => by have := (HBL.out.times.lt ga e9.symm).2; omega
            go_wp2_with (first | (at_builtin; refine wpList_append_lies _ rfl _ _ 77 rfl (w.heap.size) 30 i0 (.slice none 0 0) 1 24 Try.underlying77 hi0 iz0 iy0 ix0 rfl (by decide) _ K.length _ rfl (World.ownsRow.alloc HBW.out.seen _) ⟨wr.heap.size, 0, none⟩ 1 1 [.slice (some ⟨ga, 0, none⟩) l.length f] rfl rfl (news_one (by simp [go_sem])) (by intro u hu; simp at hu; subst hu; rfl) (by decide) (by unfold maxLen; omega) (by omega) (by first | (simp [go_sem]; done) | (simp [go_sem]; omega)) _ rfl ?_; intro g cap w4 hown4 hgrow hold _; have HB4 := hide (BlI.push (HBW.out.below (by go_grown)) hE (by rw [HNL.out]; exact World.ownsRow.alloc (own_mono HO.out (by omega)) _) hgt hgrow (by rw [HNL.out]; exact hown4)); have hT : Below w.heap.size w w4 := own_grown (a := w) (B := w.heap.size) ((World.ownsRow.alloc HBW.out.seen _)) hgrow (by go_grown) (by first | (simp [go_sem]; done) | (simp [go_sem]; omega)) (by omega); (try clear hS hB hzw hgrow); have hS := hT; clear hT; have hB := hS; have hzw : w.heap.size ≤ w4.heap.size := hB.size) | (at_builtin; refine wpList_append_lies _ rfl _ _ 30 rfl (w.heap.size) 3 i1 (.int .i64 0) 1 8 Try.underlying30 hi1 iz1 iy1 ix1 rfl (by decide) _ T.length _ rfl (World.ownsRow.alloc HB4.out.times _) ⟨w4.heap.size, 0, none⟩ 1 1 [.int .i64 1] rfl rfl (news_one (by simp [go_sem])) (by intro u hu; simp at hu; subst hu; rfl) (by decide) (by unfold maxLen; omega) (by omega) (by first | (simp [go_sem]; done) | (simp [go_sem]; omega)) _ rfl ?_; intro g2 cap2 w5 hown5 hgrow hold _; have HB5 := hide (BlI.more (HB4.out.below (by go_grown)) hE hgrow hown5 hold (Nat.le_refl _)); have hT : Below w.heap.size w w5 := own_grown (a := w) (B := w.heap.size) ((World.ownsRow.alloc HB4.out.times _)) hgrow (by go_grown) (by first | (simp [go_sem]; done) | (simp [go_sem]; omega)) (by omega); (try clear hS hB hzw hgrow); have hS := hT; clear hT; have hB := hS; have hzw : w.heap.size ≤ w5.heap.size := hB.size))
            go_roundw
            case rel => exact ⟨x + 1, K ++ [nr], T ++ [1], _, some ⟨g, 0, none⟩, some ⟨g2, 0, none⟩, cap, cap2, by omega, by go_num, by simp, by simp, HS2, by simp; omega, hide (by simpa using HB5.out), hS⟩
            case measure => simp [intOf]; omega
          have hjT : j < T.length := by have h := (cl_ok (blF l) (31 * y + x)).len; rw [HC.out] at h; have h2 : T.length = K.length := h; omega
          have hcb := cl_bd (blF l) (by have h := cl_ok (blF l) (31 * y + x); rw [HC.out] at h; exact h) hjT
          have HS2 := hide (show clN (blF l) (31 * y + (x + 1)) = (K, T.set j (nth T j + 1)) from by rw [HST.out]; exact clS_yes HYES.out.1 HYES.out.2)
          have HBW := hide (HBL.out.below hb)
          obtain ⟨gt, hC9, hgt0, hgt1⟩ := own_at HBW.out.times (by omega)
          subst hC9
          have hcell : wr.cell? ⟨gt, j, none⟩ = some (.int .i64 (nth T j)) := by rw [World.ownsRow.cellAt HBW.out.times j (by omega), ints_at T j hjT]
          have hfz := HBW.out.times.frozenAt j
          have HB6 := hide (HBW.out.set hE j (nth T j + 1))
          obtain ⟨N, hN⟩ : ∃ q, nth T j = q := ⟨_, rfl⟩
          rw [hN] at hcell hcb HB6 HS2
          clear hN
          have ew : IntKind.i64.wrap (N + 1) = N + 1 := IntWalk.i64_in _ (by omega)
          have hb6 : Below w.heap.size w (wr.setCell ⟨gt, j, none⟩ (.int .i64 (N + 1))) := hBw.setCell (p := ⟨gt, j, none⟩) hgt0 _
          by_cases hltk : k < K.length
          · go_wp2
            go_roundw
            case rel => exact ⟨x + 1, K, T.set j (N + 1), vals, B, some ⟨gt, 0, none⟩, d, e, by omega, by go_num, rfl, by simp, HS2, by omega, HB6, hb6⟩
            case measure => simp [intOf]; omega
          go_wp2
          go_roundw
          case rel => exact ⟨x + 1, K, T.set j (N + 1), vals, B, some ⟨gt, 0, none⟩, d, e, by omega, by go_num, rfl, by simp, HS2, by omega, HB6, hb6⟩
          case measure => simp [intOf]; omega
end Go.Proofs.Ytnocgcfepkdjeaa
