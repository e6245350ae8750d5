/- Contracts: the helpful site. -/
import Derived.Test.YtnocgcfepkdjeaaSbB
import Derived.Test.YtnocgcfepkdjeaaApp
namespace Go.Proofs.Ytnocgcfepkdjeaa
open Go.RowKit

theorem copyInts_c (A : Option Addr) (n c : Nat) (xs : List Value) (w : World) (h1 : Hid (Reads w w.heap.size 1 A n xs)) (hm0 : A = none → n = 0) (h2 : Hid (∀ u ∈ xs, u.oneCell' = true)) (hn : n ≤ 4000000)  : Calls Try.prog 84 #[.slice A n c] w (GivesS w 3 1 n xs id) := by
  obtain ⟨i0, hi0, iz0, iy0, ix0⟩ := info_parts infoInt
  go_enter Try.func84, Try.ntmps84
  have hre : Reads (w.alloc (.cells #[] 3)) w.heap.size 1 A n xs := h1.out.alloc (Nat.le_refl _) _
  have hoe := own_empty w (e := 3) (size := 1) (H := w.heap.size) (base := w.heap.size) rfl (Nat.le_refl _)
  go_wp2_with (first | (at_builtin; refine wpList_append_any rfl _ _ 30 rfl w.heap.size 3 i0 (.int .i64 0) 1 8 Try.underlying30 hi0 iz0 iy0 ix0 rfl (by decide) _ 0 [] rfl hoe w.heap.size A n _ xs rfl hre hm0 h2.out (by unfold maxLen; omega) (by omega) (by simp) ?_; intro A2 c2 w2 hown2 hgrow; have hB2 : Below w.heap.size w w2 := own_grown hoe hgrow (by go_grown) (by simp) (Nat.le_refl _)))
  go_returns
  exact ⟨A2, c2, ret_eq (by simp), by simpa using hown2, hB2⟩

set_option maxRecDepth 100000 in
set_option maxHeartbeats 4000000 in
theorem sHelpful_c (A : Option Addr) (c : Nat) (l : List Pt) (A2 : Option Addr) (c2 : Nat) (a : List Int) (tol : Int) (w : World) (h1 : Hid (Reads w w.heap.size 2 A l.length (flat l))) (h2 : Hid (Reads w w.heap.size 1 A2 a.length (ints a))) (b1 : l.length ≤ 4000000) (b2 : a.length ≤ 4000000) (hc : l.length ≤ c) (hc2 : a.length ≤ c2)  : Calls Try.prog 25 #[.slice A l.length c, .slice A2 a.length c2, .int .i64 tol] w (Gives w (.tuple #[.int .i64 (hlpV l a tol), .bool (hlpK l a tol)])) := by
  rcases k0 : askB l a with _ | _
  · have HK0 := hide (show hlpK l a tol = false from by simp [hlpK, fitK, k0])
    have HK := hide (show fitK l a tol = false from by simp [fitK, k0])
    have HV := hide (show hlpV l a tol = 0 from by unfold hlpV; rw [HK0.out]; rfl)
    go_enter Try.func25, Try.ntmps25
    go_wp2_with (first | (go_at_call 81; refine (l11Asked_c A c l A2 c2 a tol _ (hide (reads_below h1.out (by go_grown))) (hide (reads_below h2.out (by go_grown))) b1 b2).mono ?_; rw [HK.out]; rintro e w1 ⟨rfl, hb⟩; have hT : Below w.heap.size w w1 := (fun W h hb => below_via h (hb) : ∀ W : World, (Below w.heap.size w W) → Below W.heap.size W w1 → (Below w.heap.size w w1)) _ (by first | (with_reducible assumption) | go_grown) hb; (try clear hS); have hS := hT; clear hT; have hB := hS; have hzw : w.heap.size ≤ w1.heap.size := hB.size; clear hb))
    go_returns
    exact ⟨ret_eq (by first | (rw [HV.out, HK0.out]; simp; done) | (rw [HV.out]; simp; done) | (simp; done)), by go_grown⟩
  rcases k3 : wi tol 0 5 with _ | _
  · have HK0 := hide (show hlpK l a tol = false from by simp [hlpK, fitK, k3])
    have HK := hide (show fitK l a tol = false from by simp [fitK, k3])
    have HV := hide (show hlpV l a tol = 0 from by unfold hlpV; rw [HK0.out]; rfl)
    go_enter Try.func25, Try.ntmps25
    go_wp2_with (first | (go_at_call 81; refine (l11Asked_c A c l A2 c2 a tol _ (hide (reads_below h1.out (by go_grown))) (hide (reads_below h2.out (by go_grown))) b1 b2).mono ?_; rw [HK.out]; rintro e w1 ⟨rfl, hb⟩; have hT : Below w.heap.size w w1 := (fun W h hb => below_via h (hb) : ∀ W : World, (Below w.heap.size w W) → Below W.heap.size W w1 → (Below w.heap.size w w1)) _ (by first | (with_reducible assumption) | go_grown) hb; (try clear hS); have hS := hT; clear hT; have hB := hS; have hzw : w.heap.size ≤ w1.heap.size := hB.size; clear hb))
    go_returns
    exact ⟨ret_eq (by first | (rw [HV.out, HK0.out]; simp; done) | (rw [HV.out]; simp; done) | (simp; done)), by go_grown⟩
  have HK := hide (show fitK l a tol = true from by simp [fitK, k0, k3])
  by_cases k4 : l.length = 1
  · have HK0 := hide (show hlpK l a tol = false from by simp [hlpK, k4])
    have HV := hide (show hlpV l a tol = 0 from by unfold hlpV; rw [HK0.out]; rfl)
    have k4b : ((l.length : Int) == 1) = true := by simp; omega
    clear k4
    go_enter Try.func25, Try.ntmps25
    go_wp2_with (first | (go_at_call 81; refine (l11Asked_c A c l A2 c2 a tol _ (hide (reads_below h1.out (by go_grown))) (hide (reads_below h2.out (by go_grown))) b1 b2).mono ?_; rw [HK.out]; rintro e w1 ⟨rfl, hb⟩; have hT : Below w.heap.size w w1 := (fun W h hb => below_via h (hb) : ∀ W : World, (Below w.heap.size w W) → Below W.heap.size W w1 → (Below w.heap.size w w1)) _ (by first | (with_reducible assumption) | go_grown) hb; (try clear hS); have hS := hT; clear hT; have hB := hS; have hzw : w.heap.size ≤ w1.heap.size := hB.size; clear hb))
    go_returns
    exact ⟨ret_eq (by first | (rw [HV.out, HK0.out]; simp; done) | (rw [HV.out]; simp; done) | (simp; done)), by go_grown⟩
  have HK0 := hide (show hlpK l a tol = true from by simp [hlpK, HK.out, k4])
  have HV := hide (show hlpV l a tol = (hlpN l a tol l.length).1 from by unfold hlpV; rw [if_pos HK0.out])
  have k4b : ((l.length : Int) == 1) = false := by simp; omega
  have kk := HK.out
  clear kk
  have hab := hide (askB_small k0)
  obtain ⟨k1, hal, _⟩ := askB_iff.1 k0
  have HAL := hide hal
  clear hal
  have hsm := hide (okS_small k1)
  obtain ⟨n1, n5⟩ := (okS_iff.1 k1).1
  have hlen2 : a.length ≤ 5 := by have := HAL.out; omega
  have n2 : 2 ≤ l.length := by omega
  clear k4
  obtain ⟨q0, hi0, iz0, iy0, ix0⟩ := info_parts infoSite
  obtain ⟨q1, hi1, iz1, iy1, ix1⟩ := info_parts infoInt
  go_enter Try.func25, Try.ntmps25
  go_wp2_with (first | (go_at_call 81; refine (l11Asked_c A c l A2 c2 a tol _ (hide (reads_below h1.out (by go_grown))) (hide (reads_below h2.out (by go_grown))) b1 b2).mono ?_; rw [HK.out]; rintro e w1 ⟨rfl, hb⟩; have hT : Below w.heap.size w w1 := (fun W h hb => below_via h (hb) : ∀ W : World, (Below w.heap.size w W) → Below W.heap.size W w1 → (Below w.heap.size w w1)) _ (by first | (with_reducible assumption) | go_grown) hb; (try clear hS); have hS := hT; clear hT; have hB := hS; have hzw : w.heap.size ≤ w1.heap.size := hB.size; clear hb))
  go_loopw [8, 9, 10] (fun bv mv iv wr => ∃ (j : Nat) (bs ms : Int), j ≤ l.length ∧ iv = .int .i64 j ∧ bv = .int .i64 bs ∧ mv = .int .i64 ms ∧ -1 ≤ ms ∧ ms ≤ 961 ∧ Hid (hlpN l a tol j = (bs, ms)) ∧ Below w.heap.size w wr) (fun _ _ iv _ => l.length - (intOf iv).toNat)
  case atStart => exact ⟨0, 0, -1, by omega, rfl, rfl, rfl, by omega, by omega, hide rfl, by go_grown⟩
  case round =>
    obtain ⟨j, bs, ms, hj0, rfl, rfl, rfl, hm0, hm1, HN, hB⟩ := hrel
    have hzw : w.heap.size ≤ wr.heap.size := hB.size
    by_cases hj : j < l.length
    rotate_left
    · obtain rfl : j = l.length := by omega
      have HE := hide (show hlpV l a tol = bs from by rw [HV.out, HN.out])
      go_wp2
      go_returns
      exact ⟨ret_eq (by rw [HE.out, HK0.out]; simp), hB⟩
    have hal2 : j < a.length := by have := HAL.out; omega
    obtain ⟨ad, rfl, _, _, _⟩ := h1.out.pt (k := 0) (by omega)
    obtain ⟨ad2, rfl, _, _⟩ := h2.out.num (k := 0) (by omega)
    have h1r : Hid (Reads wr wr.heap.size 2 (some ad) l.length (flat l)) := hide ((h1.out.below hB).more hzw)
    have h2r : Hid (Reads wr wr.heap.size 1 (some ad2) a.length (ints a)) := hide ((h2.out.below hB).more hzw)
    have hjl : (j : Int) ≤ (l.length : Int) := by omega
    have hjl2 : (j : Int) ≤ (a.length : Int) := by omega
    have hjj : (j : Int) ≤ (j : Int) + 1 := by omega
    have hj00 : 0 ≤ (j : Int) + 1 := by omega
    have ew : IntKind.i64.wrap ((j : Int) + 1) = (j : Int) + 1 := IntWalk.i64_in _ (by omega)
    have etn : ((j : Int) + 1).toNat = j + 1 := by omega
    have hjc : (j : Int) ≤ (c : Int) := by omega
    have hjc1 : (j : Int) + 1 ≤ (c : Int) := by omega
    have hj1 : (j : Int) + 1 ≤ (l.length : Int) := by omega
    have hjc2 : (j : Int) ≤ (c2 : Int) := by omega
    have hjc12 : (j : Int) + 1 ≤ (c2 : Int) := by omega
    have hj12 : (j : Int) + 1 ≤ (a.length : Int) := by omega
    have HDL := hide (dropL_len hj)
    have HDI := hide (dropI_len hal2)
    have hsd := hide (small_drop hsm.out j)
    have had0 := smallN_drop hab.out HAL.out j
    have HALd : Hid ((dropI a j).length = (dropL l j).length) := hide (by have := HAL.out; rw [HDL.out, HDI.out]; omega)
    rw [HALd.out] at had0
    have hsnd := hide had0
    clear had0
    have hdl1 : 1 ≤ (dropL l j).length := by rw [HDL.out]; omega
    have hdl5 : (dropL l j).length ≤ 5 := by rw [HDL.out]; omega
    obtain ⟨m, hm⟩ : ∃ m, (fitN (dropL l j) (dropI a j) tol 961).length = m := ⟨_, rfl⟩
    have hm9 : m ≤ 961 := by rw [← hm]; exact fitN_len _ _ _ _
    have Hm := hide hm
    clear hm
    by_cases hcap : c = j + 1
    any_goals (first | subst hcap | skip)
    all_goals
      by_cases hcap2 : c2 = j + 1
      any_goals (first | subst hcap2 | skip)
    all_goals
      go_wp2
      refine wp_region_seq deed [1, 2, 3, 5, 6, 7, 8, 0, 4, 9, 10] (fun W => Below wr.heap.size wr W) (by kernel_rfl) (by kernel_rfl) (by go_grown) ?_
      simp only [byNum, List.getElem?_cons_zero, List.getElem?_cons_succ]
      have hS : Below wr.heap.size wr wr.drew := by go_grown
      repeat (first
        | ((refine seq_skip (by rfl) (by rfl) ?_); simp only [Act.put, List.setIfInBounds_toArray, List.set_cons_zero, List.set_cons_succ])
        | ((refine seq_val (v := ?_) (by rfl) (by rfl) (fun w hS => ?_) ?_); rotate_left; (focus ((try dsimp only at hS); go_simp; (try (with_reducible rfl)); done)); simp only [Act.put, List.setIfInBounds_toArray, List.set_cons_zero, List.set_cons_succ]))
      refine seq_deed (v := ?_) (w' := ?_) (by rfl) (by rfl) ?_ ?_
      rotate_left
      rotate_left
      focus (go_simp; (constructor <;> (with_reducible rfl)); done)
      have hT : (World.drew (World.alloc wr (Obj.cells #[] 32))).ownsRow wr.heap.size 32 2 (.slice (some ⟨wr.heap.size, 0, none⟩) 0 0) 0 [] ∧ Below wr.heap.size wr (World.drew (World.alloc wr (Obj.cells #[] 32))) := ⟨own_empty _ rfl (by omega), by go_grown⟩
      generalize World.drew (World.alloc wr (Obj.cells #[] 32)) = Wxp at hT ⊢
      obtain ⟨hown1p, hB2p⟩ := hT
      refine ⟨(fun W => Below wr.heap.size wr W), hB2p, fun W h => h, ?_⟩
      simp only [Act.put, List.setIfInBounds_toArray, List.set_cons_zero, List.set_cons_succ]
      repeat (first
        | ((refine seq_skip (by rfl) (by rfl) ?_); simp only [Act.put, List.setIfInBounds_toArray, List.set_cons_zero, List.set_cons_succ])
        | ((refine seq_val (v := ?_) (by rfl) (by rfl) (fun w hS => ?_) ?_); rotate_left; (focus ((try dsimp only at hS); go_simp; (try (with_reducible rfl)); done)); simp only [Act.put, List.setIfInBounds_toArray, List.set_cons_zero, List.set_cons_succ]))
      refine seq_append _ (by rfl) (by rfl) _ _ 26 (by rfl) wr.heap.size 32 q0 (.agg #[.int .i64 0, .int .i64 0]) 2 16 Try.underlying26 hi0 iz0 iy0 ix0 rfl (by decide) _ 0 [] (by rfl) hown1p wr.heap.size (some ad) j _ ((flat l).take (j * 2)) (by rfl) ((h1r.out.below hB2p).front (by omega)) (by simp) (fun u hu => (flat_one l) u (List.mem_of_mem_take hu)) (by unfold maxLen; omega) (by omega) hB2p.size ?_
      intro A1p c1p w3p hown2p hgrowp
      have hB3p : Below wr.heap.size wr w3p := own_grown hown1p hgrowp hB2p hB2p.size (Nat.le_refl _)
      refine ⟨(fun W => Below wr.heap.size wr W), hB3p, fun W h => h, ?_⟩
      simp only [Act.put, List.setIfInBounds_toArray, List.set_cons_zero, List.set_cons_succ]
      repeat (first
        | ((refine seq_skip (by rfl) (by rfl) ?_); simp only [Act.put, List.setIfInBounds_toArray, List.set_cons_zero, List.set_cons_succ])
        | ((refine seq_val (v := ?_) (by rfl) (by rfl) (fun w hS => ?_) ?_); rotate_left; (focus ((try dsimp only at hS); go_simp; (try (with_reducible rfl)); done)); simp only [Act.put, List.setIfInBounds_toArray, List.set_cons_zero, List.set_cons_succ]))
      refine seq_append _ (by rfl) (by rfl) _ _ 26 (by rfl) wr.heap.size 32 q0 (.agg #[.int .i64 0, .int .i64 0]) 2 16 Try.underlying26 hi0 iz0 iy0 ix0 rfl (by decide) _ (0 + j) ([] ++ (flat l).take (j * 2)) (by rfl) hown2p wr.heap.size _ _ _ ((flat l).drop ((j + 1) * 2)) (by rfl) (by first | exact (h1r.out.below hB3p).back (by omega) | (rw [List.drop_eq_nil_of_le (by rw [flat_len]; omega)]; exact Reads.none_back _)) (by simp) (fun u hu => (flat_one l) u (List.mem_of_mem_drop hu)) (by unfold maxLen; omega) (by omega) hB3p.size ?_
      intro A2p c2p w4p hown3p hgrow2p
      first
        | rw [show 0 + j + (l.length - (j + 1)) = j + (l.length - (j + 1)) from by omega] at hown3p ⊢
        | rw [show 0 + j + 0 = j + (l.length - (j + 1)) from by omega] at hown3p ⊢
      have hB4p : Below wr.heap.size wr w4p := own_grown hown2p hgrow2p hB3p hB3p.size (Nat.le_refl _)
      refine ⟨(fun W => Below wr.heap.size wr W), hB4p, fun W h => h, ?_⟩
      simp only [Act.put, List.setIfInBounds_toArray, List.set_cons_zero, List.set_cons_succ]
      repeat (first
        | ((refine seq_skip (by rfl) (by rfl) ?_); simp only [Act.put, List.setIfInBounds_toArray, List.set_cons_zero, List.set_cons_succ])
        | ((refine seq_val (v := ?_) (by rfl) (by rfl) (fun w hS => ?_) ?_); rotate_left; (focus ((try dsimp only at hS); go_simp; (try (with_reducible rfl)); done)); simp only [Act.put, List.setIfInBounds_toArray, List.set_cons_zero, List.set_cons_succ]))
      refine seq_nil ?_
      have h2s := hide (reads_below h2r.out hB4p)
      have hBp := hB4p
      rw [← HDL.out] at hown3p ⊢
      clear hB2p hB3p hown1p hown2p hgrowp hgrow2p
      obtain ⟨wo, hwo⟩ : ∃ wo : World, wo = w4p := ⟨_, rfl⟩
      rw [← hwo] at hown3p h2s hBp ⊢
      clear hwo hS
      go_wp2
      refine wp_region_seq deed [1, 2, 3, 5, 6, 7, 8, 0, 4, 9, 10] (fun W => Below wo.heap.size wo W) (by kernel_rfl) (by kernel_rfl) (by go_grown) ?_
      simp only [byNum, List.getElem?_cons_zero, List.getElem?_cons_succ]
      have hS : Below wo.heap.size wo wo.drew := by go_grown
      repeat (first
        | ((refine seq_skip (by rfl) (by rfl) ?_); simp only [Act.put, List.setIfInBounds_toArray, List.set_cons_zero, List.set_cons_succ])
        | ((refine seq_val (v := ?_) (by rfl) (by rfl) (fun w hS => ?_) ?_); rotate_left; (focus ((try dsimp only at hS); go_simp; (try (with_reducible rfl)); done)); simp only [Act.put, List.setIfInBounds_toArray, List.set_cons_zero, List.set_cons_succ]))
      refine seq_deed (v := ?_) (w' := ?_) (by rfl) (by rfl) ?_ ?_
      rotate_left
      rotate_left
      focus (go_simp; (constructor <;> (with_reducible rfl)); done)
      have hT : (World.drew (World.alloc wo (Obj.cells #[] 3))).ownsRow wo.heap.size 3 1 (.slice (some ⟨wo.heap.size, 0, none⟩) 0 0) 0 [] ∧ Below wo.heap.size wo (World.drew (World.alloc wo (Obj.cells #[] 3))) := ⟨own_empty _ rfl (by omega), by go_grown⟩
      generalize World.drew (World.alloc wo (Obj.cells #[] 3)) = Wxq at hT ⊢
      obtain ⟨hown1q, hB2q⟩ := hT
      refine ⟨(fun W => Below wo.heap.size wo W), hB2q, fun W h => h, ?_⟩
      simp only [Act.put, List.setIfInBounds_toArray, List.set_cons_zero, List.set_cons_succ]
      repeat (first
        | ((refine seq_skip (by rfl) (by rfl) ?_); simp only [Act.put, List.setIfInBounds_toArray, List.set_cons_zero, List.set_cons_succ])
        | ((refine seq_val (v := ?_) (by rfl) (by rfl) (fun w hS => ?_) ?_); rotate_left; (focus ((try dsimp only at hS); go_simp; (try (with_reducible rfl)); done)); simp only [Act.put, List.setIfInBounds_toArray, List.set_cons_zero, List.set_cons_succ]))
      refine seq_append _ (by rfl) (by rfl) _ _ 30 (by rfl) wo.heap.size 3 q1 (.int .i64 0) 1 8 Try.underlying30 hi1 iz1 iy1 ix1 rfl (by decide) _ 0 [] (by rfl) hown1q wo.heap.size (some ad2) j _ ((ints a).take (j * 1)) (by rfl) ((h2s.out.below hB2q).front (by omega)) (by simp) (fun u hu => (ints_one a) u (List.mem_of_mem_take hu)) (by unfold maxLen; omega) (by omega) hB2q.size ?_
      intro A1q c1q w3q hown2q hgrowq
      have hB3q : Below wo.heap.size wo w3q := own_grown hown1q hgrowq hB2q hB2q.size (Nat.le_refl _)
      refine ⟨(fun W => Below wo.heap.size wo W), hB3q, fun W h => h, ?_⟩
      simp only [Act.put, List.setIfInBounds_toArray, List.set_cons_zero, List.set_cons_succ]
      repeat (first
        | ((refine seq_skip (by rfl) (by rfl) ?_); simp only [Act.put, List.setIfInBounds_toArray, List.set_cons_zero, List.set_cons_succ])
        | ((refine seq_val (v := ?_) (by rfl) (by rfl) (fun w hS => ?_) ?_); rotate_left; (focus ((try dsimp only at hS); go_simp; (try (with_reducible rfl)); done)); simp only [Act.put, List.setIfInBounds_toArray, List.set_cons_zero, List.set_cons_succ]))
      refine seq_append _ (by rfl) (by rfl) _ _ 30 (by rfl) wo.heap.size 3 q1 (.int .i64 0) 1 8 Try.underlying30 hi1 iz1 iy1 ix1 rfl (by decide) _ (0 + j) ([] ++ (ints a).take (j * 1)) (by rfl) hown2q wo.heap.size _ _ _ ((ints a).drop ((j + 1) * 1)) (by rfl) (by first | exact (h2s.out.below hB3q).back (by omega) | (have h9 := (h2s.out.below hB3q).back (k := j + 1) (by omega); simpa [Addr.add] using h9) | (rw [List.drop_eq_nil_of_le (by rw [ints_len]; omega)]; exact Reads.none_back _)) (by simp) (fun u hu => (ints_one a) u (List.mem_of_mem_drop hu)) (by unfold maxLen; omega) (by omega) hB3q.size ?_
      intro A2q c2q w4q hown3q hgrow2q
      first
        | rw [show 0 + j + (a.length - (j + 1)) = j + (a.length - (j + 1)) from by omega] at hown3q ⊢
        | rw [show 0 + j + 0 = j + (a.length - (j + 1)) from by omega] at hown3q ⊢
      have hB4q : Below wo.heap.size wo w4q := own_grown hown2q hgrow2q hB3q hB3q.size (Nat.le_refl _)
      refine ⟨(fun W => Below wo.heap.size wo W), hB4q, fun W h => h, ?_⟩
      simp only [Act.put, List.setIfInBounds_toArray, List.set_cons_zero, List.set_cons_succ]
      repeat (first
        | ((refine seq_skip (by rfl) (by rfl) ?_); simp only [Act.put, List.setIfInBounds_toArray, List.set_cons_zero, List.set_cons_succ])
        | ((refine seq_val (v := ?_) (by rfl) (by rfl) (fun w hS => ?_) ?_); rotate_left; (focus ((try dsimp only at hS); go_simp; (try (with_reducible rfl)); done)); simp only [Act.put, List.setIfInBounds_toArray, List.set_cons_zero, List.set_cons_succ]))
      refine seq_nil ?_
      rw [← HDI.out] at hown3q ⊢
      have hp9 := own_below hown3p hB4q
      rw [List.nil_append, ← dropL_flat] at hp9
      have hq9 := hown3q
      (try rw [List.nil_append] at hq9)
      rw [← dropI_ints] at hq9
      clear hown3p hown3q
      have hr1 := hide (own_reads hp9)
      have hr2 := hide (own_reads hq9)
      clear hp9 hq9
      have hB9 : Below w.heap.size w w4q := below_via (below_via hB hBp) hB4q
      have hBq := hB4q
      (try clear hB2q hB3q hown1q hown2q hgrowq hgrow2q hS)
      go_wp2_with fail
      (first | (rw [show (#[Value.slice A2p j c2p, Value.slice A2q j c2q, Value.int .i64 tol] : Array Value) = #[.slice A2p (dropL l j).length c2p, .slice A2q (dropI a j).length c2q, .int .i64 tol] from by rw [show (dropL l j).length = j from by rw [HDL.out]; omega]; rw [show (dropI a j).length = j from by rw [HDI.out]; omega]]) | (rw [show (#[Value.slice A2p j c2p, Value.slice A2q (dropI a j).length c2q, Value.int .i64 tol] : Array Value) = #[.slice A2p (dropL l j).length c2p, .slice A2q (dropI a j).length c2q, .int .i64 tol] from by rw [show (dropL l j).length = j from by rw [HDL.out]; omega]]) | (rw [show (#[Value.slice A2p (dropL l j).length c2p, Value.slice A2q j c2q, Value.int .i64 tol] : Array Value) = #[.slice A2p (dropL l j).length c2p, .slice A2q (dropI a j).length c2q, .int .i64 tol] from by rw [show (dropI a j).length = j from by rw [HDI.out]; omega]]) | skip)
      refine (l11Fitting_c _ _ _ (dropL l j) _ _ (dropI a j) tol (hide (reads_below hr1.out (by go_grown))) (by omega) hsd (hide (reads_below hr2.out (by go_grown))) HALd hsnd hdl1).mono ?_
      rw [Hm.out]
      rintro e w5 ⟨B, d, rfl, hown5, hb5⟩
      clear hown5
      have hB5 : Below w.heap.size w w5 := below_via (by go_grown) hb5
      clear hb5
      by_cases hgt : ms < (m : Int)
      · have HS := hide (show hlpN l a tol (j + 1) = ((j : Int), (m : Int)) from by rw [hlpN, HN.out, Hm.out]; exact if_pos hgt)
        go_wp2
        go_roundw
        case rel => exact ⟨j + 1, (j : Int), (m : Int), by omega, by go_num, rfl, rfl, by omega, by omega, HS, by go_grown⟩
        case measure => simp [intOf]; omega
      · have HS := hide (show hlpN l a tol (j + 1) = (bs, ms) from by rw [hlpN, HN.out, Hm.out]; exact if_neg hgt)
        have hcb : decide (ms < (m : Int)) = false := decide_eq_false hgt
        clear hgt
        go_wp2
        go_roundw
        case rel => exact ⟨j + 1, bs, ms, by omega, by go_num, rfl, rfl, by omega, by omega, HS, by go_grown⟩
        case measure => simp [intOf]; omega

set_option maxRecDepth 100000 in
set_option maxHeartbeats 4000000 in
theorem Helpful_c (A : Option Addr) (c : Nat) (l : List Pt) (A2 : Option Addr) (c2 : Nat) (a : List Int) (tol : Int) (w : World) (h1 : Hid (Reads w w.heap.size 2 A l.length (flat l))) (h2 : Hid (Reads w w.heap.size 1 A2 a.length (ints a))) (b1 : l.length ≤ 4000000) (b2 : a.length ≤ 4000000) (hc : l.length ≤ c) (hc2 : a.length ≤ c2)  : Calls Try.prog 26 #[.slice A l.length c, .slice A2 a.length c2, .int .i64 tol] w (Gives w (.tuple #[.int .i64 (hlpV l a tol), .bool (hlpK l a tol)])) := by
  rcases k0 : askB l a with _ | _
  · have HK0 := hide (show hlpK l a tol = false from by simp [hlpK, fitK, k0])
    have HK := hide (show fitK l a tol = false from by simp [fitK, k0])
    have HV := hide (show hlpV l a tol = 0 from by unfold hlpV; rw [HK0.out]; rfl)
    go_enter Try.func26, Try.ntmps26
    go_wp2_with (first | (go_at_call 79; refine (asked_c A c l A2 c2 a _ (hide (reads_below h1.out (by go_grown))) (hide (reads_below h2.out (by go_grown))) b1 b2 hc).mono ?_; rintro e w1 ⟨rfl, hb⟩; have hT : Below w.heap.size w w1 := (fun W h hb => below_via h (hb) : ∀ W : World, (Below w.heap.size w W) → Below W.heap.size W w1 → (Below w.heap.size w w1)) _ (by first | (with_reducible assumption) | go_grown) hb; (try clear hS); have hS := hT; clear hT; have hB := hS; have hzw : w.heap.size ≤ w1.heap.size := hB.size; clear hb) | (go_at_call 83; refine (isTol_c _ _).mono ?_; rintro e w1 ⟨rfl, rfl⟩))
    go_returns
    exact ⟨ret_eq (by first | (rw [HV.out, HK0.out]; simp; done) | (rw [HV.out]; simp; done) | (simp; done)), by go_grown⟩
  rcases k3 : wi tol 0 5 with _ | _
  · have HK0 := hide (show hlpK l a tol = false from by simp [hlpK, fitK, k3])
    have HK := hide (show fitK l a tol = false from by simp [fitK, k3])
    have HV := hide (show hlpV l a tol = 0 from by unfold hlpV; rw [HK0.out]; rfl)
    go_enter Try.func26, Try.ntmps26
    go_wp2_with (first | (go_at_call 79; refine (asked_c A c l A2 c2 a _ (hide (reads_below h1.out (by go_grown))) (hide (reads_below h2.out (by go_grown))) b1 b2 hc).mono ?_; rintro e w1 ⟨rfl, hb⟩; have hT : Below w.heap.size w w1 := (fun W h hb => below_via h (hb) : ∀ W : World, (Below w.heap.size w W) → Below W.heap.size W w1 → (Below w.heap.size w w1)) _ (by first | (with_reducible assumption) | go_grown) hb; (try clear hS); have hS := hT; clear hT; have hB := hS; have hzw : w.heap.size ≤ w1.heap.size := hB.size; clear hb) | (go_at_call 83; refine (isTol_c _ _).mono ?_; rintro e w1 ⟨rfl, rfl⟩))
    go_returns
    exact ⟨ret_eq (by first | (rw [HV.out, HK0.out]; simp; done) | (rw [HV.out]; simp; done) | (simp; done)), by go_grown⟩
  have HK := hide (show fitK l a tol = true from by simp [fitK, k0, k3])
  by_cases k4 : l.length = 1
  · have HK0 := hide (show hlpK l a tol = false from by simp [hlpK, k4])
    have HV := hide (show hlpV l a tol = 0 from by unfold hlpV; rw [HK0.out]; rfl)
    have k4b : ((l.length : Int) == 1) = true := by simp; omega
    clear k4
    go_enter Try.func26, Try.ntmps26
    go_wp2_with (first | (go_at_call 79; refine (asked_c A c l A2 c2 a _ (hide (reads_below h1.out (by go_grown))) (hide (reads_below h2.out (by go_grown))) b1 b2 hc).mono ?_; rintro e w1 ⟨rfl, hb⟩; have hT : Below w.heap.size w w1 := (fun W h hb => below_via h (hb) : ∀ W : World, (Below w.heap.size w W) → Below W.heap.size W w1 → (Below w.heap.size w w1)) _ (by first | (with_reducible assumption) | go_grown) hb; (try clear hS); have hS := hT; clear hT; have hB := hS; have hzw : w.heap.size ≤ w1.heap.size := hB.size; clear hb) | (go_at_call 83; refine (isTol_c _ _).mono ?_; rintro e w1 ⟨rfl, rfl⟩))
    go_returns
    exact ⟨ret_eq (by first | (rw [HV.out, HK0.out]; simp; done) | (rw [HV.out]; simp; done) | (simp; done)), by go_grown⟩
  have HK0 := hide (show hlpK l a tol = true from by simp [hlpK, HK.out, k4])
  have HV := hide (show hlpV l a tol = (hlpN l a tol l.length).1 from by unfold hlpV; rw [if_pos HK0.out])
  have k4b : ((l.length : Int) == 1) = false := by simp; omega
  have kk := HK.out
  clear kk
  have hab := hide (askB_small k0)
  obtain ⟨k1, hal, _⟩ := askB_iff.1 k0
  have HAL := hide hal
  clear hal
  have hsm := hide (okS_small k1)
  obtain ⟨n1, n5⟩ := (okS_iff.1 k1).1
  have hlen2 : a.length ≤ 5 := by have := HAL.out; omega
  have n2 : 2 ≤ l.length := by omega
  clear k4
  obtain ⟨q0, hi0, iz0, iy0, ix0⟩ := info_parts infoSite
  obtain ⟨q1, hi1, iz1, iy1, ix1⟩ := info_parts infoInt
  go_enter Try.func26, Try.ntmps26
  go_wp2_with (first | (go_at_call 79; refine (asked_c A c l A2 c2 a _ (hide (reads_below h1.out (by go_grown))) (hide (reads_below h2.out (by go_grown))) b1 b2 hc).mono ?_; rintro e w1 ⟨rfl, hb⟩; have hT : Below w.heap.size w w1 := (fun W h hb => below_via h (hb) : ∀ W : World, (Below w.heap.size w W) → Below W.heap.size W w1 → (Below w.heap.size w w1)) _ (by first | (with_reducible assumption) | go_grown) hb; (try clear hS); have hS := hT; clear hT; have hB := hS; have hzw : w.heap.size ≤ w1.heap.size := hB.size; clear hb) | (go_at_call 83; refine (isTol_c _ _).mono ?_; rintro e w1 ⟨rfl, rfl⟩))
  go_loopw [8, 9, 30] (fun bv mv iv wr => ∃ (j : Nat) (bs ms : Int), j ≤ l.length ∧ iv = .int .i64 j ∧ bv = .int .i64 bs ∧ mv = .int .i64 ms ∧ -1 ≤ ms ∧ ms ≤ 961 ∧ Hid (hlpN l a tol j = (bs, ms)) ∧ Below w.heap.size w wr) (fun _ _ iv _ => l.length - (intOf iv).toNat)
  case atStart => exact ⟨0, 0, -1, by omega, rfl, rfl, rfl, by omega, by omega, hide rfl, by go_grown⟩
  case round =>
    obtain ⟨j, bs, ms, hj0, rfl, rfl, rfl, hm0, hm1, HN, hB⟩ := hrel
    have hzw : w.heap.size ≤ wr.heap.size := hB.size
    by_cases hj : j < l.length
    rotate_left
    · obtain rfl : j = l.length := by omega
      have HE := hide (show hlpV l a tol = bs from by rw [HV.out, HN.out])
      go_wp2
      go_returns
      exact ⟨ret_eq (by rw [HE.out, HK0.out]; simp), hB⟩
    have hal2 : j < a.length := by have := HAL.out; omega
    obtain ⟨ad, rfl, _, _, _⟩ := h1.out.pt (k := 0) (by omega)
    obtain ⟨ad2, rfl, _, _⟩ := h2.out.num (k := 0) (by omega)
    have h1r : Hid (Reads wr wr.heap.size 2 (some ad) l.length (flat l)) := hide ((h1.out.below hB).more hzw)
    have h2r : Hid (Reads wr wr.heap.size 1 (some ad2) a.length (ints a)) := hide ((h2.out.below hB).more hzw)
    have hjl : (j : Int) ≤ (l.length : Int) := by omega
    have hjl2 : (j : Int) ≤ (a.length : Int) := by omega
    have hjj : (j : Int) ≤ (j : Int) + 1 := by omega
    have hj00 : 0 ≤ (j : Int) + 1 := by omega
    have ew : IntKind.i64.wrap ((j : Int) + 1) = (j : Int) + 1 := IntWalk.i64_in _ (by omega)
    have etn : ((j : Int) + 1).toNat = j + 1 := by omega
    have hjc : (j : Int) ≤ (c : Int) := by omega
    have hjc1 : (j : Int) + 1 ≤ (c : Int) := by omega
    have hj1 : (j : Int) + 1 ≤ (l.length : Int) := by omega
    have hjc2 : (j : Int) ≤ (c2 : Int) := by omega
    have hjc12 : (j : Int) + 1 ≤ (c2 : Int) := by omega
    have hj12 : (j : Int) + 1 ≤ (a.length : Int) := by omega
    have HDL := hide (dropL_len hj)
    have HDI := hide (dropI_len hal2)
    have hsd := hide (small_drop hsm.out j)
    have had0 := smallN_drop hab.out HAL.out j
    have HALd : Hid ((dropI a j).length = (dropL l j).length) := hide (by have := HAL.out; rw [HDL.out, HDI.out]; omega)
    rw [HALd.out] at had0
    have hsnd := hide had0
    clear had0
    have hdl1 : 1 ≤ (dropL l j).length := by rw [HDL.out]; omega
    have hdl5 : (dropL l j).length ≤ 5 := by rw [HDL.out]; omega
    obtain ⟨m, hm⟩ : ∃ m, (fitN (dropL l j) (dropI a j) tol 961).length = m := ⟨_, rfl⟩
    have hm9 : m ≤ 961 := by rw [← hm]; exact fitN_len _ _ _ _
    have Hm := hide hm
    clear hm
    by_cases hcap : c = j + 1
    any_goals (first | subst hcap | skip)
    all_goals
      by_cases hcap2 : c2 = j + 1
      any_goals (first | subst hcap2 | skip)
    all_goals
      go_wp2
      refine wp_region_seq deed [1, 2, 3, 5, 6, 7, 8, 0, 4, 9, 10] (fun W => Below wr.heap.size wr W) (by kernel_rfl) (by kernel_rfl) (by go_grown) ?_
      simp only [byNum, List.getElem?_cons_zero, List.getElem?_cons_succ]
      have hS : Below wr.heap.size wr wr.drew := by go_grown
      repeat (first
        | ((refine seq_skip (by rfl) (by rfl) ?_); simp only [Act.put, List.setIfInBounds_toArray, List.set_cons_zero, List.set_cons_succ])
        | ((refine seq_val (v := ?_) (by rfl) (by rfl) (fun w hS => ?_) ?_); rotate_left; (focus ((try dsimp only at hS); go_simp; (try (with_reducible rfl)); done)); simp only [Act.put, List.setIfInBounds_toArray, List.set_cons_zero, List.set_cons_succ]))
      refine seq_deed (v := ?_) (w' := ?_) (by rfl) (by rfl) ?_ ?_
      rotate_left
      rotate_left
      focus (go_simp; (constructor <;> (with_reducible rfl)); done)
      have hT : (World.drew (World.alloc wr (Obj.cells #[] 32))).ownsRow wr.heap.size 32 2 (.slice (some ⟨wr.heap.size, 0, none⟩) 0 0) 0 [] ∧ Below wr.heap.size wr (World.drew (World.alloc wr (Obj.cells #[] 32))) := ⟨own_empty _ rfl (by omega), by go_grown⟩
      generalize World.drew (World.alloc wr (Obj.cells #[] 32)) = Wxp at hT ⊢
      obtain ⟨hown1p, hB2p⟩ := hT
      refine ⟨(fun W => Below wr.heap.size wr W), hB2p, fun W h => h, ?_⟩
      simp only [Act.put, List.setIfInBounds_toArray, List.set_cons_zero, List.set_cons_succ]
      repeat (first
        | ((refine seq_skip (by rfl) (by rfl) ?_); simp only [Act.put, List.setIfInBounds_toArray, List.set_cons_zero, List.set_cons_succ])
        | ((refine seq_val (v := ?_) (by rfl) (by rfl) (fun w hS => ?_) ?_); rotate_left; (focus ((try dsimp only at hS); go_simp; (try (with_reducible rfl)); done)); simp only [Act.put, List.setIfInBounds_toArray, List.set_cons_zero, List.set_cons_succ]))
      refine seq_append _ (by rfl) (by rfl) _ _ 26 (by rfl) wr.heap.size 32 q0 (.agg #[.int .i64 0, .int .i64 0]) 2 16 Try.underlying26 hi0 iz0 iy0 ix0 rfl (by decide) _ 0 [] (by rfl) hown1p wr.heap.size (some ad) j _ ((flat l).take (j * 2)) (by rfl) ((h1r.out.below hB2p).front (by omega)) (by simp) (fun u hu => (flat_one l) u (List.mem_of_mem_take hu)) (by unfold maxLen; omega) (by omega) hB2p.size ?_
      intro A1p c1p w3p hown2p hgrowp
      have hB3p : Below wr.heap.size wr w3p := own_grown hown1p hgrowp hB2p hB2p.size (Nat.le_refl _)
      refine ⟨(fun W => Below wr.heap.size wr W), hB3p, fun W h => h, ?_⟩
      simp only [Act.put, List.setIfInBounds_toArray, List.set_cons_zero, List.set_cons_succ]
      repeat (first
        | ((refine seq_skip (by rfl) (by rfl) ?_); simp only [Act.put, List.setIfInBounds_toArray, List.set_cons_zero, List.set_cons_succ])
        | ((refine seq_val (v := ?_) (by rfl) (by rfl) (fun w hS => ?_) ?_); rotate_left; (focus ((try dsimp only at hS); go_simp; (try (with_reducible rfl)); done)); simp only [Act.put, List.setIfInBounds_toArray, List.set_cons_zero, List.set_cons_succ]))
      refine seq_append _ (by rfl) (by rfl) _ _ 26 (by rfl) wr.heap.size 32 q0 (.agg #[.int .i64 0, .int .i64 0]) 2 16 Try.underlying26 hi0 iz0 iy0 ix0 rfl (by decide) _ (0 + j) ([] ++ (flat l).take (j * 2)) (by rfl) hown2p wr.heap.size _ _ _ ((flat l).drop ((j + 1) * 2)) (by rfl) (by first | exact (h1r.out.below hB3p).back (by omega) | (rw [List.drop_eq_nil_of_le (by rw [flat_len]; omega)]; exact Reads.none_back _)) (by simp) (fun u hu => (flat_one l) u (List.mem_of_mem_drop hu)) (by unfold maxLen; omega) (by omega) hB3p.size ?_
      intro A2p c2p w4p hown3p hgrow2p
      first
        | rw [show 0 + j + (l.length - (j + 1)) = j + (l.length - (j + 1)) from by omega] at hown3p ⊢
        | rw [show 0 + j + 0 = j + (l.length - (j + 1)) from by omega] at hown3p ⊢
      have hB4p : Below wr.heap.size wr w4p := own_grown hown2p hgrow2p hB3p hB3p.size (Nat.le_refl _)
      refine ⟨(fun W => Below wr.heap.size wr W), hB4p, fun W h => h, ?_⟩
      simp only [Act.put, List.setIfInBounds_toArray, List.set_cons_zero, List.set_cons_succ]
      repeat (first
        | ((refine seq_skip (by rfl) (by rfl) ?_); simp only [Act.put, List.setIfInBounds_toArray, List.set_cons_zero, List.set_cons_succ])
        | ((refine seq_val (v := ?_) (by rfl) (by rfl) (fun w hS => ?_) ?_); rotate_left; (focus ((try dsimp only at hS); go_simp; (try (with_reducible rfl)); done)); simp only [Act.put, List.setIfInBounds_toArray, List.set_cons_zero, List.set_cons_succ]))
      refine seq_nil ?_
      have h2s := hide (reads_below h2r.out hB4p)
      have hBp := hB4p
      rw [← HDL.out] at hown3p ⊢
      clear hB2p hB3p hown1p hown2p hgrowp hgrow2p
      obtain ⟨wo, hwo⟩ : ∃ wo : World, wo = w4p := ⟨_, rfl⟩
      rw [← hwo] at hown3p h2s hBp ⊢
      clear hwo hS
      go_wp2
      refine wp_region_seq deed [0, 1, 2, 4, 5, 6, 7, 3, 8, 9] (fun W => Below wo.heap.size wo W) (by kernel_rfl) (by kernel_rfl) (by go_grown) ?_
      simp only [byNum, List.getElem?_cons_zero, List.getElem?_cons_succ]
      have hS : Below wo.heap.size wo wo.drew := by go_grown
      repeat (first
        | ((refine seq_skip (by rfl) (by rfl) ?_); simp only [Act.put, List.setIfInBounds_toArray, List.set_cons_zero, List.set_cons_succ])
        | ((refine seq_val (v := ?_) (by rfl) (by rfl) (fun w hS => ?_) ?_); rotate_left; (focus ((try dsimp only at hS); go_simp; (try (with_reducible rfl)); done)); simp only [Act.put, List.setIfInBounds_toArray, List.set_cons_zero, List.set_cons_succ]))
      refine seq_call (f := ?_) (args := ?_) (by rfl) (by rfl) ?_ ?_
      rotate_left
      rotate_left
      focus (go_simp; (constructor <;> (with_reducible rfl)); done)
      refine (copyInts_c (some ad2) j _ ((ints a).take (j * 1)) _ (hide (reads_below (h2s.out.front (by omega)) (by go_grown))) (by simp) (hide (fun u hu => ints_one a u (List.mem_of_mem_take hu))) (by omega)).mono ?_
      rintro e w3q ⟨A1q, c1q, rfl, hown1q, hbq⟩
      have hown2q := own_mono (base' := wo.heap.size) hown1q (by simp)
      have hB3q : Below wo.heap.size wo w3q := below_via (by go_grown) hbq
      clear hown1q hbq
      refine ⟨_, rfl, (fun W => Below wo.heap.size wo W), hB3q, fun W h => h, ?_⟩
      simp only [Act.put, List.setIfInBounds_toArray, List.set_cons_zero, List.set_cons_succ]
      repeat (first
        | ((refine seq_skip (by rfl) (by rfl) ?_); simp only [Act.put, List.setIfInBounds_toArray, List.set_cons_zero, List.set_cons_succ])
        | ((refine seq_val (v := ?_) (by rfl) (by rfl) (fun w hS => ?_) ?_); rotate_left; (focus ((try dsimp only at hS); go_simp; (try (with_reducible rfl)); done)); simp only [Act.put, List.setIfInBounds_toArray, List.set_cons_zero, List.set_cons_succ]))
      refine seq_append _ (by rfl) (by rfl) _ _ 30 (by rfl) wo.heap.size 3 q1 (.int .i64 0) 1 8 Try.underlying30 hi1 iz1 iy1 ix1 rfl (by decide) _ j ((ints a).take (j * 1)) (by rfl) hown2q wo.heap.size _ _ _ ((ints a).drop ((j + 1) * 1)) (by rfl) (by first | exact (h2s.out.below hB3q).back (by omega) | (have h9 := (h2s.out.below hB3q).back (k := j + 1) (by omega); simpa [Addr.add] using h9) | (rw [List.drop_eq_nil_of_le (by rw [ints_len]; omega)]; exact Reads.none_back _)) (by simp) (fun u hu => (ints_one a) u (List.mem_of_mem_drop hu)) (by unfold maxLen; omega) (by omega) hB3q.size ?_
      intro A2q c2q w4q hown3q hgrow2q
      (first | rw [show j + 0 = j + (a.length - (j + 1)) from by omega] at hown3q ⊢ | skip)
      have hB4q : Below wo.heap.size wo w4q := own_grown hown2q hgrow2q hB3q hB3q.size (Nat.le_refl _)
      refine ⟨(fun W => Below wo.heap.size wo W), hB4q, fun W h => h, ?_⟩
      simp only [Act.put, List.setIfInBounds_toArray, List.set_cons_zero, List.set_cons_succ]
      repeat (first
        | ((refine seq_skip (by rfl) (by rfl) ?_); simp only [Act.put, List.setIfInBounds_toArray, List.set_cons_zero, List.set_cons_succ])
        | ((refine seq_val (v := ?_) (by rfl) (by rfl) (fun w hS => ?_) ?_); rotate_left; (focus ((try dsimp only at hS); go_simp; (try (with_reducible rfl)); done)); simp only [Act.put, List.setIfInBounds_toArray, List.set_cons_zero, List.set_cons_succ]))
      refine seq_nil ?_
      rw [← HDI.out] at hown3q ⊢
      have hp9 := own_below hown3p hB4q
      rw [List.nil_append, ← dropL_flat] at hp9
      have hq9 := hown3q
      (try rw [List.nil_append] at hq9)
      rw [← dropI_ints] at hq9
      clear hown3p hown3q
      have hr1 := hide (own_reads hp9)
      have hr2 := hide (own_reads hq9)
      clear hp9 hq9
      have hB9 : Below w.heap.size w w4q := below_via (below_via hB hBp) hB4q
      have hBq := hB4q
      (try clear hB2q hB3q hown1q hown2q hgrowq hgrow2q hS)
      go_wp2_with fail
      (first | (rw [show (#[Value.slice A2p j c2p, Value.slice A2q j c2q, Value.int .i64 tol] : Array Value) = #[.slice A2p (dropL l j).length c2p, .slice A2q (dropI a j).length c2q, .int .i64 tol] from by rw [show (dropL l j).length = j from by rw [HDL.out]; omega]; rw [show (dropI a j).length = j from by rw [HDI.out]; omega]]) | (rw [show (#[Value.slice A2p j c2p, Value.slice A2q (dropI a j).length c2q, Value.int .i64 tol] : Array Value) = #[.slice A2p (dropL l j).length c2p, .slice A2q (dropI a j).length c2q, .int .i64 tol] from by rw [show (dropL l j).length = j from by rw [HDL.out]; omega]]) | (rw [show (#[Value.slice A2p (dropL l j).length c2p, Value.slice A2q j c2q, Value.int .i64 tol] : Array Value) = #[.slice A2p (dropL l j).length c2p, .slice A2q (dropI a j).length c2q, .int .i64 tol] from by rw [show (dropI a j).length = j from by rw [HDI.out]; omega]]) | skip)
      refine (fitting_c _ _ _ (dropL l j) _ _ (dropI a j) tol (hide (reads_below hr1.out (by go_grown))) (by omega) hsd (hide (reads_below hr2.out (by go_grown))) HALd hsnd hdl1).mono ?_
      rw [Hm.out]
      rintro e w5 ⟨B, d, rfl, hown5, hb5⟩
      clear hown5
      have hB5 : Below w.heap.size w w5 := below_via (by go_grown) hb5
      clear hb5
      by_cases hgt : ms < (m : Int)
      · have HS := hide (show hlpN l a tol (j + 1) = ((j : Int), (m : Int)) from by rw [hlpN, HN.out, Hm.out]; exact if_pos hgt)
        go_wp2
        go_roundw
        case rel => exact ⟨j + 1, (j : Int), (m : Int), by omega, by go_num, rfl, rfl, by omega, by omega, HS, by go_grown⟩
        case measure => simp [intOf]; omega
      · have HS := hide (show hlpN l a tol (j + 1) = (bs, ms) from by rw [hlpN, HN.out, Hm.out]; exact if_neg hgt)
        have hcb : decide (ms < (m : Int)) = false := decide_eq_false hgt
        clear hgt
        go_wp2
        go_roundw
        case rel => exact ⟨j + 1, bs, ms, by omega, by go_num, rfl, rfl, by omega, by omega, HS, by go_grown⟩
        case measure => simp [intOf]; omega
end Go.Proofs.Ytnocgcfepkdjeaa
