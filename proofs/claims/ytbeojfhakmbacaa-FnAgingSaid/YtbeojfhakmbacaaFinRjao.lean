/- What is proved here is used by the law below: contracts of functions and plain lemmas (part 15 of 17). Their conditions stand in each. -/
import Derived.Deep.DeepCutAuto
import Derived.Test.YtbeojfhakmbacaaFinRjaa
import Derived.Test.YtbeojfhakmbacaaFinRjac
import Derived.Test.YtbeojfhakmbacaaFinRjah
import Derived.Test.YtbeojfhakmbacaaFinRjak
import Derived.Test.YtbeojfhakmbacaaFinRjan
namespace Go.Proofs.Ytbeojfhakmbacaa
open Go.RowKit
theorem RvM_of {m : Int} {l : List Hd} {s : ByteArray} {t : Int} (h : RvK m l s t = true) : RvM m l s t = t := by
  unfold RvK at h
  simp only [Bool.and_eq_true] at h
  rw [(Rv_ok h.1).2.1, (rv_yes h.2).2.1]
def IsRv (base : Nat) (v : Value) (W : World) : Prop := ∃ (m : Int) (l : List Hd) (A : Option Addr) (c : Nat), v = .agg #[.int .i64 m, .slice A l.length c] ∧ W.ownsRow base 42 10 (.slice A l.length c) l.length (hds l) ∧ l.length ≤ 9 ∧ -1 ≤ m ∧ m ≤ 10000
set_option maxRecDepth 100000 in
set_option maxHeartbeats 16000000 in
theorem receiver_c (g k : Nat) (w : World) (hc : Hid (Cur w g k)) (hk : k ≤ 4000)  : Calls Try.prog 53 #[.pointer (some ⟨g, 0, none⟩)] w (CurG w g (k + 280) (IsRv (w.heap.size + 1))) := by
  have hgw : g < w.heap.size := hc.out.lt
  obtain ⟨i0, hi0, iz0, iy0, ix0⟩ := info_parts infoHd
  go_enter Try.func53, Try.ntmps53
  go_wp2_with fail
  refine (pick_c 10 (by omega) g k _ (hide (by repeat' (first | (with_reducible exact hc.out) | (with_reducible refine Cur.drew ?_) | (with_reducible refine Cur.alloc ?_ _) | (with_reducible refine Cur.setc ?_ (by first | omega | (simp; done) | (simp; omega)) _)))) (by omega)).mono ?_
  rintro e w1 ⟨_, rfl, ⟨m0, rfl, m00, m01⟩, hcn, hgn⟩
  have hS1 : w1.cell? ⟨w.heap.size, 0, none⟩ = some (.int .i64 (0)) ∧ w1.cell? ⟨w.heap.size, 1, none⟩ = some (.slice none 0 0) ∧ (w.heap.size < w1.heap.size ∧ ∀ i, w1.frozen? ⟨w.heap.size, i, none⟩ = false) ∧ w.grownBy w1 (some g) := ⟨hgn.cell (by simp [go_sem]) (by intro e; injection e with e; (try dsimp only at e); omega), hgn.cell (by simp [go_sem]) (by intro e; injection e with e; (try dsimp only at e); omega), fre_gb ⟨by simp, by simp [go_sem]⟩ hgn (by intro e; injection e with e; omega), grown_trans (by repeat' (first | (with_reducible assumption) | (with_reducible exact gb_refl _ _) | (with_reducible refine gb_drew ?_) | (with_reducible refine gb_alloc ?_ _) | (with_reducible refine gb_seta ?_ (by first | omega | (simp; done) | (simp; omega)) _))) hgn⟩
  clear hgn
  go_upto_region 2 with fail
  obtain ⟨T, hT9⟩ : ∃ q, w1.heap.size = q := ⟨_, rfl⟩
  obtain ⟨X2, hX2⟩ : ∃ X, World.alloc w1 (.cells #[.int .i64 m0, .slice none 0 0] 26) = X := ⟨_, rfl⟩
  rw [hX2, hT9]
  have hbx : Below w1.heap.size w1 X2 := by rw [← hX2]; go_grown
  have hwT : w.heap.size < T := by rw [← hT9]; exact hS1.2.2.1.1
  have hS2 : X2.cell? ⟨w.heap.size, 0, none⟩ = some (.int .i64 (0)) ∧ X2.cell? ⟨w.heap.size, 1, none⟩ = some (.slice none 0 0) ∧ (w.heap.size < X2.heap.size ∧ ∀ i, X2.frozen? ⟨w.heap.size, i, none⟩ = false) ∧ X2.cell? ⟨T, 0, none⟩ = some (.int .i64 m0) ∧ X2.cell? ⟨T, 1, none⟩ = some (.slice none 0 0) ∧ (T < X2.heap.size ∧ ∀ i, X2.frozen? ⟨T, i, none⟩ = false) ∧ w.grownBy X2 (some g) := ⟨keep_cell hbx hS1.1, keep_cell hbx hS1.2.1, keep_fre hbx hS1.2.2.1, (by rw [← hX2, ← hT9]; simp [go_sem]), (by rw [← hX2, ← hT9]; simp [go_sem]), ⟨(by rw [← hX2, ← hT9]; simp), (by rw [← hX2, ← hT9]; simp [go_sem])⟩, gb_below hS1.2.2.2 hbx⟩
  have hcu := hcn.below hbx
  clear hS1 hbx hX2 hT9 hcn
  go_wp2_with fail
  refine (pick_c 9 (by omega) g (k + 2) _ (hide hcu) (by omega)).mono ?_
  rintro e w3 ⟨_, rfl, ⟨n9, rfl, n0, n1⟩, hcn, hgn⟩
  obtain ⟨j0, rfl⟩ : ∃ j : Nat, n9 = (j : Int) := ⟨n9.toNat, by omega⟩
  have hj8 : j0 ≤ 8 := by omega
  have hS3 : w3.cell? ⟨w.heap.size, 0, none⟩ = some (.int .i64 (0)) ∧ w3.cell? ⟨w.heap.size, 1, none⟩ = some (.slice none 0 0) ∧ (w.heap.size < w3.heap.size ∧ ∀ i, w3.frozen? ⟨w.heap.size, i, none⟩ = false) ∧ w3.cell? ⟨T, 0, none⟩ = some (.int .i64 m0) ∧ w3.cell? ⟨T, 1, none⟩ = some (.slice none 0 0) ∧ (T < w3.heap.size ∧ ∀ i, w3.frozen? ⟨T, i, none⟩ = false) ∧ w.grownBy w3 (some g) := ⟨gc hgn (hS2.1) (show w.heap.size ≠ g by omega), gc hgn (hS2.2.1) (show w.heap.size ≠ g by omega), fre_gb (hS2.2.2.1) hgn (ne_some (show w.heap.size ≠ g by omega)), gc hgn (hS2.2.2.2.1) (show T ≠ g by omega), gc hgn (hS2.2.2.2.2.1) (show T ≠ g by omega), fre_gb (hS2.2.2.2.2.2.1) hgn (ne_some (show T ≠ g by omega)), grown_trans (hS2.2.2.2.2.2.2) hgn⟩
  clear hS2 hgn hcu
  go_wp2_with fail
  go_loopw [4] (fun iv wr => ∃ (j : Nat) (M : Int) (L : List Hd) (AL : Option Addr) (cL : Nat), j ≤ j0 ∧ iv = .int .i64 j ∧ (0 ≤ M ∧ M ≤ 9 + 3 * ((j0 : Int) - j)) ∧ L.length + j ≤ j0 ∧ (Value.slice AL L.length cL).ownBlock ≠ some T ∧ Hid (Cur wr g (k + (4 + 32 * (j0 - j)))) ∧ Hid (wr.ownsRow (w.heap.size + 1) 42 10 (.slice AL L.length cL) L.length (hds L)) ∧ (wr.cell? ⟨w.heap.size, 0, none⟩ = some (.int .i64 (0)) ∧ wr.cell? ⟨w.heap.size, 1, none⟩ = some (.slice none 0 0) ∧ (w.heap.size < wr.heap.size ∧ ∀ i, wr.frozen? ⟨w.heap.size, i, none⟩ = false) ∧ wr.cell? ⟨T, 0, none⟩ = some (.int .i64 M) ∧ wr.cell? ⟨T, 1, none⟩ = some (.slice AL L.length cL) ∧ (T < wr.heap.size ∧ ∀ i, wr.frozen? ⟨T, i, none⟩ = false) ∧ w.grownBy wr (some g))) (fun iv _ => (intOf iv).toNat)
  case atStart => exact ⟨j0, m0, [], none, 0, Nat.le_refl _, rfl, ⟨m00, by omega⟩, by simp, (fun e => by cases e), hide (hcn.more (by omega)), hide (World.ownsRow_nil _ _ _ _), hS3⟩
  case round =>
    (try clear hS3)
    clear hcn
    obtain ⟨j, M, L, AL, cL, hj, rfl, ⟨M0, M1⟩, hLj, hLT, HCU, HROW, hS⟩ := hrel
    have hzw : w.heap.size ≤ wr.heap.size := (hS.2.2.2.2.2.2).size
    have hTr : T < wr.heap.size := hS.2.2.2.2.2.1.1
    by_cases hz : 0 < j
    · obtain ⟨j, rfl⟩ : ∃ q, j = q + 1 := ⟨j - 1, by omega⟩
      have hgT : g < T := by omega
      go_upto_region 5 with fail
      go_cut [5, 6] (fun pv kv wx => ∃ (N : Nat) (K : Bool) (m2 : Int) (l2 : List Hd) (B : Option Addr) (d : Nat), pv = .pointer (some ⟨N, 0, none⟩) ∧ kv = .bool K ∧ T < N ∧ (Value.slice B l2.length d).ownBlock ≠ some T ∧ (K = true → 0 ≤ m2 ∧ m2 ≤ M + 3) ∧ l2.length ≤ L.length + 1 ∧ Hid (Cur wx g (k + (4 + 32 * (j0 - (j + 1))) + 32)) ∧ Hid (wx.ownsRow (w.heap.size + 1) 42 10 (.slice AL L.length cL) L.length (hds L)) ∧ Hid (wx.ownsRow (w.heap.size + 1) 42 10 (.slice B l2.length d) l2.length (hds l2)) ∧ (wx.cell? ⟨w.heap.size, 0, none⟩ = some (.int .i64 (0)) ∧ wx.cell? ⟨w.heap.size, 1, none⟩ = some (.slice none 0 0) ∧ (w.heap.size < wx.heap.size ∧ ∀ i, wx.frozen? ⟨w.heap.size, i, none⟩ = false) ∧ wx.cell? ⟨T, 0, none⟩ = some (.int .i64 M) ∧ wx.cell? ⟨T, 1, none⟩ = some (.slice AL L.length cL) ∧ (T < wx.heap.size ∧ ∀ i, wx.frozen? ⟨T, i, none⟩ = false) ∧ wx.cell? ⟨N, 0, none⟩ = some (.int .i64 m2) ∧ wx.cell? ⟨N, 1, none⟩ = some (.slice B l2.length d) ∧ w.grownBy wx (some g)))
      case first =>
        refine wp_region_all (by kernel_rfl) ?_
        obtain ⟨W0, hW0⟩ : ∃ W, World.drew wr = W := ⟨_, rfl⟩
        rw [hW0]
        have hcw : Below wr.heap.size wr W0 := by rw [← hW0]; go_grown
        have HS0 := hide (show W0.cell? ⟨w.heap.size, 0, none⟩ = some (.int .i64 (0)) ∧ W0.cell? ⟨w.heap.size, 1, none⟩ = some (.slice none 0 0) ∧ (w.heap.size < W0.heap.size ∧ ∀ i, W0.frozen? ⟨w.heap.size, i, none⟩ = false) ∧ W0.cell? ⟨T, 0, none⟩ = some (.int .i64 M) ∧ W0.cell? ⟨T, 1, none⟩ = some (.slice AL L.length cL) ∧ (T < W0.heap.size ∧ ∀ i, W0.frozen? ⟨T, i, none⟩ = false) ∧ w.grownBy W0 (some g) from ⟨keep_cell hcw (hS.1), keep_cell hcw (hS.2.1), keep_fre hcw (hS.2.2.1), keep_cell hcw (hS.2.2.2.1), keep_cell hcw (hS.2.2.2.2.1), keep_fre hcw (hS.2.2.2.2.2.1), gb_below (hS.2.2.2.2.2.2) hcw⟩)
        have HRA := hide (own_below HROW.out hcw)
        have HC := hide (HCU.out.below hcw)
        have hTW : T < W0.heap.size := HS0.out.2.2.2.2.2.1.1
        have hzW : w.heap.size + 1 ≤ W0.heap.size := by omega
        have hS7 : W0.cell? ⟨T, 0, none⟩ = some (.int .i64 M) ∧ W0.cell? ⟨T, 1, none⟩ = some (.slice AL L.length cL) ∧ W0.grownBy W0 (some g) := ⟨HS0.out.2.2.2.1, HS0.out.2.2.2.2.1, gb_refl _ _⟩
        clear hS hcw hW0 HROW HCU
        have hS := hS7
        clear hS7
        refine all_split 12 2 (by decide) ?_ ?_
        · refine all_seq_core [0, 1, 3, 4, 5, 12, 2, 6, 7, 8, 9, 10, 11, 13, 14] (fun W => W.cell? ⟨T, 0, none⟩ = some (.int .i64 M) ∧ W.cell? ⟨T, 1, none⟩ = some (.slice AL L.length cL) ∧ W0.grownBy W (some (g))) (addE_core 12 2 _) (by kernel_rfl) hS ?_
          simp only [byNum, List.getElem?_cons_zero, List.getElem?_cons_succ]
          repeat (first
            | ((refine seq_skip (by rfl) (by rfl) ?_); simp only [Act.put, zp1, zp2, zp3])
            | ((refine seq_val (v := ?_) (by rfl) (by rfl) (fun w hS => ?_) ?_); rotate_left; (focus ((try dsimp only at hS); go_simp; (try (with_reducible rfl)); done)); simp only [Act.put, zp1, zp2, zp3]))
          refine seq_deed (v := ?_) (w' := ?_) (by rfl) (by rfl) ?_ ?_
          rotate_left
          rotate_left
          focus (go_simp; (constructor <;> (with_reducible rfl)); done)
          obtain ⟨X1, hX1⟩ : ∃ X, World.alloc W0 (.cells #[.int .i64 0, .slice none 0 0] 26) = X := ⟨_, rfl⟩
          rw [hX1]
          have hbx : Below W0.heap.size W0 X1 := by rw [← hX1]; go_grown
          have hlHT := (hS.2.2).size
          have hmHT : W0.heap.size < X1.heap.size := by rw [← hX1]; simp
          have HT9 := hide (show TZ X1 W0.heap.size 26 from by rw [← hX1]; exact TZ.new _ _)
          have HRAb := hide (own_below HRA.out hbx)
          clear HRA
          have HRA := HRAb
          clear HRAb
          have HCb := hide (HC.out.below hbx)
          clear HC
          have HC := HCb
          clear HCb
          have hS2 : X1.cell? ⟨T, 0, none⟩ = some (.int .i64 M) ∧ X1.cell? ⟨T, 1, none⟩ = some (.slice AL L.length cL) ∧ W0.grownBy X1 (some (g)) := ⟨keep_cell hbx (hS.1), keep_cell hbx (hS.2.1), gb_below (hS.2.2) hbx⟩
          clear hS
          have hS := hS2
          clear hS2
          have hsz := (hS.2.2).size
          clear hbx
          clear hX1
          have HT := HT9
          clear HT9
          refine ⟨(fun W => W.cell? ⟨T, 0, none⟩ = some (.int .i64 M) ∧ W.cell? ⟨T, 1, none⟩ = some (.slice AL L.length cL) ∧ W0.grownBy W (some (g))), hS, (fun W h => h), ?_⟩
          simp only [Act.put, zp1, zp2, zp3]
          repeat (first
            | ((refine seq_skip (by rfl) (by rfl) ?_); simp only [Act.put, zp1, zp2, zp3])
            | ((refine seq_val (v := ?_) (by rfl) (by rfl) (fun w hS => ?_) ?_); rotate_left; (focus ((try dsimp only at hS); go_simp; (try (with_reducible rfl)); done)); simp only [Act.put, zp1, zp2, zp3]))
          refine seq_call (f := ?_) (args := ?_) (by rfl) (by rfl) ?_ ?_
          rotate_left
          rotate_left
          focus (go_simp; (constructor <;> (with_reducible rfl)); done)
          refine (message_c (g) (k + (4 + 32 * (j0 - (j + 1)))) _ HC (by omega)).mono ?_
          rintro e X2 ⟨_, rfl, ⟨y, rfl, hy⟩, hcn, hgn⟩
          have HRAb := hide (World.ownsRow.kept HRA.out hgn (own_far HRA.out (by omega)))
          clear HRA
          have HRA := HRAb
          clear HRAb
          have HTb := hide (HT.out.gb hgn (ne_some (show g ≠ W0.heap.size by omega)))
          clear HT
          have HT := HTb
          clear HTb
          have hS2 : X2.cell? ⟨T, 0, none⟩ = some (.int .i64 M) ∧ X2.cell? ⟨T, 1, none⟩ = some (.slice AL L.length cL) ∧ W0.grownBy X2 (some (g)) := ⟨gc hgn (hS.1) (by omega), gc hgn (hS.2.1) (by omega), grown_trans (hS.2.2) hgn⟩
          clear hS
          have hS := hS2
          clear hS2
          have hsz := (hS.2.2).size
          clear HC
          have HC := hide hcn
          clear hcn hgn
          refine ⟨_, rfl, (fun W => W.cell? ⟨T, 0, none⟩ = some (.int .i64 M) ∧ W.cell? ⟨T, 1, none⟩ = some (.slice AL L.length cL) ∧ W0.grownBy W (some (g))), hS, (fun W h => h), ?_⟩
          simp only [Act.put, zp1, zp2, zp3]
          repeat (first
            | ((refine seq_skip (by rfl) (by rfl) ?_); simp only [Act.put, zp1, zp2, zp3])
            | ((refine seq_val (v := ?_) (by rfl) (by rfl) (fun w hS => ?_) ?_); rotate_left; (focus ((try dsimp only at hS); go_simp; (try (with_reducible rfl)); done)); simp only [Act.put, zp1, zp2, zp3]))
          refine seq_call (f := ?_) (args := ?_) (by rfl) (by rfl) ?_ ?_
          rotate_left
          rotate_left
          focus (go_simp; (constructor <;> (with_reducible rfl)); done)
          refine (pick_c 4 (by omega) (g) (k + (4 + 32 * (j0 - (j + 1))) + 30) _ HC (by omega)).mono ?_
          rintro e X3 ⟨_, rfl, ⟨p, rfl, p0, p1⟩, hcn, hgn⟩
          have HRAb := hide (World.ownsRow.kept HRA.out hgn (own_far HRA.out (by omega)))
          clear HRA
          have HRA := HRAb
          clear HRAb
          have HTb := hide (HT.out.gb hgn (ne_some (show g ≠ W0.heap.size by omega)))
          clear HT
          have HT := HTb
          clear HTb
          have hS2 : X3.cell? ⟨T, 0, none⟩ = some (.int .i64 M) ∧ X3.cell? ⟨T, 1, none⟩ = some (.slice AL L.length cL) ∧ W0.grownBy X3 (some (g)) := ⟨gc hgn (hS.1) (by omega), gc hgn (hS.2.1) (by omega), grown_trans (hS.2.2) hgn⟩
          clear hS
          have hS := hS2
          clear hS2
          have hsz := (hS.2.2).size
          clear HC
          have HC := hide hcn
          clear hcn hgn
          have ewp : IntKind.i64.wrap (M + p) = M + p := IntWalk.i64_in _ (by omega)
          refine ⟨_, rfl, (fun W => W.cell? ⟨T, 0, none⟩ = some (.int .i64 M) ∧ W.cell? ⟨T, 1, none⟩ = some (.slice AL L.length cL) ∧ W0.grownBy W (some (g))), hS, (fun W h => h), ?_⟩
          simp only [Act.put, zp1, zp2, zp3]
          repeat (first
            | ((refine seq_skip (by rfl) (by rfl) ?_); simp only [Act.put, zp1, zp2, zp3])
            | ((refine seq_val (v := ?_) (by rfl) (by rfl) (fun w hS => ?_) ?_); rotate_left; (focus ((try dsimp only at hS); go_simp; (try (with_reducible rfl)); done)); simp only [Act.put, zp1, zp2, zp3]))
          refine seq_call (f := ?_) (args := ?_) (by rfl) (by rfl) ?_ ?_
          rotate_left
          rotate_left
          focus (go_simp; (constructor <;> (with_reducible rfl)); done)
          refine (sReceive_c M AL cL L y (M + p) X3 (hide (own_reads HRA.out)) (by omega) (by omega)).mono ?_
          rintro e X4 ⟨B, d, rfl, hown, hbx⟩
          have hszc : W0.heap.size ≤ X3.heap.size := (hS.2.2).size
          have hBN : (Value.slice B (RvV M L y (M + p)).length d).ownBlock ≠ some (W0.heap.size) := fun e => by have h8 := (hown.lt _ e).1; have h7 := HT.out.2.2.1.1; omega
          have hBT : (Value.slice B (RvV M L y (M + p)).length d).ownBlock ≠ some T := fun e => by have h8 := (hown.lt _ e).1; omega
          have HRAb := hide (own_below HRA.out hbx)
          clear HRA
          have HRA := HRAb
          clear HRAb
          have HTb := hide (HT.out.below hbx)
          clear HT
          have HT := HTb
          clear HTb
          have HCb := hide (HC.out.below hbx)
          clear HC
          have HC := HCb
          clear HCb
          have hS2 : X4.cell? ⟨T, 0, none⟩ = some (.int .i64 M) ∧ X4.cell? ⟨T, 1, none⟩ = some (.slice AL L.length cL) ∧ W0.grownBy X4 (some (g)) := ⟨keep_cell hbx (hS.1), keep_cell hbx (hS.2.1), gb_below (hS.2.2) hbx⟩
          clear hS
          have hS := hS2
          clear hS2
          have hsz := (hS.2.2).size
          clear hbx
          have HO := hide (own_mono hown (show w.heap.size + 1 ≤ X3.heap.size by omega))
          clear hown
          refine ⟨_, rfl, (fun W => W.cell? ⟨T, 0, none⟩ = some (.int .i64 M) ∧ W.cell? ⟨T, 1, none⟩ = some (.slice AL L.length cL) ∧ W0.grownBy W (some (g))), hS, (fun W h => h), ?_⟩
          simp only [Act.put, zp1, zp2, zp3]
          repeat (first
            | ((refine seq_skip (by rfl) (by rfl) ?_); simp only [Act.put, zp1, zp2, zp3])
            | ((refine seq_val (v := ?_) (by rfl) (by rfl) (fun w hS => ?_) ?_); rotate_left; (focus ((try dsimp only at hS); go_simp; (try (with_reducible rfl)); done)); simp only [Act.put, zp1, zp2, zp3]))
          have hAN : (Value.slice AL L.length cL).ownBlock ≠ some (W0.heap.size) := ty_ne HRA.out HT.out.2.2.2 (by decide)
          have hGq := hS.2.2
          obtain ⟨X9, hX9⟩ : ∃ X, (X4.setCell ⟨W0.heap.size, 0, none⟩ (.int .i64 (RvM M L y (M + p)))).setCell ⟨W0.heap.size, 1, none⟩ (.slice B (RvV M L y (M + p)).length d) = X := ⟨_, rfl⟩
          obtain ⟨y0, y1, ⟨y2, y3⟩, _⟩ := HT.out
          refine seq_store (w' := X9) (by rfl) (by rfl) (by rw [← hX9]; go_simp; (try (with_reducible rfl)); done) ?_
          have hS2 : X9.cell? ⟨T, 0, none⟩ = some (.int .i64 M) ∧ X9.cell? ⟨T, 1, none⟩ = some (.slice AL L.length cL) ∧ W0.grownBy X9 (some (g)) := ⟨(by rw [← hX9]; exact sc _ (by omega) (sc _ (by omega) (hS.1))), (by rw [← hX9]; exact sc _ (by omega) (sc _ (by omega) (hS.2.1))), (by rw [← hX9]; exact gb_seta (gb_seta hGq (show W0.heap.size ≤ W0.heap.size by omega) _) (show W0.heap.size ≤ W0.heap.size by omega) _)⟩
          clear hS
          have hS := hS2
          clear hS2
          have hsz := (hS.2.2).size
          refine ⟨(fun W => W.cell? ⟨T, 0, none⟩ = some (.int .i64 M) ∧ W.cell? ⟨T, 1, none⟩ = some (.slice AL L.length cL) ∧ W0.grownBy W (some (g))), hS, (fun W h => h), ?_⟩
          simp only [Act.put, zp1, zp2, zp3]
          repeat (first
            | ((refine seq_skip (by rfl) (by rfl) ?_); simp only [Act.put, zp1, zp2, zp3])
            | ((refine seq_val (v := ?_) (by rfl) (by rfl) (fun w hS => ?_) ?_); rotate_left; (focus ((try dsimp only at hS); go_simp; (try (with_reducible rfl)); done)); simp only [Act.put, zp1, zp2, zp3]))
          refine seq_nil ?_
          go_wp2_with fail
          go_meet
          case rel => exact ⟨W0.heap.size, RvK M L y (M + p), RvM M L y (M + p), RvV M L y (M + p), B, d, rfl, rfl, by omega, hBT, (fun h => by rw [RvM_of h]; omega), RvV_len M L y (M + p), hide (by rw [← hX9]; exact ((HC.out.setc (show g < W0.heap.size by omega) _).setc (show g < W0.heap.size by omega) _).more (by omega)), hide (by rw [← hX9]; exact ownsRow_setCell_other (ownsRow_setCell_other HRA.out (a := ⟨W0.heap.size, 0, none⟩) hAN _) (a := ⟨W0.heap.size, 1, none⟩) hAN _), hide (by rw [← hX9]; exact ownsRow_setCell_other (ownsRow_setCell_other HO.out (a := ⟨W0.heap.size, 0, none⟩) hBN _) (a := ⟨W0.heap.size, 1, none⟩) hBN _), (by rw [← hX9]; exact ⟨sc _ (by omega) (sc _ (by omega) (gc hGq (HS0.out.1) (show w.heap.size ≠ g by omega))), sc _ (by omega) (sc _ (by omega) (gc hGq (HS0.out.2.1) (show w.heap.size ≠ g by omega))), sf _ (sf _ (fre_gb (HS0.out.2.2.1) hGq (ne_some (show w.heap.size ≠ g by omega)))), sc _ (by omega) (sc _ (by omega) (gc hGq (HS0.out.2.2.2.1) (show T ≠ g by omega))), sc _ (by omega) (sc _ (by omega) (gc hGq (HS0.out.2.2.2.2.1) (show T ≠ g by omega))), sf _ (sf _ (fre_gb (HS0.out.2.2.2.2.2.1) hGq (ne_some (show T ≠ g by omega)))), sc_off (by omega) (sc_at y0), sc_at (sc_off (by omega) y1), gb_seta (gb_seta (grown_trans (HS0.out.2.2.2.2.2.2) hGq) (show w.heap.size ≤ W0.heap.size by omega) _) (show w.heap.size ≤ W0.heap.size by omega) _⟩)⟩
        · refine all_split 12 6 (by decide) ?_ ?_
          · refine all_seq_core [0, 1, 3, 4, 5, 2, 12, 6, 7, 8, 9, 10, 11, 13, 14] (fun W => W.cell? ⟨T, 0, none⟩ = some (.int .i64 M) ∧ W.cell? ⟨T, 1, none⟩ = some (.slice AL L.length cL) ∧ W0.grownBy W (some (g))) (Core.trans (addE_core 2 12 _) (addE_core 12 6 _)) (by kernel_rfl) hS ?_
            simp only [byNum, List.getElem?_cons_zero, List.getElem?_cons_succ]
            repeat (first
              | ((refine seq_skip (by rfl) (by rfl) ?_); simp only [Act.put, zp1, zp2, zp3])
              | ((refine seq_val (v := ?_) (by rfl) (by rfl) (fun w hS => ?_) ?_); rotate_left; (focus ((try dsimp only at hS); go_simp; (try (with_reducible rfl)); done)); simp only [Act.put, zp1, zp2, zp3]))
            refine seq_call (f := ?_) (args := ?_) (by rfl) (by rfl) ?_ ?_
            rotate_left
            rotate_left
            focus (go_simp; (constructor <;> (with_reducible rfl)); done)
            refine (message_c (g) (k + (4 + 32 * (j0 - (j + 1)))) _ HC (by omega)).mono ?_
            rintro e X1 ⟨_, rfl, ⟨y, rfl, hy⟩, hcn, hgn⟩
            have HRAb := hide (World.ownsRow.kept HRA.out hgn (own_far HRA.out (by omega)))
            clear HRA
            have HRA := HRAb
            clear HRAb
            have hS2 : X1.cell? ⟨T, 0, none⟩ = some (.int .i64 M) ∧ X1.cell? ⟨T, 1, none⟩ = some (.slice AL L.length cL) ∧ W0.grownBy X1 (some (g)) := ⟨gc hgn (hS.1) (by omega), gc hgn (hS.2.1) (by omega), grown_trans (hS.2.2) hgn⟩
            clear hS
            have hS := hS2
            clear hS2
            have hsz := (hS.2.2).size
            clear HC
            have HC := hide hcn
            clear hcn hgn
            refine ⟨_, rfl, (fun W => W.cell? ⟨T, 0, none⟩ = some (.int .i64 M) ∧ W.cell? ⟨T, 1, none⟩ = some (.slice AL L.length cL) ∧ W0.grownBy W (some (g))), hS, (fun W h => h), ?_⟩
            simp only [Act.put, zp1, zp2, zp3]
            repeat (first
              | ((refine seq_skip (by rfl) (by rfl) ?_); simp only [Act.put, zp1, zp2, zp3])
              | ((refine seq_val (v := ?_) (by rfl) (by rfl) (fun w hS => ?_) ?_); rotate_left; (focus ((try dsimp only at hS); go_simp; (try (with_reducible rfl)); done)); simp only [Act.put, zp1, zp2, zp3]))
            refine seq_deed (v := ?_) (w' := ?_) (by rfl) (by rfl) ?_ ?_
            rotate_left
            rotate_left
            focus (go_simp; (constructor <;> (with_reducible rfl)); done)
            obtain ⟨X2, hX2⟩ : ∃ X, World.alloc X1 (.cells #[.int .i64 0, .slice none 0 0] 26) = X := ⟨_, rfl⟩
            rw [hX2]
            have hbx : Below X1.heap.size X1 X2 := by rw [← hX2]; go_grown
            have hlHT := (hS.2.2).size
            have hmHT : X1.heap.size < X2.heap.size := by rw [← hX2]; simp
            have HT9 := hide (show TZ X2 X1.heap.size 26 from by rw [← hX2]; exact TZ.new _ _)
            have HRAb := hide (own_below HRA.out hbx)
            clear HRA
            have HRA := HRAb
            clear HRAb
            have HCb := hide (HC.out.below hbx)
            clear HC
            have HC := HCb
            clear HCb
            have hS2 : X2.cell? ⟨T, 0, none⟩ = some (.int .i64 M) ∧ X2.cell? ⟨T, 1, none⟩ = some (.slice AL L.length cL) ∧ W0.grownBy X2 (some (g)) := ⟨keep_cell hbx (hS.1), keep_cell hbx (hS.2.1), gb_below (hS.2.2) hbx⟩
            clear hS
            have hS := hS2
            clear hS2
            have hsz := (hS.2.2).size
            clear hbx
            clear hX2
            have HT := HT9
            clear HT9
            refine ⟨(fun W => W.cell? ⟨T, 0, none⟩ = some (.int .i64 M) ∧ W.cell? ⟨T, 1, none⟩ = some (.slice AL L.length cL) ∧ W0.grownBy W (some (g))), hS, (fun W h => h), ?_⟩
            simp only [Act.put, zp1, zp2, zp3]
            repeat (first
              | ((refine seq_skip (by rfl) (by rfl) ?_); simp only [Act.put, zp1, zp2, zp3])
              | ((refine seq_val (v := ?_) (by rfl) (by rfl) (fun w hS => ?_) ?_); rotate_left; (focus ((try dsimp only at hS); go_simp; (try (with_reducible rfl)); done)); simp only [Act.put, zp1, zp2, zp3]))
            refine seq_call (f := ?_) (args := ?_) (by rfl) (by rfl) ?_ ?_
            rotate_left
            rotate_left
            focus (go_simp; (constructor <;> (with_reducible rfl)); done)
            refine (pick_c 4 (by omega) (g) (k + (4 + 32 * (j0 - (j + 1))) + 30) _ HC (by omega)).mono ?_
            rintro e X3 ⟨_, rfl, ⟨p, rfl, p0, p1⟩, hcn, hgn⟩
            have HRAb := hide (World.ownsRow.kept HRA.out hgn (own_far HRA.out (by omega)))
            clear HRA
            have HRA := HRAb
            clear HRAb
            have HTb := hide (HT.out.gb hgn (ne_some (show g ≠ X1.heap.size by omega)))
            clear HT
            have HT := HTb
            clear HTb
            have hS2 : X3.cell? ⟨T, 0, none⟩ = some (.int .i64 M) ∧ X3.cell? ⟨T, 1, none⟩ = some (.slice AL L.length cL) ∧ W0.grownBy X3 (some (g)) := ⟨gc hgn (hS.1) (by omega), gc hgn (hS.2.1) (by omega), grown_trans (hS.2.2) hgn⟩
            clear hS
            have hS := hS2
            clear hS2
            have hsz := (hS.2.2).size
            clear HC
            have HC := hide hcn
            clear hcn hgn
            have ewp : IntKind.i64.wrap (M + p) = M + p := IntWalk.i64_in _ (by omega)
            refine ⟨_, rfl, (fun W => W.cell? ⟨T, 0, none⟩ = some (.int .i64 M) ∧ W.cell? ⟨T, 1, none⟩ = some (.slice AL L.length cL) ∧ W0.grownBy W (some (g))), hS, (fun W h => h), ?_⟩
            simp only [Act.put, zp1, zp2, zp3]
            repeat (first
              | ((refine seq_skip (by rfl) (by rfl) ?_); simp only [Act.put, zp1, zp2, zp3])
              | ((refine seq_val (v := ?_) (by rfl) (by rfl) (fun w hS => ?_) ?_); rotate_left; (focus ((try dsimp only at hS); go_simp; (try (with_reducible rfl)); done)); simp only [Act.put, zp1, zp2, zp3]))
            refine seq_call (f := ?_) (args := ?_) (by rfl) (by rfl) ?_ ?_
            rotate_left
            rotate_left
            focus (go_simp; (constructor <;> (with_reducible rfl)); done)
            refine (sReceive_c M AL cL L y (M + p) X3 (hide (own_reads HRA.out)) (by omega) (by omega)).mono ?_
            rintro e X4 ⟨B, d, rfl, hown, hbx⟩
            have hszc : W0.heap.size ≤ X3.heap.size := (hS.2.2).size
            have hBN : (Value.slice B (RvV M L y (M + p)).length d).ownBlock ≠ some (X1.heap.size) := fun e => by have h8 := (hown.lt _ e).1; have h7 := HT.out.2.2.1.1; omega
            have hBT : (Value.slice B (RvV M L y (M + p)).length d).ownBlock ≠ some T := fun e => by have h8 := (hown.lt _ e).1; omega
            have HRAb := hide (own_below HRA.out hbx)
            clear HRA
            have HRA := HRAb
            clear HRAb
            have HTb := hide (HT.out.below hbx)
            clear HT
            have HT := HTb
            clear HTb
            have HCb := hide (HC.out.below hbx)
            clear HC
            have HC := HCb
            clear HCb
            have hS2 : X4.cell? ⟨T, 0, none⟩ = some (.int .i64 M) ∧ X4.cell? ⟨T, 1, none⟩ = some (.slice AL L.length cL) ∧ W0.grownBy X4 (some (g)) := ⟨keep_cell hbx (hS.1), keep_cell hbx (hS.2.1), gb_below (hS.2.2) hbx⟩
            clear hS
            have hS := hS2
            clear hS2
            have hsz := (hS.2.2).size
            clear hbx
            have HO := hide (own_mono hown (show w.heap.size + 1 ≤ X3.heap.size by omega))
            clear hown
            refine ⟨_, rfl, (fun W => W.cell? ⟨T, 0, none⟩ = some (.int .i64 M) ∧ W.cell? ⟨T, 1, none⟩ = some (.slice AL L.length cL) ∧ W0.grownBy W (some (g))), hS, (fun W h => h), ?_⟩
            simp only [Act.put, zp1, zp2, zp3]
            repeat (first
              | ((refine seq_skip (by rfl) (by rfl) ?_); simp only [Act.put, zp1, zp2, zp3])
              | ((refine seq_val (v := ?_) (by rfl) (by rfl) (fun w hS => ?_) ?_); rotate_left; (focus ((try dsimp only at hS); go_simp; (try (with_reducible rfl)); done)); simp only [Act.put, zp1, zp2, zp3]))
            have hAN : (Value.slice AL L.length cL).ownBlock ≠ some (X1.heap.size) := ty_ne HRA.out HT.out.2.2.2 (by decide)
            have hGq := hS.2.2
            obtain ⟨X9, hX9⟩ : ∃ X, (X4.setCell ⟨X1.heap.size, 0, none⟩ (.int .i64 (RvM M L y (M + p)))).setCell ⟨X1.heap.size, 1, none⟩ (.slice B (RvV M L y (M + p)).length d) = X := ⟨_, rfl⟩
            obtain ⟨y0, y1, ⟨y2, y3⟩, _⟩ := HT.out
            refine seq_store (w' := X9) (by rfl) (by rfl) (by rw [← hX9]; go_simp; (try (with_reducible rfl)); done) ?_
            have hS2 : X9.cell? ⟨T, 0, none⟩ = some (.int .i64 M) ∧ X9.cell? ⟨T, 1, none⟩ = some (.slice AL L.length cL) ∧ W0.grownBy X9 (some (g)) := ⟨(by rw [← hX9]; exact sc _ (by omega) (sc _ (by omega) (hS.1))), (by rw [← hX9]; exact sc _ (by omega) (sc _ (by omega) (hS.2.1))), (by rw [← hX9]; exact gb_seta (gb_seta hGq (show W0.heap.size ≤ X1.heap.size by omega) _) (show W0.heap.size ≤ X1.heap.size by omega) _)⟩
            clear hS
            have hS := hS2
            clear hS2
            have hsz := (hS.2.2).size
            refine ⟨(fun W => W.cell? ⟨T, 0, none⟩ = some (.int .i64 M) ∧ W.cell? ⟨T, 1, none⟩ = some (.slice AL L.length cL) ∧ W0.grownBy W (some (g))), hS, (fun W h => h), ?_⟩
            simp only [Act.put, zp1, zp2, zp3]
            repeat (first
              | ((refine seq_skip (by rfl) (by rfl) ?_); simp only [Act.put, zp1, zp2, zp3])
              | ((refine seq_val (v := ?_) (by rfl) (by rfl) (fun w hS => ?_) ?_); rotate_left; (focus ((try dsimp only at hS); go_simp; (try (with_reducible rfl)); done)); simp only [Act.put, zp1, zp2, zp3]))
            refine seq_nil ?_
            go_wp2_with fail
            go_meet
            case rel => exact ⟨X1.heap.size, RvK M L y (M + p), RvM M L y (M + p), RvV M L y (M + p), B, d, rfl, rfl, by omega, hBT, (fun h => by rw [RvM_of h]; omega), RvV_len M L y (M + p), hide (by rw [← hX9]; exact ((HC.out.setc (show g < X1.heap.size by omega) _).setc (show g < X1.heap.size by omega) _).more (by omega)), hide (by rw [← hX9]; exact ownsRow_setCell_other (ownsRow_setCell_other HRA.out (a := ⟨X1.heap.size, 0, none⟩) hAN _) (a := ⟨X1.heap.size, 1, none⟩) hAN _), hide (by rw [← hX9]; exact ownsRow_setCell_other (ownsRow_setCell_other HO.out (a := ⟨X1.heap.size, 0, none⟩) hBN _) (a := ⟨X1.heap.size, 1, none⟩) hBN _), (by rw [← hX9]; exact ⟨sc _ (by omega) (sc _ (by omega) (gc hGq (HS0.out.1) (show w.heap.size ≠ g by omega))), sc _ (by omega) (sc _ (by omega) (gc hGq (HS0.out.2.1) (show w.heap.size ≠ g by omega))), sf _ (sf _ (fre_gb (HS0.out.2.2.1) hGq (ne_some (show w.heap.size ≠ g by omega)))), sc _ (by omega) (sc _ (by omega) (gc hGq (HS0.out.2.2.2.1) (show T ≠ g by omega))), sc _ (by omega) (sc _ (by omega) (gc hGq (HS0.out.2.2.2.2.1) (show T ≠ g by omega))), sf _ (sf _ (fre_gb (HS0.out.2.2.2.2.2.1) hGq (ne_some (show T ≠ g by omega)))), sc_off (by omega) (sc_at y0), sc_at (sc_off (by omega) y1), gb_seta (gb_seta (grown_trans (HS0.out.2.2.2.2.2.2) hGq) (show w.heap.size ≤ X1.heap.size by omega) _) (show w.heap.size ≤ X1.heap.size by omega) _⟩)⟩
          · refine all_split 12 8 (by decide) ?_ ?_
            · refine all_seq_core [0, 1, 3, 4, 5, 2, 6, 7, 12, 8, 9, 10, 11, 13, 14] (fun W => W.cell? ⟨T, 0, none⟩ = some (.int .i64 M) ∧ W.cell? ⟨T, 1, none⟩ = some (.slice AL L.length cL) ∧ W0.grownBy W (some (g))) (Core.trans (Core.trans (addE_core 2 12 _) (addE_core 6 12 _)) (addE_core 12 8 _)) (by kernel_rfl) hS ?_
              simp only [byNum, List.getElem?_cons_zero, List.getElem?_cons_succ]
              repeat (first
                | ((refine seq_skip (by rfl) (by rfl) ?_); simp only [Act.put, zp1, zp2, zp3])
                | ((refine seq_val (v := ?_) (by rfl) (by rfl) (fun w hS => ?_) ?_); rotate_left; (focus ((try dsimp only at hS); go_simp; (try (with_reducible rfl)); done)); simp only [Act.put, zp1, zp2, zp3]))
              refine seq_call (f := ?_) (args := ?_) (by rfl) (by rfl) ?_ ?_
              rotate_left
              rotate_left
              focus (go_simp; (constructor <;> (with_reducible rfl)); done)
              refine (message_c (g) (k + (4 + 32 * (j0 - (j + 1)))) _ HC (by omega)).mono ?_
              rintro e X1 ⟨_, rfl, ⟨y, rfl, hy⟩, hcn, hgn⟩
              have HRAb := hide (World.ownsRow.kept HRA.out hgn (own_far HRA.out (by omega)))
              clear HRA
              have HRA := HRAb
              clear HRAb
              have hS2 : X1.cell? ⟨T, 0, none⟩ = some (.int .i64 M) ∧ X1.cell? ⟨T, 1, none⟩ = some (.slice AL L.length cL) ∧ W0.grownBy X1 (some (g)) := ⟨gc hgn (hS.1) (by omega), gc hgn (hS.2.1) (by omega), grown_trans (hS.2.2) hgn⟩
              clear hS
              have hS := hS2
              clear hS2
              have hsz := (hS.2.2).size
              clear HC
              have HC := hide hcn
              clear hcn hgn
              refine ⟨_, rfl, (fun W => W.cell? ⟨T, 0, none⟩ = some (.int .i64 M) ∧ W.cell? ⟨T, 1, none⟩ = some (.slice AL L.length cL) ∧ W0.grownBy W (some (g))), hS, (fun W h => h), ?_⟩
              simp only [Act.put, zp1, zp2, zp3]
              repeat (first
                | ((refine seq_skip (by rfl) (by rfl) ?_); simp only [Act.put, zp1, zp2, zp3])
                | ((refine seq_val (v := ?_) (by rfl) (by rfl) (fun w hS => ?_) ?_); rotate_left; (focus ((try dsimp only at hS); go_simp; (try (with_reducible rfl)); done)); simp only [Act.put, zp1, zp2, zp3]))
              refine seq_call (f := ?_) (args := ?_) (by rfl) (by rfl) ?_ ?_
              rotate_left
              rotate_left
              focus (go_simp; (constructor <;> (with_reducible rfl)); done)
              refine (pick_c 4 (by omega) (g) (k + (4 + 32 * (j0 - (j + 1))) + 30) _ HC (by omega)).mono ?_
              rintro e X2 ⟨_, rfl, ⟨p, rfl, p0, p1⟩, hcn, hgn⟩
              have HRAb := hide (World.ownsRow.kept HRA.out hgn (own_far HRA.out (by omega)))
              clear HRA
              have HRA := HRAb
              clear HRAb
              have hS2 : X2.cell? ⟨T, 0, none⟩ = some (.int .i64 M) ∧ X2.cell? ⟨T, 1, none⟩ = some (.slice AL L.length cL) ∧ W0.grownBy X2 (some (g)) := ⟨gc hgn (hS.1) (by omega), gc hgn (hS.2.1) (by omega), grown_trans (hS.2.2) hgn⟩
              clear hS
              have hS := hS2
              clear hS2
              have hsz := (hS.2.2).size
              clear HC
              have HC := hide hcn
              clear hcn hgn
              have ewp : IntKind.i64.wrap (M + p) = M + p := IntWalk.i64_in _ (by omega)
              refine ⟨_, rfl, (fun W => W.cell? ⟨T, 0, none⟩ = some (.int .i64 M) ∧ W.cell? ⟨T, 1, none⟩ = some (.slice AL L.length cL) ∧ W0.grownBy W (some (g))), hS, (fun W h => h), ?_⟩
              simp only [Act.put, zp1, zp2, zp3]
              repeat (first
                | ((refine seq_skip (by rfl) (by rfl) ?_); simp only [Act.put, zp1, zp2, zp3])
                | ((refine seq_val (v := ?_) (by rfl) (by rfl) (fun w hS => ?_) ?_); rotate_left; (focus ((try dsimp only at hS); go_simp; (try (with_reducible rfl)); done)); simp only [Act.put, zp1, zp2, zp3]))
              refine seq_deed (v := ?_) (w' := ?_) (by rfl) (by rfl) ?_ ?_
              rotate_left
              rotate_left
              focus (go_simp; (constructor <;> (with_reducible rfl)); done)
              obtain ⟨X3, hX3⟩ : ∃ X, World.alloc X2 (.cells #[.int .i64 0, .slice none 0 0] 26) = X := ⟨_, rfl⟩
              rw [hX3]
              have hbx : Below X2.heap.size X2 X3 := by rw [← hX3]; go_grown
              have hlHT := (hS.2.2).size
              have hmHT : X2.heap.size < X3.heap.size := by rw [← hX3]; simp
              have HT9 := hide (show TZ X3 X2.heap.size 26 from by rw [← hX3]; exact TZ.new _ _)
              have HRAb := hide (own_below HRA.out hbx)
              clear HRA
              have HRA := HRAb
              clear HRAb
              have HCb := hide (HC.out.below hbx)
              clear HC
              have HC := HCb
              clear HCb
              have hS2 : X3.cell? ⟨T, 0, none⟩ = some (.int .i64 M) ∧ X3.cell? ⟨T, 1, none⟩ = some (.slice AL L.length cL) ∧ W0.grownBy X3 (some (g)) := ⟨keep_cell hbx (hS.1), keep_cell hbx (hS.2.1), gb_below (hS.2.2) hbx⟩
              clear hS
              have hS := hS2
              clear hS2
              have hsz := (hS.2.2).size
              clear hbx
              clear hX3
              have HT := HT9
              clear HT9
              refine ⟨(fun W => W.cell? ⟨T, 0, none⟩ = some (.int .i64 M) ∧ W.cell? ⟨T, 1, none⟩ = some (.slice AL L.length cL) ∧ W0.grownBy W (some (g))), hS, (fun W h => h), ?_⟩
              simp only [Act.put, zp1, zp2, zp3]
              repeat (first
                | ((refine seq_skip (by rfl) (by rfl) ?_); simp only [Act.put, zp1, zp2, zp3])
                | ((refine seq_val (v := ?_) (by rfl) (by rfl) (fun w hS => ?_) ?_); rotate_left; (focus ((try dsimp only at hS); go_simp; (try (with_reducible rfl)); done)); simp only [Act.put, zp1, zp2, zp3]))
              refine seq_call (f := ?_) (args := ?_) (by rfl) (by rfl) ?_ ?_
              rotate_left
              rotate_left
              focus (go_simp; (constructor <;> (with_reducible rfl)); done)
              refine (sReceive_c M AL cL L y (M + p) X3 (hide (own_reads HRA.out)) (by omega) (by omega)).mono ?_
              rintro e X4 ⟨B, d, rfl, hown, hbx⟩
              have hszc : W0.heap.size ≤ X3.heap.size := (hS.2.2).size
              have hBN : (Value.slice B (RvV M L y (M + p)).length d).ownBlock ≠ some (X2.heap.size) := fun e => by have h8 := (hown.lt _ e).1; have h7 := HT.out.2.2.1.1; omega
              have hBT : (Value.slice B (RvV M L y (M + p)).length d).ownBlock ≠ some T := fun e => by have h8 := (hown.lt _ e).1; omega
              have HRAb := hide (own_below HRA.out hbx)
              clear HRA
              have HRA := HRAb
              clear HRAb
              have HTb := hide (HT.out.below hbx)
              clear HT
              have HT := HTb
              clear HTb
              have HCb := hide (HC.out.below hbx)
              clear HC
              have HC := HCb
              clear HCb
              have hS2 : X4.cell? ⟨T, 0, none⟩ = some (.int .i64 M) ∧ X4.cell? ⟨T, 1, none⟩ = some (.slice AL L.length cL) ∧ W0.grownBy X4 (some (g)) := ⟨keep_cell hbx (hS.1), keep_cell hbx (hS.2.1), gb_below (hS.2.2) hbx⟩
              clear hS
              have hS := hS2
              clear hS2
              have hsz := (hS.2.2).size
              clear hbx
              have HO := hide (own_mono hown (show w.heap.size + 1 ≤ X3.heap.size by omega))
              clear hown
              refine ⟨_, rfl, (fun W => W.cell? ⟨T, 0, none⟩ = some (.int .i64 M) ∧ W.cell? ⟨T, 1, none⟩ = some (.slice AL L.length cL) ∧ W0.grownBy W (some (g))), hS, (fun W h => h), ?_⟩
              simp only [Act.put, zp1, zp2, zp3]
              repeat (first
                | ((refine seq_skip (by rfl) (by rfl) ?_); simp only [Act.put, zp1, zp2, zp3])
                | ((refine seq_val (v := ?_) (by rfl) (by rfl) (fun w hS => ?_) ?_); rotate_left; (focus ((try dsimp only at hS); go_simp; (try (with_reducible rfl)); done)); simp only [Act.put, zp1, zp2, zp3]))
              have hAN : (Value.slice AL L.length cL).ownBlock ≠ some (X2.heap.size) := ty_ne HRA.out HT.out.2.2.2 (by decide)
              have hGq := hS.2.2
              obtain ⟨X9, hX9⟩ : ∃ X, (X4.setCell ⟨X2.heap.size, 0, none⟩ (.int .i64 (RvM M L y (M + p)))).setCell ⟨X2.heap.size, 1, none⟩ (.slice B (RvV M L y (M + p)).length d) = X := ⟨_, rfl⟩
              obtain ⟨y0, y1, ⟨y2, y3⟩, _⟩ := HT.out
              refine seq_store (w' := X9) (by rfl) (by rfl) (by rw [← hX9]; go_simp; (try (with_reducible rfl)); done) ?_
              have hS2 : X9.cell? ⟨T, 0, none⟩ = some (.int .i64 M) ∧ X9.cell? ⟨T, 1, none⟩ = some (.slice AL L.length cL) ∧ W0.grownBy X9 (some (g)) := ⟨(by rw [← hX9]; exact sc _ (by omega) (sc _ (by omega) (hS.1))), (by rw [← hX9]; exact sc _ (by omega) (sc _ (by omega) (hS.2.1))), (by rw [← hX9]; exact gb_seta (gb_seta hGq (show W0.heap.size ≤ X2.heap.size by omega) _) (show W0.heap.size ≤ X2.heap.size by omega) _)⟩
              clear hS
              have hS := hS2
              clear hS2
              have hsz := (hS.2.2).size
              refine ⟨(fun W => W.cell? ⟨T, 0, none⟩ = some (.int .i64 M) ∧ W.cell? ⟨T, 1, none⟩ = some (.slice AL L.length cL) ∧ W0.grownBy W (some (g))), hS, (fun W h => h), ?_⟩
              simp only [Act.put, zp1, zp2, zp3]
              repeat (first
                | ((refine seq_skip (by rfl) (by rfl) ?_); simp only [Act.put, zp1, zp2, zp3])
                | ((refine seq_val (v := ?_) (by rfl) (by rfl) (fun w hS => ?_) ?_); rotate_left; (focus ((try dsimp only at hS); go_simp; (try (with_reducible rfl)); done)); simp only [Act.put, zp1, zp2, zp3]))
              refine seq_nil ?_
              go_wp2_with fail
              go_meet
              case rel => exact ⟨X2.heap.size, RvK M L y (M + p), RvM M L y (M + p), RvV M L y (M + p), B, d, rfl, rfl, by omega, hBT, (fun h => by rw [RvM_of h]; omega), RvV_len M L y (M + p), hide (by rw [← hX9]; exact ((HC.out.setc (show g < X2.heap.size by omega) _).setc (show g < X2.heap.size by omega) _).more (by omega)), hide (by rw [← hX9]; exact ownsRow_setCell_other (ownsRow_setCell_other HRA.out (a := ⟨X2.heap.size, 0, none⟩) hAN _) (a := ⟨X2.heap.size, 1, none⟩) hAN _), hide (by rw [← hX9]; exact ownsRow_setCell_other (ownsRow_setCell_other HO.out (a := ⟨X2.heap.size, 0, none⟩) hBN _) (a := ⟨X2.heap.size, 1, none⟩) hBN _), (by rw [← hX9]; exact ⟨sc _ (by omega) (sc _ (by omega) (gc hGq (HS0.out.1) (show w.heap.size ≠ g by omega))), sc _ (by omega) (sc _ (by omega) (gc hGq (HS0.out.2.1) (show w.heap.size ≠ g by omega))), sf _ (sf _ (fre_gb (HS0.out.2.2.1) hGq (ne_some (show w.heap.size ≠ g by omega)))), sc _ (by omega) (sc _ (by omega) (gc hGq (HS0.out.2.2.2.1) (show T ≠ g by omega))), sc _ (by omega) (sc _ (by omega) (gc hGq (HS0.out.2.2.2.2.1) (show T ≠ g by omega))), sf _ (sf _ (fre_gb (HS0.out.2.2.2.2.2.1) hGq (ne_some (show T ≠ g by omega)))), sc_off (by omega) (sc_at y0), sc_at (sc_off (by omega) y1), gb_seta (gb_seta (grown_trans (HS0.out.2.2.2.2.2.2) hGq) (show w.heap.size ≤ X2.heap.size by omega) _) (show w.heap.size ≤ X2.heap.size by omega) _⟩)⟩
            · refine all_seq_core [0, 1, 3, 4, 5, 2, 6, 7, 8, 9, 10, 11, 12, 13, 14] (fun W => W.cell? ⟨T, 0, none⟩ = some (.int .i64 M) ∧ W.cell? ⟨T, 1, none⟩ = some (.slice AL L.length cL) ∧ W0.grownBy W (some (g))) (Core.trans (Core.trans (addE_core 2 12 _) (addE_core 6 12 _)) (addE_core 8 12 _)) (by kernel_rfl) hS ?_
              simp only [byNum, List.getElem?_cons_zero, List.getElem?_cons_succ]
              repeat (first
                | ((refine seq_skip (by rfl) (by rfl) ?_); simp only [Act.put, zp1, zp2, zp3])
                | ((refine seq_val (v := ?_) (by rfl) (by rfl) (fun w hS => ?_) ?_); rotate_left; (focus ((try dsimp only at hS); go_simp; (try (with_reducible rfl)); done)); simp only [Act.put, zp1, zp2, zp3]))
              refine seq_call (f := ?_) (args := ?_) (by rfl) (by rfl) ?_ ?_
              rotate_left
              rotate_left
              focus (go_simp; (constructor <;> (with_reducible rfl)); done)
              refine (message_c (g) (k + (4 + 32 * (j0 - (j + 1)))) _ HC (by omega)).mono ?_
              rintro e X1 ⟨_, rfl, ⟨y, rfl, hy⟩, hcn, hgn⟩
              have HRAb := hide (World.ownsRow.kept HRA.out hgn (own_far HRA.out (by omega)))
              clear HRA
              have HRA := HRAb
              clear HRAb
              have hS2 : X1.cell? ⟨T, 0, none⟩ = some (.int .i64 M) ∧ X1.cell? ⟨T, 1, none⟩ = some (.slice AL L.length cL) ∧ W0.grownBy X1 (some (g)) := ⟨gc hgn (hS.1) (by omega), gc hgn (hS.2.1) (by omega), grown_trans (hS.2.2) hgn⟩
              clear hS
              have hS := hS2
              clear hS2
              have hsz := (hS.2.2).size
              clear HC
              have HC := hide hcn
              clear hcn hgn
              refine ⟨_, rfl, (fun W => W.cell? ⟨T, 0, none⟩ = some (.int .i64 M) ∧ W.cell? ⟨T, 1, none⟩ = some (.slice AL L.length cL) ∧ W0.grownBy W (some (g))), hS, (fun W h => h), ?_⟩
              simp only [Act.put, zp1, zp2, zp3]
              repeat (first
                | ((refine seq_skip (by rfl) (by rfl) ?_); simp only [Act.put, zp1, zp2, zp3])
                | ((refine seq_val (v := ?_) (by rfl) (by rfl) (fun w hS => ?_) ?_); rotate_left; (focus ((try dsimp only at hS); go_simp; (try (with_reducible rfl)); done)); simp only [Act.put, zp1, zp2, zp3]))
              refine seq_call (f := ?_) (args := ?_) (by rfl) (by rfl) ?_ ?_
              rotate_left
              rotate_left
              focus (go_simp; (constructor <;> (with_reducible rfl)); done)
              refine (pick_c 4 (by omega) (g) (k + (4 + 32 * (j0 - (j + 1))) + 30) _ HC (by omega)).mono ?_
              rintro e X2 ⟨_, rfl, ⟨p, rfl, p0, p1⟩, hcn, hgn⟩
              have HRAb := hide (World.ownsRow.kept HRA.out hgn (own_far HRA.out (by omega)))
              clear HRA
              have HRA := HRAb
              clear HRAb
              have hS2 : X2.cell? ⟨T, 0, none⟩ = some (.int .i64 M) ∧ X2.cell? ⟨T, 1, none⟩ = some (.slice AL L.length cL) ∧ W0.grownBy X2 (some (g)) := ⟨gc hgn (hS.1) (by omega), gc hgn (hS.2.1) (by omega), grown_trans (hS.2.2) hgn⟩
              clear hS
              have hS := hS2
              clear hS2
              have hsz := (hS.2.2).size
              clear HC
              have HC := hide hcn
              clear hcn hgn
              have ewp : IntKind.i64.wrap (M + p) = M + p := IntWalk.i64_in _ (by omega)
              refine ⟨_, rfl, (fun W => W.cell? ⟨T, 0, none⟩ = some (.int .i64 M) ∧ W.cell? ⟨T, 1, none⟩ = some (.slice AL L.length cL) ∧ W0.grownBy W (some (g))), hS, (fun W h => h), ?_⟩
              simp only [Act.put, zp1, zp2, zp3]
              repeat (first
                | ((refine seq_skip (by rfl) (by rfl) ?_); simp only [Act.put, zp1, zp2, zp3])
                | ((refine seq_val (v := ?_) (by rfl) (by rfl) (fun w hS => ?_) ?_); rotate_left; (focus ((try dsimp only at hS); go_simp; (try (with_reducible rfl)); done)); simp only [Act.put, zp1, zp2, zp3]))
              refine seq_call (f := ?_) (args := ?_) (by rfl) (by rfl) ?_ ?_
              rotate_left
              rotate_left
              focus (go_simp; (constructor <;> (with_reducible rfl)); done)
              refine (sReceive_c M AL cL L y (M + p) X2 (hide (own_reads HRA.out)) (by omega) (by omega)).mono ?_
              rintro e X3 ⟨B, d, rfl, hown, hbx⟩
              have hszc : W0.heap.size ≤ X2.heap.size := (hS.2.2).size
              have hBT : (Value.slice B (RvV M L y (M + p)).length d).ownBlock ≠ some T := fun e => by have h8 := (hown.lt _ e).1; omega
              have HRAb := hide (own_below HRA.out hbx)
              clear HRA
              have HRA := HRAb
              clear HRAb
              have HCb := hide (HC.out.below hbx)
              clear HC
              have HC := HCb
              clear HCb
              have hS2 : X3.cell? ⟨T, 0, none⟩ = some (.int .i64 M) ∧ X3.cell? ⟨T, 1, none⟩ = some (.slice AL L.length cL) ∧ W0.grownBy X3 (some (g)) := ⟨keep_cell hbx (hS.1), keep_cell hbx (hS.2.1), gb_below (hS.2.2) hbx⟩
              clear hS
              have hS := hS2
              clear hS2
              have hsz := (hS.2.2).size
              clear hbx
              have HO := hide (own_mono hown (show w.heap.size + 1 ≤ X2.heap.size by omega))
              have hOL := hide hown
              clear hown
              refine ⟨_, rfl, (fun W => W.cell? ⟨T, 0, none⟩ = some (.int .i64 M) ∧ W.cell? ⟨T, 1, none⟩ = some (.slice AL L.length cL) ∧ W0.grownBy W (some (g))), hS, (fun W h => h), ?_⟩
              simp only [Act.put, zp1, zp2, zp3]
              repeat (first
                | ((refine seq_skip (by rfl) (by rfl) ?_); simp only [Act.put, zp1, zp2, zp3])
                | ((refine seq_val (v := ?_) (by rfl) (by rfl) (fun w hS => ?_) ?_); rotate_left; (focus ((try dsimp only at hS); go_simp; (try (with_reducible rfl)); done)); simp only [Act.put, zp1, zp2, zp3]))
              refine seq_deed (v := ?_) (w' := ?_) (by rfl) (by rfl) ?_ ?_
              rotate_left
              rotate_left
              focus (go_simp; (constructor <;> (with_reducible rfl)); done)
              obtain ⟨X4, hX4⟩ : ∃ X, World.alloc X3 (.cells #[.int .i64 0, .slice none 0 0] 26) = X := ⟨_, rfl⟩
              rw [hX4]
              have hbx : Below X3.heap.size X3 X4 := by rw [← hX4]; go_grown
              have hlHT := (hS.2.2).size
              have hmHT : X3.heap.size < X4.heap.size := by rw [← hX4]; simp
              have HT9 := hide (show TZ X4 X3.heap.size 26 from by rw [← hX4]; exact TZ.new _ _)
              have HRAb := hide (own_below HRA.out hbx)
              clear HRA
              have HRA := HRAb
              clear HRAb
              have HOb := hide (own_below HO.out hbx)
              clear HO
              have HO := HOb
              clear HOb
              have HCb := hide (HC.out.below hbx)
              clear HC
              have HC := HCb
              clear HCb
              have hS2 : X4.cell? ⟨T, 0, none⟩ = some (.int .i64 M) ∧ X4.cell? ⟨T, 1, none⟩ = some (.slice AL L.length cL) ∧ W0.grownBy X4 (some (g)) := ⟨keep_cell hbx (hS.1), keep_cell hbx (hS.2.1), gb_below (hS.2.2) hbx⟩
              clear hS
              have hS := hS2
              clear hS2
              have hsz := (hS.2.2).size
              clear hbx
              clear hX4
              have HT := HT9
              clear HT9
              refine ⟨(fun W => W.cell? ⟨T, 0, none⟩ = some (.int .i64 M) ∧ W.cell? ⟨T, 1, none⟩ = some (.slice AL L.length cL) ∧ W0.grownBy W (some (g))), hS, (fun W h => h), ?_⟩
              simp only [Act.put, zp1, zp2, zp3]
              repeat (first
                | ((refine seq_skip (by rfl) (by rfl) ?_); simp only [Act.put, zp1, zp2, zp3])
                | ((refine seq_val (v := ?_) (by rfl) (by rfl) (fun w hS => ?_) ?_); rotate_left; (focus ((try dsimp only at hS); go_simp; (try (with_reducible rfl)); done)); simp only [Act.put, zp1, zp2, zp3]))
              have hBN : (Value.slice B (RvV M L y (M + p)).length d).ownBlock ≠ some (X3.heap.size) := fun e => by have h8 := (hOL.out.lt _ e).2; omega
              have hAN : (Value.slice AL L.length cL).ownBlock ≠ some (X3.heap.size) := ty_ne HRA.out HT.out.2.2.2 (by decide)
              have hGq := hS.2.2
              obtain ⟨X9, hX9⟩ : ∃ X, (X4.setCell ⟨X3.heap.size, 0, none⟩ (.int .i64 (RvM M L y (M + p)))).setCell ⟨X3.heap.size, 1, none⟩ (.slice B (RvV M L y (M + p)).length d) = X := ⟨_, rfl⟩
              obtain ⟨y0, y1, ⟨y2, y3⟩, _⟩ := HT.out
              refine seq_store (w' := X9) (by rfl) (by rfl) (by rw [← hX9]; go_simp; (try (with_reducible rfl)); done) ?_
              have hS2 : X9.cell? ⟨T, 0, none⟩ = some (.int .i64 M) ∧ X9.cell? ⟨T, 1, none⟩ = some (.slice AL L.length cL) ∧ W0.grownBy X9 (some (g)) := ⟨(by rw [← hX9]; exact sc _ (by omega) (sc _ (by omega) (hS.1))), (by rw [← hX9]; exact sc _ (by omega) (sc _ (by omega) (hS.2.1))), (by rw [← hX9]; exact gb_seta (gb_seta hGq (show W0.heap.size ≤ X3.heap.size by omega) _) (show W0.heap.size ≤ X3.heap.size by omega) _)⟩
              clear hS
              have hS := hS2
              clear hS2
              have hsz := (hS.2.2).size
              refine ⟨(fun W => W.cell? ⟨T, 0, none⟩ = some (.int .i64 M) ∧ W.cell? ⟨T, 1, none⟩ = some (.slice AL L.length cL) ∧ W0.grownBy W (some (g))), hS, (fun W h => h), ?_⟩
              simp only [Act.put, zp1, zp2, zp3]
              repeat (first
                | ((refine seq_skip (by rfl) (by rfl) ?_); simp only [Act.put, zp1, zp2, zp3])
                | ((refine seq_val (v := ?_) (by rfl) (by rfl) (fun w hS => ?_) ?_); rotate_left; (focus ((try dsimp only at hS); go_simp; (try (with_reducible rfl)); done)); simp only [Act.put, zp1, zp2, zp3]))
              refine seq_nil ?_
              go_wp2_with fail
              go_meet
              case rel => exact ⟨X3.heap.size, RvK M L y (M + p), RvM M L y (M + p), RvV M L y (M + p), B, d, rfl, rfl, by omega, hBT, (fun h => by rw [RvM_of h]; omega), RvV_len M L y (M + p), hide (by rw [← hX9]; exact ((HC.out.setc (show g < X3.heap.size by omega) _).setc (show g < X3.heap.size by omega) _).more (by omega)), hide (by rw [← hX9]; exact ownsRow_setCell_other (ownsRow_setCell_other HRA.out (a := ⟨X3.heap.size, 0, none⟩) hAN _) (a := ⟨X3.heap.size, 1, none⟩) hAN _), hide (by rw [← hX9]; exact ownsRow_setCell_other (ownsRow_setCell_other HO.out (a := ⟨X3.heap.size, 0, none⟩) hBN _) (a := ⟨X3.heap.size, 1, none⟩) hBN _), (by rw [← hX9]; exact ⟨sc _ (by omega) (sc _ (by omega) (gc hGq (HS0.out.1) (show w.heap.size ≠ g by omega))), sc _ (by omega) (sc _ (by omega) (gc hGq (HS0.out.2.1) (show w.heap.size ≠ g by omega))), sf _ (sf _ (fre_gb (HS0.out.2.2.1) hGq (ne_some (show w.heap.size ≠ g by omega)))), sc _ (by omega) (sc _ (by omega) (gc hGq (HS0.out.2.2.2.1) (show T ≠ g by omega))), sc _ (by omega) (sc _ (by omega) (gc hGq (HS0.out.2.2.2.2.1) (show T ≠ g by omega))), sf _ (sf _ (fre_gb (HS0.out.2.2.2.2.2.1) hGq (ne_some (show T ≠ g by omega)))), sc_off (by omega) (sc_at y0), sc_at (sc_off (by omega) y1), gb_seta (gb_seta (grown_trans (HS0.out.2.2.2.2.2.2) hGq) (show w.heap.size ≤ X3.heap.size by omega) _) (show w.heap.size ≤ X3.heap.size by omega) _⟩)⟩
      (try clear hS)
      (try clear HROW)
      (try clear HCU)
      (try clear hzw)
      obtain ⟨N, K, m2, l2, B, d, rfl, rfl, hTN, hBT, hKb, hl2, HCU, HRA, HRB, hS⟩ := hcut
      have hgr := hS.2.2.2.2.2.2.2.2
      rcases K with _ | _
      · go_wp2_with fail
        go_roundw
        case rel => exact ⟨j, M, L, AL, cL, by omega, by go_num, ⟨M0, by omega⟩, by omega, hLT, hide (HCU.out.more (by omega)), HRA, hS.1, hS.2.1, hS.2.2.1, hS.2.2.2.1, hS.2.2.2.2.1, hS.2.2.2.2.2.1, hgr⟩
        case measure => simp [intOf]
      obtain ⟨k0, k1⟩ := hKb rfl
      have fz : ∀ q, wc.frozen? ⟨T, q, none⟩ = false := (hS.2.2.2.2.2.1).2
      go_wp2_with fail
      go_roundw
      case rel => exact ⟨j, m2, l2, B, d, by omega, by go_num, ⟨k0, by omega⟩, by omega, hBT, hide (((HCU.out.setc hgT _).setc hgT _).more (by omega)), hide (ownsRow_setCell_other (ownsRow_setCell_other HRB.out (a := ⟨T, 0, none⟩) hBT _) (a := ⟨T, 1, none⟩) hBT _), sc _ (by omega) (sc _ (by omega) (hS.1)), sc _ (by omega) (sc _ (by omega) (hS.2.1)), sf _ (sf _ (hS.2.2.1)), sc_off (by omega) (sc_at (hS.2.2.2.1)), sc_at (sc_off (by omega) (hS.2.2.2.2.1)), sf _ (sf _ (hS.2.2.2.2.2.1)), gb_seta (gb_seta hgr (show w.heap.size ≤ T by omega) _) (show w.heap.size ≤ T by omega) _⟩
      case measure => simp [intOf]
    obtain rfl : j = 0 := by omega
    have hgT : g < T := by omega
    have hS8 : Cur wr (g) (k + 260) ∧ wr.cell? ⟨w.heap.size, 0, none⟩ = some (.int .i64 (0)) ∧ wr.cell? ⟨w.heap.size, 1, none⟩ = some (.slice none 0 0) ∧ (w.heap.size < wr.heap.size ∧ ∀ i, wr.frozen? ⟨w.heap.size, i, none⟩ = false) ∧ wr.cell? ⟨T, 0, none⟩ = some (.int .i64 M) ∧ wr.cell? ⟨T, 1, none⟩ = some (.slice AL L.length cL) ∧ (T < wr.heap.size ∧ ∀ i, wr.frozen? ⟨T, i, none⟩ = false) ∧ wr.ownsRow (w.heap.size + 1) 42 10 (.slice AL L.length cL) (L.length) (hds L) ∧ w.grownBy wr (some g) := ⟨HCU.out.more (by omega), hS.1, hS.2.1, hS.2.2.1, hS.2.2.2.1, hS.2.2.2.2.1, hS.2.2.2.2.2.1, HROW.out, hS.2.2.2.2.2.2⟩
    clear hS HROW HCU
    have hS := hS8
    clear hS8
    have hS2 := hS
    obtain ⟨hq0, q0, q1, ⟨f2, fr2⟩, q3, q4, ⟨f5, fr5⟩, q6, hF⟩ := hS2
    have hgl : g < wr.heap.size := hq0.lt
    have hzw : w.heap.size ≤ wr.heap.size := hF.size
    have hz1 : w.heap.size < wr.heap.size := World.block_lt_of_cell? wr _ q0
    have hz2 : T < wr.heap.size := World.block_lt_of_cell? wr _ q3
    go_wp2_with fail
    refine (pick_c (24) (by omega) (g) (k + 260) _ (hide (by repeat' (first | (with_reducible exact hS.1) | (with_reducible refine Cur.drew ?_) | (with_reducible refine Cur.alloc ?_ _) | (with_reducible refine Cur.setc ?_ (by first | omega | (simp; done) | (simp; omega)) _)))) (by omega)).mono ?_
    rintro e w41 ⟨_, rfl, ⟨sw, rfl, sw0, sw1⟩, hcn, hgn⟩
    have hT : Cur w41 (g) (k + 262) ∧ w41.cell? ⟨w.heap.size, 0, none⟩ = some (.int .i64 (0)) ∧ w41.cell? ⟨w.heap.size, 1, none⟩ = some (.slice none 0 0) ∧ (w.heap.size < w41.heap.size ∧ ∀ i, w41.frozen? ⟨w.heap.size, i, none⟩ = false) ∧ w41.cell? ⟨T, 0, none⟩ = some (.int .i64 M) ∧ w41.cell? ⟨T, 1, none⟩ = some (.slice AL L.length cL) ∧ (T < w41.heap.size ∧ ∀ i, w41.frozen? ⟨T, i, none⟩ = false) ∧ w41.ownsRow (w.heap.size + 1) 42 10 (.slice AL L.length cL) (L.length) (hds L) ∧ w.grownBy w41 (some g) := (fun W h hgn => ⟨hcn, hgn.cell (h.2.1) (by intro e; injection e with e; (try dsimp only at e); omega), hgn.cell (h.2.2.1) (by intro e; injection e with e; (try dsimp only at e); omega), fre_gb (h.2.2.2.1) hgn (by intro e; injection e with e; (try dsimp only at e); omega), hgn.cell (h.2.2.2.2.1) (by intro e; injection e with e; (try dsimp only at e); omega), hgn.cell (h.2.2.2.2.2.1) (by intro e; injection e with e; (try dsimp only at e); omega), fre_gb (h.2.2.2.2.2.2.1) hgn (by intro e; injection e with e; (try dsimp only at e); omega), World.ownsRow.kept (h.2.2.2.2.2.2.2.1) hgn (own_far (h.2.2.2.2.2.2.2.1) (by first | omega | (simp; done) | (simp; omega))), grown_trans (h.2.2.2.2.2.2.2.2) hgn⟩ : ∀ W : World, (Cur W (g) (k + 260) ∧ W.cell? ⟨w.heap.size, 0, none⟩ = some (.int .i64 (0)) ∧ W.cell? ⟨w.heap.size, 1, none⟩ = some (.slice none 0 0) ∧ (w.heap.size < W.heap.size ∧ ∀ i, W.frozen? ⟨w.heap.size, i, none⟩ = false) ∧ W.cell? ⟨T, 0, none⟩ = some (.int .i64 M) ∧ W.cell? ⟨T, 1, none⟩ = some (.slice AL L.length cL) ∧ (T < W.heap.size ∧ ∀ i, W.frozen? ⟨T, i, none⟩ = false) ∧ W.ownsRow (w.heap.size + 1) 42 10 (.slice AL L.length cL) (L.length) (hds L) ∧ w.grownBy W (some g)) → W.grownBy w41 (some (g)) → (Cur w41 (g) (k + 262) ∧ w41.cell? ⟨w.heap.size, 0, none⟩ = some (.int .i64 (0)) ∧ w41.cell? ⟨w.heap.size, 1, none⟩ = some (.slice none 0 0) ∧ (w.heap.size < w41.heap.size ∧ ∀ i, w41.frozen? ⟨w.heap.size, i, none⟩ = false) ∧ w41.cell? ⟨T, 0, none⟩ = some (.int .i64 M) ∧ w41.cell? ⟨T, 1, none⟩ = some (.slice AL L.length cL) ∧ (T < w41.heap.size ∧ ∀ i, w41.frozen? ⟨T, i, none⟩ = false) ∧ w41.ownsRow (w.heap.size + 1) 42 10 (.slice AL L.length cL) (L.length) (hds L) ∧ w.grownBy w41 (some g))) _ ⟨(by repeat' (first | (with_reducible exact hS.1) | (with_reducible refine Cur.drew ?_) | (with_reducible refine Cur.alloc ?_ _) | (with_reducible refine Cur.setc ?_ (by first | omega | (simp; done) | (simp; omega)) _))), (by first | (with_reducible assumption) | (simp [go_sem]; done) | ((simp only [go_sem]); (with_reducible assumption)) | ((refine keep_cell ?_ (by with_reducible assumption)); go_grown; done) | (simp [go_sem, *]; done) | (rw [World.cell?_setCell_other _ _ _ _ (by simp; omega)]; with_reducible assumption) | (rw [World.cell?_setCell_other _ _ _ _ (by simp; omega), World.cell?_setCell_other _ _ _ _ (by simp; omega)]; with_reducible assumption)), (by first | (with_reducible assumption) | (simp [go_sem]; done) | ((simp only [go_sem]); (with_reducible assumption)) | ((refine keep_cell ?_ (by with_reducible assumption)); go_grown; done) | (simp [go_sem, *]; done) | (rw [World.cell?_setCell_other _ _ _ _ (by simp; omega)]; with_reducible assumption) | (rw [World.cell?_setCell_other _ _ _ _ (by simp; omega), World.cell?_setCell_other _ _ _ _ (by simp; omega)]; with_reducible assumption)), (by first | (with_reducible assumption) | (simp [go_sem]; done) | (refine keep_fre ?_ ⟨by with_reducible assumption, by with_reducible assumption⟩; go_grown; done) | (simp [go_sem, *]; done)), (by first | (with_reducible assumption) | (simp [go_sem]; done) | ((simp only [go_sem]); (with_reducible assumption)) | ((refine keep_cell ?_ (by with_reducible assumption)); go_grown; done) | (simp [go_sem, *]; done) | (rw [World.cell?_setCell_other _ _ _ _ (by simp; omega)]; with_reducible assumption) | (rw [World.cell?_setCell_other _ _ _ _ (by simp; omega), World.cell?_setCell_other _ _ _ _ (by simp; omega)]; with_reducible assumption)), (by first | (with_reducible assumption) | (simp [go_sem]; done) | ((simp only [go_sem]); (with_reducible assumption)) | ((refine keep_cell ?_ (by with_reducible assumption)); go_grown; done) | (simp [go_sem, *]; done) | (rw [World.cell?_setCell_other _ _ _ _ (by simp; omega)]; with_reducible assumption) | (rw [World.cell?_setCell_other _ _ _ _ (by simp; omega), World.cell?_setCell_other _ _ _ _ (by simp; omega)]; with_reducible assumption)), (by first | (with_reducible assumption) | (simp [go_sem]; done) | (refine keep_fre ?_ ⟨by with_reducible assumption, by with_reducible assumption⟩; go_grown; done) | (simp [go_sem, *]; done)), (by first | (with_reducible assumption) | (exact hS.2.2.2.2.2.2.2.1) | ((refine own_below (by with_reducible assumption) ?_); go_grown)), (by repeat' (first | (with_reducible assumption) | (with_reducible exact gb_refl _ _) | (with_reducible refine gb_drew ?_) | (with_reducible refine gb_alloc ?_ _) | (with_reducible refine gb_seta ?_ (by first | omega | (simp; done) | (simp; omega)) _)))⟩ hgn
    (try clear hS)
    have hS := hT
    clear hT hcn hgn
    have hS2 := hS
    obtain ⟨hq0, q0, q1, ⟨f2, fr2⟩, q3, q4, ⟨f5, fr5⟩, q6, hF⟩ := hS2
    have hgl : g < w41.heap.size := hq0.lt
    have hzw : w.heap.size ≤ w41.heap.size := hF.size
    have hz1 : w.heap.size < w41.heap.size := World.block_lt_of_cell? w41 _ q0
    have hz2 : T < w41.heap.size := World.block_lt_of_cell? w41 _ q3
    by_cases hq : sw = 0
    · subst hq
      go_wp2_with fail
      refine (among_c (-1) (10000) [-1, 9999, 10000, 0] _ _ (g) (k + 262) _ (hide (by repeat' (first | (with_reducible exact hS.1) | (with_reducible refine Cur.drew ?_) | (with_reducible refine Cur.alloc ?_ _) | (with_reducible refine Cur.setc ?_ (by first | omega | (simp; done) | (simp; omega)) _)))) (by omega) (hide (lit_at (by rfl) (by simp))) (by intro e; (try dsimp only at e); omega) ⟨by decide, by decide⟩ (hide (by decide))).mono ?_
      rintro e w42 ⟨_, rfl, ⟨v, rfl, v0, v1⟩, hcn, hgn⟩
      have hT : Cur w42 (g) (k + 264) ∧ w42.cell? ⟨w.heap.size, 0, none⟩ = some (.int .i64 (0)) ∧ w42.cell? ⟨w.heap.size, 1, none⟩ = some (.slice none 0 0) ∧ (w.heap.size < w42.heap.size ∧ ∀ i, w42.frozen? ⟨w.heap.size, i, none⟩ = false) ∧ w42.cell? ⟨T, 0, none⟩ = some (.int .i64 M) ∧ w42.cell? ⟨T, 1, none⟩ = some (.slice AL L.length cL) ∧ (T < w42.heap.size ∧ ∀ i, w42.frozen? ⟨T, i, none⟩ = false) ∧ w42.ownsRow (w.heap.size + 1) 42 10 (.slice AL L.length cL) (L.length) (hds L) ∧ w.grownBy w42 (some g) := (fun W h hgn => ⟨hcn, hgn.cell (h.2.1) (by intro e; injection e with e; (try dsimp only at e); omega), hgn.cell (h.2.2.1) (by intro e; injection e with e; (try dsimp only at e); omega), fre_gb (h.2.2.2.1) hgn (by intro e; injection e with e; (try dsimp only at e); omega), hgn.cell (h.2.2.2.2.1) (by intro e; injection e with e; (try dsimp only at e); omega), hgn.cell (h.2.2.2.2.2.1) (by intro e; injection e with e; (try dsimp only at e); omega), fre_gb (h.2.2.2.2.2.2.1) hgn (by intro e; injection e with e; (try dsimp only at e); omega), World.ownsRow.kept (h.2.2.2.2.2.2.2.1) hgn (own_far (h.2.2.2.2.2.2.2.1) (by first | omega | (simp; done) | (simp; omega))), grown_trans (h.2.2.2.2.2.2.2.2) hgn⟩ : ∀ W : World, (Cur W (g) (k + 262) ∧ W.cell? ⟨w.heap.size, 0, none⟩ = some (.int .i64 (0)) ∧ W.cell? ⟨w.heap.size, 1, none⟩ = some (.slice none 0 0) ∧ (w.heap.size < W.heap.size ∧ ∀ i, W.frozen? ⟨w.heap.size, i, none⟩ = false) ∧ W.cell? ⟨T, 0, none⟩ = some (.int .i64 M) ∧ W.cell? ⟨T, 1, none⟩ = some (.slice AL L.length cL) ∧ (T < W.heap.size ∧ ∀ i, W.frozen? ⟨T, i, none⟩ = false) ∧ W.ownsRow (w.heap.size + 1) 42 10 (.slice AL L.length cL) (L.length) (hds L) ∧ w.grownBy W (some g)) → W.grownBy w42 (some (g)) → (Cur w42 (g) (k + 264) ∧ w42.cell? ⟨w.heap.size, 0, none⟩ = some (.int .i64 (0)) ∧ w42.cell? ⟨w.heap.size, 1, none⟩ = some (.slice none 0 0) ∧ (w.heap.size < w42.heap.size ∧ ∀ i, w42.frozen? ⟨w.heap.size, i, none⟩ = false) ∧ w42.cell? ⟨T, 0, none⟩ = some (.int .i64 M) ∧ w42.cell? ⟨T, 1, none⟩ = some (.slice AL L.length cL) ∧ (T < w42.heap.size ∧ ∀ i, w42.frozen? ⟨T, i, none⟩ = false) ∧ w42.ownsRow (w.heap.size + 1) 42 10 (.slice AL L.length cL) (L.length) (hds L) ∧ w.grownBy w42 (some g))) _ ⟨(by repeat' (first | (with_reducible exact hS.1) | (with_reducible refine Cur.drew ?_) | (with_reducible refine Cur.alloc ?_ _) | (with_reducible refine Cur.setc ?_ (by first | omega | (simp; done) | (simp; omega)) _))), (by first | (with_reducible assumption) | (simp [go_sem]; done) | ((simp only [go_sem]); (with_reducible assumption)) | ((refine keep_cell ?_ (by with_reducible assumption)); go_grown; done) | (simp [go_sem, *]; done) | (rw [World.cell?_setCell_other _ _ _ _ (by simp; omega)]; with_reducible assumption) | (rw [World.cell?_setCell_other _ _ _ _ (by simp; omega), World.cell?_setCell_other _ _ _ _ (by simp; omega)]; with_reducible assumption)), (by first | (with_reducible assumption) | (simp [go_sem]; done) | ((simp only [go_sem]); (with_reducible assumption)) | ((refine keep_cell ?_ (by with_reducible assumption)); go_grown; done) | (simp [go_sem, *]; done) | (rw [World.cell?_setCell_other _ _ _ _ (by simp; omega)]; with_reducible assumption) | (rw [World.cell?_setCell_other _ _ _ _ (by simp; omega), World.cell?_setCell_other _ _ _ _ (by simp; omega)]; with_reducible assumption)), (by first | (with_reducible assumption) | (simp [go_sem]; done) | (refine keep_fre ?_ ⟨by with_reducible assumption, by with_reducible assumption⟩; go_grown; done) | (simp [go_sem, *]; done)), (by first | (with_reducible assumption) | (simp [go_sem]; done) | ((simp only [go_sem]); (with_reducible assumption)) | ((refine keep_cell ?_ (by with_reducible assumption)); go_grown; done) | (simp [go_sem, *]; done) | (rw [World.cell?_setCell_other _ _ _ _ (by simp; omega)]; with_reducible assumption) | (rw [World.cell?_setCell_other _ _ _ _ (by simp; omega), World.cell?_setCell_other _ _ _ _ (by simp; omega)]; with_reducible assumption)), (by first | (with_reducible assumption) | (simp [go_sem]; done) | ((simp only [go_sem]); (with_reducible assumption)) | ((refine keep_cell ?_ (by with_reducible assumption)); go_grown; done) | (simp [go_sem, *]; done) | (rw [World.cell?_setCell_other _ _ _ _ (by simp; omega)]; with_reducible assumption) | (rw [World.cell?_setCell_other _ _ _ _ (by simp; omega), World.cell?_setCell_other _ _ _ _ (by simp; omega)]; with_reducible assumption)), (by first | (with_reducible assumption) | (simp [go_sem]; done) | (refine keep_fre ?_ ⟨by with_reducible assumption, by with_reducible assumption⟩; go_grown; done) | (simp [go_sem, *]; done)), (by first | (with_reducible assumption) | (exact hS.2.2.2.2.2.2.2.1) | ((refine own_below (by with_reducible assumption) ?_); go_grown)), (by repeat' (first | (with_reducible assumption) | (with_reducible exact gb_refl _ _) | (with_reducible refine gb_drew ?_) | (with_reducible refine gb_alloc ?_ _) | (with_reducible refine gb_seta ?_ (by first | omega | (simp; done) | (simp; omega)) _)))⟩ hgn
      (try clear hS)
      have hS := hT
      clear hT hcn hgn
      have hS2 := hS
      obtain ⟨hq0, q0, q1, ⟨f2, fr2⟩, q3, q4, ⟨f5, fr5⟩, q6, hF⟩ := hS2
      have hgl : g < w42.heap.size := hq0.lt
      have hzw : w.heap.size ≤ w42.heap.size := hF.size
      have hz1 : w.heap.size < w42.heap.size := World.block_lt_of_cell? w42 _ q0
      have hz2 : T < w42.heap.size := World.block_lt_of_cell? w42 _ q3
      have y0 := q0
      have y1 := q1
      have yf := fr2
      have x0 := q3
      have x1 := q4
      have xf := fr5
      have hrow := q6
      obtain ⟨XT, hXT⟩ : ∃ X, w42.setCell ⟨T, 0, none⟩ (.int .i64 v) = X := ⟨_, rfl⟩
      have s0 : XT.cell? ⟨w.heap.size, 0, none⟩ = some (.int .i64 0) := by rw [← hXT]; exact sc _ (by omega) y0
      have s1 : XT.cell? ⟨w.heap.size, 1, none⟩ = some (.slice none 0 0) := by rw [← hXT]; exact sc _ (by omega) y1
      have sfr : ∀ q, XT.frozen? ⟨w.heap.size, q, none⟩ = false := by rw [← hXT]; exact (sf _ ⟨by omega, yf⟩).2
      have z0 : XT.cell? ⟨T, 0, none⟩ = some (.int .i64 (v)) := by rw [← hXT]; exact sc_at x0
      have z1 : XT.cell? ⟨T, 1, none⟩ = some (.slice AL L.length cL) := by rw [← hXT]; exact sc_off (by omega) x1
      have hrT := hide (show XT.ownsRow (w.heap.size + 1) 42 10 (.slice AL L.length cL) L.length (hds L) from by rw [← hXT]; exact ownsRow_setCell_other hrow (a := ⟨T, 0, none⟩) hLT _)
      have hcT := hide (show Cur XT g (k + 264) from by rw [← hXT]; exact hq0.setc hgT _)
      have hgT2 := hide (show w.grownBy XT (some g) from by rw [← hXT]; exact gb_seta hF (show w.heap.size ≤ T by omega) _)
      go_upto_region 13 with fail
      (try rw [hXT])
      clear hXT hS x0 x1 y0 y1 hrow q0 q1 q3 q4 q6 hq0 hF
      obtain ⟨_, _, d2, d3⟩ := box2_sets s0 s1 (.int .i64 (v)) (.slice AL L.length cL)
      go_wp2
      refine bodyPost_ret (by simp [results, Try.results53, go_sem, d2, d3]; try rfl) rfl ?_
      exact ⟨_, rfl, ⟨v, L, AL, cL, rfl, own_set (own_set hrT.out (show w.heap.size < w.heap.size + 1 by omega) _) (show w.heap.size < w.heap.size + 1 by omega) _, by omega, by omega, by omega⟩, ((hcT.out.setc hgw _).setc hgw _).more (by omega), gb_seta (gb_seta hgT2.out (Nat.le_refl _) _) (Nat.le_refl _) _⟩
    by_cases hq1 : sw = 1
    · subst hq1
      clear hq
      have hrow := q6
      have hO0 := own_empty (e := 42) (size := 10) (base := T + 1) (H := w41.heap.size) w41 rfl (by omega)
      go_wp2_with (first | (at_builtin; refine wpList_append_any rfl _ _ 24 rfl (T + 1) 42 i0 (hdV nHd) 10 80 Try.underlying24 hi0 iz0 iy0 ix0 rfl (by decide) _ 0 [] rfl hO0 _ AL L.length cL (hds L) rfl (own_reads (own_below hrow (by go_grown))) (fun e => reads_nn (own_reads hrow) e) (hds_one L) (by unfold maxLen; omega) (by omega) (by first | (simp; done) | (simp; omega)) ?_; intro A3 c3 w50 hown hgrow; rw [Nat.zero_add, List.nil_append] at hown; rw [Nat.zero_add]; have hT : Cur w50 (g) (k + 262) ∧ w50.cell? ⟨w.heap.size, 0, none⟩ = some (.int .i64 (0)) ∧ w50.cell? ⟨w.heap.size, 1, none⟩ = some (.slice none 0 0) ∧ (w.heap.size < w50.heap.size ∧ ∀ i, w50.frozen? ⟨w.heap.size, i, none⟩ = false) ∧ w50.cell? ⟨T, 0, none⟩ = some (.int .i64 M) ∧ w50.cell? ⟨T, 1, none⟩ = some (.slice AL L.length cL) ∧ (T < w50.heap.size ∧ ∀ i, w50.frozen? ⟨T, i, none⟩ = false) ∧ w50.ownsRow (T + 1) 42 10 (.slice A3 L.length c3) (L.length) (hds L) ∧ w.grownBy w50 (some g) := ⟨cur_row (hq0.alloc _) hO0 hgrow (show g < T + 1 by omega), own_cell hO0 hgrow (keep_cell (by go_grown) q0) (show w.heap.size < T + 1 by omega), own_cell hO0 hgrow (keep_cell (by go_grown) q1) (show w.heap.size < T + 1 by omega), own_fre hO0 hgrow (keep_fre (by go_grown) (⟨f2, fr2⟩)) (show w.heap.size < T + 1 by omega), own_cell hO0 hgrow (keep_cell (by go_grown) q3) (show T < T + 1 by omega), own_cell hO0 hgrow (keep_cell (by go_grown) q4) (show T < T + 1 by omega), own_fre hO0 hgrow (keep_fre (by go_grown) (⟨f5, fr5⟩)) (show T < T + 1 by omega), hown, gb_row (gb_alloc hF _) hO0 hgrow (show w.heap.size ≤ T + 1 by omega)⟩; clear hS hown hgrow; have hS := hT; clear hT))
      clear hO0 hrow q0 q1 q3 q4 q6 hq0 hF hgl hzw
      (try clear hz1)
      (try clear hz2)
      have hwb : T < w41.heap.size ∧ w.heap.size < w41.heap.size := ⟨by omega, by omega⟩
      obtain ⟨hwb1, hwb2⟩ := hwb
      have hS2 := hS
      obtain ⟨hq0, q0, q1, ⟨f2, fr2⟩, q3, q4, ⟨f5, fr5⟩, q6, hF⟩ := hS2
      have hgl : g < w50.heap.size := hq0.lt
      have hzw : w.heap.size ≤ w50.heap.size := hF.size
      have hz1 : w.heap.size < w50.heap.size := World.block_lt_of_cell? w50 _ q0
      have hz2 : T < w50.heap.size := World.block_lt_of_cell? w50 _ q3
      go_wp2_with fail
      refine (among_c (0) (65536) [0, 65535, 65536] _ _ (g) (k + 262) _ (hide (by repeat' (first | (with_reducible exact hS.1) | (with_reducible refine Cur.drew ?_) | (with_reducible refine Cur.alloc ?_ _) | (with_reducible refine Cur.setc ?_ (by first | omega | (simp; done) | (simp; omega)) _)))) (by omega) (hide (lit_at (by rfl) (by simp))) (by intro e; (try dsimp only at e); omega) ⟨by decide, by decide⟩ (hide (by decide))).mono ?_
      rintro e w51 ⟨_, rfl, ⟨a9, rfl, a90, a91⟩, hcn, hgn⟩
      have hT : Cur w51 (g) (k + 264) ∧ w51.cell? ⟨w.heap.size, 0, none⟩ = some (.int .i64 (0)) ∧ w51.cell? ⟨w.heap.size, 1, none⟩ = some (.slice none 0 0) ∧ (w.heap.size < w51.heap.size ∧ ∀ i, w51.frozen? ⟨w.heap.size, i, none⟩ = false) ∧ w51.cell? ⟨T, 0, none⟩ = some (.int .i64 M) ∧ w51.cell? ⟨T, 1, none⟩ = some (.slice AL L.length cL) ∧ (T < w51.heap.size ∧ ∀ i, w51.frozen? ⟨T, i, none⟩ = false) ∧ w51.ownsRow (T + 1) 42 10 (.slice A3 L.length c3) (L.length) (hds L) ∧ w.grownBy w51 (some g) := (fun W h hgn => ⟨hcn, hgn.cell (h.2.1) (by intro e; injection e with e; (try dsimp only at e); omega), hgn.cell (h.2.2.1) (by intro e; injection e with e; (try dsimp only at e); omega), fre_gb (h.2.2.2.1) hgn (by intro e; injection e with e; (try dsimp only at e); omega), hgn.cell (h.2.2.2.2.1) (by intro e; injection e with e; (try dsimp only at e); omega), hgn.cell (h.2.2.2.2.2.1) (by intro e; injection e with e; (try dsimp only at e); omega), fre_gb (h.2.2.2.2.2.2.1) hgn (by intro e; injection e with e; (try dsimp only at e); omega), World.ownsRow.kept (h.2.2.2.2.2.2.2.1) hgn (own_far (h.2.2.2.2.2.2.2.1) (by first | omega | (simp; done) | (simp; omega))), grown_trans (h.2.2.2.2.2.2.2.2) hgn⟩ : ∀ W : World, (Cur W (g) (k + 262) ∧ W.cell? ⟨w.heap.size, 0, none⟩ = some (.int .i64 (0)) ∧ W.cell? ⟨w.heap.size, 1, none⟩ = some (.slice none 0 0) ∧ (w.heap.size < W.heap.size ∧ ∀ i, W.frozen? ⟨w.heap.size, i, none⟩ = false) ∧ W.cell? ⟨T, 0, none⟩ = some (.int .i64 M) ∧ W.cell? ⟨T, 1, none⟩ = some (.slice AL L.length cL) ∧ (T < W.heap.size ∧ ∀ i, W.frozen? ⟨T, i, none⟩ = false) ∧ W.ownsRow (T + 1) 42 10 (.slice A3 L.length c3) (L.length) (hds L) ∧ w.grownBy W (some g)) → W.grownBy w51 (some (g)) → (Cur w51 (g) (k + 264) ∧ w51.cell? ⟨w.heap.size, 0, none⟩ = some (.int .i64 (0)) ∧ w51.cell? ⟨w.heap.size, 1, none⟩ = some (.slice none 0 0) ∧ (w.heap.size < w51.heap.size ∧ ∀ i, w51.frozen? ⟨w.heap.size, i, none⟩ = false) ∧ w51.cell? ⟨T, 0, none⟩ = some (.int .i64 M) ∧ w51.cell? ⟨T, 1, none⟩ = some (.slice AL L.length cL) ∧ (T < w51.heap.size ∧ ∀ i, w51.frozen? ⟨T, i, none⟩ = false) ∧ w51.ownsRow (T + 1) 42 10 (.slice A3 L.length c3) (L.length) (hds L) ∧ w.grownBy w51 (some g))) _ ⟨(by repeat' (first | (with_reducible exact hS.1) | (with_reducible refine Cur.drew ?_) | (with_reducible refine Cur.alloc ?_ _) | (with_reducible refine Cur.setc ?_ (by first | omega | (simp; done) | (simp; omega)) _))), (by first | (with_reducible assumption) | (simp [go_sem]; done) | ((simp only [go_sem]); (with_reducible assumption)) | ((refine keep_cell ?_ (by with_reducible assumption)); go_grown; done) | (simp [go_sem, *]; done) | (rw [World.cell?_setCell_other _ _ _ _ (by simp; omega)]; with_reducible assumption) | (rw [World.cell?_setCell_other _ _ _ _ (by simp; omega), World.cell?_setCell_other _ _ _ _ (by simp; omega)]; with_reducible assumption)), (by first | (with_reducible assumption) | (simp [go_sem]; done) | ((simp only [go_sem]); (with_reducible assumption)) | ((refine keep_cell ?_ (by with_reducible assumption)); go_grown; done) | (simp [go_sem, *]; done) | (rw [World.cell?_setCell_other _ _ _ _ (by simp; omega)]; with_reducible assumption) | (rw [World.cell?_setCell_other _ _ _ _ (by simp; omega), World.cell?_setCell_other _ _ _ _ (by simp; omega)]; with_reducible assumption)), (by first | (with_reducible assumption) | (simp [go_sem]; done) | (refine keep_fre ?_ ⟨by with_reducible assumption, by with_reducible assumption⟩; go_grown; done) | (simp [go_sem, *]; done)), (by first | (with_reducible assumption) | (simp [go_sem]; done) | ((simp only [go_sem]); (with_reducible assumption)) | ((refine keep_cell ?_ (by with_reducible assumption)); go_grown; done) | (simp [go_sem, *]; done) | (rw [World.cell?_setCell_other _ _ _ _ (by simp; omega)]; with_reducible assumption) | (rw [World.cell?_setCell_other _ _ _ _ (by simp; omega), World.cell?_setCell_other _ _ _ _ (by simp; omega)]; with_reducible assumption)), (by first | (with_reducible assumption) | (simp [go_sem]; done) | ((simp only [go_sem]); (with_reducible assumption)) | ((refine keep_cell ?_ (by with_reducible assumption)); go_grown; done) | (simp [go_sem, *]; done) | (rw [World.cell?_setCell_other _ _ _ _ (by simp; omega)]; with_reducible assumption) | (rw [World.cell?_setCell_other _ _ _ _ (by simp; omega), World.cell?_setCell_other _ _ _ _ (by simp; omega)]; with_reducible assumption)), (by first | (with_reducible assumption) | (simp [go_sem]; done) | (refine keep_fre ?_ ⟨by with_reducible assumption, by with_reducible assumption⟩; go_grown; done) | (simp [go_sem, *]; done)), (by first | (with_reducible assumption) | (exact hS.2.2.2.2.2.2.2.1) | ((refine own_below (by with_reducible assumption) ?_); go_grown)), (by repeat' (first | (with_reducible assumption) | (with_reducible exact gb_refl _ _) | (with_reducible refine gb_drew ?_) | (with_reducible refine gb_alloc ?_ _) | (with_reducible refine gb_seta ?_ (by first | omega | (simp; done) | (simp; omega)) _)))⟩ hgn
      (try clear hS)
      have hS := hT
      clear hT hcn hgn
      have hS2 := hS
      obtain ⟨hq0, q0, q1, ⟨f2, fr2⟩, q3, q4, ⟨f5, fr5⟩, q6, hF⟩ := hS2
      have hgl : g < w51.heap.size := hq0.lt
      have hzw : w.heap.size ≤ w51.heap.size := hF.size
      have hz1 : w.heap.size < w51.heap.size := World.block_lt_of_cell? w51 _ q0
      have hz2 : T < w51.heap.size := World.block_lt_of_cell? w51 _ q3
      go_wp2_with fail
      refine (pick_c (3) (by omega) (g) (k + 264) _ (hide (by repeat' (first | (with_reducible exact hS.1) | (with_reducible refine Cur.drew ?_) | (with_reducible refine Cur.alloc ?_ _) | (with_reducible refine Cur.setc ?_ (by first | omega | (simp; done) | (simp; omega)) _)))) (by omega)).mono ?_
      rintro e w52 ⟨_, rfl, ⟨p9, rfl, p90, p91⟩, hcn, hgn⟩
      have hT : Cur w52 (g) (k + 266) ∧ w52.cell? ⟨w.heap.size, 0, none⟩ = some (.int .i64 (0)) ∧ w52.cell? ⟨w.heap.size, 1, none⟩ = some (.slice none 0 0) ∧ (w.heap.size < w52.heap.size ∧ ∀ i, w52.frozen? ⟨w.heap.size, i, none⟩ = false) ∧ w52.cell? ⟨T, 0, none⟩ = some (.int .i64 M) ∧ w52.cell? ⟨T, 1, none⟩ = some (.slice AL L.length cL) ∧ (T < w52.heap.size ∧ ∀ i, w52.frozen? ⟨T, i, none⟩ = false) ∧ w52.ownsRow (T + 1) 42 10 (.slice A3 L.length c3) (L.length) (hds L) ∧ w.grownBy w52 (some g) := (fun W h hgn => ⟨hcn, hgn.cell (h.2.1) (by intro e; injection e with e; (try dsimp only at e); omega), hgn.cell (h.2.2.1) (by intro e; injection e with e; (try dsimp only at e); omega), fre_gb (h.2.2.2.1) hgn (by intro e; injection e with e; (try dsimp only at e); omega), hgn.cell (h.2.2.2.2.1) (by intro e; injection e with e; (try dsimp only at e); omega), hgn.cell (h.2.2.2.2.2.1) (by intro e; injection e with e; (try dsimp only at e); omega), fre_gb (h.2.2.2.2.2.2.1) hgn (by intro e; injection e with e; (try dsimp only at e); omega), World.ownsRow.kept (h.2.2.2.2.2.2.2.1) hgn (own_far (h.2.2.2.2.2.2.2.1) (by first | omega | (simp; done) | (simp; omega))), grown_trans (h.2.2.2.2.2.2.2.2) hgn⟩ : ∀ W : World, (Cur W (g) (k + 264) ∧ W.cell? ⟨w.heap.size, 0, none⟩ = some (.int .i64 (0)) ∧ W.cell? ⟨w.heap.size, 1, none⟩ = some (.slice none 0 0) ∧ (w.heap.size < W.heap.size ∧ ∀ i, W.frozen? ⟨w.heap.size, i, none⟩ = false) ∧ W.cell? ⟨T, 0, none⟩ = some (.int .i64 M) ∧ W.cell? ⟨T, 1, none⟩ = some (.slice AL L.length cL) ∧ (T < W.heap.size ∧ ∀ i, W.frozen? ⟨T, i, none⟩ = false) ∧ W.ownsRow (T + 1) 42 10 (.slice A3 L.length c3) (L.length) (hds L) ∧ w.grownBy W (some g)) → W.grownBy w52 (some (g)) → (Cur w52 (g) (k + 266) ∧ w52.cell? ⟨w.heap.size, 0, none⟩ = some (.int .i64 (0)) ∧ w52.cell? ⟨w.heap.size, 1, none⟩ = some (.slice none 0 0) ∧ (w.heap.size < w52.heap.size ∧ ∀ i, w52.frozen? ⟨w.heap.size, i, none⟩ = false) ∧ w52.cell? ⟨T, 0, none⟩ = some (.int .i64 M) ∧ w52.cell? ⟨T, 1, none⟩ = some (.slice AL L.length cL) ∧ (T < w52.heap.size ∧ ∀ i, w52.frozen? ⟨T, i, none⟩ = false) ∧ w52.ownsRow (T + 1) 42 10 (.slice A3 L.length c3) (L.length) (hds L) ∧ w.grownBy w52 (some g))) _ ⟨(by repeat' (first | (with_reducible exact hS.1) | (with_reducible refine Cur.drew ?_) | (with_reducible refine Cur.alloc ?_ _) | (with_reducible refine Cur.setc ?_ (by first | omega | (simp; done) | (simp; omega)) _))), (by first | (with_reducible assumption) | (simp [go_sem]; done) | ((simp only [go_sem]); (with_reducible assumption)) | ((refine keep_cell ?_ (by with_reducible assumption)); go_grown; done) | (simp [go_sem, *]; done) | (rw [World.cell?_setCell_other _ _ _ _ (by simp; omega)]; with_reducible assumption) | (rw [World.cell?_setCell_other _ _ _ _ (by simp; omega), World.cell?_setCell_other _ _ _ _ (by simp; omega)]; with_reducible assumption)), (by first | (with_reducible assumption) | (simp [go_sem]; done) | ((simp only [go_sem]); (with_reducible assumption)) | ((refine keep_cell ?_ (by with_reducible assumption)); go_grown; done) | (simp [go_sem, *]; done) | (rw [World.cell?_setCell_other _ _ _ _ (by simp; omega)]; with_reducible assumption) | (rw [World.cell?_setCell_other _ _ _ _ (by simp; omega), World.cell?_setCell_other _ _ _ _ (by simp; omega)]; with_reducible assumption)), (by first | (with_reducible assumption) | (simp [go_sem]; done) | (refine keep_fre ?_ ⟨by with_reducible assumption, by with_reducible assumption⟩; go_grown; done) | (simp [go_sem, *]; done)), (by first | (with_reducible assumption) | (simp [go_sem]; done) | ((simp only [go_sem]); (with_reducible assumption)) | ((refine keep_cell ?_ (by with_reducible assumption)); go_grown; done) | (simp [go_sem, *]; done) | (rw [World.cell?_setCell_other _ _ _ _ (by simp; omega)]; with_reducible assumption) | (rw [World.cell?_setCell_other _ _ _ _ (by simp; omega), World.cell?_setCell_other _ _ _ _ (by simp; omega)]; with_reducible assumption)), (by first | (with_reducible assumption) | (simp [go_sem]; done) | ((simp only [go_sem]); (with_reducible assumption)) | ((refine keep_cell ?_ (by with_reducible assumption)); go_grown; done) | (simp [go_sem, *]; done) | (rw [World.cell?_setCell_other _ _ _ _ (by simp; omega)]; with_reducible assumption) | (rw [World.cell?_setCell_other _ _ _ _ (by simp; omega), World.cell?_setCell_other _ _ _ _ (by simp; omega)]; with_reducible assumption)), (by first | (with_reducible assumption) | (simp [go_sem]; done) | (refine keep_fre ?_ ⟨by with_reducible assumption, by with_reducible assumption⟩; go_grown; done) | (simp [go_sem, *]; done)), (by first | (with_reducible assumption) | (exact hS.2.2.2.2.2.2.2.1) | ((refine own_below (by with_reducible assumption) ?_); go_grown)), (by repeat' (first | (with_reducible assumption) | (with_reducible exact gb_refl _ _) | (with_reducible refine gb_drew ?_) | (with_reducible refine gb_alloc ?_ _) | (with_reducible refine gb_seta ?_ (by first | omega | (simp; done) | (simp; omega)) _)))⟩ hgn
      (try clear hS)
      have hS := hT
      clear hT hcn hgn
      have hS2 := hS
      obtain ⟨hq0, q0, q1, ⟨f2, fr2⟩, q3, q4, ⟨f5, fr5⟩, q6, hF⟩ := hS2
      have hgl : g < w52.heap.size := hq0.lt
      have hzw : w.heap.size ≤ w52.heap.size := hF.size
      have hz1 : w.heap.size < w52.heap.size := World.block_lt_of_cell? w52 _ q0
      have hz2 : T < w52.heap.size := World.block_lt_of_cell? w52 _ q3
      have ewp : IntKind.i64.wrap (p9 - 1) = p9 - 1 := IntWalk.i64_in _ (by omega)
      go_wp2_with fail
      refine (pick_c (3) (by omega) (g) (k + 266) _ (hide (by repeat' (first | (with_reducible exact hS.1) | (with_reducible refine Cur.drew ?_) | (with_reducible refine Cur.alloc ?_ _) | (with_reducible refine Cur.setc ?_ (by first | omega | (simp; done) | (simp; omega)) _)))) (by omega)).mono ?_
      rintro e w53 ⟨_, rfl, ⟨f9, rfl, f90, f91⟩, hcn, hgn⟩
      have hT : Cur w53 (g) (k + 268) ∧ w53.cell? ⟨w.heap.size, 0, none⟩ = some (.int .i64 (0)) ∧ w53.cell? ⟨w.heap.size, 1, none⟩ = some (.slice none 0 0) ∧ (w.heap.size < w53.heap.size ∧ ∀ i, w53.frozen? ⟨w.heap.size, i, none⟩ = false) ∧ w53.cell? ⟨T, 0, none⟩ = some (.int .i64 M) ∧ w53.cell? ⟨T, 1, none⟩ = some (.slice AL L.length cL) ∧ (T < w53.heap.size ∧ ∀ i, w53.frozen? ⟨T, i, none⟩ = false) ∧ w53.ownsRow (T + 1) 42 10 (.slice A3 L.length c3) (L.length) (hds L) ∧ w.grownBy w53 (some g) := (fun W h hgn => ⟨hcn, hgn.cell (h.2.1) (by intro e; injection e with e; (try dsimp only at e); omega), hgn.cell (h.2.2.1) (by intro e; injection e with e; (try dsimp only at e); omega), fre_gb (h.2.2.2.1) hgn (by intro e; injection e with e; (try dsimp only at e); omega), hgn.cell (h.2.2.2.2.1) (by intro e; injection e with e; (try dsimp only at e); omega), hgn.cell (h.2.2.2.2.2.1) (by intro e; injection e with e; (try dsimp only at e); omega), fre_gb (h.2.2.2.2.2.2.1) hgn (by intro e; injection e with e; (try dsimp only at e); omega), World.ownsRow.kept (h.2.2.2.2.2.2.2.1) hgn (own_far (h.2.2.2.2.2.2.2.1) (by first | omega | (simp; done) | (simp; omega))), grown_trans (h.2.2.2.2.2.2.2.2) hgn⟩ : ∀ W : World, (Cur W (g) (k + 266) ∧ W.cell? ⟨w.heap.size, 0, none⟩ = some (.int .i64 (0)) ∧ W.cell? ⟨w.heap.size, 1, none⟩ = some (.slice none 0 0) ∧ (w.heap.size < W.heap.size ∧ ∀ i, W.frozen? ⟨w.heap.size, i, none⟩ = false) ∧ W.cell? ⟨T, 0, none⟩ = some (.int .i64 M) ∧ W.cell? ⟨T, 1, none⟩ = some (.slice AL L.length cL) ∧ (T < W.heap.size ∧ ∀ i, W.frozen? ⟨T, i, none⟩ = false) ∧ W.ownsRow (T + 1) 42 10 (.slice A3 L.length c3) (L.length) (hds L) ∧ w.grownBy W (some g)) → W.grownBy w53 (some (g)) → (Cur w53 (g) (k + 268) ∧ w53.cell? ⟨w.heap.size, 0, none⟩ = some (.int .i64 (0)) ∧ w53.cell? ⟨w.heap.size, 1, none⟩ = some (.slice none 0 0) ∧ (w.heap.size < w53.heap.size ∧ ∀ i, w53.frozen? ⟨w.heap.size, i, none⟩ = false) ∧ w53.cell? ⟨T, 0, none⟩ = some (.int .i64 M) ∧ w53.cell? ⟨T, 1, none⟩ = some (.slice AL L.length cL) ∧ (T < w53.heap.size ∧ ∀ i, w53.frozen? ⟨T, i, none⟩ = false) ∧ w53.ownsRow (T + 1) 42 10 (.slice A3 L.length c3) (L.length) (hds L) ∧ w.grownBy w53 (some g))) _ ⟨(by repeat' (first | (with_reducible exact hS.1) | (with_reducible refine Cur.drew ?_) | (with_reducible refine Cur.alloc ?_ _) | (with_reducible refine Cur.setc ?_ (by first | omega | (simp; done) | (simp; omega)) _))), (by first | (with_reducible assumption) | (simp [go_sem]; done) | ((simp only [go_sem]); (with_reducible assumption)) | ((refine keep_cell ?_ (by with_reducible assumption)); go_grown; done) | (simp [go_sem, *]; done) | (rw [World.cell?_setCell_other _ _ _ _ (by simp; omega)]; with_reducible assumption) | (rw [World.cell?_setCell_other _ _ _ _ (by simp; omega), World.cell?_setCell_other _ _ _ _ (by simp; omega)]; with_reducible assumption)), (by first | (with_reducible assumption) | (simp [go_sem]; done) | ((simp only [go_sem]); (with_reducible assumption)) | ((refine keep_cell ?_ (by with_reducible assumption)); go_grown; done) | (simp [go_sem, *]; done) | (rw [World.cell?_setCell_other _ _ _ _ (by simp; omega)]; with_reducible assumption) | (rw [World.cell?_setCell_other _ _ _ _ (by simp; omega), World.cell?_setCell_other _ _ _ _ (by simp; omega)]; with_reducible assumption)), (by first | (with_reducible assumption) | (simp [go_sem]; done) | (refine keep_fre ?_ ⟨by with_reducible assumption, by with_reducible assumption⟩; go_grown; done) | (simp [go_sem, *]; done)), (by first | (with_reducible assumption) | (simp [go_sem]; done) | ((simp only [go_sem]); (with_reducible assumption)) | ((refine keep_cell ?_ (by with_reducible assumption)); go_grown; done) | (simp [go_sem, *]; done) | (rw [World.cell?_setCell_other _ _ _ _ (by simp; omega)]; with_reducible assumption) | (rw [World.cell?_setCell_other _ _ _ _ (by simp; omega), World.cell?_setCell_other _ _ _ _ (by simp; omega)]; with_reducible assumption)), (by first | (with_reducible assumption) | (simp [go_sem]; done) | ((simp only [go_sem]); (with_reducible assumption)) | ((refine keep_cell ?_ (by with_reducible assumption)); go_grown; done) | (simp [go_sem, *]; done) | (rw [World.cell?_setCell_other _ _ _ _ (by simp; omega)]; with_reducible assumption) | (rw [World.cell?_setCell_other _ _ _ _ (by simp; omega), World.cell?_setCell_other _ _ _ _ (by simp; omega)]; with_reducible assumption)), (by first | (with_reducible assumption) | (simp [go_sem]; done) | (refine keep_fre ?_ ⟨by with_reducible assumption, by with_reducible assumption⟩; go_grown; done) | (simp [go_sem, *]; done)), (by first | (with_reducible assumption) | (exact hS.2.2.2.2.2.2.2.1) | ((refine own_below (by with_reducible assumption) ?_); go_grown)), (by repeat' (first | (with_reducible assumption) | (with_reducible exact gb_refl _ _) | (with_reducible refine gb_drew ?_) | (with_reducible refine gb_alloc ?_ _) | (with_reducible refine gb_seta ?_ (by first | omega | (simp; done) | (simp; omega)) _)))⟩ hgn
      (try clear hS)
      have hS := hT
      clear hT hcn hgn
      have hS2 := hS
      obtain ⟨hq0, q0, q1, ⟨f2, fr2⟩, q3, q4, ⟨f5, fr5⟩, q6, hF⟩ := hS2
      have hgl : g < w53.heap.size := hq0.lt
      have hzw : w.heap.size ≤ w53.heap.size := hF.size
      have hz1 : w.heap.size < w53.heap.size := World.block_lt_of_cell? w53 _ q0
      have hz2 : T < w53.heap.size := World.block_lt_of_cell? w53 _ q3
      have hrow := q6
      go_wp2_with (first | (at_builtin; refine wpList_append_lies _ rfl _ _ 24 rfl (T + 1) 42 i0 (hdV nHd) 10 80 Try.underlying24 hi0 iz0 iy0 ix0 rfl (by decide) _ (L.length) _ rfl (own_below hrow (by go_grown)) ⟨w53.heap.size, 0, none⟩ 1 1 [.int .i64 a9, .bool false, .int .i64 0, .int .i64 0, .int .i64 (-1), .bool false, .int .i64 0, .int .i64 0, .int .i64 (p9 - 1), .int .i64 f9] rfl rfl (news_ten (by simp [go_sem]) (by simp [go_sem]) (by simp [go_sem]) (by simp [go_sem]) (by simp [go_sem]) (by simp [go_sem]) (by simp [go_sem]) (by simp [go_sem]) (by simp [go_sem]) (by simp [go_sem])) (one_ten rfl rfl rfl rfl rfl rfl rfl rfl rfl rfl) (by decide) (by unfold maxLen; omega) (by omega) (by first | (simp [go_sem]; done) | (simp [go_sem]; omega)) _ rfl ?_; intro g3 cap3 w60 hown5 hgrow hold _; have hg3 : T + 1 ≤ g3 := (hown5.lt g3 rfl).1; have hT : Cur w60 (g) (k + 268) ∧ w60.cell? ⟨w.heap.size, 0, none⟩ = some (.int .i64 (0)) ∧ w60.cell? ⟨w.heap.size, 1, none⟩ = some (.slice none 0 0) ∧ (w.heap.size < w60.heap.size ∧ ∀ i, w60.frozen? ⟨w.heap.size, i, none⟩ = false) ∧ w60.cell? ⟨T, 0, none⟩ = some (.int .i64 M) ∧ w60.cell? ⟨T, 1, none⟩ = some (.slice AL L.length cL) ∧ (T < w60.heap.size ∧ ∀ i, w60.frozen? ⟨T, i, none⟩ = false) ∧ w60.ownsRow (w.heap.size + 1) 42 10 (.slice (some ⟨g3, 0, none⟩) (L.length + 1) cap3) ((L.length + 1)) (hds (L ++ [(a9, (false, 0, 0), -1, (false, 0, 0), p9 - 1, f9)])) ∧ w.grownBy w60 (some g) := ⟨cur_row (hq0.alloc _) (own_below hrow (by go_grown)) hgrow (show g < T + 1 by omega), own_cell (own_below hrow (by go_grown)) hgrow (keep_cell (by go_grown) q0) (show w.heap.size < T + 1 by omega), own_cell (own_below hrow (by go_grown)) hgrow (keep_cell (by go_grown) q1) (show w.heap.size < T + 1 by omega), own_fre (own_below hrow (by go_grown)) hgrow (keep_fre (by go_grown) (⟨f2, fr2⟩)) (show w.heap.size < T + 1 by omega), own_cell (own_below hrow (by go_grown)) hgrow (keep_cell (by go_grown) q3) (show T < T + 1 by omega), own_cell (own_below hrow (by go_grown)) hgrow (keep_cell (by go_grown) q4) (show T < T + 1 by omega), own_fre (own_below hrow (by go_grown)) hgrow (keep_fre (by go_grown) (⟨f5, fr5⟩)) (show T < T + 1 by omega), (by rw [hds_snoc]; exact own_mono hown5 (show w.heap.size + 1 ≤ T + 1 by omega)), gb_row (gb_alloc hF _) (own_below hrow (by go_grown)) hgrow (show w.heap.size ≤ T + 1 by omega)⟩; clear hS hown5 hgrow hold; have hS := hT; clear hT))
      clear hrow q0 q1 q3 q4 q6 hq0 hF hgl hzw
      (try clear hz1)
      (try clear hz2)
      have hS2 := hS
      obtain ⟨hq0, q0, q1, ⟨f2, fr2⟩, q3, q4, ⟨f5, fr5⟩, q6, hF⟩ := hS2
      have hgl : g < w60.heap.size := hq0.lt
      have hzw : w.heap.size ≤ w60.heap.size := hF.size
      have hz1 : w.heap.size < w60.heap.size := World.block_lt_of_cell? w60 _ q0
      have hz2 : T < w60.heap.size := World.block_lt_of_cell? w60 _ q3
      have hg3T : g3 ≠ T := by omega
      have HSN := hide (show (L ++ [(a9, (false, 0, 0), -1, (false, 0, 0), p9 - 1, f9)]).length = L.length + 1 from by simp)
      have y0 := q0
      have y1 := q1
      have yf := fr2
      have x0 := q3
      have x1 := q4
      have xf := fr5
      have hrow := q6
      obtain ⟨XT, hXT⟩ : ∃ X, w60.setCell ⟨T, 1, none⟩ (.slice (some ⟨g3, 0, none⟩) (L.length + 1) cap3) = X := ⟨_, rfl⟩
      have s0 : XT.cell? ⟨w.heap.size, 0, none⟩ = some (.int .i64 0) := by rw [← hXT]; exact sc _ (by omega) y0
      have s1 : XT.cell? ⟨w.heap.size, 1, none⟩ = some (.slice none 0 0) := by rw [← hXT]; exact sc _ (by omega) y1
      have sfr : ∀ q, XT.frozen? ⟨w.heap.size, q, none⟩ = false := by rw [← hXT]; exact (sf _ ⟨by omega, yf⟩).2
      have z0 : XT.cell? ⟨T, 0, none⟩ = some (.int .i64 (M)) := by rw [← hXT]; exact sc_off (by omega) x0
      have z1 : XT.cell? ⟨T, 1, none⟩ = some (.slice (some ⟨g3, 0, none⟩) (L.length + 1) cap3) := by rw [← hXT]; exact sc_at x1
      have hrT := hide (show XT.ownsRow (w.heap.size + 1) 42 10 (.slice (some ⟨g3, 0, none⟩) (L.length + 1) cap3) (L.length + 1) (hds (L ++ [(a9, (false, 0, 0), -1, (false, 0, 0), p9 - 1, f9)])) from by rw [← hXT]; exact ownsRow_setCell_other hrow (a := ⟨T, 1, none⟩) (fun e => hg3T (Option.some.inj e)) _)
      have hcT := hide (show Cur XT g (k + 268) from by rw [← hXT]; exact hq0.setc hgT _)
      have hgT2 := hide (show w.grownBy XT (some g) from by rw [← hXT]; exact gb_seta hF (show w.heap.size ≤ T by omega) _)
      go_upto_region 13 with fail
      (try rw [hXT])
      clear hXT hS x0 x1 y0 y1 hrow q0 q1 q3 q4 q6 hq0 hF
      obtain ⟨_, _, d2, d3⟩ := box2_sets s0 s1 (.int .i64 (M)) (.slice (some ⟨g3, 0, none⟩) (L.length + 1) cap3)
      go_wp2
      refine bodyPost_ret (by simp [results, Try.results53, go_sem, d2, d3]; try rfl) rfl ?_
      exact ⟨_, rfl, ⟨M, (L ++ [(a9, (false, 0, 0), -1, (false, 0, 0), p9 - 1, f9)]), (some ⟨g3, 0, none⟩), cap3, by rw [HSN.out], by rw [HSN.out]; exact own_set (own_set hrT.out (show w.heap.size < w.heap.size + 1 by omega) _) (show w.heap.size < w.heap.size + 1 by omega) _, by rw [HSN.out]; omega, by omega, by omega⟩, ((hcT.out.setc hgw _).setc hgw _).more (by omega), gb_seta (gb_seta hgT2.out (Nat.le_refl _) _) (Nat.le_refl _) _⟩
    have hb0 : (sw == 0) = false := beq_false_of_ne hq
    have hb1 : (sw == 1) = false := beq_false_of_ne hq1
    clear hq hq1
    have y0 := q0
    have y1 := q1
    have yf := fr2
    have x0 := q3
    have x1 := q4
    have xf := fr5
    have hrow := q6
    have s0 := y0
    have s1 := y1
    have sfr := yf
    have z0 := x0
    have z1 := x1
    have hrT := hide hrow
    have hcT := hide hq0
    have hgT2 := hide hF
    go_upto_region 13 with fail
    clear hS y0 y1 x0 x1 hrow q0 q1 q3 q4 q6 hq0 hF
    obtain ⟨_, _, d2, d3⟩ := box2_sets s0 s1 (.int .i64 (M)) (.slice AL L.length cL)
    go_wp2
    refine bodyPost_ret (by simp [results, Try.results53, go_sem, d2, d3]; try rfl) rfl ?_
    exact ⟨_, rfl, ⟨M, L, AL, cL, rfl, own_set (own_set hrT.out (show w.heap.size < w.heap.size + 1 by omega) _) (show w.heap.size < w.heap.size + 1 by omega) _, by omega, by omega, by omega⟩, ((hcT.out.setc hgw _).setc hgw _).more (by omega), gb_seta (gb_seta hgT2.out (Nat.le_refl _) _) (Nat.le_refl _) _⟩
end Go.Proofs.Ytbeojfhakmbacaa
