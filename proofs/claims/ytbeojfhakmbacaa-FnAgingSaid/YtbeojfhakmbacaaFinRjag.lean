/- What is proved here is used by the law below: contracts of functions and plain lemmas (part 7 of 17). Their conditions stand in each. -/
import Derived.Deep.DeepCutAuto
import Derived.Test.YtbeojfhakmbacaaFinRjaa
import Derived.Test.YtbeojfhakmbacaaFinRjac
import Derived.Test.YtbeojfhakmbacaaFinRjaf
namespace Go.Proofs.Ytbeojfhakmbacaa
open Go.RowKit
set_option maxRecDepth 100000 in
set_option maxHeartbeats 40000000 in
theorem received_c (m : Int) (A : Option Addr) (c : Nat) (l : List Hd) (s : ByteArray) (t : Int) (w : World) (h1 : Hid (Reads w w.heap.size 10 A l.length (hds l))) (b1 : l.length ≤ 4000000) (ho : okR m l = true) (hmax : s.size ≤ 1000000000000)  : Calls Try.prog 56 #[.agg #[.int .i64 m, .slice A l.length c], .string s, .int .i64 t] w (GivesS w 42 10 (rvV m l s t).length (hds (rvV m l s t)) (fun v => .tuple #[.agg #[.int .i64 (rvM m l s t), v], .bool (rvK m l s t)])) := by
  obtain ⟨hm0, h6, _⟩ := okR_iff ho
  obtain ⟨m0, m1⟩ := wi_iff.1 hm0
  clear hm0
  have HOK := hide ho
  clear ho
  obtain ⟨Kd, h9⟩ : ∃ q, rfKd s = q := ⟨_, rfl⟩
  have HKD := hide h9
  clear h9
  obtain ⟨Ad, h9⟩ : ∃ q, rfAd s = q := ⟨_, rfl⟩
  have HAD := hide h9
  clear h9
  obtain ⟨Dt, h9⟩ : ∃ q, rfDt s = q := ⟨_, rfl⟩
  have HDT := hide h9
  clear h9
  obtain ⟨FI, h9⟩ : ∃ q, rfI s = q := ⟨_, rfl⟩
  have HFI := hide h9
  clear h9
  rcases kf : rfK s with _ | _
  · have HF := hide (rv_no (m := m) (l := l) (s := s) (t := t) (by unfold rvK; rw [kf]; rfl))
    go_enter Try.func56, Try.ntmps56
    go_wp2_with (first | (go_at_call 20; refine (repairFrame_c s hmax _).mono ?_; rw [HKD.out, HAD.out, HDT.out, HFI.out, kf]; rintro e w1 ⟨rfl, hb⟩; have hT : w1.cell? ⟨w.heap.size, 0, none⟩ = some (.int .i64 m) ∧ w1.cell? ⟨w.heap.size, 1, none⟩ = some (.slice A l.length c) ∧ w1.cell? ⟨w.heap.size + 1, 0, none⟩ = some (.int .i64 0) ∧ w1.cell? ⟨w.heap.size + 1, 1, none⟩ = some (.slice none 0 0) ∧ (w.heap.size + 1 < w1.heap.size ∧ ∀ i, w1.frozen? ⟨w.heap.size + 1, i, none⟩ = false) ∧ Below w.heap.size w w1 := (fun W h hb => ⟨keep_cell (hb) h.1, keep_cell (hb) h.2.1, keep_cell (hb) h.2.2.1, keep_cell (hb) h.2.2.2.1, keep_fre (hb) h.2.2.2.2.1, below_via h.2.2.2.2.2 (hb)⟩ : ∀ W : World, (W.cell? ⟨w.heap.size, 0, none⟩ = some (.int .i64 m) ∧ W.cell? ⟨w.heap.size, 1, none⟩ = some (.slice A l.length c) ∧ W.cell? ⟨w.heap.size + 1, 0, none⟩ = some (.int .i64 0) ∧ W.cell? ⟨w.heap.size + 1, 1, none⟩ = some (.slice none 0 0) ∧ (w.heap.size + 1 < W.heap.size ∧ ∀ i, W.frozen? ⟨w.heap.size + 1, i, none⟩ = false) ∧ Below w.heap.size w W) → Below W.heap.size W w1 → (w1.cell? ⟨w.heap.size, 0, none⟩ = some (.int .i64 m) ∧ w1.cell? ⟨w.heap.size, 1, none⟩ = some (.slice A l.length c) ∧ w1.cell? ⟨w.heap.size + 1, 0, none⟩ = some (.int .i64 0) ∧ w1.cell? ⟨w.heap.size + 1, 1, none⟩ = some (.slice none 0 0) ∧ (w.heap.size + 1 < w1.heap.size ∧ ∀ i, w1.frozen? ⟨w.heap.size + 1, i, none⟩ = false) ∧ Below w.heap.size w w1)) _ (by first | (with_reducible assumption) | (exact hS) | (exact ⟨hS.1, hS.2.1, hS.2.2.1, hS.2.2.2.1, hS.2.2.2.2.1, (by go_grown)⟩) | (exact ⟨(by first | (with_reducible assumption) | (simp [go_sem]; done) | ((simp only [go_sem]); (with_reducible assumption)) | ((refine keep_cell ?_ (by with_reducible assumption)); go_grown; done) | (simp [go_sem, *]; done)), (by first | (with_reducible assumption) | (simp [go_sem]; done) | ((simp only [go_sem]); (with_reducible assumption)) | ((refine keep_cell ?_ (by with_reducible assumption)); go_grown; done) | (simp [go_sem, *]; done)), (by first | (with_reducible assumption) | (simp [go_sem]; done) | ((simp only [go_sem]); (with_reducible assumption)) | ((refine keep_cell ?_ (by with_reducible assumption)); go_grown; done) | (simp [go_sem, *]; done)), (by first | (with_reducible assumption) | (simp [go_sem]; done) | ((simp only [go_sem]); (with_reducible assumption)) | ((refine keep_cell ?_ (by with_reducible assumption)); go_grown; done) | (simp [go_sem, *]; done)), (by first | (with_reducible assumption) | (simp [go_sem]; done) | (refine keep_fre ?_ ⟨by with_reducible assumption, by with_reducible assumption⟩; go_grown; done) | (simp [go_sem, *]; done)), (by go_grown)⟩)) hb; (try clear hS); have hS := hT; clear hT; have hB := hS.2.2.2.2.2; have hzw : w.heap.size ≤ w1.heap.size := hB.size; have hz1 : w.heap.size < w1.heap.size := World.block_lt_of_cell? w1 _ (hS.1); have hz2 : w.heap.size + 1 < w1.heap.size := World.block_lt_of_cell? w1 _ (hS.2.2.1); clear hb))
    refine bodyPost_ret (by simp [results, Try.results56, go_sem, cell_set_some, *]; try rfl) rfl ?_
    rw [HF.out.1, HF.out.2.1, HF.out.2.2]
    exact ⟨none, 0, rfl, World.ownsRow_nil _ _ _ _, by go_grown⟩
  by_cases hmt : t < m
  · have HF := hide (rv_no (m := m) (l := l) (s := s) (t := t) (by unfold rvK; rw [kf, decide_eq_false (by omega)]; rfl))
    go_enter Try.func56, Try.ntmps56
    go_wp2_with (first | (go_at_call 20; refine (repairFrame_c s hmax _).mono ?_; rw [HKD.out, HAD.out, HDT.out, HFI.out, kf]; rintro e w1 ⟨rfl, hb⟩; have hT : w1.cell? ⟨w.heap.size, 0, none⟩ = some (.int .i64 m) ∧ w1.cell? ⟨w.heap.size, 1, none⟩ = some (.slice A l.length c) ∧ w1.cell? ⟨w.heap.size + 1, 0, none⟩ = some (.int .i64 0) ∧ w1.cell? ⟨w.heap.size + 1, 1, none⟩ = some (.slice none 0 0) ∧ (w.heap.size + 1 < w1.heap.size ∧ ∀ i, w1.frozen? ⟨w.heap.size + 1, i, none⟩ = false) ∧ Below w.heap.size w w1 := (fun W h hb => ⟨keep_cell (hb) h.1, keep_cell (hb) h.2.1, keep_cell (hb) h.2.2.1, keep_cell (hb) h.2.2.2.1, keep_fre (hb) h.2.2.2.2.1, below_via h.2.2.2.2.2 (hb)⟩ : ∀ W : World, (W.cell? ⟨w.heap.size, 0, none⟩ = some (.int .i64 m) ∧ W.cell? ⟨w.heap.size, 1, none⟩ = some (.slice A l.length c) ∧ W.cell? ⟨w.heap.size + 1, 0, none⟩ = some (.int .i64 0) ∧ W.cell? ⟨w.heap.size + 1, 1, none⟩ = some (.slice none 0 0) ∧ (w.heap.size + 1 < W.heap.size ∧ ∀ i, W.frozen? ⟨w.heap.size + 1, i, none⟩ = false) ∧ Below w.heap.size w W) → Below W.heap.size W w1 → (w1.cell? ⟨w.heap.size, 0, none⟩ = some (.int .i64 m) ∧ w1.cell? ⟨w.heap.size, 1, none⟩ = some (.slice A l.length c) ∧ w1.cell? ⟨w.heap.size + 1, 0, none⟩ = some (.int .i64 0) ∧ w1.cell? ⟨w.heap.size + 1, 1, none⟩ = some (.slice none 0 0) ∧ (w.heap.size + 1 < w1.heap.size ∧ ∀ i, w1.frozen? ⟨w.heap.size + 1, i, none⟩ = false) ∧ Below w.heap.size w w1)) _ (by first | (with_reducible assumption) | (exact hS) | (exact ⟨hS.1, hS.2.1, hS.2.2.1, hS.2.2.2.1, hS.2.2.2.2.1, (by go_grown)⟩) | (exact ⟨(by first | (with_reducible assumption) | (simp [go_sem]; done) | ((simp only [go_sem]); (with_reducible assumption)) | ((refine keep_cell ?_ (by with_reducible assumption)); go_grown; done) | (simp [go_sem, *]; done)), (by first | (with_reducible assumption) | (simp [go_sem]; done) | ((simp only [go_sem]); (with_reducible assumption)) | ((refine keep_cell ?_ (by with_reducible assumption)); go_grown; done) | (simp [go_sem, *]; done)), (by first | (with_reducible assumption) | (simp [go_sem]; done) | ((simp only [go_sem]); (with_reducible assumption)) | ((refine keep_cell ?_ (by with_reducible assumption)); go_grown; done) | (simp [go_sem, *]; done)), (by first | (with_reducible assumption) | (simp [go_sem]; done) | ((simp only [go_sem]); (with_reducible assumption)) | ((refine keep_cell ?_ (by with_reducible assumption)); go_grown; done) | (simp [go_sem, *]; done)), (by first | (with_reducible assumption) | (simp [go_sem]; done) | (refine keep_fre ?_ ⟨by with_reducible assumption, by with_reducible assumption⟩; go_grown; done) | (simp [go_sem, *]; done)), (by go_grown)⟩)) hb; (try clear hS); have hS := hT; clear hT; have hB := hS.2.2.2.2.2; have hzw : w.heap.size ≤ w1.heap.size := hB.size; have hz1 : w.heap.size < w1.heap.size := World.block_lt_of_cell? w1 _ (hS.1); have hz2 : w.heap.size + 1 < w1.heap.size := World.block_lt_of_cell? w1 _ (hS.2.2.1); clear hb))
    refine bodyPost_ret (by simp [results, Try.results56, go_sem, cell_set_some, *]; try rfl) rfl ?_
    rw [HF.out.1, HF.out.2.1, HF.out.2.2]
    exact ⟨none, 0, rfl, World.ownsRow_nil _ _ _ _, by go_grown⟩
  have HRV := hide (show rvK m l s t = okR t (rcL t Ad Kd Dt l) from by unfold rvK; rw [kf, decide_eq_true (show m ≤ t by omega), HKD.out, HAD.out, HDT.out]; rfl)
  obtain ⟨i0, hi0, iz0, iy0, ix0⟩ := info_parts infoHd
  go_enter Try.func56, Try.ntmps56
  have HFN := hide (show fndV l Ad = (if rcH Ad l then (rcI Ad l : Int) else -1) from by
    split
    · exact fnd_yes (m := m) ‹_›
    · exact fnd_not HOK.out ‹_›)
  obtain ⟨FV, hFV⟩ : ∃ q, fndV l Ad = q := ⟨_, rfl⟩
  rw [hFV] at HFN
  go_wp2_with (first | (go_at_call 20; refine (repairFrame_c s hmax _).mono ?_; rw [HKD.out, HAD.out, HDT.out, HFI.out, kf]; rintro e w1 ⟨rfl, hb⟩; have hT : w1.cell? ⟨w.heap.size, 0, none⟩ = some (.int .i64 m) ∧ w1.cell? ⟨w.heap.size, 1, none⟩ = some (.slice A l.length c) ∧ w1.cell? ⟨w.heap.size + 1, 0, none⟩ = some (.int .i64 0) ∧ w1.cell? ⟨w.heap.size + 1, 1, none⟩ = some (.slice none 0 0) ∧ (w.heap.size + 1 < w1.heap.size ∧ ∀ i, w1.frozen? ⟨w.heap.size + 1, i, none⟩ = false) ∧ Below w.heap.size w w1 := (fun W h hb => ⟨keep_cell (hb) h.1, keep_cell (hb) h.2.1, keep_cell (hb) h.2.2.1, keep_cell (hb) h.2.2.2.1, keep_fre (hb) h.2.2.2.2.1, below_via h.2.2.2.2.2 (hb)⟩ : ∀ W : World, (W.cell? ⟨w.heap.size, 0, none⟩ = some (.int .i64 m) ∧ W.cell? ⟨w.heap.size, 1, none⟩ = some (.slice A l.length c) ∧ W.cell? ⟨w.heap.size + 1, 0, none⟩ = some (.int .i64 0) ∧ W.cell? ⟨w.heap.size + 1, 1, none⟩ = some (.slice none 0 0) ∧ (w.heap.size + 1 < W.heap.size ∧ ∀ i, W.frozen? ⟨w.heap.size + 1, i, none⟩ = false) ∧ Below w.heap.size w W) → Below W.heap.size W w1 → (w1.cell? ⟨w.heap.size, 0, none⟩ = some (.int .i64 m) ∧ w1.cell? ⟨w.heap.size, 1, none⟩ = some (.slice A l.length c) ∧ w1.cell? ⟨w.heap.size + 1, 0, none⟩ = some (.int .i64 0) ∧ w1.cell? ⟨w.heap.size + 1, 1, none⟩ = some (.slice none 0 0) ∧ (w.heap.size + 1 < w1.heap.size ∧ ∀ i, w1.frozen? ⟨w.heap.size + 1, i, none⟩ = false) ∧ Below w.heap.size w w1)) _ (by first | (with_reducible assumption) | (exact hS) | (exact ⟨hS.1, hS.2.1, hS.2.2.1, hS.2.2.2.1, hS.2.2.2.2.1, (by go_grown)⟩) | (exact ⟨(by first | (with_reducible assumption) | (simp [go_sem]; done) | ((simp only [go_sem]); (with_reducible assumption)) | ((refine keep_cell ?_ (by with_reducible assumption)); go_grown; done) | (simp [go_sem, *]; done)), (by first | (with_reducible assumption) | (simp [go_sem]; done) | ((simp only [go_sem]); (with_reducible assumption)) | ((refine keep_cell ?_ (by with_reducible assumption)); go_grown; done) | (simp [go_sem, *]; done)), (by first | (with_reducible assumption) | (simp [go_sem]; done) | ((simp only [go_sem]); (with_reducible assumption)) | ((refine keep_cell ?_ (by with_reducible assumption)); go_grown; done) | (simp [go_sem, *]; done)), (by first | (with_reducible assumption) | (simp [go_sem]; done) | ((simp only [go_sem]); (with_reducible assumption)) | ((refine keep_cell ?_ (by with_reducible assumption)); go_grown; done) | (simp [go_sem, *]; done)), (by first | (with_reducible assumption) | (simp [go_sem]; done) | (refine keep_fre ?_ ⟨by with_reducible assumption, by with_reducible assumption⟩; go_grown; done) | (simp [go_sem, *]; done)), (by go_grown)⟩)) hb; (try clear hS); have hS := hT; clear hT; have hB := hS.2.2.2.2.2; have hzw : w.heap.size ≤ w1.heap.size := hB.size; have hz1 : w.heap.size < w1.heap.size := World.block_lt_of_cell? w1 _ (hS.1); have hz2 : w.heap.size + 1 < w1.heap.size := World.block_lt_of_cell? w1 _ (hS.2.2.1); clear hb; have hO0 := own_empty (e := 42) (size := 10) (base := w1.heap.size + 1) (H := w1.heap.size + 1) (w1.alloc (.cells #[.int .i64 Kd, .int .i64 Ad, .int .i64 Dt] 34)) (by simp) (by omega)) | (at_builtin; refine wpList_append_any rfl _ _ 24 rfl (w1.heap.size + 1) 42 i0 (hdV nHd) 10 80 Try.underlying24 hi0 iz0 iy0 ix0 rfl (by decide) _ 0 [] rfl hO0 w.heap.size _ l.length _ (hds l) rfl (h1.out.below (by go_grown)) (reads_nn h1.out) (hds_one l) (by unfold maxLen; omega) (by omega) (by first | (simp; done) | (simp; omega)) ?_; intro A3 c3 w3 hown hgrow; have hT : w3.cell? ⟨w.heap.size + 1, 0, none⟩ = some (.int .i64 0) ∧ w3.cell? ⟨w.heap.size + 1, 1, none⟩ = some (.slice none 0 0) ∧ (w.heap.size + 1 < w3.heap.size ∧ ∀ i, w3.frozen? ⟨w.heap.size + 1, i, none⟩ = false) ∧ w3.cell? ⟨w1.heap.size, 0, none⟩ = some (.int .i64 Kd) ∧ w3.cell? ⟨w1.heap.size, 1, none⟩ = some (.int .i64 Ad) ∧ w3.cell? ⟨w1.heap.size, 2, none⟩ = some (.int .i64 Dt) ∧ Below w.heap.size w w3 := ⟨own_cell hO0 hgrow (by first | (simp [go_sem]; done) | (simp [go_sem, *]; done)) (by first | omega | (simp; done) | (simp; omega)), own_cell hO0 hgrow (by first | (simp [go_sem]; done) | (simp [go_sem, *]; done)) (by first | omega | (simp; done) | (simp; omega)), own_fre hO0 hgrow (keep_fre (by go_grown) hS.2.2.2.2.1) (by omega), own_cell hO0 hgrow (by first | (simp [go_sem]; done) | (simp [go_sem, *]; done)) (by first | omega | (simp; done) | (simp; omega)), own_cell hO0 hgrow (by first | (simp [go_sem]; done) | (simp [go_sem, *]; done)) (by first | omega | (simp; done) | (simp; omega)), own_cell hO0 hgrow (by first | (simp [go_sem]; done) | (simp [go_sem, *]; done)) (by first | omega | (simp; done) | (simp; omega)), own_grown (a := w) (B := w.heap.size) hO0 hgrow (by go_grown) (by first | omega | (simp; omega)) (by omega)⟩; (try clear hS hB hzw hgrow); have hS := hT; clear hT; have hB := hS.2.2.2.2.2.2; have hzw : w.heap.size ≤ w3.heap.size := hB.size; have hz1 : w.heap.size + 1 < w3.heap.size := World.block_lt_of_cell? w3 _ (hS.1); have hz2 : w1.heap.size < w3.heap.size := World.block_lt_of_cell? w3 _ (hS.2.2.2.1); rw [Nat.zero_add, List.nil_append] at hown; rw [Nat.zero_add]))
  clear hO0
  have hTn : (Value.slice A3 l.length c3).ownBlock ≠ some w3.heap.size := fun e => by have := (hown.lt _ e).2; omega
  have hFw : w.heap.size + 1 < w1.heap.size := by omega
  have hFT : w1.heap.size < w3.heap.size := by omega
  refine (heardAt_c t A3 c3 l Ad _ (hide (own_reads (World.ownsRow.alloc hown _))) b1).mono ?_
  rw [hFV]
  rintro e w4 ⟨rfl, hb⟩
  have hT : w4.cell? ⟨w.heap.size + 1, 0, none⟩ = some (.int .i64 0) ∧ w4.cell? ⟨w.heap.size + 1, 1, none⟩ = some (.slice none 0 0) ∧ (w.heap.size + 1 < w4.heap.size ∧ ∀ i, w4.frozen? ⟨w.heap.size + 1, i, none⟩ = false) ∧ w4.cell? ⟨w1.heap.size, 0, none⟩ = some (.int .i64 Kd) ∧ w4.cell? ⟨w1.heap.size, 1, none⟩ = some (.int .i64 Ad) ∧ w4.cell? ⟨w1.heap.size, 2, none⟩ = some (.int .i64 Dt) ∧ w4.cell? ⟨w3.heap.size, 0, none⟩ = some (.int .i64 t) ∧ w4.cell? ⟨w3.heap.size, 1, none⟩ = some (.slice A3 l.length c3) ∧ (w3.heap.size < w4.heap.size ∧ ∀ i, w4.frozen? ⟨w3.heap.size, i, none⟩ = false) ∧ w4.ownsRow (w1.heap.size + 1) 42 10 (.slice A3 l.length c3) (l.length) (hds l) ∧ Below w.heap.size w w4 := (fun W h hb => ⟨keep_cell (hb) h.1, keep_cell (hb) h.2.1, keep_fre (hb) h.2.2.1, keep_cell (hb) h.2.2.2.1, keep_cell (hb) h.2.2.2.2.1, keep_cell (hb) h.2.2.2.2.2.1, keep_cell (hb) h.2.2.2.2.2.2.1, keep_cell (hb) h.2.2.2.2.2.2.2.1, keep_fre (hb) h.2.2.2.2.2.2.2.2.1, own_below h.2.2.2.2.2.2.2.2.2.1 (hb), below_via h.2.2.2.2.2.2.2.2.2.2 (hb)⟩ : ∀ W : World, (W.cell? ⟨w.heap.size + 1, 0, none⟩ = some (.int .i64 0) ∧ W.cell? ⟨w.heap.size + 1, 1, none⟩ = some (.slice none 0 0) ∧ (w.heap.size + 1 < W.heap.size ∧ ∀ i, W.frozen? ⟨w.heap.size + 1, i, none⟩ = false) ∧ W.cell? ⟨w1.heap.size, 0, none⟩ = some (.int .i64 Kd) ∧ W.cell? ⟨w1.heap.size, 1, none⟩ = some (.int .i64 Ad) ∧ W.cell? ⟨w1.heap.size, 2, none⟩ = some (.int .i64 Dt) ∧ W.cell? ⟨w3.heap.size, 0, none⟩ = some (.int .i64 t) ∧ W.cell? ⟨w3.heap.size, 1, none⟩ = some (.slice A3 l.length c3) ∧ (w3.heap.size < W.heap.size ∧ ∀ i, W.frozen? ⟨w3.heap.size, i, none⟩ = false) ∧ W.ownsRow (w1.heap.size + 1) 42 10 (.slice A3 l.length c3) (l.length) (hds l) ∧ Below w.heap.size w W) → Below W.heap.size W w4 → (w4.cell? ⟨w.heap.size + 1, 0, none⟩ = some (.int .i64 0) ∧ w4.cell? ⟨w.heap.size + 1, 1, none⟩ = some (.slice none 0 0) ∧ (w.heap.size + 1 < w4.heap.size ∧ ∀ i, w4.frozen? ⟨w.heap.size + 1, i, none⟩ = false) ∧ w4.cell? ⟨w1.heap.size, 0, none⟩ = some (.int .i64 Kd) ∧ w4.cell? ⟨w1.heap.size, 1, none⟩ = some (.int .i64 Ad) ∧ w4.cell? ⟨w1.heap.size, 2, none⟩ = some (.int .i64 Dt) ∧ w4.cell? ⟨w3.heap.size, 0, none⟩ = some (.int .i64 t) ∧ w4.cell? ⟨w3.heap.size, 1, none⟩ = some (.slice A3 l.length c3) ∧ (w3.heap.size < w4.heap.size ∧ ∀ i, w4.frozen? ⟨w3.heap.size, i, none⟩ = false) ∧ w4.ownsRow (w1.heap.size + 1) 42 10 (.slice A3 l.length c3) (l.length) (hds l) ∧ Below w.heap.size w w4)) _ ⟨keep_cell (by go_grown) (hS.1), keep_cell (by go_grown) (hS.2.1), keep_fre (by go_grown) (hS.2.2.1), keep_cell (by go_grown) (hS.2.2.2.1), keep_cell (by go_grown) (hS.2.2.2.2.1), keep_cell (by go_grown) (hS.2.2.2.2.2.1), (by simp [go_sem]), (by simp [go_sem]), ⟨(by simp [go_sem]), (by simp [go_sem])⟩, World.ownsRow.alloc hown _, (by go_grown)⟩ hb
  (try clear hS)
  have hS := hT
  clear hT
  have hB := hS.2.2.2.2.2.2.2.2.2.2
  have hzw : w.heap.size ≤ w4.heap.size := hB.size
  have hz1 : w.heap.size + 1 < w4.heap.size := World.block_lt_of_cell? w4 _ (hS.1)
  have hz2 : w1.heap.size < w4.heap.size := World.block_lt_of_cell? w4 _ (hS.2.2.2.1)
  have hz3 : w3.heap.size < w4.heap.size := World.block_lt_of_cell? w4 _ (hS.2.2.2.2.2.2.1)
  clear hb
  clear hown hzw hB hz1 hz2 hz3
  obtain ⟨T, hTe⟩ : ∃ q, w3.heap.size = q := ⟨_, rfl⟩
  obtain ⟨F, hFe⟩ : ∃ q, w1.heap.size = q := ⟨_, rfl⟩
  rw [hTe] at hTn
  rw [hFe] at hFw
  rw [hTe, hFe] at hFT hS ⊢
  clear hTe hFe hFV
  go_upto_if 42 with fail
  go_cut [12] (fun iv wx => ∃ (g cp : Nat), iv = .int .i64 (rcI Ad l : Int) ∧ g ≠ T ∧ Hid (wx.ownsRow (F + 1) 42 10 (.slice (some ⟨g, 0, none⟩) (rcB Ad l).length cp) (rcB Ad l).length (hds (rcB Ad l))) ∧ (wx.cell? ⟨w.heap.size + 1, 0, none⟩ = some (.int .i64 0) ∧ wx.cell? ⟨w.heap.size + 1, 1, none⟩ = some (.slice none 0 0) ∧ (w.heap.size + 1 < wx.heap.size ∧ ∀ i, wx.frozen? ⟨w.heap.size + 1, i, none⟩ = false) ∧ wx.cell? ⟨F, 0, none⟩ = some (.int .i64 Kd) ∧ wx.cell? ⟨F, 1, none⟩ = some (.int .i64 Ad) ∧ wx.cell? ⟨F, 2, none⟩ = some (.int .i64 Dt) ∧ wx.cell? ⟨T, 0, none⟩ = some (.int .i64 t) ∧ wx.cell? ⟨T, 1, none⟩ = some (.slice (some ⟨g, 0, none⟩) (rcB Ad l).length cp) ∧ (T < wx.heap.size ∧ ∀ i, wx.frozen? ⟨T, i, none⟩ = false) ∧ Below w.heap.size w wx))
  case first =>
    by_cases hk : rcH Ad l
    · have e1 : FV = (rcI Ad l : Int) := by have h9 := HFN.out; rwa [if_pos hk] at h9
      subst e1
      have HRB := hide (show rcB Ad l = l from if_pos hk)
      have hl0 := hk.1
      clear hk HFN
      have hcb : decide ((rcI Ad l : Int) < 0) = false := decide_eq_false (by omega)
      obtain ⟨g, hA3, hg0, hg1⟩ := own_at (hS.2.2.2.2.2.2.2.2.2.1) (by omega)
      subst hA3
      have hgT : g ≠ T := fun e => hTn (by rw [e]; rfl)
      go_wp2_with fail
      go_meet
      case rel => rw [HRB.out]; exact ⟨g, c3, rfl, hgT, hide (hS.2.2.2.2.2.2.2.2.2.1), hS.1, hS.2.1, hS.2.2.1, hS.2.2.2.1, hS.2.2.2.2.1, hS.2.2.2.2.2.1, hS.2.2.2.2.2.2.1, hS.2.2.2.2.2.2.2.1, hS.2.2.2.2.2.2.2.2.1, hS.2.2.2.2.2.2.2.2.2.2⟩
    have e1 : FV = -1 := by have h9 := HFN.out; rwa [if_neg hk] at h9
    subst e1
    have HRB := hide (show rcB Ad l = bubL l Ad (rcI Ad l) from if_neg hk)
    have HNK := hide hk
    clear hk HFN
    have hT4 : T < w4.heap.size := (hS.2.2.2.2.2.2.2.2.1).1
    go_wp2_with (first | (at_builtin; refine wpList_append_lies _ rfl _ _ 24 rfl (F + 1) 42 i0 (hdV nHd) 10 80 Try.underlying24 hi0 iz0 iy0 ix0 rfl (by decide) _ l.length _ rfl (own_below (hS.2.2.2.2.2.2.2.2.2.1) (by go_grown)) ⟨w4.heap.size, 0, none⟩ 1 1 [.int .i64 Ad, .bool false, .int .i64 0, .int .i64 0, .int .i64 (-1), .bool false, .int .i64 0, .int .i64 0, .int .i64 (-1), .int .i64 0] rfl rfl (news_ten (by simp [go_sem]) (by simp [go_sem]) (by simp [go_sem]) (by simp [go_sem]) (by simp [go_sem]) (by simp [go_sem]) (by simp [go_sem]) (by simp [go_sem]) (by simp [go_sem]) (by simp [go_sem])) (one_ten rfl rfl rfl rfl rfl rfl rfl rfl rfl rfl) (by decide) (by unfold maxLen; omega) (by omega) (by first | (simp [go_sem]; done) | (simp [go_sem]; omega)) _ rfl ?_; intro g cap w5 hown5 hgrow hold _; have hgT : g ≠ T := (by rcases hold with h9 | h9; (intro e; rw [e] at h9; exact hTn h9); (intro e; simp at h9; omega)); have hg0 : F + 1 ≤ g := (hown5.lt g rfl).1; have hg1 : g < w5.heap.size := (hown5.lt g rfl).2; have hT : w5.cell? ⟨w.heap.size + 1, 0, none⟩ = some (.int .i64 0) ∧ w5.cell? ⟨w.heap.size + 1, 1, none⟩ = some (.slice none 0 0) ∧ (w.heap.size + 1 < w5.heap.size ∧ ∀ i, w5.frozen? ⟨w.heap.size + 1, i, none⟩ = false) ∧ w5.cell? ⟨F, 0, none⟩ = some (.int .i64 Kd) ∧ w5.cell? ⟨F, 1, none⟩ = some (.int .i64 Ad) ∧ w5.cell? ⟨F, 2, none⟩ = some (.int .i64 Dt) ∧ w5.cell? ⟨T, 0, none⟩ = some (.int .i64 t) ∧ w5.cell? ⟨T, 1, none⟩ = some (.slice A3 l.length c3) ∧ (T < w5.heap.size ∧ ∀ i, w5.frozen? ⟨T, i, none⟩ = false) ∧ Below w.heap.size w w5 := ⟨own_cell (own_below (hS.2.2.2.2.2.2.2.2.2.1) (by go_grown)) hgrow (keep_cell (by go_grown) (hS.1)) (by first | omega | (simp; done) | (simp; omega)), own_cell (own_below (hS.2.2.2.2.2.2.2.2.2.1) (by go_grown)) hgrow (keep_cell (by go_grown) (hS.2.1)) (by first | omega | (simp; done) | (simp; omega)), own_fre (own_below (hS.2.2.2.2.2.2.2.2.2.1) (by go_grown)) hgrow (keep_fre (by go_grown) (hS.2.2.1)) (by omega), own_cell (own_below (hS.2.2.2.2.2.2.2.2.2.1) (by go_grown)) hgrow (keep_cell (by go_grown) (hS.2.2.2.1)) (by first | omega | (simp; done) | (simp; omega)), own_cell (own_below (hS.2.2.2.2.2.2.2.2.2.1) (by go_grown)) hgrow (keep_cell (by go_grown) (hS.2.2.2.2.1)) (by first | omega | (simp; done) | (simp; omega)), own_cell (own_below (hS.2.2.2.2.2.2.2.2.2.1) (by go_grown)) hgrow (keep_cell (by go_grown) (hS.2.2.2.2.2.1)) (by first | omega | (simp; done) | (simp; omega)), ne_cell hgrow (keep_cell (by go_grown) (hS.2.2.2.2.2.2.1)) hTn, ne_cell hgrow (keep_cell (by go_grown) (hS.2.2.2.2.2.2.2.1)) hTn, ne_fre hgrow (keep_fre (by go_grown) (hS.2.2.2.2.2.2.2.2.1)) hTn, own_grown (a := w) (B := w.heap.size) (own_below (hS.2.2.2.2.2.2.2.2.2.1) (by go_grown)) hgrow (below_via (hS.2.2.2.2.2.2.2.2.2.2) (by go_grown)) (by first | (simp [go_sem]; done) | (simp [go_sem]; omega)) (by omega)⟩; (try clear hS hzw hgrow); have hS := hT; clear hT; have hzw : w.heap.size ≤ w5.heap.size := (hS.2.2.2.2.2.2.2.2.2).size))
    obtain ⟨n, hn⟩ : ∃ n, l.length + 1 = n := ⟨_, rfl⟩
    rw [hn] at hown5 ⊢
    have HROW := hide (show w5.ownsRow (F + 1) 42 10 (.slice (some ⟨g, 0, none⟩) n cap) n (hds (bubL l Ad l.length)) from by rw [bub_end, hds_snoc]; exact hown5)
    clear hown5
    go_loopw [12] (fun iv wr => ∃ i : Nat, i ≤ l.length ∧ iv = .int .i64 i ∧ Hid (wr.ownsRow (F + 1) 42 10 (.slice (some ⟨g, 0, none⟩) n cap) n (hds (bubL l Ad i))) ∧ Hid (∀ j, i ≤ j → j < l.length → Ad < (hx l j).1) ∧ (wr.cell? ⟨w.heap.size + 1, 0, none⟩ = some (.int .i64 0) ∧ wr.cell? ⟨w.heap.size + 1, 1, none⟩ = some (.slice none 0 0) ∧ (w.heap.size + 1 < wr.heap.size ∧ ∀ i, wr.frozen? ⟨w.heap.size + 1, i, none⟩ = false) ∧ wr.cell? ⟨F, 0, none⟩ = some (.int .i64 Kd) ∧ wr.cell? ⟨F, 1, none⟩ = some (.int .i64 Ad) ∧ wr.cell? ⟨F, 2, none⟩ = some (.int .i64 Dt) ∧ wr.cell? ⟨T, 0, none⟩ = some (.int .i64 t) ∧ wr.cell? ⟨T, 1, none⟩ = some (.slice (some ⟨g, 0, none⟩) n cap) ∧ (T < wr.heap.size ∧ ∀ i, wr.frozen? ⟨T, i, none⟩ = false) ∧ Below w.heap.size w wr)) (fun iv _ => (intOf iv).toNat)
    case atStart => exact ⟨l.length, Nat.le_refl _, by go_num, hide (ownsRow_setCell_other HROW.out (a := ⟨T, 1, none⟩) (fun e => hgT (Option.some.inj e)) _), hide (fun j h h2 => absurd h2 (by omega)), (by simp [go_sem, *]), (by simp [go_sem, *]), (sf _ (hS.2.2.1)), (by simp [go_sem, *]), (by simp [go_sem, *]), (by simp [go_sem, *]), (by simp [go_sem, *]), (by simp [go_sem, cell_set_some, *]), ⟨by simpa using (hS.2.2.2.2.2.2.2.2.1).1, fun i => by simpa using (hS.2.2.2.2.2.2.2.2.1).2 i⟩, (hS.2.2.2.2.2.2.2.2.2).setCell (p := ⟨T, 1, none⟩) (by show _ ≤ T; omega) _⟩
    case round =>
      obtain ⟨i, hi, rfl, HROW, HAB, hS⟩ := hrel
      have hzw : w.heap.size ≤ wr.heap.size := (hS.2.2.2.2.2.2.2.2.2).size
      have HN9 := hide hn
      have hin : i < n := by omega
      clear hn
      by_cases hi0 : i = 0
      · have HST := hide (bub_stop HOK.out HNK.out hi HAB.out (fun h => absurd h (by omega)))
        have hz0 : ¬ 0 < i := by omega
        clear hi0
        go_wp2_with fail
        refine wp_region_det (fun w' => w'.cell? ⟨w.heap.size + 1, 0, none⟩ = some (.int .i64 0) ∧ w'.cell? ⟨w.heap.size + 1, 1, none⟩ = some (.slice none 0 0) ∧ (w.heap.size + 1 < w'.heap.size ∧ ∀ i, w'.frozen? ⟨w.heap.size + 1, i, none⟩ = false) ∧ w'.cell? ⟨F, 0, none⟩ = some (.int .i64 Kd) ∧ w'.cell? ⟨F, 1, none⟩ = some (.int .i64 Ad) ∧ w'.cell? ⟨F, 2, none⟩ = some (.int .i64 Dt) ∧ w'.cell? ⟨T, 0, none⟩ = some (.int .i64 t) ∧ w'.cell? ⟨T, 1, none⟩ = some (.slice (some ⟨g, 0, none⟩) n cap) ∧ (T < w'.heap.size ∧ ∀ i, w'.frozen? ⟨T, i, none⟩ = false) ∧ w'.ownsRow (F + 1) 42 10 (.slice (some ⟨g, 0, none⟩) n cap) (n) (hds (bubL l Ad i)) ∧ Below w.heap.size w w') (by kernel_rfl) (by kernel_rfl) ⟨hS.1, hS.2.1, hS.2.2.1, hS.2.2.2.1, hS.2.2.2.2.1, hS.2.2.2.2.2.1, hS.2.2.2.2.2.2.1, hS.2.2.2.2.2.2.2.1, hS.2.2.2.2.2.2.2.2.1, HROW.out, Below.drew (hS.2.2.2.2.2.2.2.2.2)⟩ ?_
        repeat (first
          | ((refine wpDet_skip (by rfl) ?_); simp only [Act.put, zp1, zp2, zp3])
          | ((refine wpDet_val (v := ?_) (by rfl) (fun w hS => ?_) ?_); rotate_left; (focus ((try dsimp only at hS); go_simp; (try (with_reducible rfl)); done)); simp only [Act.put, zp1, zp2, zp3]))
        refine wpDet_nil ?_
        intro w1 hS
        have hT : w1.cell? ⟨w.heap.size + 1, 0, none⟩ = some (.int .i64 0) ∧ w1.cell? ⟨w.heap.size + 1, 1, none⟩ = some (.slice none 0 0) ∧ (w.heap.size + 1 < w1.heap.size ∧ ∀ i, w1.frozen? ⟨w.heap.size + 1, i, none⟩ = false) ∧ w1.cell? ⟨F, 0, none⟩ = some (.int .i64 Kd) ∧ w1.cell? ⟨F, 1, none⟩ = some (.int .i64 Ad) ∧ w1.cell? ⟨F, 2, none⟩ = some (.int .i64 Dt) ∧ w1.cell? ⟨T, 0, none⟩ = some (.int .i64 t) ∧ w1.cell? ⟨T, 1, none⟩ = some (.slice (some ⟨g, 0, none⟩) n cap) ∧ (T < w1.heap.size ∧ ∀ i, w1.frozen? ⟨T, i, none⟩ = false) ∧ w1.ownsRow (F + 1) 42 10 (.slice (some ⟨g, 0, none⟩) n cap) (n) (hds (bubL l Ad i)) ∧ Below w.heap.size w w1 := hS
        clear hS
        have hS := hT
        obtain ⟨c0, c1, c2, c3, c4, c5, c6, c7, c8, c9, hB⟩ := hT
        have hzw : w.heap.size ≤ w1.heap.size := hB.size
        have hz1 : w.heap.size + 1 < w1.heap.size := World.block_lt_of_cell? w1 _ (hS.1)
        have hz2 : F < w1.heap.size := World.block_lt_of_cell? w1 _ (hS.2.2.2.1)
        have hz3 : T < w1.heap.size := World.block_lt_of_cell? w1 _ (hS.2.2.2.2.2.2.1)
        go_wp2_with fail
        go_meet
        case rel => rw [HRB.out, HST.out, bub_len, HN9.out]; exact ⟨g, cap, rfl, hgT, hide (hS.2.2.2.2.2.2.2.2.2.1), hS.1, hS.2.1, hS.2.2.1, hS.2.2.2.1, hS.2.2.2.2.1, hS.2.2.2.2.2.1, hS.2.2.2.2.2.2.1, hS.2.2.2.2.2.2.2.1, hS.2.2.2.2.2.2.2.2.1, hS.2.2.2.2.2.2.2.2.2.2⟩
      obtain ⟨j, hj⟩ : ∃ j, i = j + 1 := ⟨i - 1, by omega⟩
      have hz0 : 0 < i := by omega
      have ej : IntKind.i64.wrap ((i : Int) - 1) = (j : Int) := by rw [show (i : Int) - 1 = (j : Int) from by omega]; exact IntWalk.i64_in _ (by omega)
      have hjl : j < l.length := by omega
      have hji : j < i := by omega
      have hjn : j < n := by omega
      obtain ⟨⟨a, ⟨eo, ea, eb⟩, et, ⟨oo, oa, ob⟩, ot, f⟩, he⟩ : ∃ q, hx l j = q := ⟨_, rfl⟩
      have HX := hide he
      have HJ := hide hj
      have HE := hide (show hx (bubL l Ad i) j = (a, (eo, ea, eb), et, (oo, oa, ob), ot, f) from by rw [bub_low hi hji, he])
      clear hj hi0 he
      have c0 : wr.cell? ⟨g, j * 10, none⟩ = some (.int .i64 a) := row_cell (j := 0) HROW.out (by rw [bub_len, HN9.out]) (by rw [bub_len]; omega) (by omega) (by rw [HE.out]; rfl)
      by_cases hlt : Ad < a
      rotate_left
      · have HST := hide (bub_stop HOK.out HNK.out hi HAB.out (fun _ => by rw [show i - 1 = j from by rw [HJ.out]; rfl, HX.out]; exact hlt))
        have hq3 : (Ad < a) = False := eq_false hlt
        clear hlt
        go_wp2_with fail
        refine wp_region_det (fun w' => w'.cell? ⟨w.heap.size + 1, 0, none⟩ = some (.int .i64 0) ∧ w'.cell? ⟨w.heap.size + 1, 1, none⟩ = some (.slice none 0 0) ∧ (w.heap.size + 1 < w'.heap.size ∧ ∀ i, w'.frozen? ⟨w.heap.size + 1, i, none⟩ = false) ∧ w'.cell? ⟨F, 0, none⟩ = some (.int .i64 Kd) ∧ w'.cell? ⟨F, 1, none⟩ = some (.int .i64 Ad) ∧ w'.cell? ⟨F, 2, none⟩ = some (.int .i64 Dt) ∧ w'.cell? ⟨T, 0, none⟩ = some (.int .i64 t) ∧ w'.cell? ⟨T, 1, none⟩ = some (.slice (some ⟨g, 0, none⟩) n cap) ∧ (T < w'.heap.size ∧ ∀ i, w'.frozen? ⟨T, i, none⟩ = false) ∧ w'.ownsRow (F + 1) 42 10 (.slice (some ⟨g, 0, none⟩) n cap) (n) (hds (bubL l Ad i)) ∧ w'.cell? ⟨g, j * 10, none⟩ = some (.int .i64 a) ∧ Below w.heap.size w w') (by kernel_rfl) (by kernel_rfl) ⟨hS.1, hS.2.1, hS.2.2.1, hS.2.2.2.1, hS.2.2.2.2.1, hS.2.2.2.2.2.1, hS.2.2.2.2.2.2.1, hS.2.2.2.2.2.2.2.1, hS.2.2.2.2.2.2.2.2.1, HROW.out, c0, Below.drew (hS.2.2.2.2.2.2.2.2.2)⟩ ?_
        repeat (first
          | ((refine wpDet_skip (by rfl) ?_); simp only [Act.put, zp1, zp2, zp3])
          | ((refine wpDet_val (v := ?_) (by rfl) (fun w hS => ?_) ?_); rotate_left; (focus ((try dsimp only at hS); go_simp; (try (with_reducible rfl)); done)); simp only [Act.put, zp1, zp2, zp3]))
        refine wpDet_nil ?_
        intro w1 hS
        have hT : w1.cell? ⟨w.heap.size + 1, 0, none⟩ = some (.int .i64 0) ∧ w1.cell? ⟨w.heap.size + 1, 1, none⟩ = some (.slice none 0 0) ∧ (w.heap.size + 1 < w1.heap.size ∧ ∀ i, w1.frozen? ⟨w.heap.size + 1, i, none⟩ = false) ∧ w1.cell? ⟨F, 0, none⟩ = some (.int .i64 Kd) ∧ w1.cell? ⟨F, 1, none⟩ = some (.int .i64 Ad) ∧ w1.cell? ⟨F, 2, none⟩ = some (.int .i64 Dt) ∧ w1.cell? ⟨T, 0, none⟩ = some (.int .i64 t) ∧ w1.cell? ⟨T, 1, none⟩ = some (.slice (some ⟨g, 0, none⟩) n cap) ∧ (T < w1.heap.size ∧ ∀ i, w1.frozen? ⟨T, i, none⟩ = false) ∧ w1.ownsRow (F + 1) 42 10 (.slice (some ⟨g, 0, none⟩) n cap) (n) (hds (bubL l Ad i)) ∧ w1.cell? ⟨g, j * 10, none⟩ = some (.int .i64 a) ∧ Below w.heap.size w w1 := hS
        clear hS
        have hS := hT
        obtain ⟨c0, c1, c2, c3, c4, c5, c6, c7, c8, c9, c10, hB⟩ := hT
        have hzw : w.heap.size ≤ w1.heap.size := hB.size
        have hz1 : w.heap.size + 1 < w1.heap.size := World.block_lt_of_cell? w1 _ (hS.1)
        have hz2 : F < w1.heap.size := World.block_lt_of_cell? w1 _ (hS.2.2.2.1)
        have hz3 : T < w1.heap.size := World.block_lt_of_cell? w1 _ (hS.2.2.2.2.2.2.1)
        have hz4 : g < w1.heap.size := World.block_lt_of_cell? w1 _ (hS.2.2.2.2.2.2.2.2.2.2.1)
        go_wp2_with fail
        go_meet
        case rel => rw [HRB.out, HST.out, bub_len, HN9.out]; exact ⟨g, cap, rfl, hgT, hide (hS.2.2.2.2.2.2.2.2.2.1), hS.1, hS.2.1, hS.2.2.1, hS.2.2.2.1, hS.2.2.2.2.1, hS.2.2.2.2.2.1, hS.2.2.2.2.2.2.1, hS.2.2.2.2.2.2.2.1, hS.2.2.2.2.2.2.2.2.1, hS.2.2.2.2.2.2.2.2.2.2.2⟩
      have HAB2 := hide (show ∀ q, j ≤ q → q < l.length → Ad < (hx l q).1 from fun q h1 h2 => by
        by_cases e : q = j
        · rw [e, HX.out]; exact hlt
        · exact HAB.out q (by have := HJ.out; omega) h2)
      have hq3 : (Ad < a) = True := eq_true hlt
      clear hlt
      go_wp2_with fail
      refine wp_region_det (fun w' => w'.cell? ⟨w.heap.size + 1, 0, none⟩ = some (.int .i64 0) ∧ w'.cell? ⟨w.heap.size + 1, 1, none⟩ = some (.slice none 0 0) ∧ (w.heap.size + 1 < w'.heap.size ∧ ∀ i, w'.frozen? ⟨w.heap.size + 1, i, none⟩ = false) ∧ w'.cell? ⟨F, 0, none⟩ = some (.int .i64 Kd) ∧ w'.cell? ⟨F, 1, none⟩ = some (.int .i64 Ad) ∧ w'.cell? ⟨F, 2, none⟩ = some (.int .i64 Dt) ∧ w'.cell? ⟨T, 0, none⟩ = some (.int .i64 t) ∧ w'.cell? ⟨T, 1, none⟩ = some (.slice (some ⟨g, 0, none⟩) n cap) ∧ (T < w'.heap.size ∧ ∀ i, w'.frozen? ⟨T, i, none⟩ = false) ∧ w'.ownsRow (F + 1) 42 10 (.slice (some ⟨g, 0, none⟩) n cap) (n) (hds (bubL l Ad i)) ∧ w'.cell? ⟨g, j * 10, none⟩ = some (.int .i64 a) ∧ Below w.heap.size w w') (by kernel_rfl) (by kernel_rfl) ⟨hS.1, hS.2.1, hS.2.2.1, hS.2.2.2.1, hS.2.2.2.2.1, hS.2.2.2.2.2.1, hS.2.2.2.2.2.2.1, hS.2.2.2.2.2.2.2.1, hS.2.2.2.2.2.2.2.2.1, HROW.out, c0, Below.drew (hS.2.2.2.2.2.2.2.2.2)⟩ ?_
      repeat (first
        | ((refine wpDet_skip (by rfl) ?_); simp only [Act.put, zp1, zp2, zp3])
        | ((refine wpDet_val (v := ?_) (by rfl) (fun w hS => ?_) ?_); rotate_left; (focus ((try dsimp only at hS); go_simp; (try (with_reducible rfl)); done)); simp only [Act.put, zp1, zp2, zp3]))
      refine wpDet_nil ?_
      intro w1 hS
      have hT : w1.cell? ⟨w.heap.size + 1, 0, none⟩ = some (.int .i64 0) ∧ w1.cell? ⟨w.heap.size + 1, 1, none⟩ = some (.slice none 0 0) ∧ (w.heap.size + 1 < w1.heap.size ∧ ∀ i, w1.frozen? ⟨w.heap.size + 1, i, none⟩ = false) ∧ w1.cell? ⟨F, 0, none⟩ = some (.int .i64 Kd) ∧ w1.cell? ⟨F, 1, none⟩ = some (.int .i64 Ad) ∧ w1.cell? ⟨F, 2, none⟩ = some (.int .i64 Dt) ∧ w1.cell? ⟨T, 0, none⟩ = some (.int .i64 t) ∧ w1.cell? ⟨T, 1, none⟩ = some (.slice (some ⟨g, 0, none⟩) n cap) ∧ (T < w1.heap.size ∧ ∀ i, w1.frozen? ⟨T, i, none⟩ = false) ∧ w1.ownsRow (F + 1) 42 10 (.slice (some ⟨g, 0, none⟩) n cap) (n) (hds (bubL l Ad i)) ∧ w1.cell? ⟨g, j * 10, none⟩ = some (.int .i64 a) ∧ Below w.heap.size w w1 := hS
      clear hS
      have hS := hT
      obtain ⟨c0, c1, c2, c3, c4, c5, c6, c7, c8, c9, c10, hB⟩ := hT
      have hzw : w.heap.size ≤ w1.heap.size := hB.size
      have hz1 : w.heap.size + 1 < w1.heap.size := World.block_lt_of_cell? w1 _ (hS.1)
      have hz2 : F < w1.heap.size := World.block_lt_of_cell? w1 _ (hS.2.2.2.1)
      have hz3 : T < w1.heap.size := World.block_lt_of_cell? w1 _ (hS.2.2.2.2.2.2.1)
      have hz4 : g < w1.heap.size := World.block_lt_of_cell? w1 _ (hS.2.2.2.2.2.2.2.2.2.2.1)
      go_wp2_with fail
      obtain ⟨X0, hX0⟩ : ∃ X, w1.drew = X := ⟨_, rfl⟩
      have R0 : X0.ownsRow (F + 1) 42 10 (.slice (some ⟨g, 0, none⟩) n cap) n (hds (bubL l Ad i)) := by rw [← hX0]; exact hS.2.2.2.2.2.2.2.2.2.1
      have xa : X0.cell? ⟨T, 1, none⟩ = some (.slice (some ⟨g, 0, none⟩) n cap) := by rw [← hX0]; exact hS.2.2.2.2.2.2.2.1
      have d0 : X0.cell? ⟨g, j * 10, none⟩ = some (.int .i64 a) := row_cell (j := 0) R0 (by rw [bub_len, HN9.out]) (by rw [bub_len]; omega) (by omega) (by rw [HE.out]; rfl)
      have d1 : X0.cell? ⟨g, j * 10 + 1, none⟩ = some (.bool eo) := row_cell (j := 1) R0 (by rw [bub_len, HN9.out]) (by rw [bub_len]; omega) (by omega) (by rw [HE.out]; rfl)
      have d2 : X0.cell? ⟨g, j * 10 + 2, none⟩ = some (.int .i64 ea) := row_cell (j := 2) R0 (by rw [bub_len, HN9.out]) (by rw [bub_len]; omega) (by omega) (by rw [HE.out]; rfl)
      have d3 : X0.cell? ⟨g, j * 10 + 3, none⟩ = some (.int .i64 eb) := row_cell (j := 3) R0 (by rw [bub_len, HN9.out]) (by rw [bub_len]; omega) (by omega) (by rw [HE.out]; rfl)
      have d4 : X0.cell? ⟨g, j * 10 + 4, none⟩ = some (.int .i64 et) := row_cell (j := 4) R0 (by rw [bub_len, HN9.out]) (by rw [bub_len]; omega) (by omega) (by rw [HE.out]; rfl)
      have d5 : X0.cell? ⟨g, j * 10 + 5, none⟩ = some (.bool oo) := row_cell (j := 5) R0 (by rw [bub_len, HN9.out]) (by rw [bub_len]; omega) (by omega) (by rw [HE.out]; rfl)
      have d6 : X0.cell? ⟨g, j * 10 + 6, none⟩ = some (.int .i64 oa) := row_cell (j := 6) R0 (by rw [bub_len, HN9.out]) (by rw [bub_len]; omega) (by omega) (by rw [HE.out]; rfl)
      have d7 : X0.cell? ⟨g, j * 10 + 7, none⟩ = some (.int .i64 ob) := row_cell (j := 7) R0 (by rw [bub_len, HN9.out]) (by rw [bub_len]; omega) (by omega) (by rw [HE.out]; rfl)
      have d8 : X0.cell? ⟨g, j * 10 + 8, none⟩ = some (.int .i64 ot) := row_cell (j := 8) R0 (by rw [bub_len, HN9.out]) (by rw [bub_len]; omega) (by omega) (by rw [HE.out]; rfl)
      have d9 : X0.cell? ⟨g, j * 10 + 9, none⟩ = some (.int .i64 f) := row_cell (j := 9) R0 (by rw [bub_len, HN9.out]) (by rw [bub_len]; omega) (by omega) (by rw [HE.out]; rfl)
      have HN := hide (bub_at (A := Ad) hi)
      have e0 : X0.cell? ⟨g, i * 10, none⟩ = some (.int .i64 Ad) := row_cell (j := 0) R0 (by rw [bub_len, HN9.out]) (by rw [bub_len]; omega) (by omega) (by rw [HN.out]; rfl)
      have e1 : X0.cell? ⟨g, i * 10 + 1, none⟩ = some (.bool false) := row_cell (j := 1) R0 (by rw [bub_len, HN9.out]) (by rw [bub_len]; omega) (by omega) (by rw [HN.out]; rfl)
      have e2 : X0.cell? ⟨g, i * 10 + 2, none⟩ = some (.int .i64 0) := row_cell (j := 2) R0 (by rw [bub_len, HN9.out]) (by rw [bub_len]; omega) (by omega) (by rw [HN.out]; rfl)
      have e3 : X0.cell? ⟨g, i * 10 + 3, none⟩ = some (.int .i64 0) := row_cell (j := 3) R0 (by rw [bub_len, HN9.out]) (by rw [bub_len]; omega) (by omega) (by rw [HN.out]; rfl)
      have e4 : X0.cell? ⟨g, i * 10 + 4, none⟩ = some (.int .i64 (-1)) := row_cell (j := 4) R0 (by rw [bub_len, HN9.out]) (by rw [bub_len]; omega) (by omega) (by rw [HN.out]; rfl)
      have e5 : X0.cell? ⟨g, i * 10 + 5, none⟩ = some (.bool false) := row_cell (j := 5) R0 (by rw [bub_len, HN9.out]) (by rw [bub_len]; omega) (by omega) (by rw [HN.out]; rfl)
      have e6 : X0.cell? ⟨g, i * 10 + 6, none⟩ = some (.int .i64 0) := row_cell (j := 6) R0 (by rw [bub_len, HN9.out]) (by rw [bub_len]; omega) (by omega) (by rw [HN.out]; rfl)
      have e7 : X0.cell? ⟨g, i * 10 + 7, none⟩ = some (.int .i64 0) := row_cell (j := 7) R0 (by rw [bub_len, HN9.out]) (by rw [bub_len]; omega) (by omega) (by rw [HN.out]; rfl)
      have e8 : X0.cell? ⟨g, i * 10 + 8, none⟩ = some (.int .i64 (-1)) := row_cell (j := 8) R0 (by rw [bub_len, HN9.out]) (by rw [bub_len]; omega) (by omega) (by rw [HN.out]; rfl)
      have e9 : X0.cell? ⟨g, i * 10 + 9, none⟩ = some (.int .i64 0) := row_cell (j := 9) R0 (by rw [bub_len, HN9.out]) (by rw [bub_len]; omega) (by omega) (by rw [HN.out]; rfl)
      obtain ⟨X1, hX1⟩ : ∃ X, tenW X0 g j (nwH Ad) = X := ⟨_, rfl⟩
      obtain ⟨X2, hX2⟩ : ∃ X, tenW X1 g i (a, (eo, ea, eb), et, (oo, oa, ob), ot, f) = X := ⟨_, rfl⟩
      have hTg : T ≠ g := fun e => hgT e.symm
      have xb : X1.cell? ⟨T, 1, none⟩ = some (.slice (some ⟨g, 0, none⟩) n cap) := by rw [← hX1]; exact ten_cell _ _ hTg xa
      have xc : X2.cell? ⟨T, 1, none⟩ = some (.slice (some ⟨g, 0, none⟩) n cap) := by rw [← hX2]; exact ten_cell _ _ hTg xb
      have fa : ∀ q, X0.frozen? ⟨g, q, none⟩ = false := fun q => R0.frozenAt q
      have fb : ∀ q, X1.frozen? ⟨g, q, none⟩ = false := fun q => by rw [← hX1]; exact (ten_row R0 (k := j) (by rw [bub_len]; omega) (nwH Ad)).frozenAt q
      have R1 : X1.ownsRow (F + 1) 42 10 (.slice (some ⟨g, 0, none⟩) n cap) n (hds ((bubL l Ad i).set j (nwH Ad))) := by rw [← hX1]; exact ten_row R0 (k := j) (by rw [bub_len]; omega) (nwH Ad)
      have HN1 := hide ((hx_set_ne (show j ≠ i by omega) (nwH Ad)).trans HN.out)
      have y0 : X1.cell? ⟨g, i * 10, none⟩ = some (.int .i64 Ad) := row_cell (j := 0) R1 (by rw [List.length_set, bub_len, HN9.out]) (by rw [List.length_set, bub_len]; omega) (by omega) (by rw [HN1.out]; rfl)
      have y1 : X1.cell? ⟨g, i * 10 + 1, none⟩ = some (.bool false) := row_cell (j := 1) R1 (by rw [List.length_set, bub_len, HN9.out]) (by rw [List.length_set, bub_len]; omega) (by omega) (by rw [HN1.out]; rfl)
      have y2 : X1.cell? ⟨g, i * 10 + 2, none⟩ = some (.int .i64 0) := row_cell (j := 2) R1 (by rw [List.length_set, bub_len, HN9.out]) (by rw [List.length_set, bub_len]; omega) (by omega) (by rw [HN1.out]; rfl)
      have y3 : X1.cell? ⟨g, i * 10 + 3, none⟩ = some (.int .i64 0) := row_cell (j := 3) R1 (by rw [List.length_set, bub_len, HN9.out]) (by rw [List.length_set, bub_len]; omega) (by omega) (by rw [HN1.out]; rfl)
      have y4 : X1.cell? ⟨g, i * 10 + 4, none⟩ = some (.int .i64 (-1)) := row_cell (j := 4) R1 (by rw [List.length_set, bub_len, HN9.out]) (by rw [List.length_set, bub_len]; omega) (by omega) (by rw [HN1.out]; rfl)
      have y5 : X1.cell? ⟨g, i * 10 + 5, none⟩ = some (.bool false) := row_cell (j := 5) R1 (by rw [List.length_set, bub_len, HN9.out]) (by rw [List.length_set, bub_len]; omega) (by omega) (by rw [HN1.out]; rfl)
      have y6 : X1.cell? ⟨g, i * 10 + 6, none⟩ = some (.int .i64 0) := row_cell (j := 6) R1 (by rw [List.length_set, bub_len, HN9.out]) (by rw [List.length_set, bub_len]; omega) (by omega) (by rw [HN1.out]; rfl)
      have y7 : X1.cell? ⟨g, i * 10 + 7, none⟩ = some (.int .i64 0) := row_cell (j := 7) R1 (by rw [List.length_set, bub_len, HN9.out]) (by rw [List.length_set, bub_len]; omega) (by omega) (by rw [HN1.out]; rfl)
      have y8 : X1.cell? ⟨g, i * 10 + 8, none⟩ = some (.int .i64 (-1)) := row_cell (j := 8) R1 (by rw [List.length_set, bub_len, HN9.out]) (by rw [List.length_set, bub_len]; omega) (by omega) (by rw [HN1.out]; rfl)
      have y9 : X1.cell? ⟨g, i * 10 + 9, none⟩ = some (.int .i64 0) := row_cell (j := 9) R1 (by rw [List.length_set, bub_len, HN9.out]) (by rw [List.length_set, bub_len]; omega) (by omega) (by rw [HN1.out]; rfl)
      have R2 : X2.ownsRow (F + 1) 42 10 (.slice (some ⟨g, 0, none⟩) n cap) n (hds (bubL l Ad j)) := by
        have h9 := ten_row (ten_row R0 (k := j) (by rw [bub_len]; omega) (nwH Ad)) (k := i) (by rw [List.length_set, bub_len]; omega) (a, (eo, ea, eb), et, (oo, oa, ob), ot, f)
        have hb : ((bubL l Ad i).set j (nwH Ad)).set i (a, (eo, ea, eb), et, (oo, oa, ob), ot, f) = bubL l Ad j := by rw [← HX.out, HJ.out]; exact bub_swap hjl
        rw [hb, hX1, hX2] at h9
        exact h9
      have S2 : X2.cell? ⟨w.heap.size + 1, 0, none⟩ = some (.int .i64 0) ∧ X2.cell? ⟨w.heap.size + 1, 1, none⟩ = some (.slice none 0 0) ∧ (w.heap.size + 1 < X2.heap.size ∧ ∀ i, X2.frozen? ⟨w.heap.size + 1, i, none⟩ = false) ∧ X2.cell? ⟨F, 0, none⟩ = some (.int .i64 Kd) ∧ X2.cell? ⟨F, 1, none⟩ = some (.int .i64 Ad) ∧ X2.cell? ⟨F, 2, none⟩ = some (.int .i64 Dt) ∧ X2.cell? ⟨T, 0, none⟩ = some (.int .i64 t) ∧ X2.cell? ⟨T, 1, none⟩ = some (.slice (some ⟨g, 0, none⟩) n cap) ∧ (T < X2.heap.size ∧ ∀ i, X2.frozen? ⟨T, i, none⟩ = false) ∧ Below w.heap.size w X2 := by
        rw [← hX2, ← hX1]
        exact ⟨ten_cell _ _ (by omega) (ten_cell _ _ (by omega) (by rw [← hX0]; exact hS.1)), ten_cell _ _ (by omega) (ten_cell _ _ (by omega) (by rw [← hX0]; exact hS.2.1)), ten_fre _ _ _ (ten_fre _ _ _ (by rw [← hX0]; exact hS.2.2.1)), ten_cell _ _ (by omega) (ten_cell _ _ (by omega) (by rw [← hX0]; exact hS.2.2.2.1)), ten_cell _ _ (by omega) (ten_cell _ _ (by omega) (by rw [← hX0]; exact hS.2.2.2.2.1)), ten_cell _ _ (by omega) (ten_cell _ _ (by omega) (by rw [← hX0]; exact hS.2.2.2.2.2.1)), ten_cell _ _ (by omega) (ten_cell _ _ (by omega) (by rw [← hX0]; exact hS.2.2.2.2.2.2.1)), ten_cell _ _ (by omega) (ten_cell _ _ (by omega) (by rw [← hX0]; exact hS.2.2.2.2.2.2.2.1)), ten_fre _ _ _ (ten_fre _ _ _ (by rw [← hX0]; exact hS.2.2.2.2.2.2.2.2.1)), ten_below _ _ (ten_below _ _ (by rw [← hX0]; exact Below.drew (hS.2.2.2.2.2.2.2.2.2.2.2)) (by omega)) (by omega)⟩
      clear hS
      refine wp_region_ph [76, 84, 87] (fun p W => W = (if p = 0 then X0 else if p = 1 then X1 else X2)) (by kernel_rfl) (by kernel_rfl) (by kernel_rfl) hX0 ?_
      repeat (first
        | ((refine wpPh_skip (by rfl) (by rfl) ?_); simp only [Act.put, zp1, zp2, zp3])
        | ((refine wpPh_pure (v := ?_) (by rfl) (by rfl) (by rfl) (fun w => ?_) ?_); rotate_left; (focus (go_simp; (try (with_reducible rfl)); done)); simp only [Act.put, zp1, zp2, zp3])
        | ((refine wpPh_free (v := (.slice (some ⟨g, 0, none⟩) n cap)) (by rfl) (by rfl) (by rfl) (fun q wq hQ => ?_) ?_); (focus (have hq9 : wq.cell? ⟨T, 1, none⟩ = some (.slice (some ⟨g, 0, none⟩) n cap) := (by rcases ph3 hQ with h | h | h <;> (rw [h]; assumption)); clear hQ hX0 hX1 hX2; go_simp; done)); simp only [Act.put, zp1, zp2, zp3])
        | ((refine wpPh_val (v := ?_) (by rfl) (by rfl) (by rfl) (fun wq hQ => ?_) ?_); rotate_left; (focus (obtain rfl : wq = X0 := hQ; go_simp; (try (with_reducible rfl)); done)); simp only [Act.put, zp1, zp2, zp3])
        | ((refine wpPh_store (by rfl) (by rfl) (by rfl) (fun wq hQ => ?_) ?_); (focus (obtain rfl : wq = X0 := hQ; apply Exists.intro; refine And.intro ?_ ?_; (focus (go_simp; (with_reducible rfl))); (exact hX1))))
        | ((refine wpPh_store (by rfl) (by rfl) (by rfl) (fun wq hQ => ?_) ?_); (focus (obtain rfl : wq = X1 := hQ; apply Exists.intro; refine And.intro ?_ ?_; (focus (go_simp; (with_reducible rfl))); (exact hX2)))))
      refine wpPh_nil ?_
      intro wz hz
      rw [show wz = X2 from hz]
      clear hz
      clear d0 e0 y0 d1 e1 y1 d2 e2 y2 d3 e3 y3 d4 e4 y4 d5 e5 y5 d6 e6 y6 d7 e7 y7 d8 e8 y8 d9 e9 y9
      go_wp2_with fail
      go_roundw
      case rel => exact ⟨j, by omega, by go_num, hide R2, HAB2, S2⟩
      case measure => simp [intOf]; omega
  
  (try clear hS)
  (try clear HROW)
  (try clear hzw)
  (try clear hB)
  (try clear hT9)
  obtain ⟨g, cp, rfl, hgT, HROW, hS⟩ := hcut
  have hkl := rcB_at Ad l
  have hll := rcB_len Ad l
  have hff := rcB_f (A := Ad) HOK.out
  obtain ⟨k, hk⟩ : ∃ q, rcI Ad l = q := ⟨_, rfl⟩
  obtain ⟨L, hL⟩ : ∃ q, rcB Ad l = q := ⟨_, rfl⟩
  have HVL := hide (show rcL t Ad Kd Dt l = L.set k (upH t Kd Dt (hx L k)) from by unfold rcL; rw [hL, hk])
  rw [hL, hk] at hff hkl
  rw [hL] at HROW hS hll
  rw [hk]
  clear hL hk HFN
  obtain ⟨⟨a, ⟨eo, ea, eb⟩, et, ⟨oo, oa, ob⟩, ot, f⟩, he⟩ : ∃ q, hx L k = q := ⟨_, rfl⟩
  rw [he] at HVL hff
  have HE := hide he
  clear he
  have hf0 : 0 ≤ f := hff.1
  have hf1 : f ≤ 9999 := hff.2
  clear hff
  have ef : IntKind.i64.wrap (f + 1) = f + 1 := IntWalk.i64_in _ (by omega)
  obtain ⟨Y, hY⟩ : ∃ q, upH t Kd Dt (a, (eo, ea, eb), et, (oo, oa, ob), ot, f) = q := ⟨_, rfl⟩
  rw [hY] at HVL
  have HY := hide hY
  clear hY
  have c9 : wc.cell? ⟨g, k * 10 + 9, none⟩ = some (.int .i64 f) := row_cell (j := 9) HROW.out rfl hkl (by omega) (by rw [HE.out]; rfl)
  have fz : ∀ q, wc.frozen? ⟨g, q, none⟩ = false := fun q => HROW.out.frozenAt q
  have hg0 : F + 1 ≤ g := (HROW.out.lt g rfl).1
  have hFg : F ≠ g := by omega
  have hTg : T ≠ g := fun e => hgT e.symm
  go_upto_region 14 with fail
  obtain ⟨X14, hX14⟩ : ∃ X, wc.setCell ⟨g, k * 10 + 9, none⟩ (.int .i64 (f + 1)) = X := ⟨_, rfl⟩
  rw [hX14]
  have HR14 : Hid (X14.ownsRow (F + 1) 42 10 (.slice (some ⟨g, 0, none⟩) L.length cp) L.length (hds (L.set k (a, (eo, ea, eb), et, (oo, oa, ob), ot, f + 1)))) := hide (by rw [← hX14, ← set_f hkl HE.out]; exact (HROW.out.stored _ _).1)
  have hS14 : X14.cell? ⟨w.heap.size + 1, 0, none⟩ = some (.int .i64 0) ∧ X14.cell? ⟨w.heap.size + 1, 1, none⟩ = some (.slice none 0 0) ∧ (w.heap.size + 1 < X14.heap.size ∧ ∀ i, X14.frozen? ⟨w.heap.size + 1, i, none⟩ = false) ∧ X14.cell? ⟨F, 0, none⟩ = some (.int .i64 Kd) ∧ X14.cell? ⟨F, 1, none⟩ = some (.int .i64 Ad) ∧ X14.cell? ⟨F, 2, none⟩ = some (.int .i64 Dt) ∧ X14.cell? ⟨T, 0, none⟩ = some (.int .i64 t) ∧ X14.cell? ⟨T, 1, none⟩ = some (.slice (some ⟨g, 0, none⟩) L.length cp) ∧ (T < X14.heap.size ∧ ∀ i, X14.frozen? ⟨T, i, none⟩ = false) ∧ Below w.heap.size w X14 := by rw [← hX14]; exact ⟨sc _ (by omega) (hS.1), sc _ (by omega) (hS.2.1), sf _ (hS.2.2.1), sc _ (by omega) (hS.2.2.2.1), sc _ (by omega) (hS.2.2.2.2.1), sc _ (by omega) (hS.2.2.2.2.2.1), sc _ (by omega) (hS.2.2.2.2.2.2.1), sc _ (by omega) (hS.2.2.2.2.2.2.2.1), sf _ (hS.2.2.2.2.2.2.2.2.1), (hS.2.2.2.2.2.2.2.2.2).setCell (p := ⟨g, _, none⟩) (by show _ ≤ g; omega) _⟩
  clear hS hX14 HROW fz c9 hf0 hf1 ef
  (try clear hzw)
  (try clear hB)
  have hS := hS14
  clear hS14
  have hB := hS.2.2.2.2.2.2.2.2.2
  have hzw : w.heap.size ≤ X14.heap.size := hB.size
  go_upto_region 15 with (first | (go_at_call 93; refine (unpack_c Dt _).mono ?_; rintro e w9 ⟨rfl, hb⟩; have hT : w9.cell? ⟨w.heap.size + 1, 0, none⟩ = some (.int .i64 0) ∧ w9.cell? ⟨w.heap.size + 1, 1, none⟩ = some (.slice none 0 0) ∧ (w.heap.size + 1 < w9.heap.size ∧ ∀ i, w9.frozen? ⟨w.heap.size + 1, i, none⟩ = false) ∧ w9.cell? ⟨F, 0, none⟩ = some (.int .i64 Kd) ∧ w9.cell? ⟨F, 1, none⟩ = some (.int .i64 Ad) ∧ w9.cell? ⟨F, 2, none⟩ = some (.int .i64 Dt) ∧ w9.cell? ⟨T, 0, none⟩ = some (.int .i64 t) ∧ w9.cell? ⟨T, 1, none⟩ = some (.slice (some ⟨g, 0, none⟩) L.length cp) ∧ (T < w9.heap.size ∧ ∀ i, w9.frozen? ⟨T, i, none⟩ = false) ∧ Below w.heap.size w w9 := (fun W h hb => ⟨keep_cell (hb) h.1, keep_cell (hb) h.2.1, keep_fre (hb) h.2.2.1, keep_cell (hb) h.2.2.2.1, keep_cell (hb) h.2.2.2.2.1, keep_cell (hb) h.2.2.2.2.2.1, keep_cell (hb) h.2.2.2.2.2.2.1, keep_cell (hb) h.2.2.2.2.2.2.2.1, keep_fre (hb) h.2.2.2.2.2.2.2.2.1, below_via h.2.2.2.2.2.2.2.2.2 (hb)⟩ : ∀ W : World, (W.cell? ⟨w.heap.size + 1, 0, none⟩ = some (.int .i64 0) ∧ W.cell? ⟨w.heap.size + 1, 1, none⟩ = some (.slice none 0 0) ∧ (w.heap.size + 1 < W.heap.size ∧ ∀ i, W.frozen? ⟨w.heap.size + 1, i, none⟩ = false) ∧ W.cell? ⟨F, 0, none⟩ = some (.int .i64 Kd) ∧ W.cell? ⟨F, 1, none⟩ = some (.int .i64 Ad) ∧ W.cell? ⟨F, 2, none⟩ = some (.int .i64 Dt) ∧ W.cell? ⟨T, 0, none⟩ = some (.int .i64 t) ∧ W.cell? ⟨T, 1, none⟩ = some (.slice (some ⟨g, 0, none⟩) L.length cp) ∧ (T < W.heap.size ∧ ∀ i, W.frozen? ⟨T, i, none⟩ = false) ∧ Below w.heap.size w W) → Below W.heap.size W w9 → (w9.cell? ⟨w.heap.size + 1, 0, none⟩ = some (.int .i64 0) ∧ w9.cell? ⟨w.heap.size + 1, 1, none⟩ = some (.slice none 0 0) ∧ (w.heap.size + 1 < w9.heap.size ∧ ∀ i, w9.frozen? ⟨w.heap.size + 1, i, none⟩ = false) ∧ w9.cell? ⟨F, 0, none⟩ = some (.int .i64 Kd) ∧ w9.cell? ⟨F, 1, none⟩ = some (.int .i64 Ad) ∧ w9.cell? ⟨F, 2, none⟩ = some (.int .i64 Dt) ∧ w9.cell? ⟨T, 0, none⟩ = some (.int .i64 t) ∧ w9.cell? ⟨T, 1, none⟩ = some (.slice (some ⟨g, 0, none⟩) L.length cp) ∧ (T < w9.heap.size ∧ ∀ i, w9.frozen? ⟨T, i, none⟩ = false) ∧ Below w.heap.size w w9)) _ hS hb; (try clear hS); have hS := hT; clear hT; have hB := hS.2.2.2.2.2.2.2.2.2; have hzw : w.heap.size ≤ w9.heap.size := hB.size; have hz1 : w.heap.size + 1 < w9.heap.size := World.block_lt_of_cell? w9 _ (hS.1); have hz2 : F < w9.heap.size := World.block_lt_of_cell? w9 _ (hS.2.2.2.1); have hz3 : T < w9.heap.size := World.block_lt_of_cell? w9 _ (hS.2.2.2.2.2.2.1); have R9 := hide (own_below HR14.out hb); clear hb))
  obtain ⟨P, hP⟩ : ∃ q, w9.heap.size = q := ⟨_, rfl⟩
  obtain ⟨X15, hX15⟩ : ∃ X, World.alloc w9 (.cells #[.bool (upO Dt), .int .i64 (upA Dt), .int .i64 (upB Dt)] 40) = X := ⟨_, rfl⟩
  rw [hX15, hP]
  have hbx : Below w9.heap.size w9 X15 := by rw [← hX15]; go_grown
  have HR15 := hide (own_below R9.out hbx)
  have hS15 : X15.cell? ⟨w.heap.size + 1, 0, none⟩ = some (.int .i64 0) ∧ X15.cell? ⟨w.heap.size + 1, 1, none⟩ = some (.slice none 0 0) ∧ (w.heap.size + 1 < X15.heap.size ∧ ∀ i, X15.frozen? ⟨w.heap.size + 1, i, none⟩ = false) ∧ X15.cell? ⟨F, 0, none⟩ = some (.int .i64 Kd) ∧ X15.cell? ⟨F, 1, none⟩ = some (.int .i64 Ad) ∧ X15.cell? ⟨F, 2, none⟩ = some (.int .i64 Dt) ∧ X15.cell? ⟨T, 0, none⟩ = some (.int .i64 t) ∧ X15.cell? ⟨T, 1, none⟩ = some (.slice (some ⟨g, 0, none⟩) L.length cp) ∧ (T < X15.heap.size ∧ ∀ i, X15.frozen? ⟨T, i, none⟩ = false) ∧ X15.cell? ⟨P, 0, none⟩ = some (.bool (upO Dt)) ∧ X15.cell? ⟨P, 1, none⟩ = some (.int .i64 (upA Dt)) ∧ X15.cell? ⟨P, 2, none⟩ = some (.int .i64 (upB Dt)) ∧ Below w.heap.size w X15 := ⟨keep_cell hbx (hS.1), keep_cell hbx (hS.2.1), keep_fre hbx (hS.2.2.1), keep_cell hbx (hS.2.2.2.1), keep_cell hbx (hS.2.2.2.2.1), keep_cell hbx (hS.2.2.2.2.2.1), keep_cell hbx (hS.2.2.2.2.2.2.1), keep_cell hbx (hS.2.2.2.2.2.2.2.1), keep_fre hbx (hS.2.2.2.2.2.2.2.2.1), (by rw [← hX15, ← hP]; simp [go_sem]), (by rw [← hX15, ← hP]; simp [go_sem]), (by rw [← hX15, ← hP]; simp [go_sem]), below_via (hS.2.2.2.2.2.2.2.2.2) hbx⟩
  have hPg : g < P := by rw [← hP]; exact (R9.out.lt g rfl).2
  clear hbx hX15 hP hS HR14 R9 hzw hB hz1 hz2 hz3
  have hS := hS15
  clear hS15
  go_cut [15, 113] (fun bv sv wx => bv = .bool (upK Dt) ∧ sv = .bool (decide (upK Dt = true ∧ Kd = 2)) ∧ Hid (wx.ownsRow (F + 1) 42 10 (.slice (some ⟨g, 0, none⟩) L.length cp) L.length (hds (L.set k (a, (eo, ea, eb), et, (oo, oa, ob), ot, f + 1)))) ∧ (wx.cell? ⟨w.heap.size + 1, 0, none⟩ = some (.int .i64 0) ∧ wx.cell? ⟨w.heap.size + 1, 1, none⟩ = some (.slice none 0 0) ∧ (w.heap.size + 1 < wx.heap.size ∧ ∀ i, wx.frozen? ⟨w.heap.size + 1, i, none⟩ = false) ∧ wx.cell? ⟨F, 0, none⟩ = some (.int .i64 Kd) ∧ wx.cell? ⟨F, 1, none⟩ = some (.int .i64 Ad) ∧ wx.cell? ⟨F, 2, none⟩ = some (.int .i64 Dt) ∧ wx.cell? ⟨T, 0, none⟩ = some (.int .i64 t) ∧ wx.cell? ⟨T, 1, none⟩ = some (.slice (some ⟨g, 0, none⟩) L.length cp) ∧ (T < wx.heap.size ∧ ∀ i, wx.frozen? ⟨T, i, none⟩ = false) ∧ wx.cell? ⟨P, 0, none⟩ = some (.bool (upO Dt)) ∧ wx.cell? ⟨P, 1, none⟩ = some (.int .i64 (upA Dt)) ∧ wx.cell? ⟨P, 2, none⟩ = some (.int .i64 (upB Dt)) ∧ Below w.heap.size w wx))
  case first =>
    rcases kU : upK Dt with _ | _
    · go_wp2_with fail
      go_meet
      case rel => exact ⟨(by first | rfl | rw [kU]), (by (try rw [kU]); rw [show decide (false = true ∧ Kd = 2) = false from decide_eq_false (fun h => absurd h.1 (by decide))]), HR15, hS⟩
    by_cases k2 : Kd = 2
    · have hq2 : (Kd == 2) = true := by rw [k2]; rfl
      have HK2 := hide k2
      clear k2
      go_wp2_with fail
      go_meet
      case rel => exact ⟨(by first | rfl | rw [kU]), (by (try rw [kU]); rw [show decide (true = true ∧ Kd = 2) = true from decide_eq_true ⟨rfl, HK2.out⟩]), HR15, hS⟩
    have hq2 : (Kd == 2) = false := beq_false_of_ne k2
    have HK2 := hide k2
    clear k2
    go_wp2_with fail
    go_meet
    case rel => exact ⟨(by first | rfl | rw [kU]), (by (try rw [kU]); rw [show decide (true = true ∧ Kd = 2) = false from decide_eq_false (fun h => HK2.out h.2)]), HR15, hS⟩
  
  (try clear hS)
  (try clear HROW)
  (try clear hzw)
  (try clear hB)
  (try clear hT9)
  obtain ⟨rfl, rfl, HROW, hS⟩ := hcut
  clear HR15
  go_upto_if 113 with fail
  go_cut [] (fun wx => Hid (wx.ownsRow (F + 1) 42 10 (.slice (some ⟨g, 0, none⟩) L.length cp) L.length (hds (L.set k Y))) ∧ (wx.cell? ⟨w.heap.size + 1, 0, none⟩ = some (.int .i64 0) ∧ wx.cell? ⟨w.heap.size + 1, 1, none⟩ = some (.slice none 0 0) ∧ (w.heap.size + 1 < wx.heap.size ∧ ∀ i, wx.frozen? ⟨w.heap.size + 1, i, none⟩ = false) ∧ wx.cell? ⟨F, 0, none⟩ = some (.int .i64 Kd) ∧ wx.cell? ⟨F, 1, none⟩ = some (.int .i64 Ad) ∧ wx.cell? ⟨F, 2, none⟩ = some (.int .i64 Dt) ∧ wx.cell? ⟨T, 0, none⟩ = some (.int .i64 t) ∧ wx.cell? ⟨T, 1, none⟩ = some (.slice (some ⟨g, 0, none⟩) L.length cp) ∧ (T < wx.heap.size ∧ ∀ i, wx.frozen? ⟨T, i, none⟩ = false) ∧ Below w.heap.size w wx))
  case first =>
    have hzw : w.heap.size ≤ wc.heap.size := (hS.2.2.2.2.2.2.2.2.2.2.2.2).size
    by_cases kk : upK Dt = true ∧ Kd = 2
    rotate_left
    · have hn : decide (upK Dt = true ∧ Kd = 2) = false := decide_eq_false kk
      rw [hn]
      have HX := hide (show Y = (a, (eo, ea, eb), et, (oo, oa, ob), ot, f + 1) from by rw [← HY.out]; unfold upH; rw [if_neg kk])
      clear kk
      go_wp2_with fail
      go_meet
      case rel => rw [HX.out]; exact ⟨HROW, hS.1, hS.2.1, hS.2.2.1, hS.2.2.2.1, hS.2.2.2.2.1, hS.2.2.2.2.2.1, hS.2.2.2.2.2.2.1, hS.2.2.2.2.2.2.2.1, hS.2.2.2.2.2.2.2.2.1, hS.2.2.2.2.2.2.2.2.2.2.2.2⟩
    have hn : decide (upK Dt = true ∧ Kd = 2) = true := decide_eq_true kk
    rw [hn]
    have fz : ∀ q, wc.frozen? ⟨g, q, none⟩ = false := fun q => HROW.out.frozenAt q
    have HE1 := hide (show hx (L.set k (a, (eo, ea, eb), et, (oo, oa, ob), ot, f + 1)) k = (a, (eo, ea, eb), et, (oo, oa, ob), ot, f + 1) from hx_set hkl _)
    have hkl2 : k < (L.set k (a, (eo, ea, eb), et, (oo, oa, ob), ot, f + 1)).length := by rw [List.length_set]; exact hkl
    have d1 : wc.cell? ⟨g, k * 10 + 1, none⟩ = some (.bool eo) := row_cell (j := 1) HROW.out (by rw [List.length_set]) hkl2 (by omega) (by rw [HE1.out]; rfl)
    have d2 : wc.cell? ⟨g, k * 10 + 2, none⟩ = some (.int .i64 ea) := row_cell (j := 2) HROW.out (by rw [List.length_set]) hkl2 (by omega) (by rw [HE1.out]; rfl)
    have d3 : wc.cell? ⟨g, k * 10 + 3, none⟩ = some (.int .i64 eb) := row_cell (j := 3) HROW.out (by rw [List.length_set]) hkl2 (by omega) (by rw [HE1.out]; rfl)
    have d4 : wc.cell? ⟨g, k * 10 + 4, none⟩ = some (.int .i64 et) := row_cell (j := 4) HROW.out (by rw [List.length_set]) hkl2 (by omega) (by rw [HE1.out]; rfl)
    have d5 : wc.cell? ⟨g, k * 10 + 5, none⟩ = some (.bool oo) := row_cell (j := 5) HROW.out (by rw [List.length_set]) hkl2 (by omega) (by rw [HE1.out]; rfl)
    have d6 : wc.cell? ⟨g, k * 10 + 6, none⟩ = some (.int .i64 oa) := row_cell (j := 6) HROW.out (by rw [List.length_set]) hkl2 (by omega) (by rw [HE1.out]; rfl)
    have d7 : wc.cell? ⟨g, k * 10 + 7, none⟩ = some (.int .i64 ob) := row_cell (j := 7) HROW.out (by rw [List.length_set]) hkl2 (by omega) (by rw [HE1.out]; rfl)
    have d8 : wc.cell? ⟨g, k * 10 + 8, none⟩ = some (.int .i64 ot) := row_cell (j := 8) HROW.out (by rw [List.length_set]) hkl2 (by omega) (by rw [HE1.out]; rfl)
    obtain ⟨q0, q1, q2, q3, q4, q5, q6, q7, q8, q9, q10, q11, hBq⟩ := hS
    rcases kO : upO Dt with _ | _
    · rw [kO] at q9
      have hrow4 : ∀ W : World, W.ownsRow (F + 1) 42 10 (.slice (some ⟨g, 0, none⟩) L.length cp) L.length (hds (L.set k (a, (eo, ea, eb), et, (oo, oa, ob), ot, f + 1))) → ((((W.setCell ⟨g, k * 10 + 1, none⟩ (.bool false)).setCell ⟨g, k * 10 + 2, none⟩ (.int .i64 (upA Dt))).setCell ⟨g, k * 10 + 3, none⟩ (.int .i64 (upB Dt))).setCell ⟨g, k * 10 + 4, none⟩ (.int .i64 t)).ownsRow (F + 1) 42 10 (.slice (some ⟨g, 0, none⟩) L.length cp) L.length (hds (L.set k (a, (false, upA Dt, upB Dt), t, (oo, oa, ob), ot, f + 1))) := fun W h => by
        rw [show L.set k (a, (false, upA Dt, upB Dt), t, (oo, oa, ob), ot, f + 1) = (L.set k (a, (eo, ea, eb), et, (oo, oa, ob), ot, f + 1)).set k (a, (false, upA Dt, upB Dt), t, (oo, oa, ob), ot, f + 1) from (List.set_set ..).symm, ← set_even hkl2 HE1.out]
        exact (((h.stored _ _).1.stored _ _).1.stored _ _).1.stored _ _ |>.1
      have HX := hide (show Y = (a, (false, upA Dt, upB Dt), t, (oo, oa, ob), ot, f + 1) from by rw [← HY.out]; unfold upH; rw [if_pos kk, if_neg (by rw [kO]; decide), kO])
      have HRW := hide hrow4
      clear hrow4 kk
      go_wp2_with fail
      go_meet
      case rel => rw [HX.out]; exact ⟨hide (HRW.out _ HROW.out), sc _ (by omega) (sc _ (by omega) (sc _ (by omega) (sc _ (by omega) (q0)))), sc _ (by omega) (sc _ (by omega) (sc _ (by omega) (sc _ (by omega) (q1)))), sf _ (sf _ (sf _ (sf _ (q2)))), sc _ (by omega) (sc _ (by omega) (sc _ (by omega) (sc _ (by omega) (q3)))), sc _ (by omega) (sc _ (by omega) (sc _ (by omega) (sc _ (by omega) (q4)))), sc _ (by omega) (sc _ (by omega) (sc _ (by omega) (sc _ (by omega) (q5)))), sc _ (by omega) (sc _ (by omega) (sc _ (by omega) (sc _ (by omega) (q6)))), sc _ (by omega) (sc _ (by omega) (sc _ (by omega) (sc _ (by omega) (q7)))), sf _ (sf _ (sf _ (sf _ (q8)))), ((((hBq).setCell (p := ⟨g, _, none⟩) (by show _ ≤ g; omega) _).setCell (p := ⟨g, _, none⟩) (by show _ ≤ g; omega) _).setCell (p := ⟨g, _, none⟩) (by show _ ≤ g; omega) _).setCell (p := ⟨g, _, none⟩) (by show _ ≤ g; omega) _⟩
    · rw [kO] at q9
      have hrow4 : ∀ W : World, W.ownsRow (F + 1) 42 10 (.slice (some ⟨g, 0, none⟩) L.length cp) L.length (hds (L.set k (a, (eo, ea, eb), et, (oo, oa, ob), ot, f + 1))) → ((((W.setCell ⟨g, k * 10 + 5, none⟩ (.bool true)).setCell ⟨g, k * 10 + 6, none⟩ (.int .i64 (upA Dt))).setCell ⟨g, k * 10 + 7, none⟩ (.int .i64 (upB Dt))).setCell ⟨g, k * 10 + 8, none⟩ (.int .i64 t)).ownsRow (F + 1) 42 10 (.slice (some ⟨g, 0, none⟩) L.length cp) L.length (hds (L.set k (a, (eo, ea, eb), et, (true, upA Dt, upB Dt), t, f + 1))) := fun W h => by
        rw [show L.set k (a, (eo, ea, eb), et, (true, upA Dt, upB Dt), t, f + 1) = (L.set k (a, (eo, ea, eb), et, (oo, oa, ob), ot, f + 1)).set k (a, (eo, ea, eb), et, (true, upA Dt, upB Dt), t, f + 1) from (List.set_set ..).symm, ← set_odd hkl2 HE1.out]
        exact (((h.stored _ _).1.stored _ _).1.stored _ _).1.stored _ _ |>.1
      have HX := hide (show Y = (a, (eo, ea, eb), et, (true, upA Dt, upB Dt), t, f + 1) from by rw [← HY.out]; unfold upH; rw [if_pos kk, if_pos kO, kO])
      have HRW := hide hrow4
      clear hrow4 kk
      go_wp2_with fail
      go_meet
      case rel => rw [HX.out]; exact ⟨hide (HRW.out _ HROW.out), sc _ (by omega) (sc _ (by omega) (sc _ (by omega) (sc _ (by omega) (q0)))), sc _ (by omega) (sc _ (by omega) (sc _ (by omega) (sc _ (by omega) (q1)))), sf _ (sf _ (sf _ (sf _ (q2)))), sc _ (by omega) (sc _ (by omega) (sc _ (by omega) (sc _ (by omega) (q3)))), sc _ (by omega) (sc _ (by omega) (sc _ (by omega) (sc _ (by omega) (q4)))), sc _ (by omega) (sc _ (by omega) (sc _ (by omega) (sc _ (by omega) (q5)))), sc _ (by omega) (sc _ (by omega) (sc _ (by omega) (sc _ (by omega) (q6)))), sc _ (by omega) (sc _ (by omega) (sc _ (by omega) (sc _ (by omega) (q7)))), sf _ (sf _ (sf _ (sf _ (q8)))), ((((hBq).setCell (p := ⟨g, _, none⟩) (by show _ ≤ g; omega) _).setCell (p := ⟨g, _, none⟩) (by show _ ≤ g; omega) _).setCell (p := ⟨g, _, none⟩) (by show _ ≤ g; omega) _).setCell (p := ⟨g, _, none⟩) (by show _ ≤ g; omega) _⟩
  (try clear hS)
  (try clear HROW)
  (try clear hzw)
  (try clear hB)
  (try clear hT9)
  obtain ⟨HROW, hS⟩ := hcut
  have hB := hS.2.2.2.2.2.2.2.2.2
  have hzw : w.heap.size ≤ wc.heap.size := hB.size
  have hval : ∀ W : World, Hid (W.ownsRow (F + 1) 42 10 (.slice (some ⟨g, 0, none⟩) L.length cp) L.length (hds (L.set k Y))) → Calls Try.prog 18 #[.agg #[.int .i64 t, (.slice (some ⟨g, 0, none⟩) L.length cp)]] W (Gives W (.bool (okR t (L.set k Y)))) := fun W h => by
    have h9 := validRecv_c t (some ⟨g, 0, none⟩) cp (L.set k Y) W (by rw [List.length_set]; exact hide (own_reads h.out)) (by rw [List.length_set]; omega)
    rw [List.length_set] at h9
    exact h9
  clear HE HY hi0 iz0 iy0 ix0
  have HRK := hide (show rvK m l s t = okR t (L.set k Y) from by rw [HRV.out, HVL.out])
  clear HRV
  rcases hv : okR t (L.set k Y) with _ | _
  · have HV := hide hv
    clear hv
    have HF := hide (rv_no (HRK.out.trans HV.out))
    go_wp2_with (first | (go_at_call 18; refine (hval _ HROW).mono ?_; rw [HV.out]; rintro e w10 ⟨rfl, hb⟩; have hT : w10.cell? ⟨w.heap.size + 1, 0, none⟩ = some (.int .i64 0) ∧ w10.cell? ⟨w.heap.size + 1, 1, none⟩ = some (.slice none 0 0) ∧ (w.heap.size + 1 < w10.heap.size ∧ ∀ i, w10.frozen? ⟨w.heap.size + 1, i, none⟩ = false) ∧ w10.cell? ⟨F, 0, none⟩ = some (.int .i64 Kd) ∧ w10.cell? ⟨F, 1, none⟩ = some (.int .i64 Ad) ∧ w10.cell? ⟨F, 2, none⟩ = some (.int .i64 Dt) ∧ w10.cell? ⟨T, 0, none⟩ = some (.int .i64 t) ∧ w10.cell? ⟨T, 1, none⟩ = some (.slice (some ⟨g, 0, none⟩) L.length cp) ∧ (T < w10.heap.size ∧ ∀ i, w10.frozen? ⟨T, i, none⟩ = false) ∧ Below w.heap.size w w10 := (fun W h hb => ⟨keep_cell (hb) h.1, keep_cell (hb) h.2.1, keep_fre (hb) h.2.2.1, keep_cell (hb) h.2.2.2.1, keep_cell (hb) h.2.2.2.2.1, keep_cell (hb) h.2.2.2.2.2.1, keep_cell (hb) h.2.2.2.2.2.2.1, keep_cell (hb) h.2.2.2.2.2.2.2.1, keep_fre (hb) h.2.2.2.2.2.2.2.2.1, below_via h.2.2.2.2.2.2.2.2.2 (hb)⟩ : ∀ W : World, (W.cell? ⟨w.heap.size + 1, 0, none⟩ = some (.int .i64 0) ∧ W.cell? ⟨w.heap.size + 1, 1, none⟩ = some (.slice none 0 0) ∧ (w.heap.size + 1 < W.heap.size ∧ ∀ i, W.frozen? ⟨w.heap.size + 1, i, none⟩ = false) ∧ W.cell? ⟨F, 0, none⟩ = some (.int .i64 Kd) ∧ W.cell? ⟨F, 1, none⟩ = some (.int .i64 Ad) ∧ W.cell? ⟨F, 2, none⟩ = some (.int .i64 Dt) ∧ W.cell? ⟨T, 0, none⟩ = some (.int .i64 t) ∧ W.cell? ⟨T, 1, none⟩ = some (.slice (some ⟨g, 0, none⟩) L.length cp) ∧ (T < W.heap.size ∧ ∀ i, W.frozen? ⟨T, i, none⟩ = false) ∧ Below w.heap.size w W) → Below W.heap.size W w10 → (w10.cell? ⟨w.heap.size + 1, 0, none⟩ = some (.int .i64 0) ∧ w10.cell? ⟨w.heap.size + 1, 1, none⟩ = some (.slice none 0 0) ∧ (w.heap.size + 1 < w10.heap.size ∧ ∀ i, w10.frozen? ⟨w.heap.size + 1, i, none⟩ = false) ∧ w10.cell? ⟨F, 0, none⟩ = some (.int .i64 Kd) ∧ w10.cell? ⟨F, 1, none⟩ = some (.int .i64 Ad) ∧ w10.cell? ⟨F, 2, none⟩ = some (.int .i64 Dt) ∧ w10.cell? ⟨T, 0, none⟩ = some (.int .i64 t) ∧ w10.cell? ⟨T, 1, none⟩ = some (.slice (some ⟨g, 0, none⟩) L.length cp) ∧ (T < w10.heap.size ∧ ∀ i, w10.frozen? ⟨T, i, none⟩ = false) ∧ Below w.heap.size w w10)) _ hS hb; (try clear hS); have hS := hT; clear hT; have hB := hS.2.2.2.2.2.2.2.2.2; have hzw : w.heap.size ≤ w10.heap.size := hB.size; have hz1 : w.heap.size + 1 < w10.heap.size := World.block_lt_of_cell? w10 _ (hS.1); have hz2 : F < w10.heap.size := World.block_lt_of_cell? w10 _ (hS.2.2.2.1); have hz3 : T < w10.heap.size := World.block_lt_of_cell? w10 _ (hS.2.2.2.2.2.2.1); have HR20 := hide (own_below HROW.out hb); clear hb))
    refine bodyPost_ret (by simp [results, Try.results56, go_sem, cell_set_some, *]; try rfl) rfl ?_
    rw [HF.out.1, HF.out.2.1, HF.out.2.2]
    exact ⟨none, 0, rfl, World.ownsRow_nil _ _ _ _, by go_grown⟩
  have HV := hide hv
  clear hv
  have HF := hide (rv_yes (HRK.out.trans HV.out))
  go_wp2_with (first | (go_at_call 18; refine (hval _ HROW).mono ?_; rw [HV.out]; rintro e w10 ⟨rfl, hb⟩; have hT : w10.cell? ⟨w.heap.size + 1, 0, none⟩ = some (.int .i64 0) ∧ w10.cell? ⟨w.heap.size + 1, 1, none⟩ = some (.slice none 0 0) ∧ (w.heap.size + 1 < w10.heap.size ∧ ∀ i, w10.frozen? ⟨w.heap.size + 1, i, none⟩ = false) ∧ w10.cell? ⟨F, 0, none⟩ = some (.int .i64 Kd) ∧ w10.cell? ⟨F, 1, none⟩ = some (.int .i64 Ad) ∧ w10.cell? ⟨F, 2, none⟩ = some (.int .i64 Dt) ∧ w10.cell? ⟨T, 0, none⟩ = some (.int .i64 t) ∧ w10.cell? ⟨T, 1, none⟩ = some (.slice (some ⟨g, 0, none⟩) L.length cp) ∧ (T < w10.heap.size ∧ ∀ i, w10.frozen? ⟨T, i, none⟩ = false) ∧ Below w.heap.size w w10 := (fun W h hb => ⟨keep_cell (hb) h.1, keep_cell (hb) h.2.1, keep_fre (hb) h.2.2.1, keep_cell (hb) h.2.2.2.1, keep_cell (hb) h.2.2.2.2.1, keep_cell (hb) h.2.2.2.2.2.1, keep_cell (hb) h.2.2.2.2.2.2.1, keep_cell (hb) h.2.2.2.2.2.2.2.1, keep_fre (hb) h.2.2.2.2.2.2.2.2.1, below_via h.2.2.2.2.2.2.2.2.2 (hb)⟩ : ∀ W : World, (W.cell? ⟨w.heap.size + 1, 0, none⟩ = some (.int .i64 0) ∧ W.cell? ⟨w.heap.size + 1, 1, none⟩ = some (.slice none 0 0) ∧ (w.heap.size + 1 < W.heap.size ∧ ∀ i, W.frozen? ⟨w.heap.size + 1, i, none⟩ = false) ∧ W.cell? ⟨F, 0, none⟩ = some (.int .i64 Kd) ∧ W.cell? ⟨F, 1, none⟩ = some (.int .i64 Ad) ∧ W.cell? ⟨F, 2, none⟩ = some (.int .i64 Dt) ∧ W.cell? ⟨T, 0, none⟩ = some (.int .i64 t) ∧ W.cell? ⟨T, 1, none⟩ = some (.slice (some ⟨g, 0, none⟩) L.length cp) ∧ (T < W.heap.size ∧ ∀ i, W.frozen? ⟨T, i, none⟩ = false) ∧ Below w.heap.size w W) → Below W.heap.size W w10 → (w10.cell? ⟨w.heap.size + 1, 0, none⟩ = some (.int .i64 0) ∧ w10.cell? ⟨w.heap.size + 1, 1, none⟩ = some (.slice none 0 0) ∧ (w.heap.size + 1 < w10.heap.size ∧ ∀ i, w10.frozen? ⟨w.heap.size + 1, i, none⟩ = false) ∧ w10.cell? ⟨F, 0, none⟩ = some (.int .i64 Kd) ∧ w10.cell? ⟨F, 1, none⟩ = some (.int .i64 Ad) ∧ w10.cell? ⟨F, 2, none⟩ = some (.int .i64 Dt) ∧ w10.cell? ⟨T, 0, none⟩ = some (.int .i64 t) ∧ w10.cell? ⟨T, 1, none⟩ = some (.slice (some ⟨g, 0, none⟩) L.length cp) ∧ (T < w10.heap.size ∧ ∀ i, w10.frozen? ⟨T, i, none⟩ = false) ∧ Below w.heap.size w w10)) _ hS hb; (try clear hS); have hS := hT; clear hT; have hB := hS.2.2.2.2.2.2.2.2.2; have hzw : w.heap.size ≤ w10.heap.size := hB.size; have hz1 : w.heap.size + 1 < w10.heap.size := World.block_lt_of_cell? w10 _ (hS.1); have hz2 : F < w10.heap.size := World.block_lt_of_cell? w10 _ (hS.2.2.2.1); have hz3 : T < w10.heap.size := World.block_lt_of_cell? w10 _ (hS.2.2.2.2.2.2.1); have HR20 := hide (own_below HROW.out hb); clear hb))
  refine bodyPost_ret (by simp [results, Try.results56, go_sem, cell_set_some, *]; try rfl) rfl ?_
  rw [HF.out.1, HF.out.2.1, HF.out.2.2, HAD.out, HKD.out, HDT.out, HVL.out, List.length_set]
  refine ⟨some ⟨g, 0, none⟩, cp, rfl, own_mono ?_ (show w.heap.size ≤ F + 1 by omega), by go_grown⟩
  repeat (refine own_set ?_ (by first | (simp; done) | (simp; omega)) _)
  exact HR20.out
end Go.Proofs.Ytbeojfhakmbacaa
