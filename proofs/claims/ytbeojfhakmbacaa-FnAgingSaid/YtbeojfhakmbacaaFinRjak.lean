/- What is proved here is used by the law below: contracts of functions and plain lemmas (part 11 of 17). Their conditions stand in each. -/
import Derived.Deep.DeepCutAuto
import Derived.Test.YtbeojfhakmbacaaFinRjaa
import Derived.Test.YtbeojfhakmbacaaFinRjab
import Derived.Test.YtbeojfhakmbacaaFinRjac
import Derived.Test.YtbeojfhakmbacaaFinRjaf
import Derived.Test.YtbeojfhakmbacaaFinRjah
import Derived.Test.YtbeojfhakmbacaaFinRjai
import Derived.Test.YtbeojfhakmbacaaFinRjaj
namespace Go.Proofs.Ytbeojfhakmbacaa
open Go.RowKit
theorem rv_rs {m : Int} {l : List Hd} {s : ByteArray} {t : Int} (hk : rfK s = true) (hm : m ≤ t) : rvK m l s t = rsK t (rfAd s) (rfKd s) (rfDt s) l ∧ rvM m l s t = rsM t (rfAd s) (rfKd s) (rfDt s) l ∧ rvV m l s t = rsV t (rfAd s) (rfKd s) (rfDt s) l := by
  have h : rvK m l s t = rsK t (rfAd s) (rfKd s) (rfDt s) l := by unfold rvK rsK; rw [hk, decide_eq_true hm]; rfl
  refine ⟨h, ?_, ?_⟩
  · unfold rvM rsM; rw [h]
  · unfold rvV rsV; rw [h]
theorem rv_f {m : Int} {l : List Hd} {s : ByteArray} {t : Int} (h : rfK s = false) : rvK m l s t = false := by unfold rvK; rw [h]; rfl
theorem rv_t {m : Int} {l : List Hd} {s : ByteArray} {t : Int} (h : wi t 0 9999 = false) : rvK m l s t = false := by
  unfold rvK; rw [okR_min h]; simp
theorem rv_m {m : Int} {l : List Hd} {s : ByteArray} {t : Int} (h : ¬ m ≤ t) : rvK m l s t = false := by
  unfold rvK; rw [decide_eq_false h]; simp
set_option maxRecDepth 100000 in
set_option maxHeartbeats 16000000 in
theorem sReceive_c (m : Int) (A : Option Addr) (c : Nat) (l : List Hd) (s : ByteArray) (t : Int) (w : World) (h1 : Hid (Reads w w.heap.size 10 A l.length (hds l))) (b1 : l.length ≤ 4000000) (hmax : s.size ≤ 1000000000000)  : Calls Try.prog 16 #[.agg #[.int .i64 m, .slice A l.length c], .string s, .int .i64 t] w (GivesS w 42 10 (RvV m l s t).length (hds (RvV m l s t)) (fun v => .tuple #[.agg #[.int .i64 (RvM m l s t), v], .bool (RvK m l s t)])) := by
  obtain ⟨Kd, h9⟩ : ∃ q, rfKd s = q := ⟨_, rfl⟩
  have HKD := hide h9
  clear h9
  obtain ⟨Ad, h9⟩ : ∃ q, rfAd s = q := ⟨_, rfl⟩
  have HAD := hide h9
  clear h9
  obtain ⟨Dt, h9⟩ : ∃ q, rfDt s = q := ⟨_, rfl⟩
  have HDT := hide h9
  clear h9
  obtain ⟨FI, h9⟩ : ∃ q, rfI s = q := ⟨_, rfl⟩
  have HFI := hide h9
  clear h9
  rcases ho : okR m l with _ | _
  have HF := hide (Rv_bad (s := s) (t := t) ho)
  rcases kf : rfK s with _ | _
  rotate_left
  rotate_left
  have HR := hide (Rv_ok (s := s) (t := t) ho)
  rw [HR.out.1, HR.out.2.1, HR.out.2.2]
  rcases kf : rfK s with _ | _
  have HF := hide (rv_no (m := m) (l := l) (t := t) (rv_f kf))
  rotate_left
  have HKF := hide kf
  rcases kt : wi t 0 9999 with _ | _
  have HF := hide (rv_no (m := m) (l := l) (s := s) (rv_t kt))
  rotate_left
  by_cases hmt : m ≤ t
  rotate_left
  have HF := hide (rv_no (m := m) (l := l) (s := s) (rv_m hmt))
  have hq : t < m := by omega
  clear hmt
  rotate_right
  · have HF := hide (rv_rs (m := m) (l := l) (s := s) HKF.out hmt)
    rw [HAD.out, HKD.out, HDT.out] at HF
    have hq : decide (t < m) = false := decide_eq_false (by omega)
    rw [HF.out.1, HF.out.2.1, HF.out.2.2]
    go_enter Try.func16, Try.ntmps16
    go_wp2_with (first | (go_at_call 57; refine (l5Repair_c s hmax _).mono ?_; rw [HKD.out, HAD.out, HDT.out, HFI.out, kf]; rintro e w1 ⟨rfl, hb⟩; have hT : w1.cell? ⟨w.heap.size, 0, none⟩ = some (.int .i64 m) ∧ w1.cell? ⟨w.heap.size, 1, none⟩ = some (.slice A l.length c) ∧ w1.cell? ⟨w.heap.size + 1, 0, none⟩ = some (.int .i64 0) ∧ w1.cell? ⟨w.heap.size + 1, 1, none⟩ = some (.slice none 0 0) ∧ (w.heap.size + 1 < w1.heap.size ∧ ∀ i, w1.frozen? ⟨w.heap.size + 1, i, none⟩ = false) ∧ Below w.heap.size w w1 := (fun W h hb => ⟨keep_cell (hb) h.1, keep_cell (hb) h.2.1, keep_cell (hb) h.2.2.1, keep_cell (hb) h.2.2.2.1, keep_fre (hb) h.2.2.2.2.1, below_via h.2.2.2.2.2 (hb)⟩ : ∀ W : World, (W.cell? ⟨w.heap.size, 0, none⟩ = some (.int .i64 m) ∧ W.cell? ⟨w.heap.size, 1, none⟩ = some (.slice A l.length c) ∧ W.cell? ⟨w.heap.size + 1, 0, none⟩ = some (.int .i64 0) ∧ W.cell? ⟨w.heap.size + 1, 1, none⟩ = some (.slice none 0 0) ∧ (w.heap.size + 1 < W.heap.size ∧ ∀ i, W.frozen? ⟨w.heap.size + 1, i, none⟩ = false) ∧ Below w.heap.size w W) → Below W.heap.size W w1 → (w1.cell? ⟨w.heap.size, 0, none⟩ = some (.int .i64 m) ∧ w1.cell? ⟨w.heap.size, 1, none⟩ = some (.slice A l.length c) ∧ w1.cell? ⟨w.heap.size + 1, 0, none⟩ = some (.int .i64 0) ∧ w1.cell? ⟨w.heap.size + 1, 1, none⟩ = some (.slice none 0 0) ∧ (w.heap.size + 1 < w1.heap.size ∧ ∀ i, w1.frozen? ⟨w.heap.size + 1, i, none⟩ = false) ∧ Below w.heap.size w w1)) _ (by first | (with_reducible assumption) | (exact hS) | (exact ⟨hS.1, hS.2.1, hS.2.2.1, hS.2.2.2.1, hS.2.2.2.2.1, (by go_grown)⟩) | (exact ⟨(by first | (with_reducible assumption) | (simp [go_sem]; done) | ((simp only [go_sem]); (with_reducible assumption)) | ((refine keep_cell ?_ (by with_reducible assumption)); go_grown; done) | (simp [go_sem, *]; done)), (by first | (with_reducible assumption) | (simp [go_sem]; done) | ((simp only [go_sem]); (with_reducible assumption)) | ((refine keep_cell ?_ (by with_reducible assumption)); go_grown; done) | (simp [go_sem, *]; done)), (by first | (with_reducible assumption) | (simp [go_sem]; done) | ((simp only [go_sem]); (with_reducible assumption)) | ((refine keep_cell ?_ (by with_reducible assumption)); go_grown; done) | (simp [go_sem, *]; done)), (by first | (with_reducible assumption) | (simp [go_sem]; done) | ((simp only [go_sem]); (with_reducible assumption)) | ((refine keep_cell ?_ (by with_reducible assumption)); go_grown; done) | (simp [go_sem, *]; done)), (by first | (with_reducible assumption) | (simp [go_sem]; done) | (refine keep_fre ?_ ⟨by with_reducible assumption, by with_reducible assumption⟩; go_grown; done) | (simp [go_sem, *]; done)), (by go_grown)⟩)) hb; (try clear hS); have hS := hT; clear hT; have hB := hS.2.2.2.2.2; have hzw : w.heap.size ≤ w1.heap.size := hB.size; have hz1 : w.heap.size < w1.heap.size := World.block_lt_of_cell? w1 _ (hS.1); have hz2 : w.heap.size + 1 < w1.heap.size := World.block_lt_of_cell? w1 _ (hS.2.2.1); clear hb) | (go_at_call 58; refine (l9Good_c _ _ _ l _ (hide (by refine reads_below h1.out ?_; go_grown)) b1).mono ?_; rintro e w2 ⟨rfl, hb⟩; have hT : w2.cell? ⟨w.heap.size, 0, none⟩ = some (.int .i64 m) ∧ w2.cell? ⟨w.heap.size, 1, none⟩ = some (.slice A l.length c) ∧ w2.cell? ⟨w.heap.size + 1, 0, none⟩ = some (.int .i64 0) ∧ w2.cell? ⟨w.heap.size + 1, 1, none⟩ = some (.slice none 0 0) ∧ (w.heap.size + 1 < w2.heap.size ∧ ∀ i, w2.frozen? ⟨w.heap.size + 1, i, none⟩ = false) ∧ w2.cell? ⟨w1.heap.size, 0, none⟩ = some (.int .i64 Kd) ∧ w2.cell? ⟨w1.heap.size, 1, none⟩ = some (.int .i64 Ad) ∧ w2.cell? ⟨w1.heap.size, 2, none⟩ = some (.int .i64 Dt) ∧ Below w.heap.size w w2 := (fun W h hb => ⟨keep_cell (hb) h.1, keep_cell (hb) h.2.1, keep_cell (hb) h.2.2.1, keep_cell (hb) h.2.2.2.1, keep_fre (hb) h.2.2.2.2.1, keep_cell (hb) h.2.2.2.2.2.1, keep_cell (hb) h.2.2.2.2.2.2.1, keep_cell (hb) h.2.2.2.2.2.2.2.1, below_via h.2.2.2.2.2.2.2.2 (hb)⟩ : ∀ W : World, (W.cell? ⟨w.heap.size, 0, none⟩ = some (.int .i64 m) ∧ W.cell? ⟨w.heap.size, 1, none⟩ = some (.slice A l.length c) ∧ W.cell? ⟨w.heap.size + 1, 0, none⟩ = some (.int .i64 0) ∧ W.cell? ⟨w.heap.size + 1, 1, none⟩ = some (.slice none 0 0) ∧ (w.heap.size + 1 < W.heap.size ∧ ∀ i, W.frozen? ⟨w.heap.size + 1, i, none⟩ = false) ∧ W.cell? ⟨w1.heap.size, 0, none⟩ = some (.int .i64 Kd) ∧ W.cell? ⟨w1.heap.size, 1, none⟩ = some (.int .i64 Ad) ∧ W.cell? ⟨w1.heap.size, 2, none⟩ = some (.int .i64 Dt) ∧ Below w.heap.size w W) → Below W.heap.size W w2 → (w2.cell? ⟨w.heap.size, 0, none⟩ = some (.int .i64 m) ∧ w2.cell? ⟨w.heap.size, 1, none⟩ = some (.slice A l.length c) ∧ w2.cell? ⟨w.heap.size + 1, 0, none⟩ = some (.int .i64 0) ∧ w2.cell? ⟨w.heap.size + 1, 1, none⟩ = some (.slice none 0 0) ∧ (w.heap.size + 1 < w2.heap.size ∧ ∀ i, w2.frozen? ⟨w.heap.size + 1, i, none⟩ = false) ∧ w2.cell? ⟨w1.heap.size, 0, none⟩ = some (.int .i64 Kd) ∧ w2.cell? ⟨w1.heap.size, 1, none⟩ = some (.int .i64 Ad) ∧ w2.cell? ⟨w1.heap.size, 2, none⟩ = some (.int .i64 Dt) ∧ Below w.heap.size w w2)) _ (by first | (with_reducible assumption) | (exact hS) | (exact ⟨hS.1, hS.2.1, hS.2.2.1, hS.2.2.2.1, hS.2.2.2.2.1, hS.2.2.2.2.2.1, hS.2.2.2.2.2.2.1, hS.2.2.2.2.2.2.2.1, (by go_grown)⟩) | (exact ⟨(by first | (with_reducible assumption) | (simp [go_sem]; done) | ((simp only [go_sem]); (with_reducible assumption)) | ((refine keep_cell ?_ (by with_reducible assumption)); go_grown; done) | (simp [go_sem, *]; done)), (by first | (with_reducible assumption) | (simp [go_sem]; done) | ((simp only [go_sem]); (with_reducible assumption)) | ((refine keep_cell ?_ (by with_reducible assumption)); go_grown; done) | (simp [go_sem, *]; done)), (by first | (with_reducible assumption) | (simp [go_sem]; done) | ((simp only [go_sem]); (with_reducible assumption)) | ((refine keep_cell ?_ (by with_reducible assumption)); go_grown; done) | (simp [go_sem, *]; done)), (by first | (with_reducible assumption) | (simp [go_sem]; done) | ((simp only [go_sem]); (with_reducible assumption)) | ((refine keep_cell ?_ (by with_reducible assumption)); go_grown; done) | (simp [go_sem, *]; done)), (by first | (with_reducible assumption) | (simp [go_sem]; done) | (refine keep_fre ?_ ⟨by with_reducible assumption, by with_reducible assumption⟩; go_grown; done) | (simp [go_sem, *]; done)), (by first | (with_reducible assumption) | (simp [go_sem]; done) | ((simp only [go_sem]); (with_reducible assumption)) | ((refine keep_cell ?_ (by with_reducible assumption)); go_grown; done) | (simp [go_sem, *]; done)), (by first | (with_reducible assumption) | (simp [go_sem]; done) | ((simp only [go_sem]); (with_reducible assumption)) | ((refine keep_cell ?_ (by with_reducible assumption)); go_grown; done) | (simp [go_sem, *]; done)), (by first | (with_reducible assumption) | (simp [go_sem]; done) | ((simp only [go_sem]); (with_reducible assumption)) | ((refine keep_cell ?_ (by with_reducible assumption)); go_grown; done) | (simp [go_sem, *]; done)), (by go_grown)⟩)) hb; (try clear hS); have hS := hT; clear hT; have hB := hS.2.2.2.2.2.2.2.2; have hzw : w.heap.size ≤ w2.heap.size := hB.size; have hz1 : w.heap.size < w2.heap.size := World.block_lt_of_cell? w2 _ (hS.1); have hz2 : w.heap.size + 1 < w2.heap.size := World.block_lt_of_cell? w2 _ (hS.2.2.1); have hz3 : w1.heap.size < w2.heap.size := World.block_lt_of_cell? w2 _ (hS.2.2.2.2.2.1); clear hb) | (go_at_call 59; refine (l9Minute_c _ _).mono ?_; rintro e w1 ⟨rfl, rfl⟩) | (go_at_call 60; refine (l9Receive_c m A c l Kd Ad Dt t _ (hide (by refine reads_below h1.out ?_; go_grown)) b1 ho).mono ?_; rintro e w3 ⟨B, d, rfl, hown, hb⟩; have hT : w3.cell? ⟨w.heap.size, 0, none⟩ = some (.int .i64 m) ∧ w3.cell? ⟨w.heap.size, 1, none⟩ = some (.slice A l.length c) ∧ w3.cell? ⟨w.heap.size + 1, 0, none⟩ = some (.int .i64 0) ∧ w3.cell? ⟨w.heap.size + 1, 1, none⟩ = some (.slice none 0 0) ∧ (w.heap.size + 1 < w3.heap.size ∧ ∀ i, w3.frozen? ⟨w.heap.size + 1, i, none⟩ = false) ∧ Below w.heap.size w w3 := (fun W h hb => ⟨keep_cell (hb) h.1, keep_cell (hb) h.2.1, keep_cell (hb) h.2.2.1, keep_cell (hb) h.2.2.2.1, keep_fre (hb) h.2.2.2.2.1, below_via h.2.2.2.2.2 (hb)⟩ : ∀ W : World, (W.cell? ⟨w.heap.size, 0, none⟩ = some (.int .i64 m) ∧ W.cell? ⟨w.heap.size, 1, none⟩ = some (.slice A l.length c) ∧ W.cell? ⟨w.heap.size + 1, 0, none⟩ = some (.int .i64 0) ∧ W.cell? ⟨w.heap.size + 1, 1, none⟩ = some (.slice none 0 0) ∧ (w.heap.size + 1 < W.heap.size ∧ ∀ i, W.frozen? ⟨w.heap.size + 1, i, none⟩ = false) ∧ Below w.heap.size w W) → Below W.heap.size W w3 → (w3.cell? ⟨w.heap.size, 0, none⟩ = some (.int .i64 m) ∧ w3.cell? ⟨w.heap.size, 1, none⟩ = some (.slice A l.length c) ∧ w3.cell? ⟨w.heap.size + 1, 0, none⟩ = some (.int .i64 0) ∧ w3.cell? ⟨w.heap.size + 1, 1, none⟩ = some (.slice none 0 0) ∧ (w.heap.size + 1 < w3.heap.size ∧ ∀ i, w3.frozen? ⟨w.heap.size + 1, i, none⟩ = false) ∧ Below w.heap.size w w3)) _ (by first | (with_reducible assumption) | (exact hS) | (exact ⟨hS.1, hS.2.1, hS.2.2.1, hS.2.2.2.1, hS.2.2.2.2.1, (by go_grown)⟩) | (exact ⟨(by first | (with_reducible assumption) | (simp [go_sem]; done) | ((simp only [go_sem]); (with_reducible assumption)) | ((refine keep_cell ?_ (by with_reducible assumption)); go_grown; done) | (simp [go_sem, *]; done)), (by first | (with_reducible assumption) | (simp [go_sem]; done) | ((simp only [go_sem]); (with_reducible assumption)) | ((refine keep_cell ?_ (by with_reducible assumption)); go_grown; done) | (simp [go_sem, *]; done)), (by first | (with_reducible assumption) | (simp [go_sem]; done) | ((simp only [go_sem]); (with_reducible assumption)) | ((refine keep_cell ?_ (by with_reducible assumption)); go_grown; done) | (simp [go_sem, *]; done)), (by first | (with_reducible assumption) | (simp [go_sem]; done) | ((simp only [go_sem]); (with_reducible assumption)) | ((refine keep_cell ?_ (by with_reducible assumption)); go_grown; done) | (simp [go_sem, *]; done)), (by first | (with_reducible assumption) | (simp [go_sem]; done) | (refine keep_fre ?_ ⟨by with_reducible assumption, by with_reducible assumption⟩; go_grown; done) | (simp [go_sem, *]; done)), (by go_grown)⟩)) hb; (try clear hS); have hS := hT; clear hT; have hB := hS.2.2.2.2.2; have hzw : w.heap.size ≤ w3.heap.size := hB.size; have hz1 : w.heap.size < w3.heap.size := World.block_lt_of_cell? w3 _ (hS.1); have hz2 : w.heap.size + 1 < w3.heap.size := World.block_lt_of_cell? w3 _ (hS.2.2.1); clear hb))
    refine bodyPost_ret (by simp [results, Try.results16, go_sem, cell_set_some, *]; try rfl) rfl ?_
    refine ⟨B, d, rfl, own_mono ?_ (show w.heap.size ≤ w2.heap.size by omega), by go_grown⟩
    repeat (refine own_set ?_ (by first | (simp; done) | (simp; omega)) _)
    exact hown
  all_goals
    go_enter Try.func16, Try.ntmps16
    go_wp2_with (first | (go_at_call 57; refine (l5Repair_c s hmax _).mono ?_; rw [HKD.out, HAD.out, HDT.out, HFI.out, kf]; rintro e w1 ⟨rfl, hb⟩; have hT : w1.cell? ⟨w.heap.size, 0, none⟩ = some (.int .i64 m) ∧ w1.cell? ⟨w.heap.size, 1, none⟩ = some (.slice A l.length c) ∧ w1.cell? ⟨w.heap.size + 1, 0, none⟩ = some (.int .i64 0) ∧ w1.cell? ⟨w.heap.size + 1, 1, none⟩ = some (.slice none 0 0) ∧ (w.heap.size + 1 < w1.heap.size ∧ ∀ i, w1.frozen? ⟨w.heap.size + 1, i, none⟩ = false) ∧ Below w.heap.size w w1 := (fun W h hb => ⟨keep_cell (hb) h.1, keep_cell (hb) h.2.1, keep_cell (hb) h.2.2.1, keep_cell (hb) h.2.2.2.1, keep_fre (hb) h.2.2.2.2.1, below_via h.2.2.2.2.2 (hb)⟩ : ∀ W : World, (W.cell? ⟨w.heap.size, 0, none⟩ = some (.int .i64 m) ∧ W.cell? ⟨w.heap.size, 1, none⟩ = some (.slice A l.length c) ∧ W.cell? ⟨w.heap.size + 1, 0, none⟩ = some (.int .i64 0) ∧ W.cell? ⟨w.heap.size + 1, 1, none⟩ = some (.slice none 0 0) ∧ (w.heap.size + 1 < W.heap.size ∧ ∀ i, W.frozen? ⟨w.heap.size + 1, i, none⟩ = false) ∧ Below w.heap.size w W) → Below W.heap.size W w1 → (w1.cell? ⟨w.heap.size, 0, none⟩ = some (.int .i64 m) ∧ w1.cell? ⟨w.heap.size, 1, none⟩ = some (.slice A l.length c) ∧ w1.cell? ⟨w.heap.size + 1, 0, none⟩ = some (.int .i64 0) ∧ w1.cell? ⟨w.heap.size + 1, 1, none⟩ = some (.slice none 0 0) ∧ (w.heap.size + 1 < w1.heap.size ∧ ∀ i, w1.frozen? ⟨w.heap.size + 1, i, none⟩ = false) ∧ Below w.heap.size w w1)) _ (by first | (with_reducible assumption) | (exact hS) | (exact ⟨hS.1, hS.2.1, hS.2.2.1, hS.2.2.2.1, hS.2.2.2.2.1, (by go_grown)⟩) | (exact ⟨(by first | (with_reducible assumption) | (simp [go_sem]; done) | ((simp only [go_sem]); (with_reducible assumption)) | ((refine keep_cell ?_ (by with_reducible assumption)); go_grown; done) | (simp [go_sem, *]; done)), (by first | (with_reducible assumption) | (simp [go_sem]; done) | ((simp only [go_sem]); (with_reducible assumption)) | ((refine keep_cell ?_ (by with_reducible assumption)); go_grown; done) | (simp [go_sem, *]; done)), (by first | (with_reducible assumption) | (simp [go_sem]; done) | ((simp only [go_sem]); (with_reducible assumption)) | ((refine keep_cell ?_ (by with_reducible assumption)); go_grown; done) | (simp [go_sem, *]; done)), (by first | (with_reducible assumption) | (simp [go_sem]; done) | ((simp only [go_sem]); (with_reducible assumption)) | ((refine keep_cell ?_ (by with_reducible assumption)); go_grown; done) | (simp [go_sem, *]; done)), (by first | (with_reducible assumption) | (simp [go_sem]; done) | (refine keep_fre ?_ ⟨by with_reducible assumption, by with_reducible assumption⟩; go_grown; done) | (simp [go_sem, *]; done)), (by go_grown)⟩)) hb; (try clear hS); have hS := hT; clear hT; have hB := hS.2.2.2.2.2; have hzw : w.heap.size ≤ w1.heap.size := hB.size; have hz1 : w.heap.size < w1.heap.size := World.block_lt_of_cell? w1 _ (hS.1); have hz2 : w.heap.size + 1 < w1.heap.size := World.block_lt_of_cell? w1 _ (hS.2.2.1); clear hb) | (go_at_call 58; refine (l9Good_c _ _ _ l _ (hide (by refine reads_below h1.out ?_; go_grown)) b1).mono ?_; rintro e w2 ⟨rfl, hb⟩; have hT : w2.cell? ⟨w.heap.size, 0, none⟩ = some (.int .i64 m) ∧ w2.cell? ⟨w.heap.size, 1, none⟩ = some (.slice A l.length c) ∧ w2.cell? ⟨w.heap.size + 1, 0, none⟩ = some (.int .i64 0) ∧ w2.cell? ⟨w.heap.size + 1, 1, none⟩ = some (.slice none 0 0) ∧ (w.heap.size + 1 < w2.heap.size ∧ ∀ i, w2.frozen? ⟨w.heap.size + 1, i, none⟩ = false) ∧ w2.cell? ⟨w1.heap.size, 0, none⟩ = some (.int .i64 Kd) ∧ w2.cell? ⟨w1.heap.size, 1, none⟩ = some (.int .i64 Ad) ∧ w2.cell? ⟨w1.heap.size, 2, none⟩ = some (.int .i64 Dt) ∧ Below w.heap.size w w2 := (fun W h hb => ⟨keep_cell (hb) h.1, keep_cell (hb) h.2.1, keep_cell (hb) h.2.2.1, keep_cell (hb) h.2.2.2.1, keep_fre (hb) h.2.2.2.2.1, keep_cell (hb) h.2.2.2.2.2.1, keep_cell (hb) h.2.2.2.2.2.2.1, keep_cell (hb) h.2.2.2.2.2.2.2.1, below_via h.2.2.2.2.2.2.2.2 (hb)⟩ : ∀ W : World, (W.cell? ⟨w.heap.size, 0, none⟩ = some (.int .i64 m) ∧ W.cell? ⟨w.heap.size, 1, none⟩ = some (.slice A l.length c) ∧ W.cell? ⟨w.heap.size + 1, 0, none⟩ = some (.int .i64 0) ∧ W.cell? ⟨w.heap.size + 1, 1, none⟩ = some (.slice none 0 0) ∧ (w.heap.size + 1 < W.heap.size ∧ ∀ i, W.frozen? ⟨w.heap.size + 1, i, none⟩ = false) ∧ W.cell? ⟨w1.heap.size, 0, none⟩ = some (.int .i64 Kd) ∧ W.cell? ⟨w1.heap.size, 1, none⟩ = some (.int .i64 Ad) ∧ W.cell? ⟨w1.heap.size, 2, none⟩ = some (.int .i64 Dt) ∧ Below w.heap.size w W) → Below W.heap.size W w2 → (w2.cell? ⟨w.heap.size, 0, none⟩ = some (.int .i64 m) ∧ w2.cell? ⟨w.heap.size, 1, none⟩ = some (.slice A l.length c) ∧ w2.cell? ⟨w.heap.size + 1, 0, none⟩ = some (.int .i64 0) ∧ w2.cell? ⟨w.heap.size + 1, 1, none⟩ = some (.slice none 0 0) ∧ (w.heap.size + 1 < w2.heap.size ∧ ∀ i, w2.frozen? ⟨w.heap.size + 1, i, none⟩ = false) ∧ w2.cell? ⟨w1.heap.size, 0, none⟩ = some (.int .i64 Kd) ∧ w2.cell? ⟨w1.heap.size, 1, none⟩ = some (.int .i64 Ad) ∧ w2.cell? ⟨w1.heap.size, 2, none⟩ = some (.int .i64 Dt) ∧ Below w.heap.size w w2)) _ (by first | (with_reducible assumption) | (exact hS) | (exact ⟨hS.1, hS.2.1, hS.2.2.1, hS.2.2.2.1, hS.2.2.2.2.1, hS.2.2.2.2.2.1, hS.2.2.2.2.2.2.1, hS.2.2.2.2.2.2.2.1, (by go_grown)⟩) | (exact ⟨(by first | (with_reducible assumption) | (simp [go_sem]; done) | ((simp only [go_sem]); (with_reducible assumption)) | ((refine keep_cell ?_ (by with_reducible assumption)); go_grown; done) | (simp [go_sem, *]; done)), (by first | (with_reducible assumption) | (simp [go_sem]; done) | ((simp only [go_sem]); (with_reducible assumption)) | ((refine keep_cell ?_ (by with_reducible assumption)); go_grown; done) | (simp [go_sem, *]; done)), (by first | (with_reducible assumption) | (simp [go_sem]; done) | ((simp only [go_sem]); (with_reducible assumption)) | ((refine keep_cell ?_ (by with_reducible assumption)); go_grown; done) | (simp [go_sem, *]; done)), (by first | (with_reducible assumption) | (simp [go_sem]; done) | ((simp only [go_sem]); (with_reducible assumption)) | ((refine keep_cell ?_ (by with_reducible assumption)); go_grown; done) | (simp [go_sem, *]; done)), (by first | (with_reducible assumption) | (simp [go_sem]; done) | (refine keep_fre ?_ ⟨by with_reducible assumption, by with_reducible assumption⟩; go_grown; done) | (simp [go_sem, *]; done)), (by first | (with_reducible assumption) | (simp [go_sem]; done) | ((simp only [go_sem]); (with_reducible assumption)) | ((refine keep_cell ?_ (by with_reducible assumption)); go_grown; done) | (simp [go_sem, *]; done)), (by first | (with_reducible assumption) | (simp [go_sem]; done) | ((simp only [go_sem]); (with_reducible assumption)) | ((refine keep_cell ?_ (by with_reducible assumption)); go_grown; done) | (simp [go_sem, *]; done)), (by first | (with_reducible assumption) | (simp [go_sem]; done) | ((simp only [go_sem]); (with_reducible assumption)) | ((refine keep_cell ?_ (by with_reducible assumption)); go_grown; done) | (simp [go_sem, *]; done)), (by go_grown)⟩)) hb; (try clear hS); have hS := hT; clear hT; have hB := hS.2.2.2.2.2.2.2.2; have hzw : w.heap.size ≤ w2.heap.size := hB.size; have hz1 : w.heap.size < w2.heap.size := World.block_lt_of_cell? w2 _ (hS.1); have hz2 : w.heap.size + 1 < w2.heap.size := World.block_lt_of_cell? w2 _ (hS.2.2.1); have hz3 : w1.heap.size < w2.heap.size := World.block_lt_of_cell? w2 _ (hS.2.2.2.2.2.1); clear hb) | (go_at_call 59; refine (l9Minute_c _ _).mono ?_; rintro e w1 ⟨rfl, rfl⟩))
    refine bodyPost_ret (by simp [results, Try.results16, go_sem, cell_set_some, *]; try rfl) rfl ?_
    rw [HF.out.1, HF.out.2.1, HF.out.2.2]
    exact ⟨none, 0, rfl, World.ownsRow_nil _ _ _ _, by go_grown⟩
end Go.Proofs.Ytbeojfhakmbacaa
namespace Go.Proofs.Ytbeojfhakmbacaa
open Go.RowKit
theorem sReceive2_c (m : Int) (A : Option Addr) (c : Nat) (l : List Hd) (s : ByteArray) (t : Int) (w : World) (h1 : Hid (Reads w w.heap.size 10 A l.length (hds l))) (b1 : l.length ≤ 4000000) (ho : okR m l = true) (hmax : s.size ≤ 1000000000000) : Calls Try.prog 16 #[.agg #[.int .i64 m, .slice A l.length c], .string s, .int .i64 t] w (GivesS w 42 10 (rvV m l s t).length (hds (rvV m l s t)) (fun v => .tuple #[.agg #[.int .i64 (rvM m l s t), v], .bool (rvK m l s t)])) := by
  obtain ⟨e1, e2, e3⟩ := Rv_ok (s := s) (t := t) ho
  have h := sReceive_c m A c l s t w h1 b1 hmax
  rw [e1, e2, e3] at h
  exact h
set_option maxRecDepth 100000 in
set_option maxHeartbeats 16000000 in
theorem sReceiveAll_c (m : Int) (A : Option Addr) (c : Nat) (l : List Hd) (SA : Option Addr) (SC : Nat) (ls : List ByteArray) (t : Int) (w : World) (h1 : Hid (Reads w w.heap.size 10 A l.length (hds l))) (b1 : l.length ≤ 4000000) (h2 : Hid (Reads w w.heap.size 1 SA ls.length (strs ls))) (bs : ls.length ≤ 4000000) (hss : Hid (∀ s ∈ ls, s.size ≤ 1000000000000))  : Calls Try.prog 47 #[.agg #[.int .i64 m, .slice A l.length c], .slice SA ls.length SC, .int .i64 t] w (GivesS w 42 10 (raV m l ls t).length (hds (raV m l ls t)) (fun v => .tuple #[.agg #[.int .i64 (raM m l ls t), v], .int .i64 (raC m l ls t), .bool (raK m l ls t)])) := by
  rcases ho : okR m l with _ | _
  have HF := hide (ra_no (m := m) (l := l) (ls := ls) (t := t) (by unfold raK; rw [ho]; rfl))
  rotate_left
  by_cases h20 : 20 < ls.length
  have HF := hide (ra_no (m := m) (l := l) (ls := ls) (t := t) (by unfold raK; rw [decide_eq_false (by omega)]; simp))
  have hq20 : decide ((20 : Int) < (ls.length : Int)) = true := decide_eq_true (by omega)
  rotate_left
  have hl20 : ls.length ≤ 20 := by omega
  clear h20
  have hq20 : decide ((20 : Int) < (ls.length : Int)) = false := decide_eq_false (by omega)
  rcases kt : wi t 0 9999 with _ | _
  have HF := hide (ra_no (m := m) (l := l) (ls := ls) (t := t) (by unfold raK; rw [kt]; simp))
  rotate_left
  by_cases hmt : t < m
  have HF := hide (ra_no (m := m) (l := l) (ls := ls) (t := t) (by unfold raK; rw [decide_eq_false (show ¬ m ≤ t by omega)]; simp))
  rotate_left
  · have HRK := hide (show raK m l ls t = true from by unfold raK; rw [ho, kt, decide_eq_true hl20, decide_eq_true (show m ≤ t by omega)]; rfl)
    have HOK := hide ho
    have hq : decide (t < m) = false := decide_eq_false hmt
    have h6 := (okR_iff ho).2.1
    clear hmt
    obtain ⟨i0, hi0, iz0, iy0, ix0⟩ := info_parts infoHd
    go_enter Try.func47, Try.ntmps47
    go_upto_region 4 with (first | (go_at_call 58; refine (l9Good_c _ _ _ l _ (hide (by refine reads_below h1.out ?_; go_grown)) b1).mono ?_; rintro e w1 ⟨rfl, hb⟩; have hT : w1.cell? ⟨w.heap.size, 0, none⟩ = some (.int .i64 m) ∧ w1.cell? ⟨w.heap.size, 1, none⟩ = some (.slice A l.length c) ∧ w1.cell? ⟨w.heap.size + 1, 0, none⟩ = some (.int .i64 0) ∧ w1.cell? ⟨w.heap.size + 1, 1, none⟩ = some (.slice none 0 0) ∧ (w.heap.size + 1 < w1.heap.size ∧ ∀ i, w1.frozen? ⟨w.heap.size + 1, i, none⟩ = false) ∧ Below w.heap.size w w1 := (fun W h hb => ⟨keep_cell (hb) h.1, keep_cell (hb) h.2.1, keep_cell (hb) h.2.2.1, keep_cell (hb) h.2.2.2.1, keep_fre (hb) h.2.2.2.2.1, below_via h.2.2.2.2.2 (hb)⟩ : ∀ W : World, (W.cell? ⟨w.heap.size, 0, none⟩ = some (.int .i64 m) ∧ W.cell? ⟨w.heap.size, 1, none⟩ = some (.slice A l.length c) ∧ W.cell? ⟨w.heap.size + 1, 0, none⟩ = some (.int .i64 0) ∧ W.cell? ⟨w.heap.size + 1, 1, none⟩ = some (.slice none 0 0) ∧ (w.heap.size + 1 < W.heap.size ∧ ∀ i, W.frozen? ⟨w.heap.size + 1, i, none⟩ = false) ∧ Below w.heap.size w W) → Below W.heap.size W w1 → (w1.cell? ⟨w.heap.size, 0, none⟩ = some (.int .i64 m) ∧ w1.cell? ⟨w.heap.size, 1, none⟩ = some (.slice A l.length c) ∧ w1.cell? ⟨w.heap.size + 1, 0, none⟩ = some (.int .i64 0) ∧ w1.cell? ⟨w.heap.size + 1, 1, none⟩ = some (.slice none 0 0) ∧ (w.heap.size + 1 < w1.heap.size ∧ ∀ i, w1.frozen? ⟨w.heap.size + 1, i, none⟩ = false) ∧ Below w.heap.size w w1)) _ (by first | (with_reducible assumption) | (exact hS) | (exact ⟨hS.1, hS.2.1, hS.2.2.1, hS.2.2.2.1, hS.2.2.2.2.1, (by go_grown)⟩) | (exact ⟨(by first | (with_reducible assumption) | (simp [go_sem]; done) | ((simp only [go_sem]); (with_reducible assumption)) | ((refine keep_cell ?_ (by with_reducible assumption)); go_grown; done) | (simp [go_sem, *]; done)), (by first | (with_reducible assumption) | (simp [go_sem]; done) | ((simp only [go_sem]); (with_reducible assumption)) | ((refine keep_cell ?_ (by with_reducible assumption)); go_grown; done) | (simp [go_sem, *]; done)), (by first | (with_reducible assumption) | (simp [go_sem]; done) | ((simp only [go_sem]); (with_reducible assumption)) | ((refine keep_cell ?_ (by with_reducible assumption)); go_grown; done) | (simp [go_sem, *]; done)), (by first | (with_reducible assumption) | (simp [go_sem]; done) | ((simp only [go_sem]); (with_reducible assumption)) | ((refine keep_cell ?_ (by with_reducible assumption)); go_grown; done) | (simp [go_sem, *]; done)), (by first | (with_reducible assumption) | (simp [go_sem]; done) | (refine keep_fre ?_ ⟨by with_reducible assumption, by with_reducible assumption⟩; go_grown; done) | (simp [go_sem, *]; done)), (by go_grown)⟩)) hb; (try clear hS); have hS := hT; clear hT; have hB := hS.2.2.2.2.2; have hzw : w.heap.size ≤ w1.heap.size := hB.size; have hz1 : w.heap.size < w1.heap.size := World.block_lt_of_cell? w1 _ (hS.1); have hz2 : w.heap.size + 1 < w1.heap.size := World.block_lt_of_cell? w1 _ (hS.2.2.1); clear hb) | (go_at_call 59; refine (l9Minute_c _ _).mono ?_; rintro e w1 ⟨rfl, rfl⟩) | (go_at_call 87; refine (l9Own_c m A c l m _ (hide (by refine reads_below h1.out ?_; go_grown)) b1).mono ?_; rintro e w2 ⟨A3, c3, rfl, hown, hb⟩; have hT : w2.cell? ⟨w.heap.size + 1, 0, none⟩ = some (.int .i64 0) ∧ w2.cell? ⟨w.heap.size + 1, 1, none⟩ = some (.slice none 0 0) ∧ (w.heap.size + 1 < w2.heap.size ∧ ∀ i, w2.frozen? ⟨w.heap.size + 1, i, none⟩ = false) ∧ Below w.heap.size w w2 := (fun W h hb => ⟨keep_cell (hb) h.1, keep_cell (hb) h.2.1, keep_fre (hb) h.2.2.1, below_via h.2.2.2 (hb)⟩ : ∀ W : World, (W.cell? ⟨w.heap.size + 1, 0, none⟩ = some (.int .i64 0) ∧ W.cell? ⟨w.heap.size + 1, 1, none⟩ = some (.slice none 0 0) ∧ (w.heap.size + 1 < W.heap.size ∧ ∀ i, W.frozen? ⟨w.heap.size + 1, i, none⟩ = false) ∧ Below w.heap.size w W) → Below W.heap.size W w2 → (w2.cell? ⟨w.heap.size + 1, 0, none⟩ = some (.int .i64 0) ∧ w2.cell? ⟨w.heap.size + 1, 1, none⟩ = some (.slice none 0 0) ∧ (w.heap.size + 1 < w2.heap.size ∧ ∀ i, w2.frozen? ⟨w.heap.size + 1, i, none⟩ = false) ∧ Below w.heap.size w w2)) _ (by first | (with_reducible assumption) | (exact hS) | (exact ⟨hS.1, hS.2.1, hS.2.2.1, (by go_grown)⟩) | (exact ⟨(by first | (with_reducible assumption) | (simp [go_sem]; done) | ((simp only [go_sem]); (with_reducible assumption)) | ((refine keep_cell ?_ (by with_reducible assumption)); go_grown; done) | (simp [go_sem, *]; done)), (by first | (with_reducible assumption) | (simp [go_sem]; done) | ((simp only [go_sem]); (with_reducible assumption)) | ((refine keep_cell ?_ (by with_reducible assumption)); go_grown; done) | (simp [go_sem, *]; done)), (by first | (with_reducible assumption) | (simp [go_sem]; done) | (refine keep_fre ?_ ⟨by with_reducible assumption, by with_reducible assumption⟩; go_grown; done) | (simp [go_sem, *]; done)), (by go_grown)⟩)) hb; (try clear hS); have hS := hT; clear hT; have hB := hS.2.2.2; have hzw : w.heap.size ≤ w2.heap.size := hB.size; have hz1 : w.heap.size + 1 < w2.heap.size := World.block_lt_of_cell? w2 _ (hS.1); clear hb))
    clear ho kt hq hq20
    obtain ⟨T, hT9⟩ : ∃ q, w2.heap.size = q := ⟨_, rfl⟩
    obtain ⟨X3, hX3⟩ : ∃ X, World.alloc w2 (.cells #[.int .i64 m, .slice A3 l.length c3] 26) = X := ⟨_, rfl⟩
    rw [hX3, hT9]
    have hbx : Below w2.heap.size w2 X3 := by rw [← hX3]; go_grown
    have hwT : w.heap.size + 1 < T := by rw [← hT9]; exact (hS.2.2.1).1
    have hTn : (Value.slice A3 l.length c3).ownBlock ≠ some T := fun e => by have := (hown.lt _ e).2; omega
    have HROW := hide (own_mono (own_below hown hbx) (show w.heap.size + 2 ≤ w1.heap.size by omega))
    have hS3 : X3.cell? ⟨w.heap.size + 1, 0, none⟩ = some (.int .i64 0) ∧ X3.cell? ⟨w.heap.size + 1, 1, none⟩ = some (.slice none 0 0) ∧ (w.heap.size + 1 < X3.heap.size ∧ ∀ i, X3.frozen? ⟨w.heap.size + 1, i, none⟩ = false) ∧ X3.cell? ⟨T, 0, none⟩ = some (.int .i64 m) ∧ X3.cell? ⟨T, 1, none⟩ = some (.slice A3 l.length c3) ∧ (T < X3.heap.size ∧ ∀ i, X3.frozen? ⟨T, i, none⟩ = false) ∧ Below w.heap.size w X3 := ⟨keep_cell hbx (hS.1), keep_cell hbx (hS.2.1), keep_fre hbx (hS.2.2.1), (by rw [← hX3, ← hT9]; simp [go_sem]), (by rw [← hX3, ← hT9]; simp [go_sem]), ⟨(by rw [← hX3, ← hT9]; simp), (by rw [← hX3, ← hT9]; simp [go_sem])⟩, below_via (hS.2.2.2) hbx⟩
    clear hS hB hzw hbx hX3 hT9 hown
    (try clear hz1)
    (try clear hz2)
    have hS := hS3
    clear hS3
    go_wp2_with fail
    go_loopw [10, 11] (fun cv iv wr => ∃ (i n : Nat) (M : Int) (L : List Hd) (AL : Option Addr) (cL : Nat), i ≤ ls.length ∧ n ≤ i ∧ iv = .int .i64 i ∧ cv = .int .i64 n ∧ Hid (raN t m l ls i = (M, L, n)) ∧ (Value.slice AL L.length cL).ownBlock ≠ some T ∧ Hid (wr.ownsRow (w.heap.size + 2) 42 10 (.slice AL L.length cL) L.length (hds L)) ∧ (wr.cell? ⟨w.heap.size + 1, 0, none⟩ = some (.int .i64 0) ∧ wr.cell? ⟨w.heap.size + 1, 1, none⟩ = some (.slice none 0 0) ∧ (w.heap.size + 1 < wr.heap.size ∧ ∀ i, wr.frozen? ⟨w.heap.size + 1, i, none⟩ = false) ∧ wr.cell? ⟨T, 0, none⟩ = some (.int .i64 M) ∧ wr.cell? ⟨T, 1, none⟩ = some (.slice AL L.length cL) ∧ (T < wr.heap.size ∧ ∀ i, wr.frozen? ⟨T, i, none⟩ = false) ∧ Below w.heap.size w wr)) (fun _ iv _ => ls.length - (intOf iv).toNat)
    case atStart => exact ⟨0, 0, m, l, A3, c3, by omega, by omega, rfl, rfl, hide rfl, hTn, HROW, hS⟩
    case round =>
      (try clear hS)
      (try clear HROW)
      (try clear hB)
      (try clear hzw)
      (try clear hTn)
      obtain ⟨i, n, M, L, AL, cL, hi, hni, rfl, rfl, HN, hLT, HROW, hS⟩ := hrel
      have hB := hS.2.2.2.2.2.2
      have hzw : w.heap.size ≤ wr.heap.size := hB.size
      have hok := raN_ok (t := t) (ls := ls) HOK.out i
      rw [HN.out] at hok
      have HOM := hide hok.1
      have hL6 : L.length ≤ 6 := (okR_iff hok.1).2.1
      clear hok
      by_cases hlt : i < ls.length
      rotate_left
      · obtain rfl : i = ls.length := by omega
        have HF := hide (ra_yes HRK.out HN.out)
        go_wp2_with fail
        refine bodyPost_ret (by simp [results, Try.results47, go_sem, cell_set_some, *]; try rfl) rfl ?_
        rw [HF.out.1, HF.out.2.1, HF.out.2.2.1, HF.out.2.2.2]
        refine ⟨AL, cL, rfl, own_mono ?_ (show w.heap.size ≤ w.heap.size + 2 by omega), by go_grown⟩
        repeat (refine own_set ?_ (by first | (simp; done) | (simp; omega)) _)
        exact HROW.out
      obtain ⟨ad, hSA, hb9, hc⟩ := (h2.out.below hB).str hlt
      obtain ⟨y, hz⟩ : ∃ q, sx ls i = q := ⟨_, rfl⟩
      have hys : y.size ≤ 1000000000000 := by rw [← hz]; exact hss.out _ (sx_mem hlt)
      rw [hz] at hc
      have HZ := hide hz
      clear hz
      subst hSA
      go_upto_region 8 with fail
      go_cut [12, 13] (fun pv kv wx => ∃ (N : Nat) (B : Option Addr) (d : Nat), pv = .pointer (some ⟨N, 0, none⟩) ∧ kv = .bool (rvK M L y t) ∧ T < N ∧ (Value.slice B (rvV M L y t).length d).ownBlock ≠ some T ∧ Hid (wx.ownsRow (w.heap.size + 2) 42 10 (.slice AL L.length cL) L.length (hds L)) ∧ Hid (wx.ownsRow (w.heap.size + 2) 42 10 (.slice B (rvV M L y t).length d) (rvV M L y t).length (hds (rvV M L y t))) ∧ (wx.cell? ⟨w.heap.size + 1, 0, none⟩ = some (.int .i64 0) ∧ wx.cell? ⟨w.heap.size + 1, 1, none⟩ = some (.slice none 0 0) ∧ (w.heap.size + 1 < wx.heap.size ∧ ∀ i, wx.frozen? ⟨w.heap.size + 1, i, none⟩ = false) ∧ wx.cell? ⟨T, 0, none⟩ = some (.int .i64 M) ∧ wx.cell? ⟨T, 1, none⟩ = some (.slice AL L.length cL) ∧ (T < wx.heap.size ∧ ∀ i, wx.frozen? ⟨T, i, none⟩ = false) ∧ wx.cell? ⟨N, 0, none⟩ = some (.int .i64 (rvM M L y t)) ∧ wx.cell? ⟨N, 1, none⟩ = some (.slice B (rvV M L y t).length d) ∧ Below w.heap.size w wx))
      case first =>
        refine wp_region_all (by kernel_rfl) ?_
        obtain ⟨W0, hW0⟩ : ∃ W, World.drew wr = W := ⟨_, rfl⟩
        rw [hW0]
        have hcw : Below wr.heap.size wr W0 := by rw [← hW0]; go_grown
        have hB1 := below_via hB hcw
        have HS0 := hide (show W0.cell? ⟨w.heap.size + 1, 0, none⟩ = some (.int .i64 0) ∧ W0.cell? ⟨w.heap.size + 1, 1, none⟩ = some (.slice none 0 0) ∧ (w.heap.size + 1 < W0.heap.size ∧ ∀ i, W0.frozen? ⟨w.heap.size + 1, i, none⟩ = false) ∧ W0.cell? ⟨T, 0, none⟩ = some (.int .i64 M) ∧ W0.cell? ⟨T, 1, none⟩ = some (.slice AL L.length cL) ∧ (T < W0.heap.size ∧ ∀ i, W0.frozen? ⟨T, i, none⟩ = false) ∧ Below w.heap.size w W0 from ⟨keep_cell hcw (hS.1), keep_cell hcw (hS.2.1), keep_fre hcw (hS.2.2.1), keep_cell hcw (hS.2.2.2.1), keep_cell hcw (hS.2.2.2.2.1), keep_fre hcw (hS.2.2.2.2.2.1), hB1⟩)
        have HRA := hide (own_below HROW.out hcw)
        have hTW : T < W0.heap.size := (HS0.out.2.2.2.2.2.1).1
        have hwW : w.heap.size + 2 ≤ W0.heap.size := by omega
        have hS7 : W0.cell? ⟨T, 0, none⟩ = some (.int .i64 M) ∧ W0.cell? ⟨T, 1, none⟩ = some (.slice AL L.length cL) ∧ W0.cell? (ad.add i) = some (.string y) ∧ Below W0.heap.size W0 W0 := ⟨HS0.out.2.2.2.1, HS0.out.2.2.2.2.1, keep_cell hcw hc, Below.refl _ _⟩
        clear hS hB hcw hB1 hW0 hzw hc HROW
        have hS := hS7
        clear hS7
        have hB := hS.2.2.2
        have hda : (ad.add i).block < W0.heap.size := World.block_lt_of_cell? W0 _ hS.2.2.1
        refine all_split 10 6 (by decide) ?_ ?_
        · refine all_seq_core [0, 1, 2, 3, 4, 5, 10, 6, 7, 8, 9, 11, 12] (fun W => W.cell? ⟨T, 0, none⟩ = some (.int .i64 M) ∧ W.cell? ⟨T, 1, none⟩ = some (.slice AL L.length cL) ∧ W.cell? (ad.add i) = some (.string y) ∧ Below W0.heap.size W0 W) (addE_core 10 6 _) (by kernel_rfl) hS ?_
          simp only [byNum, List.getElem?_cons_zero, List.getElem?_cons_succ]
          repeat (first
            | ((refine seq_skip (by rfl) (by rfl) ?_); simp only [Act.put, pa, pb, pc])
            | ((refine seq_val (v := ?_) (by rfl) (by rfl) (fun w hS => ?_) ?_); rotate_left; (focus ((try dsimp only at hS); go_simp; (try (with_reducible rfl)); done)); simp only [Act.put, pa, pb, pc]))
          refine seq_deed (v := ?_) (w' := ?_) (by rfl) (by rfl) ?_ ?_
          rotate_left
          rotate_left
          focus (go_simp; (constructor <;> (with_reducible rfl)); done)
          obtain ⟨X1, hX1⟩ : ∃ X, World.alloc W0 (.cells #[.int .i64 0, .slice none 0 0] 26) = X := ⟨_, rfl⟩
          rw [hX1]
          have hbx : Below W0.heap.size W0 X1 := by rw [← hX1]; go_grown
          have hlT : W0.heap.size ≤ W0.heap.size := hB.size
          have hmT : W0.heap.size < X1.heap.size := by rw [← hX1]; simp
          have HT9 := hide (show TZ X1 W0.heap.size 26 from by rw [← hX1]; exact TZ.new _ _)
          have HRAb := hide (own_below HRA.out hbx)
          clear HRA
          have HRA := HRAb
          clear HRAb
          have hS2 : X1.cell? ⟨T, 0, none⟩ = some (.int .i64 M) ∧ X1.cell? ⟨T, 1, none⟩ = some (.slice AL L.length cL) ∧ X1.cell? (ad.add i) = some (.string y) ∧ Below W0.heap.size W0 X1 := ⟨keep_cell hbx (hS.1), keep_cell hbx (hS.2.1), keep_cell hbx (hS.2.2.1), below_via hB hbx⟩
          clear hS hB
          have hS := hS2
          clear hS2
          have hB := hS.2.2.2
          clear hbx
          clear hX1
          have HT := HT9
          clear HT9
          refine ⟨(fun W => W.cell? ⟨T, 0, none⟩ = some (.int .i64 M) ∧ W.cell? ⟨T, 1, none⟩ = some (.slice AL L.length cL) ∧ W.cell? (ad.add i) = some (.string y) ∧ Below W0.heap.size W0 W), hS, (fun W h => h), ?_⟩
          simp only [Act.put, pa, pb, pc]
          repeat (first
            | ((refine seq_skip (by rfl) (by rfl) ?_); simp only [Act.put, pa, pb, pc])
            | ((refine seq_val (v := ?_) (by rfl) (by rfl) (fun w hS => ?_) ?_); rotate_left; (focus ((try dsimp only at hS); go_simp; (try (with_reducible rfl)); done)); simp only [Act.put, pa, pb, pc]))
          refine seq_call (f := ?_) (args := ?_) (by rfl) (by rfl) ?_ ?_
          rotate_left
          rotate_left
          focus (go_simp; (constructor <;> (with_reducible rfl)); done)
          refine (sReceive2_c M AL cL L y t X1 (hide (own_reads HRA.out)) (by omega) HOM.out hys).mono ?_
          rintro e X2 ⟨B, d, rfl, hown, hbx⟩
          have hsz2 := hB.size
          have hBN : (Value.slice B (rvV M L y t).length d).ownBlock ≠ some W0.heap.size := fun e => by have h8 := (hown.lt _ e).1; omega
          have hBT : (Value.slice B (rvV M L y t).length d).ownBlock ≠ some T := fun e => by have h8 := (hown.lt _ e).1; omega
          have HRAb := hide (own_below HRA.out hbx)
          clear HRA
          have HRA := HRAb
          clear HRAb
          have HTb := hide (HT.out.below hbx)
          clear HT
          have HT := HTb
          clear HTb
          have hS2 : X2.cell? ⟨T, 0, none⟩ = some (.int .i64 M) ∧ X2.cell? ⟨T, 1, none⟩ = some (.slice AL L.length cL) ∧ X2.cell? (ad.add i) = some (.string y) ∧ Below W0.heap.size W0 X2 := ⟨keep_cell hbx (hS.1), keep_cell hbx (hS.2.1), keep_cell hbx (hS.2.2.1), below_via hB hbx⟩
          clear hS hB
          have hS := hS2
          clear hS2
          have hB := hS.2.2.2
          clear hbx
          have HO := hide (own_mono hown (show w.heap.size + 2 ≤ X1.heap.size by omega))
          clear hown
          refine ⟨_, rfl, (fun W => W.cell? ⟨T, 0, none⟩ = some (.int .i64 M) ∧ W.cell? ⟨T, 1, none⟩ = some (.slice AL L.length cL) ∧ W.cell? (ad.add i) = some (.string y) ∧ Below W0.heap.size W0 W), hS, (fun W h => h), ?_⟩
          simp only [Act.put, pa, pb, pc]
          repeat (first
            | ((refine seq_skip (by rfl) (by rfl) ?_); simp only [Act.put, pa, pb, pc])
            | ((refine seq_val (v := ?_) (by rfl) (by rfl) (fun w hS => ?_) ?_); rotate_left; (focus ((try dsimp only at hS); go_simp; (try (with_reducible rfl)); done)); simp only [Act.put, pa, pb, pc]))
          have hAN : (Value.slice AL L.length cL).ownBlock ≠ some W0.heap.size := ty_ne HRA.out HT.out.2.2.2 (by decide)
          have hBq := hB
          obtain ⟨X9, hX9⟩ : ∃ X, (X2.setCell ⟨W0.heap.size, 0, none⟩ (.int .i64 (rvM M L y t))).setCell ⟨W0.heap.size, 1, none⟩ (.slice B (rvV M L y t).length d) = X := ⟨_, rfl⟩
          obtain ⟨y0, y1, ⟨y2, y3⟩, _⟩ := HT.out
          refine seq_store (w' := X9) (by rfl) (by rfl) (by rw [← hX9]; go_simp; (try (with_reducible rfl)); done) ?_
          have hS2 : X9.cell? ⟨T, 0, none⟩ = some (.int .i64 M) ∧ X9.cell? ⟨T, 1, none⟩ = some (.slice AL L.length cL) ∧ X9.cell? (ad.add i) = some (.string y) ∧ Below W0.heap.size W0 X9 := ⟨(by rw [← hX9]; exact sc _ (by omega) (sc _ (by omega) (hS.1))), (by rw [← hX9]; exact sc _ (by omega) (sc _ (by omega) (hS.2.1))), (by rw [← hX9]; exact (by rw [World.cell?_setCell_other _ _ _ _ (by intro e; have h8 := hda; rw [← e] at h8; have h7 : W0.heap.size < W0.heap.size := h8; omega), World.cell?_setCell_other _ _ _ _ (by intro e; have h8 := hda; rw [← e] at h8; have h7 : W0.heap.size < W0.heap.size := h8; omega)]; exact hS.2.2.1)), (by rw [← hX9]; exact (hB.setCell (p := ⟨W0.heap.size, 0, none⟩) (by show _ ≤ W0.heap.size; omega) _).setCell (p := ⟨W0.heap.size, 1, none⟩) (by show _ ≤ W0.heap.size; omega) _)⟩
          clear hS hB
          have hS := hS2
          clear hS2
          have hB := hS.2.2.2
          refine ⟨(fun W => W.cell? ⟨T, 0, none⟩ = some (.int .i64 M) ∧ W.cell? ⟨T, 1, none⟩ = some (.slice AL L.length cL) ∧ W.cell? (ad.add i) = some (.string y) ∧ Below W0.heap.size W0 W), hS, (fun W h => h), ?_⟩
          simp only [Act.put, pa, pb, pc]
          repeat (first
            | ((refine seq_skip (by rfl) (by rfl) ?_); simp only [Act.put, pa, pb, pc])
            | ((refine seq_val (v := ?_) (by rfl) (by rfl) (fun w hS => ?_) ?_); rotate_left; (focus ((try dsimp only at hS); go_simp; (try (with_reducible rfl)); done)); simp only [Act.put, pa, pb, pc]))
          refine seq_nil ?_
          go_wp2_with fail
          go_meet
          case rel => exact ⟨W0.heap.size, B, d, rfl, rfl, by omega, hBT, hide (by rw [← hX9]; exact ownsRow_setCell_other (ownsRow_setCell_other HRA.out (a := ⟨W0.heap.size, 0, none⟩) hAN _) (a := ⟨W0.heap.size, 1, none⟩) hAN _), hide (by rw [← hX9]; exact ownsRow_setCell_other (ownsRow_setCell_other HO.out (a := ⟨W0.heap.size, 0, none⟩) hBN _) (a := ⟨W0.heap.size, 1, none⟩) hBN _), (by rw [← hX9]; exact ⟨sc _ (by omega) (sc _ (by omega) (keep_cell hBq (HS0.out.1))), sc _ (by omega) (sc _ (by omega) (keep_cell hBq (HS0.out.2.1))), sf _ (sf _ (keep_fre hBq (HS0.out.2.2.1))), sc _ (by omega) (sc _ (by omega) (keep_cell hBq (HS0.out.2.2.2.1))), sc _ (by omega) (sc _ (by omega) (keep_cell hBq (HS0.out.2.2.2.2.1))), sf _ (sf _ (keep_fre hBq (HS0.out.2.2.2.2.2.1))), sc_off (by omega) (sc_at y0), sc_at (sc_off (by omega) y1), ((below_via (HS0.out.2.2.2.2.2.2) hBq).setCell (p := ⟨W0.heap.size, 0, none⟩) (by show _ ≤ W0.heap.size; omega) _).setCell (p := ⟨W0.heap.size, 1, none⟩) (by show _ ≤ W0.heap.size; omega) _⟩)⟩
        · refine all_seq_core [0, 1, 2, 3, 4, 5, 6, 7, 8, 9, 10, 11, 12] (fun W => W.cell? ⟨T, 0, none⟩ = some (.int .i64 M) ∧ W.cell? ⟨T, 1, none⟩ = some (.slice AL L.length cL) ∧ W.cell? (ad.add i) = some (.string y) ∧ Below W0.heap.size W0 W) (addE_core 6 10 _) (by kernel_rfl) hS ?_
          simp only [byNum, List.getElem?_cons_zero, List.getElem?_cons_succ]
          repeat (first
            | ((refine seq_skip (by rfl) (by rfl) ?_); simp only [Act.put, pa, pb, pc])
            | ((refine seq_val (v := ?_) (by rfl) (by rfl) (fun w hS => ?_) ?_); rotate_left; (focus ((try dsimp only at hS); go_simp; (try (with_reducible rfl)); done)); simp only [Act.put, pa, pb, pc]))
          refine seq_call (f := ?_) (args := ?_) (by rfl) (by rfl) ?_ ?_
          rotate_left
          rotate_left
          focus (go_simp; (constructor <;> (with_reducible rfl)); done)
          refine (sReceive2_c M AL cL L y t W0 (hide (own_reads HRA.out)) (by omega) HOM.out hys).mono ?_
          rintro e X1 ⟨B, d, rfl, hown, hbx⟩
          have hsz1 := hB.size
          have hBT : (Value.slice B (rvV M L y t).length d).ownBlock ≠ some T := fun e => by have h8 := (hown.lt _ e).1; omega
          have HRAb := hide (own_below HRA.out hbx)
          clear HRA
          have HRA := HRAb
          clear HRAb
          have hS2 : X1.cell? ⟨T, 0, none⟩ = some (.int .i64 M) ∧ X1.cell? ⟨T, 1, none⟩ = some (.slice AL L.length cL) ∧ X1.cell? (ad.add i) = some (.string y) ∧ Below W0.heap.size W0 X1 := ⟨keep_cell hbx (hS.1), keep_cell hbx (hS.2.1), keep_cell hbx (hS.2.2.1), below_via hB hbx⟩
          clear hS hB
          have hS := hS2
          clear hS2
          have hB := hS.2.2.2
          clear hbx
          have HO := hide (own_mono hown (show w.heap.size + 2 ≤ W0.heap.size by omega))
          have hOL := hide hown
          clear hown
          refine ⟨_, rfl, (fun W => W.cell? ⟨T, 0, none⟩ = some (.int .i64 M) ∧ W.cell? ⟨T, 1, none⟩ = some (.slice AL L.length cL) ∧ W.cell? (ad.add i) = some (.string y) ∧ Below W0.heap.size W0 W), hS, (fun W h => h), ?_⟩
          simp only [Act.put, pa, pb, pc]
          repeat (first
            | ((refine seq_skip (by rfl) (by rfl) ?_); simp only [Act.put, pa, pb, pc])
            | ((refine seq_val (v := ?_) (by rfl) (by rfl) (fun w hS => ?_) ?_); rotate_left; (focus ((try dsimp only at hS); go_simp; (try (with_reducible rfl)); done)); simp only [Act.put, pa, pb, pc]))
          refine seq_deed (v := ?_) (w' := ?_) (by rfl) (by rfl) ?_ ?_
          rotate_left
          rotate_left
          focus (go_simp; (constructor <;> (with_reducible rfl)); done)
          obtain ⟨X2, hX2⟩ : ∃ X, World.alloc X1 (.cells #[.int .i64 0, .slice none 0 0] 26) = X := ⟨_, rfl⟩
          rw [hX2]
          have hbx : Below X1.heap.size X1 X2 := by rw [← hX2]; go_grown
          have hlT : W0.heap.size ≤ X1.heap.size := hB.size
          have hmT : X1.heap.size < X2.heap.size := by rw [← hX2]; simp
          have HT9 := hide (show TZ X2 X1.heap.size 26 from by rw [← hX2]; exact TZ.new _ _)
          have HRAb := hide (own_below HRA.out hbx)
          clear HRA
          have HRA := HRAb
          clear HRAb
          have HOb := hide (own_below HO.out hbx)
          clear HO
          have HO := HOb
          clear HOb
          have hS2 : X2.cell? ⟨T, 0, none⟩ = some (.int .i64 M) ∧ X2.cell? ⟨T, 1, none⟩ = some (.slice AL L.length cL) ∧ X2.cell? (ad.add i) = some (.string y) ∧ Below W0.heap.size W0 X2 := ⟨keep_cell hbx (hS.1), keep_cell hbx (hS.2.1), keep_cell hbx (hS.2.2.1), below_via hB hbx⟩
          clear hS hB
          have hS := hS2
          clear hS2
          have hB := hS.2.2.2
          clear hbx
          clear hX2
          have HT := HT9
          clear HT9
          refine ⟨(fun W => W.cell? ⟨T, 0, none⟩ = some (.int .i64 M) ∧ W.cell? ⟨T, 1, none⟩ = some (.slice AL L.length cL) ∧ W.cell? (ad.add i) = some (.string y) ∧ Below W0.heap.size W0 W), hS, (fun W h => h), ?_⟩
          simp only [Act.put, pa, pb, pc]
          repeat (first
            | ((refine seq_skip (by rfl) (by rfl) ?_); simp only [Act.put, pa, pb, pc])
            | ((refine seq_val (v := ?_) (by rfl) (by rfl) (fun w hS => ?_) ?_); rotate_left; (focus ((try dsimp only at hS); go_simp; (try (with_reducible rfl)); done)); simp only [Act.put, pa, pb, pc]))
          have hBN : (Value.slice B (rvV M L y t).length d).ownBlock ≠ some X1.heap.size := fun e => by have h8 := (hOL.out.lt _ e).2; omega
          have hAN : (Value.slice AL L.length cL).ownBlock ≠ some X1.heap.size := ty_ne HRA.out HT.out.2.2.2 (by decide)
          have hBq := hB
          obtain ⟨X9, hX9⟩ : ∃ X, (X2.setCell ⟨X1.heap.size, 0, none⟩ (.int .i64 (rvM M L y t))).setCell ⟨X1.heap.size, 1, none⟩ (.slice B (rvV M L y t).length d) = X := ⟨_, rfl⟩
          obtain ⟨y0, y1, ⟨y2, y3⟩, _⟩ := HT.out
          refine seq_store (w' := X9) (by rfl) (by rfl) (by rw [← hX9]; go_simp; (try (with_reducible rfl)); done) ?_
          have hS2 : X9.cell? ⟨T, 0, none⟩ = some (.int .i64 M) ∧ X9.cell? ⟨T, 1, none⟩ = some (.slice AL L.length cL) ∧ X9.cell? (ad.add i) = some (.string y) ∧ Below W0.heap.size W0 X9 := ⟨(by rw [← hX9]; exact sc _ (by omega) (sc _ (by omega) (hS.1))), (by rw [← hX9]; exact sc _ (by omega) (sc _ (by omega) (hS.2.1))), (by rw [← hX9]; exact (by rw [World.cell?_setCell_other _ _ _ _ (by intro e; have h8 := hda; rw [← e] at h8; have h7 : X1.heap.size < W0.heap.size := h8; omega), World.cell?_setCell_other _ _ _ _ (by intro e; have h8 := hda; rw [← e] at h8; have h7 : X1.heap.size < W0.heap.size := h8; omega)]; exact hS.2.2.1)), (by rw [← hX9]; exact (hB.setCell (p := ⟨X1.heap.size, 0, none⟩) (by show _ ≤ X1.heap.size; omega) _).setCell (p := ⟨X1.heap.size, 1, none⟩) (by show _ ≤ X1.heap.size; omega) _)⟩
          clear hS hB
          have hS := hS2
          clear hS2
          have hB := hS.2.2.2
          refine ⟨(fun W => W.cell? ⟨T, 0, none⟩ = some (.int .i64 M) ∧ W.cell? ⟨T, 1, none⟩ = some (.slice AL L.length cL) ∧ W.cell? (ad.add i) = some (.string y) ∧ Below W0.heap.size W0 W), hS, (fun W h => h), ?_⟩
          simp only [Act.put, pa, pb, pc]
          repeat (first
            | ((refine seq_skip (by rfl) (by rfl) ?_); simp only [Act.put, pa, pb, pc])
            | ((refine seq_val (v := ?_) (by rfl) (by rfl) (fun w hS => ?_) ?_); rotate_left; (focus ((try dsimp only at hS); go_simp; (try (with_reducible rfl)); done)); simp only [Act.put, pa, pb, pc]))
          refine seq_nil ?_
          go_wp2_with fail
          go_meet
          case rel => exact ⟨X1.heap.size, B, d, rfl, rfl, by omega, hBT, hide (by rw [← hX9]; exact ownsRow_setCell_other (ownsRow_setCell_other HRA.out (a := ⟨X1.heap.size, 0, none⟩) hAN _) (a := ⟨X1.heap.size, 1, none⟩) hAN _), hide (by rw [← hX9]; exact ownsRow_setCell_other (ownsRow_setCell_other HO.out (a := ⟨X1.heap.size, 0, none⟩) hBN _) (a := ⟨X1.heap.size, 1, none⟩) hBN _), (by rw [← hX9]; exact ⟨sc _ (by omega) (sc _ (by omega) (keep_cell hBq (HS0.out.1))), sc _ (by omega) (sc _ (by omega) (keep_cell hBq (HS0.out.2.1))), sf _ (sf _ (keep_fre hBq (HS0.out.2.2.1))), sc _ (by omega) (sc _ (by omega) (keep_cell hBq (HS0.out.2.2.2.1))), sc _ (by omega) (sc _ (by omega) (keep_cell hBq (HS0.out.2.2.2.2.1))), sf _ (sf _ (keep_fre hBq (HS0.out.2.2.2.2.2.1))), sc_off (by omega) (sc_at y0), sc_at (sc_off (by omega) y1), ((below_via (HS0.out.2.2.2.2.2.2) hBq).setCell (p := ⟨X1.heap.size, 0, none⟩) (by show _ ≤ X1.heap.size; omega) _).setCell (p := ⟨X1.heap.size, 1, none⟩) (by show _ ≤ X1.heap.size; omega) _⟩)⟩
      (try clear hS)
      (try clear hB)
      (try clear hzw)
      (try clear HROW)
      clear hc
      obtain ⟨N, B, d, rfl, rfl, hTN, hBT, HRA, HRB, hS⟩ := hcut
      obtain ⟨X, hX⟩ : ∃ X, wc = X := ⟨_, rfl⟩
      rw [hX] at HRA HRB hS ⊢
      clear hX
      have hB := hS.2.2.2.2.2.2.2.2
      have hzw : w.heap.size ≤ X.heap.size := hB.size
      rcases hk : rvK M L y t with _ | _
      · have HS := hide (raN_no HN.out (show rvK M L (sx ls i) t = false from by rw [HZ.out]; exact hk))
        clear hk
        go_wp2_with fail
        go_roundw
        case rel => exact ⟨i + 1, n, M, L, AL, cL, by omega, by omega, by go_num, rfl, HS, hLT, HRA, hS.1, hS.2.1, hS.2.2.1, hS.2.2.2.1, hS.2.2.2.2.1, hS.2.2.2.2.2.1, hB⟩
        case measure => simp [intOf]; omega
      have HS := hide (raN_yes HN.out (show rvK M L (sx ls i) t = true from by rw [HZ.out]; exact hk))
      rw [HZ.out] at HS
      clear hk
      have fz : ∀ q, X.frozen? ⟨T, q, none⟩ = false := (hS.2.2.2.2.2.1).2
      have hn20 : n ≤ 20 := by omega
      go_wp2_with fail
      go_roundw
      case rel => exact ⟨i + 1, n + 1, rvM M L y t, rvV M L y t, B, d, by omega, by omega, by go_num, by go_num, HS, hBT, hide (ownsRow_setCell_other (ownsRow_setCell_other HRB.out (a := ⟨T, 0, none⟩) hBT _) (a := ⟨T, 1, none⟩) hBT _), sc _ (by omega) (sc _ (by omega) (hS.1)), sc _ (by omega) (sc _ (by omega) (hS.2.1)), sf _ (sf _ (hS.2.2.1)), sc_off (by omega) (sc_at (hS.2.2.2.1)), sc_at (sc_off (by omega) (hS.2.2.2.2.1)), sf _ (sf _ (hS.2.2.2.2.2.1)), (hB.setCell (p := ⟨T, 0, none⟩) (by show _ ≤ T; omega) _).setCell (p := ⟨T, 1, none⟩) (by show _ ≤ T; omega) _⟩
      case measure => simp [intOf]; omega
  all_goals
    go_enter Try.func47, Try.ntmps47
    go_wp2_with (first | (go_at_call 58; refine (l9Good_c _ _ _ l _ (hide (by refine reads_below h1.out ?_; go_grown)) b1).mono ?_; rintro e w1 ⟨rfl, hb⟩; have hT : w1.cell? ⟨w.heap.size, 0, none⟩ = some (.int .i64 m) ∧ w1.cell? ⟨w.heap.size, 1, none⟩ = some (.slice A l.length c) ∧ w1.cell? ⟨w.heap.size + 1, 0, none⟩ = some (.int .i64 0) ∧ w1.cell? ⟨w.heap.size + 1, 1, none⟩ = some (.slice none 0 0) ∧ (w.heap.size + 1 < w1.heap.size ∧ ∀ i, w1.frozen? ⟨w.heap.size + 1, i, none⟩ = false) ∧ Below w.heap.size w w1 := (fun W h hb => ⟨keep_cell (hb) h.1, keep_cell (hb) h.2.1, keep_cell (hb) h.2.2.1, keep_cell (hb) h.2.2.2.1, keep_fre (hb) h.2.2.2.2.1, below_via h.2.2.2.2.2 (hb)⟩ : ∀ W : World, (W.cell? ⟨w.heap.size, 0, none⟩ = some (.int .i64 m) ∧ W.cell? ⟨w.heap.size, 1, none⟩ = some (.slice A l.length c) ∧ W.cell? ⟨w.heap.size + 1, 0, none⟩ = some (.int .i64 0) ∧ W.cell? ⟨w.heap.size + 1, 1, none⟩ = some (.slice none 0 0) ∧ (w.heap.size + 1 < W.heap.size ∧ ∀ i, W.frozen? ⟨w.heap.size + 1, i, none⟩ = false) ∧ Below w.heap.size w W) → Below W.heap.size W w1 → (w1.cell? ⟨w.heap.size, 0, none⟩ = some (.int .i64 m) ∧ w1.cell? ⟨w.heap.size, 1, none⟩ = some (.slice A l.length c) ∧ w1.cell? ⟨w.heap.size + 1, 0, none⟩ = some (.int .i64 0) ∧ w1.cell? ⟨w.heap.size + 1, 1, none⟩ = some (.slice none 0 0) ∧ (w.heap.size + 1 < w1.heap.size ∧ ∀ i, w1.frozen? ⟨w.heap.size + 1, i, none⟩ = false) ∧ Below w.heap.size w w1)) _ (by first | (with_reducible assumption) | (exact hS) | (exact ⟨hS.1, hS.2.1, hS.2.2.1, hS.2.2.2.1, hS.2.2.2.2.1, (by go_grown)⟩) | (exact ⟨(by first | (with_reducible assumption) | (simp [go_sem]; done) | ((simp only [go_sem]); (with_reducible assumption)) | ((refine keep_cell ?_ (by with_reducible assumption)); go_grown; done) | (simp [go_sem, *]; done)), (by first | (with_reducible assumption) | (simp [go_sem]; done) | ((simp only [go_sem]); (with_reducible assumption)) | ((refine keep_cell ?_ (by with_reducible assumption)); go_grown; done) | (simp [go_sem, *]; done)), (by first | (with_reducible assumption) | (simp [go_sem]; done) | ((simp only [go_sem]); (with_reducible assumption)) | ((refine keep_cell ?_ (by with_reducible assumption)); go_grown; done) | (simp [go_sem, *]; done)), (by first | (with_reducible assumption) | (simp [go_sem]; done) | ((simp only [go_sem]); (with_reducible assumption)) | ((refine keep_cell ?_ (by with_reducible assumption)); go_grown; done) | (simp [go_sem, *]; done)), (by first | (with_reducible assumption) | (simp [go_sem]; done) | (refine keep_fre ?_ ⟨by with_reducible assumption, by with_reducible assumption⟩; go_grown; done) | (simp [go_sem, *]; done)), (by go_grown)⟩)) hb; (try clear hS); have hS := hT; clear hT; have hB := hS.2.2.2.2.2; have hzw : w.heap.size ≤ w1.heap.size := hB.size; have hz1 : w.heap.size < w1.heap.size := World.block_lt_of_cell? w1 _ (hS.1); have hz2 : w.heap.size + 1 < w1.heap.size := World.block_lt_of_cell? w1 _ (hS.2.2.1); clear hb) | (go_at_call 59; refine (l9Minute_c _ _).mono ?_; rintro e w1 ⟨rfl, rfl⟩))
    refine bodyPost_ret (by simp [results, Try.results47, go_sem, cell_set_some, *]; try rfl) rfl ?_
    rw [HF.out.1, HF.out.2.1, HF.out.2.2.1, HF.out.2.2.2]
    exact ⟨none, 0, rfl, World.ownsRow_nil _ _ _ _, by go_grown⟩
end Go.Proofs.Ytbeojfhakmbacaa
namespace Go.Proofs.Ytbeojfhakmbacaa
open Go.RowKit
end Go.Proofs.Ytbeojfhakmbacaa
namespace Go.Proofs.Ytbeojfhakmbacaa
open Go.RowKit
theorem isFresh_c (t m : Int) (h0 : -1 ≤ t) (h1 : t ≤ m) (h2 : 0 ≤ m) (h3 : m ≤ 9999) (w : World) : Calls Try.prog 83 #[.int .i64 t, .int .i64 m] w fun e w' => e = .returned (.bool (frs t m)) ∧ w = w' := by
  have ew : IntKind.i64.wrap (m - t) = m - t := IntWalk.i64_in _ (by omega)
  by_cases hq : 0 ≤ t
  all_goals
    go_enter Try.func83, Try.ntmps83
    go_wp2
    all_goals (go_returns; exact ⟨ret_eq (by first | (simp [frs, *]; done) | (simp [frs, *]; omega) | (simp [frs]; omega)), rfl⟩)
end Go.Proofs.Ytbeojfhakmbacaa
namespace Go.Proofs.Ytbeojfhakmbacaa
open Go.RowKit
theorem infoHd2 : (Try.prog.info? 42).map (fun i => (i.zero, i.size, i.bytes)) = some (some (hdV nHd), 10, 80) := by kernel_rfl
set_option maxRecDepth 100000 in
set_option maxHeartbeats 8000000 in
theorem PassTime_c (m : Int) (A : Option Addr) (c : Nat) (l : List Hd) (t : Int) (w : World) (h1 : Hid (Reads w w.heap.size 10 A l.length (hds l))) (b1 : l.length ≤ 4000000)  : Calls Try.prog 37 #[.agg #[.int .i64 m, .slice A l.length c], .int .i64 t] w (GivesS w 42 10 (ptV m l t).length (hds (ptV m l t)) (fun v => .tuple #[.agg #[.int .i64 (ptM m l t), v], .bool (ptK m l t)])) := by
  rcases ho : okR m l with _ | _
  · have HF := hide (pt_no (m := m) (l := l) (t := t) (by unfold ptK; rw [ho]; rfl))
    go_enter Try.func37, Try.ntmps37
    go_wp2_with (first | (go_at_call 18; refine (validRecv_c _ _ _ l _ (hide (by refine reads_below h1.out ?_; go_grown)) b1).mono ?_; rintro e w1 ⟨rfl, hb⟩; have hT : w1.cell? ⟨w.heap.size, 0, none⟩ = some (.int .i64 m) ∧ w1.cell? ⟨w.heap.size, 1, none⟩ = some (.slice A l.length c) ∧ w1.cell? ⟨w.heap.size + 1, 0, none⟩ = some (.int .i64 0) ∧ w1.cell? ⟨w.heap.size + 1, 1, none⟩ = some (.slice none 0 0) ∧ (w.heap.size + 1 < w1.heap.size ∧ ∀ i, w1.frozen? ⟨w.heap.size + 1, i, none⟩ = false) ∧ Below w.heap.size w w1 := (fun W h hb => ⟨keep_cell (hb) h.1, keep_cell (hb) h.2.1, keep_cell (hb) h.2.2.1, keep_cell (hb) h.2.2.2.1, keep_fre (hb) h.2.2.2.2.1, below_via h.2.2.2.2.2 (hb)⟩ : ∀ W : World, (W.cell? ⟨w.heap.size, 0, none⟩ = some (.int .i64 m) ∧ W.cell? ⟨w.heap.size, 1, none⟩ = some (.slice A l.length c) ∧ W.cell? ⟨w.heap.size + 1, 0, none⟩ = some (.int .i64 0) ∧ W.cell? ⟨w.heap.size + 1, 1, none⟩ = some (.slice none 0 0) ∧ (w.heap.size + 1 < W.heap.size ∧ ∀ i, W.frozen? ⟨w.heap.size + 1, i, none⟩ = false) ∧ Below w.heap.size w W) → Below W.heap.size W w1 → (w1.cell? ⟨w.heap.size, 0, none⟩ = some (.int .i64 m) ∧ w1.cell? ⟨w.heap.size, 1, none⟩ = some (.slice A l.length c) ∧ w1.cell? ⟨w.heap.size + 1, 0, none⟩ = some (.int .i64 0) ∧ w1.cell? ⟨w.heap.size + 1, 1, none⟩ = some (.slice none 0 0) ∧ (w.heap.size + 1 < w1.heap.size ∧ ∀ i, w1.frozen? ⟨w.heap.size + 1, i, none⟩ = false) ∧ Below w.heap.size w w1)) _ (by first | (with_reducible assumption) | (exact hS) | (exact ⟨hS.1, hS.2.1, hS.2.2.1, hS.2.2.2.1, hS.2.2.2.2.1, (by go_grown)⟩) | (exact ⟨(by first | (with_reducible assumption) | (simp [go_sem]; done) | ((simp only [go_sem]); (with_reducible assumption)) | ((refine keep_cell ?_ (by with_reducible assumption)); go_grown; done) | (simp [go_sem, *]; done)), (by first | (with_reducible assumption) | (simp [go_sem]; done) | ((simp only [go_sem]); (with_reducible assumption)) | ((refine keep_cell ?_ (by with_reducible assumption)); go_grown; done) | (simp [go_sem, *]; done)), (by first | (with_reducible assumption) | (simp [go_sem]; done) | ((simp only [go_sem]); (with_reducible assumption)) | ((refine keep_cell ?_ (by with_reducible assumption)); go_grown; done) | (simp [go_sem, *]; done)), (by first | (with_reducible assumption) | (simp [go_sem]; done) | ((simp only [go_sem]); (with_reducible assumption)) | ((refine keep_cell ?_ (by with_reducible assumption)); go_grown; done) | (simp [go_sem, *]; done)), (by first | (with_reducible assumption) | (simp [go_sem]; done) | (refine keep_fre ?_ ⟨by with_reducible assumption, by with_reducible assumption⟩; go_grown; done) | (simp [go_sem, *]; done)), (by go_grown)⟩)) hb; (try clear hS); have hS := hT; clear hT; have hB := hS.2.2.2.2.2; have hzw : w.heap.size ≤ w1.heap.size := hB.size; have hz1 : w.heap.size < w1.heap.size := World.block_lt_of_cell? w1 _ (hS.1); have hz2 : w.heap.size + 1 < w1.heap.size := World.block_lt_of_cell? w1 _ (hS.2.2.1); clear hb) | (go_at_call 61; refine (isMinute_c _ _).mono ?_; rintro e w1 ⟨rfl, rfl⟩))
    refine bodyPost_ret (by simp [results, Try.results37, go_sem, cell_set_some, *]; try rfl) rfl ?_
    rw [HF.out.1, HF.out.2.1, HF.out.2.2]
    exact ⟨none, 0, rfl, World.ownsRow_nil _ _ _ _, by go_grown⟩
  rcases hm : wi t 0 9999 with _ | _
  · have HF := hide (pt_no (m := m) (l := l) (t := t) (by unfold ptK; rw [hm]; simp))
    go_enter Try.func37, Try.ntmps37
    go_wp2_with (first | (go_at_call 18; refine (validRecv_c _ _ _ l _ (hide (by refine reads_below h1.out ?_; go_grown)) b1).mono ?_; rintro e w1 ⟨rfl, hb⟩; have hT : w1.cell? ⟨w.heap.size, 0, none⟩ = some (.int .i64 m) ∧ w1.cell? ⟨w.heap.size, 1, none⟩ = some (.slice A l.length c) ∧ w1.cell? ⟨w.heap.size + 1, 0, none⟩ = some (.int .i64 0) ∧ w1.cell? ⟨w.heap.size + 1, 1, none⟩ = some (.slice none 0 0) ∧ (w.heap.size + 1 < w1.heap.size ∧ ∀ i, w1.frozen? ⟨w.heap.size + 1, i, none⟩ = false) ∧ Below w.heap.size w w1 := (fun W h hb => ⟨keep_cell (hb) h.1, keep_cell (hb) h.2.1, keep_cell (hb) h.2.2.1, keep_cell (hb) h.2.2.2.1, keep_fre (hb) h.2.2.2.2.1, below_via h.2.2.2.2.2 (hb)⟩ : ∀ W : World, (W.cell? ⟨w.heap.size, 0, none⟩ = some (.int .i64 m) ∧ W.cell? ⟨w.heap.size, 1, none⟩ = some (.slice A l.length c) ∧ W.cell? ⟨w.heap.size + 1, 0, none⟩ = some (.int .i64 0) ∧ W.cell? ⟨w.heap.size + 1, 1, none⟩ = some (.slice none 0 0) ∧ (w.heap.size + 1 < W.heap.size ∧ ∀ i, W.frozen? ⟨w.heap.size + 1, i, none⟩ = false) ∧ Below w.heap.size w W) → Below W.heap.size W w1 → (w1.cell? ⟨w.heap.size, 0, none⟩ = some (.int .i64 m) ∧ w1.cell? ⟨w.heap.size, 1, none⟩ = some (.slice A l.length c) ∧ w1.cell? ⟨w.heap.size + 1, 0, none⟩ = some (.int .i64 0) ∧ w1.cell? ⟨w.heap.size + 1, 1, none⟩ = some (.slice none 0 0) ∧ (w.heap.size + 1 < w1.heap.size ∧ ∀ i, w1.frozen? ⟨w.heap.size + 1, i, none⟩ = false) ∧ Below w.heap.size w w1)) _ (by first | (with_reducible assumption) | (exact hS) | (exact ⟨hS.1, hS.2.1, hS.2.2.1, hS.2.2.2.1, hS.2.2.2.2.1, (by go_grown)⟩) | (exact ⟨(by first | (with_reducible assumption) | (simp [go_sem]; done) | ((simp only [go_sem]); (with_reducible assumption)) | ((refine keep_cell ?_ (by with_reducible assumption)); go_grown; done) | (simp [go_sem, *]; done)), (by first | (with_reducible assumption) | (simp [go_sem]; done) | ((simp only [go_sem]); (with_reducible assumption)) | ((refine keep_cell ?_ (by with_reducible assumption)); go_grown; done) | (simp [go_sem, *]; done)), (by first | (with_reducible assumption) | (simp [go_sem]; done) | ((simp only [go_sem]); (with_reducible assumption)) | ((refine keep_cell ?_ (by with_reducible assumption)); go_grown; done) | (simp [go_sem, *]; done)), (by first | (with_reducible assumption) | (simp [go_sem]; done) | ((simp only [go_sem]); (with_reducible assumption)) | ((refine keep_cell ?_ (by with_reducible assumption)); go_grown; done) | (simp [go_sem, *]; done)), (by first | (with_reducible assumption) | (simp [go_sem]; done) | (refine keep_fre ?_ ⟨by with_reducible assumption, by with_reducible assumption⟩; go_grown; done) | (simp [go_sem, *]; done)), (by go_grown)⟩)) hb; (try clear hS); have hS := hT; clear hT; have hB := hS.2.2.2.2.2; have hzw : w.heap.size ≤ w1.heap.size := hB.size; have hz1 : w.heap.size < w1.heap.size := World.block_lt_of_cell? w1 _ (hS.1); have hz2 : w.heap.size + 1 < w1.heap.size := World.block_lt_of_cell? w1 _ (hS.2.2.1); clear hb) | (go_at_call 61; refine (isMinute_c _ _).mono ?_; rintro e w1 ⟨rfl, rfl⟩))
    refine bodyPost_ret (by simp [results, Try.results37, go_sem, cell_set_some, *]; try rfl) rfl ?_
    rw [HF.out.1, HF.out.2.1, HF.out.2.2]
    exact ⟨none, 0, rfl, World.ownsRow_nil _ _ _ _, by go_grown⟩
  by_cases hmt : t < m
  · have HF := hide (pt_no (m := m) (l := l) (t := t) (by unfold ptK; rw [decide_eq_false (by omega)]; simp))
    go_enter Try.func37, Try.ntmps37
    go_wp2_with (first | (go_at_call 18; refine (validRecv_c _ _ _ l _ (hide (by refine reads_below h1.out ?_; go_grown)) b1).mono ?_; rintro e w1 ⟨rfl, hb⟩; have hT : w1.cell? ⟨w.heap.size, 0, none⟩ = some (.int .i64 m) ∧ w1.cell? ⟨w.heap.size, 1, none⟩ = some (.slice A l.length c) ∧ w1.cell? ⟨w.heap.size + 1, 0, none⟩ = some (.int .i64 0) ∧ w1.cell? ⟨w.heap.size + 1, 1, none⟩ = some (.slice none 0 0) ∧ (w.heap.size + 1 < w1.heap.size ∧ ∀ i, w1.frozen? ⟨w.heap.size + 1, i, none⟩ = false) ∧ Below w.heap.size w w1 := (fun W h hb => ⟨keep_cell (hb) h.1, keep_cell (hb) h.2.1, keep_cell (hb) h.2.2.1, keep_cell (hb) h.2.2.2.1, keep_fre (hb) h.2.2.2.2.1, below_via h.2.2.2.2.2 (hb)⟩ : ∀ W : World, (W.cell? ⟨w.heap.size, 0, none⟩ = some (.int .i64 m) ∧ W.cell? ⟨w.heap.size, 1, none⟩ = some (.slice A l.length c) ∧ W.cell? ⟨w.heap.size + 1, 0, none⟩ = some (.int .i64 0) ∧ W.cell? ⟨w.heap.size + 1, 1, none⟩ = some (.slice none 0 0) ∧ (w.heap.size + 1 < W.heap.size ∧ ∀ i, W.frozen? ⟨w.heap.size + 1, i, none⟩ = false) ∧ Below w.heap.size w W) → Below W.heap.size W w1 → (w1.cell? ⟨w.heap.size, 0, none⟩ = some (.int .i64 m) ∧ w1.cell? ⟨w.heap.size, 1, none⟩ = some (.slice A l.length c) ∧ w1.cell? ⟨w.heap.size + 1, 0, none⟩ = some (.int .i64 0) ∧ w1.cell? ⟨w.heap.size + 1, 1, none⟩ = some (.slice none 0 0) ∧ (w.heap.size + 1 < w1.heap.size ∧ ∀ i, w1.frozen? ⟨w.heap.size + 1, i, none⟩ = false) ∧ Below w.heap.size w w1)) _ (by first | (with_reducible assumption) | (exact hS) | (exact ⟨hS.1, hS.2.1, hS.2.2.1, hS.2.2.2.1, hS.2.2.2.2.1, (by go_grown)⟩) | (exact ⟨(by first | (with_reducible assumption) | (simp [go_sem]; done) | ((simp only [go_sem]); (with_reducible assumption)) | ((refine keep_cell ?_ (by with_reducible assumption)); go_grown; done) | (simp [go_sem, *]; done)), (by first | (with_reducible assumption) | (simp [go_sem]; done) | ((simp only [go_sem]); (with_reducible assumption)) | ((refine keep_cell ?_ (by with_reducible assumption)); go_grown; done) | (simp [go_sem, *]; done)), (by first | (with_reducible assumption) | (simp [go_sem]; done) | ((simp only [go_sem]); (with_reducible assumption)) | ((refine keep_cell ?_ (by with_reducible assumption)); go_grown; done) | (simp [go_sem, *]; done)), (by first | (with_reducible assumption) | (simp [go_sem]; done) | ((simp only [go_sem]); (with_reducible assumption)) | ((refine keep_cell ?_ (by with_reducible assumption)); go_grown; done) | (simp [go_sem, *]; done)), (by first | (with_reducible assumption) | (simp [go_sem]; done) | (refine keep_fre ?_ ⟨by with_reducible assumption, by with_reducible assumption⟩; go_grown; done) | (simp [go_sem, *]; done)), (by go_grown)⟩)) hb; (try clear hS); have hS := hT; clear hT; have hB := hS.2.2.2.2.2; have hzw : w.heap.size ≤ w1.heap.size := hB.size; have hz1 : w.heap.size < w1.heap.size := World.block_lt_of_cell? w1 _ (hS.1); have hz2 : w.heap.size + 1 < w1.heap.size := World.block_lt_of_cell? w1 _ (hS.2.2.1); clear hb) | (go_at_call 61; refine (isMinute_c _ _).mono ?_; rintro e w1 ⟨rfl, rfl⟩))
    refine bodyPost_ret (by simp [results, Try.results37, go_sem, cell_set_some, *]; try rfl) rfl ?_
    rw [HF.out.1, HF.out.2.1, HF.out.2.2]
    exact ⟨none, 0, rfl, World.ownsRow_nil _ _ _ _, by go_grown⟩
  have HF := hide (pt_yes (m := m) (l := l) (t := t) (by unfold ptK; rw [ho, hm, decide_eq_true (by omega)]; rfl))
  obtain ⟨hm0, h6, _⟩ := okR_iff ho
  obtain ⟨m0, m1⟩ := wi_iff.1 hm0
  obtain ⟨t0, t1⟩ := wi_iff.1 hm
  clear hm0
  have HOK := hide ho
  rw [HF.out.1, HF.out.2.1, HF.out.2.2]
  obtain ⟨i0, hi0, iz0, iy0, ix0⟩ := info_parts infoHd2
  go_enter Try.func37, Try.ntmps37
  go_wp2_with (first | (go_at_call 18; refine (validRecv_c _ _ _ l _ (hide (by refine reads_below h1.out ?_; go_grown)) b1).mono ?_; rintro e w1 ⟨rfl, hb⟩; have hT : w1.cell? ⟨w.heap.size, 0, none⟩ = some (.int .i64 m) ∧ w1.cell? ⟨w.heap.size, 1, none⟩ = some (.slice A l.length c) ∧ w1.cell? ⟨w.heap.size + 1, 0, none⟩ = some (.int .i64 0) ∧ w1.cell? ⟨w.heap.size + 1, 1, none⟩ = some (.slice none 0 0) ∧ (w.heap.size + 1 < w1.heap.size ∧ ∀ i, w1.frozen? ⟨w.heap.size + 1, i, none⟩ = false) ∧ Below w.heap.size w w1 := (fun W h hb => ⟨keep_cell (hb) h.1, keep_cell (hb) h.2.1, keep_cell (hb) h.2.2.1, keep_cell (hb) h.2.2.2.1, keep_fre (hb) h.2.2.2.2.1, below_via h.2.2.2.2.2 (hb)⟩ : ∀ W : World, (W.cell? ⟨w.heap.size, 0, none⟩ = some (.int .i64 m) ∧ W.cell? ⟨w.heap.size, 1, none⟩ = some (.slice A l.length c) ∧ W.cell? ⟨w.heap.size + 1, 0, none⟩ = some (.int .i64 0) ∧ W.cell? ⟨w.heap.size + 1, 1, none⟩ = some (.slice none 0 0) ∧ (w.heap.size + 1 < W.heap.size ∧ ∀ i, W.frozen? ⟨w.heap.size + 1, i, none⟩ = false) ∧ Below w.heap.size w W) → Below W.heap.size W w1 → (w1.cell? ⟨w.heap.size, 0, none⟩ = some (.int .i64 m) ∧ w1.cell? ⟨w.heap.size, 1, none⟩ = some (.slice A l.length c) ∧ w1.cell? ⟨w.heap.size + 1, 0, none⟩ = some (.int .i64 0) ∧ w1.cell? ⟨w.heap.size + 1, 1, none⟩ = some (.slice none 0 0) ∧ (w.heap.size + 1 < w1.heap.size ∧ ∀ i, w1.frozen? ⟨w.heap.size + 1, i, none⟩ = false) ∧ Below w.heap.size w w1)) _ (by first | (with_reducible assumption) | (exact hS) | (exact ⟨hS.1, hS.2.1, hS.2.2.1, hS.2.2.2.1, hS.2.2.2.2.1, (by go_grown)⟩) | (exact ⟨(by first | (with_reducible assumption) | (simp [go_sem]; done) | ((simp only [go_sem]); (with_reducible assumption)) | ((refine keep_cell ?_ (by with_reducible assumption)); go_grown; done) | (simp [go_sem, *]; done)), (by first | (with_reducible assumption) | (simp [go_sem]; done) | ((simp only [go_sem]); (with_reducible assumption)) | ((refine keep_cell ?_ (by with_reducible assumption)); go_grown; done) | (simp [go_sem, *]; done)), (by first | (with_reducible assumption) | (simp [go_sem]; done) | ((simp only [go_sem]); (with_reducible assumption)) | ((refine keep_cell ?_ (by with_reducible assumption)); go_grown; done) | (simp [go_sem, *]; done)), (by first | (with_reducible assumption) | (simp [go_sem]; done) | ((simp only [go_sem]); (with_reducible assumption)) | ((refine keep_cell ?_ (by with_reducible assumption)); go_grown; done) | (simp [go_sem, *]; done)), (by first | (with_reducible assumption) | (simp [go_sem]; done) | (refine keep_fre ?_ ⟨by with_reducible assumption, by with_reducible assumption⟩; go_grown; done) | (simp [go_sem, *]; done)), (by go_grown)⟩)) hb; (try clear hS); have hS := hT; clear hT; have hB := hS.2.2.2.2.2; have hzw : w.heap.size ≤ w1.heap.size := hB.size; have hz1 : w.heap.size < w1.heap.size := World.block_lt_of_cell? w1 _ (hS.1); have hz2 : w.heap.size + 1 < w1.heap.size := World.block_lt_of_cell? w1 _ (hS.2.2.1); clear hb) | (go_at_call 61; refine (isMinute_c _ _).mono ?_; rintro e w1 ⟨rfl, rfl⟩))
  have hz1 := hzw
  obtain ⟨T, hT⟩ : ∃ T, w1.heap.size = T := ⟨_, rfl⟩
  go_wp2
  rw [hT]
  go_loopw [29] (fun iv wr => ∃ (i : Nat) (M : List Hd) (B : Option Addr) (d : Nat), i ≤ l.length ∧ iv = .int .i64 i ∧ Hid (M = psL t (l.take i)) ∧ M.length ≤ i ∧ Hid (wr.ownsRow (T + 1) 42 10 (.slice B M.length d) M.length (hds M)) ∧ (wr.cell? ⟨w.heap.size, 0, none⟩ = some (.int .i64 m) ∧ wr.cell? ⟨w.heap.size, 1, none⟩ = some (.slice A l.length c) ∧ wr.cell? ⟨w.heap.size + 1, 0, none⟩ = some (.int .i64 0) ∧ wr.cell? ⟨w.heap.size + 1, 1, none⟩ = some (.slice none 0 0) ∧ (w.heap.size + 1 < wr.heap.size ∧ ∀ i, wr.frozen? ⟨w.heap.size + 1, i, none⟩ = false) ∧ wr.cell? ⟨T, 0, none⟩ = some (.int .i64 t) ∧ wr.cell? ⟨T, 1, none⟩ = some (.slice B M.length d) ∧ (T < wr.heap.size ∧ ∀ i, wr.frozen? ⟨T, i, none⟩ = false) ∧ Below w.heap.size w wr)) (fun iv _ => l.length - (intOf iv).toNat)
  case atStart => subst hT; exact ⟨0, [], none, 0, by omega, rfl, hide rfl, by simp, hide (World.ownsRow_nil _ _ _ _), (by first | (simp [go_sem]; done) | exact keep_cell (by go_grown) (hS.1)), (by first | (simp [go_sem]; done) | exact keep_cell (by go_grown) (hS.2.1)), (by first | (simp [go_sem]; done) | exact keep_cell (by go_grown) (hS.2.2.1)), (by first | (simp [go_sem]; done) | exact keep_cell (by go_grown) (hS.2.2.2.1)), keep_fre (by go_grown) (hS.2.2.2.2.1), by simp [go_sem], by simp [go_sem], ⟨by simp [go_sem], by simp [go_sem]⟩, by go_grown⟩
  case round =>
    obtain ⟨i, M, B, d, hi, rfl, HM, hml, hown, hS⟩ := hrel
    have hTw : w.heap.size + 1 < T := by omega
    have hS2 := hS
    obtain ⟨r0, r1, r2, r3, r4, r5, r6, r7, hB⟩ := hS2
    have hzw : w.heap.size ≤ wr.heap.size := hB.size
    have hz1 : w.heap.size < wr.heap.size := World.block_lt_of_cell? wr _ (hS.1)
    have hz2 : w.heap.size + 1 < wr.heap.size := World.block_lt_of_cell? wr _ (hS.2.2.1)
    have hz3 : T < wr.heap.size := World.block_lt_of_cell? wr _ (hS.2.2.2.2.2.1)
    by_cases hlt : i < l.length
    rotate_left
    · obtain rfl : i = l.length := by omega
      have HT := hide (show psL t l = M from by rw [HM.out, List.take_length])
      go_wp2
      refine bodyPost_ret (by simp [results, Try.results37, go_sem, cell_set_some, *]; try rfl) rfl ?_
      rw [HT.out]
      refine ⟨B, d, rfl, own_mono ?_ (show w.heap.size ≤ T + 1 by omega), by go_grown⟩
      repeat (refine own_set ?_ (by first | (simp; done) | (simp; omega)) _)
      exact hown.out
    obtain ⟨⟨a, ⟨eo, ea, eb⟩, et, ⟨oo, oa, ob⟩, ot, f⟩, he⟩ : ∃ q, hx l i = q := ⟨_, rfl⟩
    obtain ⟨_, _, ⟨t2, t3⟩, u0, u1⟩ := okH_bd HOK.out hlt he
    obtain ⟨kp1, kp2⟩ := okH_kpt HOK.out hlt he
    have HSU := hide (psL_succ (t := t) hlt)
    rw [← HM.out] at HSU
    have HPS := hide ((⟨ps_both (t := t) he, ps_even (t := t) he, ps_odd (t := t) he, ps_none (t := t) he⟩ : (frs et t = true → frs ot t = true → _) ∧ (frs et t = true → frs ot t = false → _) ∧ (frs et t = false → frs ot t = true → _) ∧ (frs et t = false → frs ot t = false → _)))
    obtain ⟨a1, rfl, ekb, e0, e1, e2, e3, e4, e5, e6, e7, e8, e9⟩ := (h1.out.below hB).hd (k := i) (by omega) he
    clear he
    rcases g1 : frs et t with _ | _
    · rcases g2 : frs ot t with _ | _
      · have HE2 := hide (HPS.out.2.2.2 g1 g2)
        rw [HE2.out] at HSU
        clear HPS
        have f1 := frs_no g1
        have f3 := frs_no g2
        go_wp2_with (first | (go_at_call 83; refine (isFresh_c _ _ (by omega) (by omega) (by omega) (by omega) _).mono ?_; rintro e w1 ⟨rfl, rfl⟩) | fail)
        go_roundw
        case rel => exact ⟨i + 1, M, B, d, by omega, by go_num, hide (by rw [HSU.out]; simp), by omega, hide (own_below hown.out (by go_grown)), (by first | (simp [go_sem]; done) | exact keep_cell (by go_grown) (hS.1) | exact keep_fre (by go_grown) (hS.1)), (by first | (simp [go_sem]; done) | exact keep_cell (by go_grown) (hS.2.1) | exact keep_fre (by go_grown) (hS.2.1)), (by first | (simp [go_sem]; done) | exact keep_cell (by go_grown) (hS.2.2.1) | exact keep_fre (by go_grown) (hS.2.2.1)), (by first | (simp [go_sem]; done) | exact keep_cell (by go_grown) (hS.2.2.2.1) | exact keep_fre (by go_grown) (hS.2.2.2.1)), (by first | (simp [go_sem]; done) | exact keep_cell (by go_grown) (hS.2.2.2.2.1) | exact keep_fre (by go_grown) (hS.2.2.2.2.1)), (by first | (simp [go_sem]; done) | exact keep_cell (by go_grown) (hS.2.2.2.2.2.1) | exact keep_fre (by go_grown) (hS.2.2.2.2.2.1)), (by first | (simp [go_sem]; done) | exact keep_cell (by go_grown) (hS.2.2.2.2.2.2.1) | exact keep_fre (by go_grown) (hS.2.2.2.2.2.2.1)), (by first | (simp [go_sem]; done) | exact keep_cell (by go_grown) (hS.2.2.2.2.2.2.2.1) | exact keep_fre (by go_grown) (hS.2.2.2.2.2.2.2.1)), by go_grown⟩
        case measure => simp [intOf]; omega
      · have HE2 := hide (HPS.out.2.2.1 g1 g2)
        rw [HE2.out] at HSU
        clear HPS
        have f1 := frs_no g1
        obtain ⟨f3, f4⟩ := frs_yes g2
        go_wp2_with (first | (go_at_call 83; refine (isFresh_c _ _ (by omega) (by omega) (by omega) (by omega) _).mono ?_; rintro e w1 ⟨rfl, rfl⟩) | (at_builtin; refine wpList_append_lies _ rfl _ _ 24 rfl (T + 1) 42 i0 (hdV nHd) 10 80 Try.underlying24 hi0 iz0 iy0 ix0 rfl (by decide) _ M.length _ rfl (own_below hown.out (by go_grown)) ⟨wr.heap.size + 1, 0, none⟩ 1 1 [.int .i64 a, .bool false, .int .i64 0, .int .i64 0, .int .i64 (-1), .bool oo, .int .i64 oa, .int .i64 ob, .int .i64 ot, .int .i64 f] rfl rfl (news_ten (by simp [go_sem]) (by simp [go_sem]) (by simp [go_sem]) (by simp [go_sem]) (by simp [go_sem]) (by simp [go_sem]) (by simp [go_sem]) (by simp [go_sem]) (by simp [go_sem]) (by simp [go_sem])) (one_ten rfl rfl rfl rfl rfl rfl rfl rfl rfl rfl) (by decide) (by unfold maxLen; omega) (by omega) (by first | (simp [go_sem]; done) | (simp [go_sem]; omega)) _ rfl ?_; intro g cap w2 hown2 hgrow _ _; have hT : w2.cell? ⟨w.heap.size, 0, none⟩ = some (.int .i64 m) ∧ w2.cell? ⟨w.heap.size, 1, none⟩ = some (.slice (some a1) l.length c) ∧ w2.cell? ⟨w.heap.size + 1, 0, none⟩ = some (.int .i64 0) ∧ w2.cell? ⟨w.heap.size + 1, 1, none⟩ = some (.slice none 0 0) ∧ (w.heap.size + 1 < w2.heap.size ∧ ∀ i, w2.frozen? ⟨w.heap.size + 1, i, none⟩ = false) ∧ w2.cell? ⟨T, 0, none⟩ = some (.int .i64 t) ∧ w2.cell? ⟨T, 1, none⟩ = some (.slice B M.length d) ∧ (T < w2.heap.size ∧ ∀ i, w2.frozen? ⟨T, i, none⟩ = false) ∧ Below w.heap.size w w2 := ⟨own_cell ((own_below hown.out (by go_grown))) hgrow (by simp [go_sem, *]) (by first | omega | (simp; done) | (simp; omega)), own_cell ((own_below hown.out (by go_grown))) hgrow (by simp [go_sem, *]) (by first | omega | (simp; done) | (simp; omega)), own_cell ((own_below hown.out (by go_grown))) hgrow (by simp [go_sem, *]) (by first | omega | (simp; done) | (simp; omega)), own_cell ((own_below hown.out (by go_grown))) hgrow (by simp [go_sem, *]) (by first | omega | (simp; done) | (simp; omega)), own_fre ((own_below hown.out (by go_grown))) hgrow (by first | (with_reducible assumption) | (simp [go_sem]; done) | (refine keep_fre ?_ ⟨by with_reducible assumption, by with_reducible assumption⟩; go_grown; done) | (simp [go_sem, *]; done)) (by first | omega | (simp; done) | (simp; omega)), own_cell ((own_below hown.out (by go_grown))) hgrow (by simp [go_sem, *]) (by first | omega | (simp; done) | (simp; omega)), own_cell ((own_below hown.out (by go_grown))) hgrow (by simp [go_sem, *]) (by first | omega | (simp; done) | (simp; omega)), own_fre ((own_below hown.out (by go_grown))) hgrow (by first | (with_reducible assumption) | (simp [go_sem]; done) | (refine keep_fre ?_ ⟨by with_reducible assumption, by with_reducible assumption⟩; go_grown; done) | (simp [go_sem, *]; done)) (by first | omega | (simp; done) | (simp; omega)), own_grown (a := w) (B := w.heap.size) ((own_below hown.out (by go_grown))) hgrow (by go_grown) (by first | (simp [go_sem]; done) | (simp [go_sem]; omega)) (by omega)⟩; (try clear hS hB hzw hgrow); have hS := hT; clear hT; have hB := hS.2.2.2.2.2.2.2.2; have hzw : w.heap.size ≤ w2.heap.size := hB.size; have hz1 : w.heap.size < w2.heap.size := World.block_lt_of_cell? w2 _ (hS.1); have hz2 : w.heap.size + 1 < w2.heap.size := World.block_lt_of_cell? w2 _ (hS.2.2.1); have hz3 : T < w2.heap.size := World.block_lt_of_cell? w2 _ (hS.2.2.2.2.2.1)))
        go_roundw
        case rel => exact ⟨i + 1, M ++ [(a, (false, 0, 0), -1, (oo, oa, ob), ot, f)], some ⟨g, 0, none⟩, cap, by omega, by go_num, hide (by rw [HSU.out]), by simp; omega, hide (own_set (by simpa [hds_snoc, hdc] using hown2) (by first | (simp; done) | omega) _), (by simp [go_sem, cell_set_some, *]), (by simp [go_sem, cell_set_some, *]), (by simp [go_sem, cell_set_some, *]), (by simp [go_sem, cell_set_some, *]), ⟨by simpa using (hS.2.2.2.2.1).1, fun i => by simpa using (hS.2.2.2.2.1).2 i⟩, (by simp [go_sem, cell_set_some, *]), (by simp [go_sem, cell_set_some, *]), ⟨by simpa using (hS.2.2.2.2.2.2.2.1).1, fun i => by simpa using (hS.2.2.2.2.2.2.2.1).2 i⟩, by go_grown⟩
        case measure => simp [intOf]; omega
    rcases g2 : frs ot t with _ | _
    · have HE2 := hide (HPS.out.2.1 g1 g2)
      rw [HE2.out] at HSU
      clear HPS
      obtain ⟨f1, f2⟩ := frs_yes g1
      have f3 := frs_no g2
      go_wp2_with (first | (go_at_call 83; refine (isFresh_c _ _ (by omega) (by omega) (by omega) (by omega) _).mono ?_; rintro e w1 ⟨rfl, rfl⟩) | (at_builtin; refine wpList_append_lies _ rfl _ _ 24 rfl (T + 1) 42 i0 (hdV nHd) 10 80 Try.underlying24 hi0 iz0 iy0 ix0 rfl (by decide) _ M.length _ rfl (own_below hown.out (by go_grown)) ⟨wr.heap.size + 1, 0, none⟩ 1 1 [.int .i64 a, .bool eo, .int .i64 ea, .int .i64 eb, .int .i64 et, .bool false, .int .i64 0, .int .i64 0, .int .i64 (-1), .int .i64 f] rfl rfl (news_ten (by simp [go_sem]) (by simp [go_sem]) (by simp [go_sem]) (by simp [go_sem]) (by simp [go_sem]) (by simp [go_sem]) (by simp [go_sem]) (by simp [go_sem]) (by simp [go_sem]) (by simp [go_sem])) (one_ten rfl rfl rfl rfl rfl rfl rfl rfl rfl rfl) (by decide) (by unfold maxLen; omega) (by omega) (by first | (simp [go_sem]; done) | (simp [go_sem]; omega)) _ rfl ?_; intro g cap w2 hown2 hgrow _ _; have hT : w2.cell? ⟨w.heap.size, 0, none⟩ = some (.int .i64 m) ∧ w2.cell? ⟨w.heap.size, 1, none⟩ = some (.slice (some a1) l.length c) ∧ w2.cell? ⟨w.heap.size + 1, 0, none⟩ = some (.int .i64 0) ∧ w2.cell? ⟨w.heap.size + 1, 1, none⟩ = some (.slice none 0 0) ∧ (w.heap.size + 1 < w2.heap.size ∧ ∀ i, w2.frozen? ⟨w.heap.size + 1, i, none⟩ = false) ∧ w2.cell? ⟨T, 0, none⟩ = some (.int .i64 t) ∧ w2.cell? ⟨T, 1, none⟩ = some (.slice B M.length d) ∧ (T < w2.heap.size ∧ ∀ i, w2.frozen? ⟨T, i, none⟩ = false) ∧ Below w.heap.size w w2 := ⟨own_cell ((own_below hown.out (by go_grown))) hgrow (by simp [go_sem, *]) (by first | omega | (simp; done) | (simp; omega)), own_cell ((own_below hown.out (by go_grown))) hgrow (by simp [go_sem, *]) (by first | omega | (simp; done) | (simp; omega)), own_cell ((own_below hown.out (by go_grown))) hgrow (by simp [go_sem, *]) (by first | omega | (simp; done) | (simp; omega)), own_cell ((own_below hown.out (by go_grown))) hgrow (by simp [go_sem, *]) (by first | omega | (simp; done) | (simp; omega)), own_fre ((own_below hown.out (by go_grown))) hgrow (by first | (with_reducible assumption) | (simp [go_sem]; done) | (refine keep_fre ?_ ⟨by with_reducible assumption, by with_reducible assumption⟩; go_grown; done) | (simp [go_sem, *]; done)) (by first | omega | (simp; done) | (simp; omega)), own_cell ((own_below hown.out (by go_grown))) hgrow (by simp [go_sem, *]) (by first | omega | (simp; done) | (simp; omega)), own_cell ((own_below hown.out (by go_grown))) hgrow (by simp [go_sem, *]) (by first | omega | (simp; done) | (simp; omega)), own_fre ((own_below hown.out (by go_grown))) hgrow (by first | (with_reducible assumption) | (simp [go_sem]; done) | (refine keep_fre ?_ ⟨by with_reducible assumption, by with_reducible assumption⟩; go_grown; done) | (simp [go_sem, *]; done)) (by first | omega | (simp; done) | (simp; omega)), own_grown (a := w) (B := w.heap.size) ((own_below hown.out (by go_grown))) hgrow (by go_grown) (by first | (simp [go_sem]; done) | (simp [go_sem]; omega)) (by omega)⟩; (try clear hS hB hzw hgrow); have hS := hT; clear hT; have hB := hS.2.2.2.2.2.2.2.2; have hzw : w.heap.size ≤ w2.heap.size := hB.size; have hz1 : w.heap.size < w2.heap.size := World.block_lt_of_cell? w2 _ (hS.1); have hz2 : w.heap.size + 1 < w2.heap.size := World.block_lt_of_cell? w2 _ (hS.2.2.1); have hz3 : T < w2.heap.size := World.block_lt_of_cell? w2 _ (hS.2.2.2.2.2.1)))
      go_roundw
      case rel => exact ⟨i + 1, M ++ [(a, (eo, ea, eb), et, (false, 0, 0), -1, f)], some ⟨g, 0, none⟩, cap, by omega, by go_num, hide (by rw [HSU.out]), by simp; omega, hide (own_set (by simpa [hds_snoc, hdc] using hown2) (by first | (simp; done) | omega) _), (by simp [go_sem, cell_set_some, *]), (by simp [go_sem, cell_set_some, *]), (by simp [go_sem, cell_set_some, *]), (by simp [go_sem, cell_set_some, *]), ⟨by simpa using (hS.2.2.2.2.1).1, fun i => by simpa using (hS.2.2.2.2.1).2 i⟩, (by simp [go_sem, cell_set_some, *]), (by simp [go_sem, cell_set_some, *]), ⟨by simpa using (hS.2.2.2.2.2.2.2.1).1, fun i => by simpa using (hS.2.2.2.2.2.2.2.1).2 i⟩, by go_grown⟩
      case measure => simp [intOf]; omega
    · have HE2 := hide (HPS.out.1 g1 g2)
      rw [HE2.out] at HSU
      clear HPS
      obtain ⟨f1, f2⟩ := frs_yes g1
      obtain ⟨f3, f4⟩ := frs_yes g2
      go_wp2_with (first | (go_at_call 83; refine (isFresh_c _ _ (by omega) (by omega) (by omega) (by omega) _).mono ?_; rintro e w1 ⟨rfl, rfl⟩) | (at_builtin; refine wpList_append_lies _ rfl _ _ 24 rfl (T + 1) 42 i0 (hdV nHd) 10 80 Try.underlying24 hi0 iz0 iy0 ix0 rfl (by decide) _ M.length _ rfl (own_below hown.out (by go_grown)) ⟨wr.heap.size + 1, 0, none⟩ 1 1 [.int .i64 a, .bool eo, .int .i64 ea, .int .i64 eb, .int .i64 et, .bool oo, .int .i64 oa, .int .i64 ob, .int .i64 ot, .int .i64 f] rfl rfl (news_ten (by simp [go_sem]) (by simp [go_sem]) (by simp [go_sem]) (by simp [go_sem]) (by simp [go_sem]) (by simp [go_sem]) (by simp [go_sem]) (by simp [go_sem]) (by simp [go_sem]) (by simp [go_sem])) (one_ten rfl rfl rfl rfl rfl rfl rfl rfl rfl rfl) (by decide) (by unfold maxLen; omega) (by omega) (by first | (simp [go_sem]; done) | (simp [go_sem]; omega)) _ rfl ?_; intro g cap w2 hown2 hgrow _ _; have hT : w2.cell? ⟨w.heap.size, 0, none⟩ = some (.int .i64 m) ∧ w2.cell? ⟨w.heap.size, 1, none⟩ = some (.slice (some a1) l.length c) ∧ w2.cell? ⟨w.heap.size + 1, 0, none⟩ = some (.int .i64 0) ∧ w2.cell? ⟨w.heap.size + 1, 1, none⟩ = some (.slice none 0 0) ∧ (w.heap.size + 1 < w2.heap.size ∧ ∀ i, w2.frozen? ⟨w.heap.size + 1, i, none⟩ = false) ∧ w2.cell? ⟨T, 0, none⟩ = some (.int .i64 t) ∧ w2.cell? ⟨T, 1, none⟩ = some (.slice B M.length d) ∧ (T < w2.heap.size ∧ ∀ i, w2.frozen? ⟨T, i, none⟩ = false) ∧ Below w.heap.size w w2 := ⟨own_cell ((own_below hown.out (by go_grown))) hgrow (by simp [go_sem, *]) (by first | omega | (simp; done) | (simp; omega)), own_cell ((own_below hown.out (by go_grown))) hgrow (by simp [go_sem, *]) (by first | omega | (simp; done) | (simp; omega)), own_cell ((own_below hown.out (by go_grown))) hgrow (by simp [go_sem, *]) (by first | omega | (simp; done) | (simp; omega)), own_cell ((own_below hown.out (by go_grown))) hgrow (by simp [go_sem, *]) (by first | omega | (simp; done) | (simp; omega)), own_fre ((own_below hown.out (by go_grown))) hgrow (by first | (with_reducible assumption) | (simp [go_sem]; done) | (refine keep_fre ?_ ⟨by with_reducible assumption, by with_reducible assumption⟩; go_grown; done) | (simp [go_sem, *]; done)) (by first | omega | (simp; done) | (simp; omega)), own_cell ((own_below hown.out (by go_grown))) hgrow (by simp [go_sem, *]) (by first | omega | (simp; done) | (simp; omega)), own_cell ((own_below hown.out (by go_grown))) hgrow (by simp [go_sem, *]) (by first | omega | (simp; done) | (simp; omega)), own_fre ((own_below hown.out (by go_grown))) hgrow (by first | (with_reducible assumption) | (simp [go_sem]; done) | (refine keep_fre ?_ ⟨by with_reducible assumption, by with_reducible assumption⟩; go_grown; done) | (simp [go_sem, *]; done)) (by first | omega | (simp; done) | (simp; omega)), own_grown (a := w) (B := w.heap.size) ((own_below hown.out (by go_grown))) hgrow (by go_grown) (by first | (simp [go_sem]; done) | (simp [go_sem]; omega)) (by omega)⟩; (try clear hS hB hzw hgrow); have hS := hT; clear hT; have hB := hS.2.2.2.2.2.2.2.2; have hzw : w.heap.size ≤ w2.heap.size := hB.size; have hz1 : w.heap.size < w2.heap.size := World.block_lt_of_cell? w2 _ (hS.1); have hz2 : w.heap.size + 1 < w2.heap.size := World.block_lt_of_cell? w2 _ (hS.2.2.1); have hz3 : T < w2.heap.size := World.block_lt_of_cell? w2 _ (hS.2.2.2.2.2.1)))
      go_roundw
      case rel => exact ⟨i + 1, M ++ [(a, (eo, ea, eb), et, (oo, oa, ob), ot, f)], some ⟨g, 0, none⟩, cap, by omega, by go_num, hide (by rw [HSU.out]), by simp; omega, hide (own_set (by simpa [hds_snoc, hdc] using hown2) (by first | (simp; done) | omega) _), (by simp [go_sem, cell_set_some, *]), (by simp [go_sem, cell_set_some, *]), (by simp [go_sem, cell_set_some, *]), (by simp [go_sem, cell_set_some, *]), ⟨by simpa using (hS.2.2.2.2.1).1, fun i => by simpa using (hS.2.2.2.2.1).2 i⟩, (by simp [go_sem, cell_set_some, *]), (by simp [go_sem, cell_set_some, *]), ⟨by simpa using (hS.2.2.2.2.2.2.2.1).1, fun i => by simpa using (hS.2.2.2.2.2.2.2.1).2 i⟩, by go_grown⟩
      case measure => simp [intOf]; omega
end Go.Proofs.Ytbeojfhakmbacaa
