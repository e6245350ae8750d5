/- Contracts: is it located. -/
import Derived.Test.YtnocgcfepkdjeaaSbB
namespace Go.Proofs.Ytnocgcfepkdjeaa
open Go.RowKit

theorem sLocated_c (A : Option Addr) (c : Nat) (l : List Pt) (A2 : Option Addr) (c2 : Nat) (a : List Int) (tol : Int) (w : World) (h1 : Hid (Reads w w.heap.size 2 A l.length (flat l))) (h2 : Hid (Reads w w.heap.size 1 A2 a.length (ints a))) (b1 : l.length ≤ 4000000) (b2 : a.length ≤ 4000000)  : Calls Try.prog 23 #[.slice A l.length c, .slice A2 a.length c2, .int .i64 tol] w (Gives w (.tuple #[.bool (locV l a tol), .bool (fitK l a tol)])) := by
  rcases k0 : askB l a with _ | _
  · have HK := hide (show fitK l a tol = false from by simp [fitK, k0])
    have HV := hide (show locV l a tol = false from by unfold locV; rw [HK.out]; rfl)
    go_enter Try.func23, Try.ntmps23
    go_wp2_with (first | (go_at_call 81; refine (l11Asked_c A c l A2 c2 a tol _ (hide (reads_below h1.out (by go_grown))) (hide (reads_below h2.out (by go_grown))) b1 b2).mono ?_; rw [HK.out]; rintro e w1 ⟨rfl, hb⟩; have hT : Below w.heap.size w w1 := (fun W h hb => below_via h (hb) : ∀ W : World, (Below w.heap.size w W) → Below W.heap.size W w1 → (Below w.heap.size w w1)) _ (by first | (with_reducible assumption) | go_grown) hb; (try clear hS); have hS := hT; clear hT; have hB := hS; have hzw : w.heap.size ≤ w1.heap.size := hB.size; clear hb))
    go_returns
    exact ⟨ret_eq (by first | (rw [HV.out, HK.out]; simp; done) | (rw [HV.out]; simp; done) | (simp; done)), by go_grown⟩
  rcases k3 : wi tol 0 5 with _ | _
  · have HK := hide (show fitK l a tol = false from by simp [fitK, k3])
    have HV := hide (show locV l a tol = false from by unfold locV; rw [HK.out]; rfl)
    go_enter Try.func23, Try.ntmps23
    go_wp2_with (first | (go_at_call 81; refine (l11Asked_c A c l A2 c2 a tol _ (hide (reads_below h1.out (by go_grown))) (hide (reads_below h2.out (by go_grown))) b1 b2).mono ?_; rw [HK.out]; rintro e w1 ⟨rfl, hb⟩; have hT : Below w.heap.size w w1 := (fun W h hb => below_via h (hb) : ∀ W : World, (Below w.heap.size w W) → Below W.heap.size W w1 → (Below w.heap.size w w1)) _ (by first | (with_reducible assumption) | go_grown) hb; (try clear hS); have hS := hT; clear hT; have hB := hS; have hzw : w.heap.size ≤ w1.heap.size := hB.size; clear hb))
    go_returns
    exact ⟨ret_eq (by first | (rw [HV.out, HK.out]; simp; done) | (rw [HV.out]; simp; done) | (simp; done)), by go_grown⟩
  have HK := hide (show fitK l a tol = true from by simp [fitK, k0, k3])
  have kk := HK.out
  clear kk
  have hab := hide (askB_small k0)
  obtain ⟨k1, hal, _⟩ := askB_iff.1 k0
  have HAL := hide hal
  clear hal
  have hsm := hide (okS_small k1)
  obtain ⟨n1, n5⟩ := (okS_iff.1 k1).1
  have hlen2 : a.length ≤ 5 := by have := HAL.out; omega
  obtain ⟨F, hF⟩ : ∃ F, fitN l a tol 961 = F := ⟨_, rfl⟩
  have hFl : F.length ≤ 961 := by rw [← hF]; exact fitN_len _ _ _ _
  have HF := hide hF
  have HV := hide (show locV l a tol = decide (F.length = 1) from by unfold locV; rw [HK.out, hF]; rfl)
  clear hF
  by_cases hc1 : F.length = 1
  · have hb1 : ((F.length : Int) == 1) = true := by simp; omega
    have HV2 := hide (show locV l a tol = true from by rw [HV.out]; simp [hc1])
    clear hc1
    go_enter Try.func23, Try.ntmps23
    go_wp2_with (first | (go_at_call 81; refine (l11Asked_c A c l A2 c2 a tol _ (hide (reads_below h1.out (by go_grown))) (hide (reads_below h2.out (by go_grown))) b1 b2).mono ?_; rw [HK.out]; rintro e w1 ⟨rfl, hb⟩; have hT : Below w.heap.size w w1 := (fun W h hb => below_via h (hb) : ∀ W : World, (Below w.heap.size w W) → Below W.heap.size W w1 → (Below w.heap.size w w1)) _ (by first | (with_reducible assumption) | go_grown) hb; (try clear hS); have hS := hT; clear hT; have hB := hS; have hzw : w.heap.size ≤ w1.heap.size := hB.size; clear hb) | (go_at_call 82; refine (l11Fitting_c _ A c l A2 c2 a tol (hide (reads_below h1.out (by go_grown))) (by omega) hsm (hide (reads_below h2.out (by go_grown))) HAL hab n1).mono ?_; rw [HF.out]; rintro e w1 ⟨B, d, rfl, hown, hb⟩; have hT : Below w.heap.size w w1 := (fun W h hb => below_via h (hb) : ∀ W : World, (Below w.heap.size w W) → Below W.heap.size W w1 → (Below w.heap.size w w1)) _ (by first | (with_reducible assumption) | go_grown) hb; (try clear hS); have hS := hT; clear hT; have hB := hS; have hzw : w.heap.size ≤ w1.heap.size := hB.size; clear hb))
    go_returns
    exact ⟨ret_eq (by first | (rw [HV2.out, HK.out]; simp; done) | (rw [HV2.out]; simp; done) | (simp; done)), by go_grown⟩
  · have hb1 : ((F.length : Int) == 1) = false := by simp; omega
    have HV2 := hide (show locV l a tol = false from by rw [HV.out]; simp [hc1])
    clear hc1
    go_enter Try.func23, Try.ntmps23
    go_wp2_with (first | (go_at_call 81; refine (l11Asked_c A c l A2 c2 a tol _ (hide (reads_below h1.out (by go_grown))) (hide (reads_below h2.out (by go_grown))) b1 b2).mono ?_; rw [HK.out]; rintro e w1 ⟨rfl, hb⟩; have hT : Below w.heap.size w w1 := (fun W h hb => below_via h (hb) : ∀ W : World, (Below w.heap.size w W) → Below W.heap.size W w1 → (Below w.heap.size w w1)) _ (by first | (with_reducible assumption) | go_grown) hb; (try clear hS); have hS := hT; clear hT; have hB := hS; have hzw : w.heap.size ≤ w1.heap.size := hB.size; clear hb) | (go_at_call 82; refine (l11Fitting_c _ A c l A2 c2 a tol (hide (reads_below h1.out (by go_grown))) (by omega) hsm (hide (reads_below h2.out (by go_grown))) HAL hab n1).mono ?_; rw [HF.out]; rintro e w1 ⟨B, d, rfl, hown, hb⟩; have hT : Below w.heap.size w w1 := (fun W h hb => below_via h (hb) : ∀ W : World, (Below w.heap.size w W) → Below W.heap.size W w1 → (Below w.heap.size w w1)) _ (by first | (with_reducible assumption) | go_grown) hb; (try clear hS); have hS := hT; clear hT; have hB := hS; have hzw : w.heap.size ≤ w1.heap.size := hB.size; clear hb))
    go_returns
    exact ⟨ret_eq (by first | (rw [HV2.out, HK.out]; simp; done) | (rw [HV2.out]; simp; done) | (simp; done)), by go_grown⟩

theorem Located_c (A : Option Addr) (c : Nat) (l : List Pt) (A2 : Option Addr) (c2 : Nat) (a : List Int) (tol : Int) (w : World) (h1 : Hid (Reads w w.heap.size 2 A l.length (flat l))) (h2 : Hid (Reads w w.heap.size 1 A2 a.length (ints a))) (b1 : l.length ≤ 4000000) (b2 : a.length ≤ 4000000) (hc : l.length ≤ c)  : Calls Try.prog 24 #[.slice A l.length c, .slice A2 a.length c2, .int .i64 tol] w (Gives w (.tuple #[.bool (locV l a tol), .bool (fitK l a tol)])) := by
  rcases k0 : askB l a with _ | _
  · have HK := hide (show fitK l a tol = false from by simp [fitK, k0])
    have HV := hide (show locV l a tol = false from by unfold locV; rw [HK.out]; rfl)
    go_enter Try.func24, Try.ntmps24
    go_wp2_with (first | (go_at_call 79; refine (asked_c A c l A2 c2 a _ (hide (reads_below h1.out (by go_grown))) (hide (reads_below h2.out (by go_grown))) b1 b2 hc).mono ?_; rintro e w1 ⟨rfl, hb⟩; have hT : Below w.heap.size w w1 := (fun W h hb => below_via h (hb) : ∀ W : World, (Below w.heap.size w W) → Below W.heap.size W w1 → (Below w.heap.size w w1)) _ (by first | (with_reducible assumption) | go_grown) hb; (try clear hS); have hS := hT; clear hT; have hB := hS; have hzw : w.heap.size ≤ w1.heap.size := hB.size; clear hb) | (go_at_call 83; refine (isTol_c _ _).mono ?_; rintro e w1 ⟨rfl, rfl⟩))
    go_returns
    exact ⟨ret_eq (by first | (rw [HV.out, HK.out]; simp; done) | (rw [HV.out]; simp; done) | (simp; done)), by go_grown⟩
  rcases k3 : wi tol 0 5 with _ | _
  · have HK := hide (show fitK l a tol = false from by simp [fitK, k3])
    have HV := hide (show locV l a tol = false from by unfold locV; rw [HK.out]; rfl)
    go_enter Try.func24, Try.ntmps24
    go_wp2_with (first | (go_at_call 79; refine (asked_c A c l A2 c2 a _ (hide (reads_below h1.out (by go_grown))) (hide (reads_below h2.out (by go_grown))) b1 b2 hc).mono ?_; rintro e w1 ⟨rfl, hb⟩; have hT : Below w.heap.size w w1 := (fun W h hb => below_via h (hb) : ∀ W : World, (Below w.heap.size w W) → Below W.heap.size W w1 → (Below w.heap.size w w1)) _ (by first | (with_reducible assumption) | go_grown) hb; (try clear hS); have hS := hT; clear hT; have hB := hS; have hzw : w.heap.size ≤ w1.heap.size := hB.size; clear hb) | (go_at_call 83; refine (isTol_c _ _).mono ?_; rintro e w1 ⟨rfl, rfl⟩))
    go_returns
    exact ⟨ret_eq (by first | (rw [HV.out, HK.out]; simp; done) | (rw [HV.out]; simp; done) | (simp; done)), by go_grown⟩
  have HK := hide (show fitK l a tol = true from by simp [fitK, k0, k3])
  have kk := HK.out
  clear kk
  have hab := hide (askB_small k0)
  obtain ⟨k1, hal, _⟩ := askB_iff.1 k0
  have HAL := hide hal
  clear hal
  have hsm := hide (okS_small k1)
  obtain ⟨n1, n5⟩ := (okS_iff.1 k1).1
  have hlen2 : a.length ≤ 5 := by have := HAL.out; omega
  obtain ⟨F, hF⟩ : ∃ F, fitN l a tol 961 = F := ⟨_, rfl⟩
  have hFl : F.length ≤ 961 := by rw [← hF]; exact fitN_len _ _ _ _
  have HF := hide hF
  have HV := hide (show locV l a tol = decide (F.length = 1) from by unfold locV; rw [HK.out, hF]; rfl)
  clear hF
  by_cases hc1 : F.length = 1
  · have hb1 : ((F.length : Int) == 1) = true := by simp; omega
    have HV2 := hide (show locV l a tol = true from by rw [HV.out]; simp [hc1])
    clear hc1
    go_enter Try.func24, Try.ntmps24
    go_wp2_with (first | (go_at_call 79; refine (asked_c A c l A2 c2 a _ (hide (reads_below h1.out (by go_grown))) (hide (reads_below h2.out (by go_grown))) b1 b2 hc).mono ?_; rintro e w1 ⟨rfl, hb⟩; have hT : Below w.heap.size w w1 := (fun W h hb => below_via h (hb) : ∀ W : World, (Below w.heap.size w W) → Below W.heap.size W w1 → (Below w.heap.size w w1)) _ (by first | (with_reducible assumption) | go_grown) hb; (try clear hS); have hS := hT; clear hT; have hB := hS; have hzw : w.heap.size ≤ w1.heap.size := hB.size; clear hb) | (go_at_call 83; refine (isTol_c _ _).mono ?_; rintro e w1 ⟨rfl, rfl⟩) | (go_at_call 75; refine (fitting_c _ A c l A2 c2 a tol (hide (reads_below h1.out (by go_grown))) (by omega) hsm (hide (reads_below h2.out (by go_grown))) HAL hab n1).mono ?_; rw [HF.out]; rintro e w1 ⟨B, d, rfl, hown, hb⟩; have hT : Below w.heap.size w w1 := (fun W h hb => below_via h (hb) : ∀ W : World, (Below w.heap.size w W) → Below W.heap.size W w1 → (Below w.heap.size w w1)) _ (by first | (with_reducible assumption) | go_grown) hb; (try clear hS); have hS := hT; clear hT; have hB := hS; have hzw : w.heap.size ≤ w1.heap.size := hB.size; clear hb))
    go_returns
    exact ⟨ret_eq (by first | (rw [HV2.out, HK.out]; simp; done) | (rw [HV2.out]; simp; done) | (simp; done)), by go_grown⟩
  · have hb1 : ((F.length : Int) == 1) = false := by simp; omega
    have HV2 := hide (show locV l a tol = false from by rw [HV.out]; simp [hc1])
    clear hc1
    go_enter Try.func24, Try.ntmps24
    go_wp2_with (first | (go_at_call 79; refine (asked_c A c l A2 c2 a _ (hide (reads_below h1.out (by go_grown))) (hide (reads_below h2.out (by go_grown))) b1 b2 hc).mono ?_; rintro e w1 ⟨rfl, hb⟩; have hT : Below w.heap.size w w1 := (fun W h hb => below_via h (hb) : ∀ W : World, (Below w.heap.size w W) → Below W.heap.size W w1 → (Below w.heap.size w w1)) _ (by first | (with_reducible assumption) | go_grown) hb; (try clear hS); have hS := hT; clear hT; have hB := hS; have hzw : w.heap.size ≤ w1.heap.size := hB.size; clear hb) | (go_at_call 83; refine (isTol_c _ _).mono ?_; rintro e w1 ⟨rfl, rfl⟩) | (go_at_call 75; refine (fitting_c _ A c l A2 c2 a tol (hide (reads_below h1.out (by go_grown))) (by omega) hsm (hide (reads_below h2.out (by go_grown))) HAL hab n1).mono ?_; rw [HF.out]; rintro e w1 ⟨B, d, rfl, hown, hb⟩; have hT : Below w.heap.size w w1 := (fun W h hb => below_via h (hb) : ∀ W : World, (Below w.heap.size w W) → Below W.heap.size W w1 → (Below w.heap.size w w1)) _ (by first | (with_reducible assumption) | go_grown) hb; (try clear hS); have hS := hT; clear hT; have hB := hS; have hzw : w.heap.size ≤ w1.heap.size := hB.size; clear hb))
    go_returns
    exact ⟨ret_eq (by first | (rw [HV2.out, HK.out]; simp; done) | (rw [HV2.out]; simp; done) | (simp; done)), by go_grown⟩
end Go.Proofs.Ytnocgcfepkdjeaa
