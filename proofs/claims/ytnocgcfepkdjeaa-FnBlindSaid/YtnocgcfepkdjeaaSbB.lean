/- Contracts: exported fitting points. -/
import Derived.Test.YtnocgcfepkdjeaaSbA
import Derived.Test.YtnocgcfepkdjeaaSiI
import Derived.Test.YtnocgcfepkdjeaaSbMath
namespace Go.Proofs.Ytnocgcfepkdjeaa
open Go.RowKit

theorem l11Asked_c (A : Option Addr) (c : Nat) (l : List Pt) (A2 : Option Addr) (c2 : Nat) (a : List Int) (tol : Int) (w : World) (h1 : Hid (Reads w w.heap.size 2 A l.length (flat l))) (h2 : Hid (Reads w w.heap.size 1 A2 a.length (ints a))) (b1 : l.length ≤ 4000000) (b2 : a.length ≤ 4000000)  : Calls Try.prog 81 #[.slice A l.length c, .slice A2 a.length c2, .int .i64 tol] w (Gives w (.bool (fitK l a tol))) := by
  rcases k0 : askB l a with _ | _
  · have HF := hide (show fitK l a tol = false from by simp [fitK, k0])
    go_enter Try.func81, Try.ntmps81
    go_wp2_with (first | (go_at_call 77; refine (l10Asked_c A c l A2 c2 a _ (hide (reads_below h1.out (by go_grown))) (hide (reads_below h2.out (by go_grown))) b1 b2).mono ?_; rintro e w1 ⟨rfl, hb⟩; have hT : Below w.heap.size w w1 := (fun W h hb => below_via h (hb) : ∀ W : World, (Below w.heap.size w W) → Below W.heap.size W w1 → (Below w.heap.size w w1)) _ (by first | (with_reducible assumption) | go_grown) hb; (try clear hS); have hS := hT; clear hT; have hB := hS; have hzw : w.heap.size ≤ w1.heap.size := hB.size; clear hb) | (go_at_call 96; refine (l1In_c _ _ _ _).mono ?_; rintro e w1 ⟨rfl, rfl⟩))
    go_returns
    exact ⟨ret_eq (by rw [HF.out]; simp), by go_grown⟩
  have HF := hide (show fitK l a tol = wi tol 0 5 from by simp [fitK, k0])
  go_enter Try.func81, Try.ntmps81
  go_wp2_with (first | (go_at_call 77; refine (l10Asked_c A c l A2 c2 a _ (hide (reads_below h1.out (by go_grown))) (hide (reads_below h2.out (by go_grown))) b1 b2).mono ?_; rintro e w1 ⟨rfl, hb⟩; have hT : Below w.heap.size w w1 := (fun W h hb => below_via h (hb) : ∀ W : World, (Below w.heap.size w W) → Below W.heap.size W w1 → (Below w.heap.size w w1)) _ (by first | (with_reducible assumption) | go_grown) hb; (try clear hS); have hS := hT; clear hT; have hB := hS; have hzw : w.heap.size ≤ w1.heap.size := hB.size; clear hb) | (go_at_call 96; refine (l1In_c _ _ _ _).mono ?_; rintro e w1 ⟨rfl, rfl⟩))
  go_returns
  exact ⟨ret_eq (by rw [HF.out]; simp), by go_grown⟩

theorem sFitting_c (w : World) (A : Option Addr) (c : Nat) (l : List Pt) (A2 : Option Addr) (c2 : Nat) (a : List Int) (tol : Int) (h1 : Hid (Reads w w.heap.size 2 A l.length (flat l))) (b1 : l.length ≤ 4000000) (h2 : Hid (Reads w w.heap.size 1 A2 a.length (ints a))) (b2 : a.length ≤ 4000000)  : Calls Try.prog 43 #[.slice A l.length c, .slice A2 a.length c2, .int .i64 tol] w (GivesS w 32 2 (fitV l a tol).length (flat (fitV l a tol)) (fun v => .tuple #[v, .bool (fitK l a tol)])) := by
  rcases k0 : askB l a with _ | _
  · have HV := hide (show fitV l a tol = [] from by simp [fitV, fitK, k0])
    have HK := hide (show fitK l a tol = false from by simp [fitK, k0])
    rw [HV.out, HK.out]
    go_enter Try.func43, Try.ntmps43
    go_wp2_with (first | (go_at_call 81; refine (l11Asked_c A c l A2 c2 a tol _ (hide (reads_below h1.out (by go_grown))) (hide (reads_below h2.out (by go_grown))) b1 b2).mono ?_; rw [HK.out]; rintro e w1 ⟨rfl, hb⟩; have hT : Below w.heap.size w w1 := (fun W h hb => below_via h (hb) : ∀ W : World, (Below w.heap.size w W) → Below W.heap.size W w1 → (Below w.heap.size w w1)) _ (by first | (with_reducible assumption) | go_grown) hb; (try clear hS); have hS := hT; clear hT; have hB := hS; have hzw : w.heap.size ≤ w1.heap.size := hB.size; clear hb))
    go_returns
    exact ⟨_, _, rfl, own_empty _ (by first | rfl | simp) (by first | omega | (simp; done) | (simp; omega)), by go_grown⟩
  rcases k3 : wi tol 0 5 with _ | _
  · have HV := hide (show fitV l a tol = [] from by simp [fitV, fitK, k3])
    have HK := hide (show fitK l a tol = false from by simp [fitK, k3])
    rw [HV.out, HK.out]
    go_enter Try.func43, Try.ntmps43
    go_wp2_with (first | (go_at_call 81; refine (l11Asked_c A c l A2 c2 a tol _ (hide (reads_below h1.out (by go_grown))) (hide (reads_below h2.out (by go_grown))) b1 b2).mono ?_; rw [HK.out]; rintro e w1 ⟨rfl, hb⟩; have hT : Below w.heap.size w w1 := (fun W h hb => below_via h (hb) : ∀ W : World, (Below w.heap.size w W) → Below W.heap.size W w1 → (Below w.heap.size w w1)) _ (by first | (with_reducible assumption) | go_grown) hb; (try clear hS); have hS := hT; clear hT; have hB := hS; have hzw : w.heap.size ≤ w1.heap.size := hB.size; clear hb))
    go_returns
    exact ⟨_, _, rfl, own_empty _ (by first | rfl | simp) (by first | omega | (simp; done) | (simp; omega)), by go_grown⟩
  have HK := hide (show fitK l a tol = true from by simp [fitK, k0, k3])
  have HV := hide (show fitV l a tol = fitN l a tol 961 from by unfold fitV; rw [if_pos HK.out])
  rw [HV.out, HK.out, show (fitN l a tol 961).length = (fitN l a tol 961).length from rfl]
  have kk := HK.out
  obtain ⟨_, _⟩ := fitK_iff.1 kk
  have hab := hide (askB_small k0)
  obtain ⟨k1, hal, _⟩ := askB_iff.1 k0
  have HAL := hide hal
  clear hal
  have hsm := hide (okS_small k1)
  obtain ⟨n1, n5⟩ := (okS_iff.1 k1).1
  have hlen2 : a.length ≤ 5 := by have := HAL.out; omega
  go_enter Try.func43, Try.ntmps43
  go_wp2_with (first | (go_at_call 81; refine (l11Asked_c A c l A2 c2 a tol _ (hide (reads_below h1.out (by go_grown))) (hide (reads_below h2.out (by go_grown))) b1 b2).mono ?_; rw [HK.out]; rintro e w1 ⟨rfl, hb⟩; have hT : Below w.heap.size w w1 := (fun W h hb => below_via h (hb) : ∀ W : World, (Below w.heap.size w W) → Below W.heap.size W w1 → (Below w.heap.size w w1)) _ (by first | (with_reducible assumption) | go_grown) hb; (try clear hS); have hS := hT; clear hT; have hB := hS; have hzw : w.heap.size ≤ w1.heap.size := hB.size; clear hb) | (go_at_call 82; refine (l11Fitting_c _ A c l A2 c2 a tol (hide (reads_below h1.out (by go_grown))) (by omega) hsm (hide (reads_below h2.out (by go_grown))) HAL hab n1).mono ?_; rintro e w1 ⟨B, d, rfl, hown, hb⟩; have hT : Below w.heap.size w w1 := (fun W h hb => below_via h (hb) : ∀ W : World, (Below w.heap.size w W) → Below W.heap.size W w1 → (Below w.heap.size w w1)) _ (by first | (with_reducible assumption) | go_grown) hb; (try clear hS); have hS := hT; clear hT; have hB := hS; have hzw : w.heap.size ≤ w1.heap.size := hB.size; clear hb))
  go_returns
  exact ⟨_, _, rfl, own_mono hown (by omega), by go_grown⟩

theorem Fitting_c (w : World) (A : Option Addr) (c : Nat) (l : List Pt) (A2 : Option Addr) (c2 : Nat) (a : List Int) (tol : Int) (h1 : Hid (Reads w w.heap.size 2 A l.length (flat l))) (b1 : l.length ≤ 4000000) (h2 : Hid (Reads w w.heap.size 1 A2 a.length (ints a))) (b2 : a.length ≤ 4000000) (hc : l.length ≤ c)  : Calls Try.prog 44 #[.slice A l.length c, .slice A2 a.length c2, .int .i64 tol] w (GivesS w 32 2 (fitV l a tol).length (flat (fitV l a tol)) (fun v => .tuple #[v, .bool (fitK l a tol)])) := by
  rcases k0 : askB l a with _ | _
  · have HV := hide (show fitV l a tol = [] from by simp [fitV, fitK, k0])
    have HK := hide (show fitK l a tol = false from by simp [fitK, k0])
    rw [HV.out, HK.out]
    go_enter Try.func44, Try.ntmps44
    go_wp2_with (first | (go_at_call 79; refine (asked_c A c l A2 c2 a _ (hide (reads_below h1.out (by go_grown))) (hide (reads_below h2.out (by go_grown))) b1 b2 hc).mono ?_; rintro e w1 ⟨rfl, hb⟩; have hT : Below w.heap.size w w1 := (fun W h hb => below_via h (hb) : ∀ W : World, (Below w.heap.size w W) → Below W.heap.size W w1 → (Below w.heap.size w w1)) _ (by first | (with_reducible assumption) | go_grown) hb; (try clear hS); have hS := hT; clear hT; have hB := hS; have hzw : w.heap.size ≤ w1.heap.size := hB.size; clear hb) | (go_at_call 83; refine (isTol_c _ _).mono ?_; rintro e w1 ⟨rfl, rfl⟩))
    go_returns
    exact ⟨_, _, rfl, World.ownsRow_nil _ _ _ _, by go_grown⟩
  rcases k3 : wi tol 0 5 with _ | _
  · have HV := hide (show fitV l a tol = [] from by simp [fitV, fitK, k3])
    have HK := hide (show fitK l a tol = false from by simp [fitK, k3])
    rw [HV.out, HK.out]
    go_enter Try.func44, Try.ntmps44
    go_wp2_with (first | (go_at_call 79; refine (asked_c A c l A2 c2 a _ (hide (reads_below h1.out (by go_grown))) (hide (reads_below h2.out (by go_grown))) b1 b2 hc).mono ?_; rintro e w1 ⟨rfl, hb⟩; have hT : Below w.heap.size w w1 := (fun W h hb => below_via h (hb) : ∀ W : World, (Below w.heap.size w W) → Below W.heap.size W w1 → (Below w.heap.size w w1)) _ (by first | (with_reducible assumption) | go_grown) hb; (try clear hS); have hS := hT; clear hT; have hB := hS; have hzw : w.heap.size ≤ w1.heap.size := hB.size; clear hb) | (go_at_call 83; refine (isTol_c _ _).mono ?_; rintro e w1 ⟨rfl, rfl⟩))
    go_returns
    exact ⟨_, _, rfl, World.ownsRow_nil _ _ _ _, by go_grown⟩
  have HK := hide (show fitK l a tol = true from by simp [fitK, k0, k3])
  have HV := hide (show fitV l a tol = fitN l a tol 961 from by unfold fitV; rw [if_pos HK.out])
  rw [HV.out, HK.out, show (fitN l a tol 961).length = (fitN l a tol 961).length from rfl]
  have kk := HK.out
  obtain ⟨_, _⟩ := fitK_iff.1 kk
  have hab := hide (askB_small k0)
  obtain ⟨k1, hal, _⟩ := askB_iff.1 k0
  have HAL := hide hal
  clear hal
  have hsm := hide (okS_small k1)
  obtain ⟨n1, n5⟩ := (okS_iff.1 k1).1
  have hlen2 : a.length ≤ 5 := by have := HAL.out; omega
  go_enter Try.func44, Try.ntmps44
  go_wp2_with (first | (go_at_call 79; refine (asked_c A c l A2 c2 a _ (hide (reads_below h1.out (by go_grown))) (hide (reads_below h2.out (by go_grown))) b1 b2 hc).mono ?_; rintro e w1 ⟨rfl, hb⟩; have hT : Below w.heap.size w w1 := (fun W h hb => below_via h (hb) : ∀ W : World, (Below w.heap.size w W) → Below W.heap.size W w1 → (Below w.heap.size w w1)) _ (by first | (with_reducible assumption) | go_grown) hb; (try clear hS); have hS := hT; clear hT; have hB := hS; have hzw : w.heap.size ≤ w1.heap.size := hB.size; clear hb) | (go_at_call 83; refine (isTol_c _ _).mono ?_; rintro e w1 ⟨rfl, rfl⟩) | (go_at_call 75; refine (fitting_c _ A c l A2 c2 a tol (hide (reads_below h1.out (by go_grown))) (by omega) hsm (hide (reads_below h2.out (by go_grown))) HAL hab n1).mono ?_; rintro e w1 ⟨B, d, rfl, hown, hb⟩; have hT : Below w.heap.size w w1 := (fun W h hb => below_via h (hb) : ∀ W : World, (Below w.heap.size w W) → Below W.heap.size W w1 → (Below w.heap.size w w1)) _ (by first | (with_reducible assumption) | go_grown) hb; (try clear hS); have hS := hT; clear hT; have hB := hS; have hzw : w.heap.size ≤ w1.heap.size := hB.size; clear hb))
  go_returns
  exact ⟨_, _, rfl, own_mono hown (by omega), by go_grown⟩
end Go.Proofs.Ytnocgcfepkdjeaa
