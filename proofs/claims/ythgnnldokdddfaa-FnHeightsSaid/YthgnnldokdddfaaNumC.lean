/- Contract: ParseInt. -/
import Derived.Test.YthgnnldokdddfaaNumA
namespace Go.Proofs.Ythgnnldokdddfaa
open Go.RowKit

set_option maxHeartbeats 1600000 in
theorem parseInt_c (s : ByteArray) (w : World) : Calls Try.prog 54 #[.string s] w fun r' w' => r' = .returned (.tuple #[.int .i64 (piV s.data.toList), .bool (piK s.data.toList)]) ∧ w = w' := by
  by_cases hp : 0 < s.size
  · have HH := hide (head_at s hp)
    by_cases z8 : (s[0].toNat : Int) = 45
    · have hn := hide (show neg0 s.data.toList from by unfold neg0; rw [HH.out, show s[0] = 45 from UInt8.toNat_inj.1 (by have : UInt8.toNat 45 = 45 := rfl; omega)])
      obtain ⟨T, hT⟩ : ∃ T, s.extract 1 s.size = T := ⟨_, rfl⟩
      have HT := hide (show strip0 s.data.toList = T.data.toList from by rw [← hT, tail_list]; unfold strip0; rw [if_pos hn.out])
      obtain ⟨V, hV⟩ : ∃ V, nV T.data.toList = V := ⟨_, rfl⟩
      obtain ⟨v0, v1⟩ := hV ▸ nV_bd T.data.toList
      rcases k : nOk T.data.toList with _ | _
      · have HK := hide (show piK s.data.toList = false from by unfold piK; rw [HT.out, hV]; rw [k]; rfl)
        have HF := hide (show piV s.data.toList = 0 from by unfold piV; rw [HK.out]; rfl)
        go_enter Try.func54, Try.ntmps54
        go_wp2_with (first | (go_at_call 53; refine (number_c _ _).mono ?_; rintro e w1 ⟨rfl, rfl⟩))
        all_goals (go_returns; exact ⟨ret_eq (by rw [HF.out, HK.out]; first | (simp; done) | (simp; omega)), rfl⟩)
      by_cases b : V > 999999
      · have HK := hide (show piK s.data.toList = false from by unfold piK; rw [HT.out, hV]; rw [decide_eq_false (show ¬ V ≤ 999999 by omega), Bool.false_and, Bool.and_false])
        have HF := hide (show piV s.data.toList = 0 from by unfold piV; rw [HK.out]; rfl)
        go_enter Try.func54, Try.ntmps54
        go_wp2_with (first | (go_at_call 53; refine (number_c _ _).mono ?_; rintro e w1 ⟨rfl, rfl⟩))
        all_goals (go_returns; exact ⟨ret_eq (by rw [HF.out, HK.out]; first | (simp; done) | (simp; omega)), rfl⟩)
      by_cases c : V = 0
      · have HK := hide (show piK s.data.toList = false from by unfold piK; rw [HT.out, hV]; rw [k, decide_eq_false (show ¬ ¬ (V = 0 ∧ neg0 s.data.toList) from fun e => e ⟨c, hn.out⟩)]; simp)
        have HF := hide (show piV s.data.toList = 0 from by unfold piV; rw [HK.out]; rfl)
        go_enter Try.func54, Try.ntmps54
        go_wp2_with (first | (go_at_call 53; refine (number_c _ _).mono ?_; rintro e w1 ⟨rfl, rfl⟩))
        all_goals (go_returns; exact ⟨ret_eq (by rw [HF.out, HK.out]; first | (simp; done) | (simp; omega)), rfl⟩)
      have HK := hide (show piK s.data.toList = true from by unfold piK; rw [HT.out, hV, k]; simp; omega)
      have HF := hide (show piV s.data.toList = -V from by unfold piV; rw [if_pos HK.out, if_pos hn.out, HT.out, hV])
      go_enter Try.func54, Try.ntmps54
      go_wp2_with (first | (go_at_call 53; refine (number_c _ _).mono ?_; rintro e w1 ⟨rfl, rfl⟩))
      all_goals (go_returns; exact ⟨ret_eq (by rw [HF.out, HK.out]; first | (simp; done) | (simp; omega)), rfl⟩)
    have hn := hide (show ¬ neg0 s.data.toList from fun e => by unfold neg0 at e; rw [HH.out] at e; have e3 : s[0] = 45 := (by simpa using e); exact z8 (by rw [e3]; rfl))
    have HT := hide (show strip0 s.data.toList = s.data.toList from by unfold strip0; rw [if_neg hn.out])
    obtain ⟨V, hV⟩ : ∃ V, nV s.data.toList = V := ⟨_, rfl⟩
    obtain ⟨v0, v1⟩ := hV ▸ nV_bd s.data.toList
    rcases k : nOk s.data.toList with _ | _
    · have HK := hide (show piK s.data.toList = false from by unfold piK; rw [HT.out, hV]; rw [k]; rfl)
      have HF := hide (show piV s.data.toList = 0 from by unfold piV; rw [HK.out]; rfl)
      go_enter Try.func54, Try.ntmps54
      go_wp2_with (first | (go_at_call 53; refine (number_c _ _).mono ?_; rintro e w1 ⟨rfl, rfl⟩))
      all_goals (go_returns; exact ⟨ret_eq (by rw [HF.out, HK.out]; first | (simp; done) | (simp; omega)), rfl⟩)
    by_cases b : V > 999999
    · have HK := hide (show piK s.data.toList = false from by unfold piK; rw [HT.out, hV]; rw [decide_eq_false (show ¬ V ≤ 999999 by omega), Bool.false_and, Bool.and_false])
      have HF := hide (show piV s.data.toList = 0 from by unfold piV; rw [HK.out]; rfl)
      go_enter Try.func54, Try.ntmps54
      go_wp2_with (first | (go_at_call 53; refine (number_c _ _).mono ?_; rintro e w1 ⟨rfl, rfl⟩))
      all_goals (go_returns; exact ⟨ret_eq (by rw [HF.out, HK.out]; first | (simp; done) | (simp; omega)), rfl⟩)
    have HK := hide (show piK s.data.toList = true from by unfold piK; rw [HT.out, hV, k]; simp [hn.out]; omega)
    have HF := hide (show piV s.data.toList = V from by unfold piV; rw [if_pos HK.out, if_neg hn.out, HT.out, hV])
    go_enter Try.func54, Try.ntmps54
    go_wp2_with (first | (go_at_call 53; refine (number_c _ _).mono ?_; rintro e w1 ⟨rfl, rfl⟩))
    all_goals (go_returns; exact ⟨ret_eq (by rw [HF.out, HK.out]; first | (simp; done) | (simp; omega)), rfl⟩)
  have hn := hide (show ¬ neg0 s.data.toList from fun e => by have e1 := len_list s; unfold neg0 at e; cases hl : s.data.toList with | nil => rw [hl] at e; simp at e | cons x l => rw [hl] at e1; simp at e1; omega)
  have HT := hide (show strip0 s.data.toList = s.data.toList from by unfold strip0; rw [if_neg hn.out])
  obtain ⟨V, hV⟩ : ∃ V, nV s.data.toList = V := ⟨_, rfl⟩
  obtain ⟨v0, v1⟩ := hV ▸ nV_bd s.data.toList
  rcases k : nOk s.data.toList with _ | _
  · have HK := hide (show piK s.data.toList = false from by unfold piK; rw [HT.out, hV]; rw [k]; rfl)
    have HF := hide (show piV s.data.toList = 0 from by unfold piV; rw [HK.out]; rfl)
    go_enter Try.func54, Try.ntmps54
    go_wp2_with (first | (go_at_call 53; refine (number_c _ _).mono ?_; rintro e w1 ⟨rfl, rfl⟩))
    all_goals (go_returns; exact ⟨ret_eq (by rw [HF.out, HK.out]; first | (simp; done) | (simp; omega)), rfl⟩)
  by_cases b : V > 999999
  · have HK := hide (show piK s.data.toList = false from by unfold piK; rw [HT.out, hV]; rw [decide_eq_false (show ¬ V ≤ 999999 by omega), Bool.false_and, Bool.and_false])
    have HF := hide (show piV s.data.toList = 0 from by unfold piV; rw [HK.out]; rfl)
    go_enter Try.func54, Try.ntmps54
    go_wp2_with (first | (go_at_call 53; refine (number_c _ _).mono ?_; rintro e w1 ⟨rfl, rfl⟩))
    all_goals (go_returns; exact ⟨ret_eq (by rw [HF.out, HK.out]; first | (simp; done) | (simp; omega)), rfl⟩)
  have HK := hide (show piK s.data.toList = true from by unfold piK; rw [HT.out, hV, k]; simp [hn.out]; omega)
  have HF := hide (show piV s.data.toList = V from by unfold piV; rw [if_pos HK.out, if_neg hn.out, HT.out, hV])
  go_enter Try.func54, Try.ntmps54
  go_wp2_with (first | (go_at_call 53; refine (number_c _ _).mono ?_; rintro e w1 ⟨rfl, rfl⟩))
  all_goals (go_returns; exact ⟨ret_eq (by rw [HF.out, HK.out]; first | (simp; done) | (simp; omega)), rfl⟩)
end Go.Proofs.Ythgnnldokdddfaa
