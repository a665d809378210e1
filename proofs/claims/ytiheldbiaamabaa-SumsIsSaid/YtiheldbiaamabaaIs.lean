/- The document's IsDigest and the walk of the law SumsIs. -/
import Derived.Test.YtiheldbiaamabaaWorks
namespace Go.Proofs.Ytiheldbiaamabaa
open Go.RowKit
set_option linter.unusedVariables false

set_option maxHeartbeats 1000000 in
theorem ris_any (s : ByteArray) (w : World) (hs : s.size ≤ 9223372036854775807) :
    Calls Try.prog 35 #[.string s] w fun e w' => e = .returned (.bool (isDig s.data.toList)) ∧ w = w' := by
  go_enter Try.func35, Try.ntmps35
  go_wp2_with fail
  go_loop [3] (fun i => ∃ k : Nat, k ≤ s.size ∧ k ≤ 40 ∧ i = .int .i64 k ∧ (s.data.toList.take k).all hexB = true) (fun i => 40 - (intOf i).toNat)
  case atStart => exact ⟨0, Nat.zero_le _, by omega, rfl, rfl⟩
  case round =>
    obtain ⟨k, hk, hk40, rfl, hall⟩ := hrel
    have HA := hide hall
    clear hall
    have hll : Hid (s.data.toList.length = s.size) := by simp [Hid]
    by_cases hks : k < s.size
    · have hks' : (k : Int) < (s.size : Int) := by omega
      by_cases h40 : k < 40
      · have h40' : (k : Int) < 40 := by omega
        have hx : ∀ W : World, (Instr.index 9 (.string s) (.int .i64 (k : Int))).run Try.prog W = .ok (.int .u8 ((s.data.toList.getD k 0).toNat : Int)) W := fun W => by
          rw [run_index_string _ _ _ _ _ Try.underlying9, dif_pos ⟨by omega, hks'⟩]
          have : s[((k : Int)).toNat]'(by omega) = s.data.toList.getD k 0 := by
            rw [List.getD_eq_getElem?_getD, List.getElem?_eq_getElem (by rw [hll.out]; exact hks)]
            simp
            rfl
          rw [this]
        have HT := hide (all_take_succ hexB s.data.toList k (by rw [hll.out]; exact hks))
        have HF := hide (all_false_of hexB s.data.toList k (by rw [hll.out]; exact hks))
        have hcs := hexB_cases (s.data.toList.getD k 0)
        generalize s.data.toList.getD k 0 = y at *
        have hy := y.toNat_lt
        have hyI : (y.toNat : Int) < 256 := by omega
        have hy0 : 0 ≤ (y.toNat : Int) := by omega
        obtain ⟨v, hv⟩ : ∃ v : Int, ((y.toNat : Nat) : Int) = v := ⟨_, rfl⟩
        rw [hv] at hcs hyI hy0
        simp only [hv] at hx
        clear hv hy
        rcases hcs with ⟨hh, hcs⟩ | ⟨hh, hcs⟩
        · have HH := hide hh
          clear hh
          rcases hcs with ⟨g1, g2⟩ | ⟨g1, g2⟩
          · skip
            have d0 : decide (48 ≤ v) = true := by simp; omega
            have d1 : decide (v ≤ 57) = true := by simp; omega
            clear g1 g2 hyI hy0
            go_wp2_with fail
            refine ⟨⟨k + 1, by omega, by omega, by go_num, ?_⟩, by simp [intOf]; omega⟩
            rw [HT.out, HH.out, HA.out]; rfl
          · skip
            have d0 : decide (48 ≤ v) = true := by simp; omega
            have d1 : decide (v ≤ 57) = false := by simp; omega
            have d2 : decide (97 ≤ v) = true := by simp; omega
            have d3 : decide (v ≤ 102) = true := by simp; omega
            clear g1 g2 hyI hy0
            go_wp2_with fail
            refine ⟨⟨k + 1, by omega, by omega, by go_num, ?_⟩, by simp [intOf]; omega⟩
            rw [HT.out, HH.out, HA.out]; rfl
        · have HH := hide hh
          clear hh
          rcases hcs with g1 | g1 | ⟨g1, g2⟩
          · skip
            have d0 : decide (48 ≤ v) = false := by simp; omega
            have d1 : decide (97 ≤ v) = false := by simp; omega
            clear g1 hyI hy0
            go_wp2_with fail
            go_ret
            exact ⟨ret_bool (by rw [isDig, HF.out HH.out, Bool.false_and]), rfl⟩
          · skip
            have d0 : decide (48 ≤ v) = true := by simp; omega
            have d1 : decide (v ≤ 57) = false := by simp; omega
            have d2 : decide (97 ≤ v) = true := by simp; omega
            have d3 : decide (v ≤ 102) = false := by simp; omega
            clear g1 hyI hy0
            go_wp2_with fail
            go_ret
            exact ⟨ret_bool (by rw [isDig, HF.out HH.out, Bool.false_and]), rfl⟩
          · skip
            have d0 : decide (48 ≤ v) = true := by simp; omega
            have d1 : decide (v ≤ 57) = false := by simp; omega
            have d2 : decide (97 ≤ v) = false := by simp; omega
            clear g1 g2 hyI hy0
            go_wp2_with fail
            go_ret
            exact ⟨ret_bool (by rw [isDig, HF.out HH.out, Bool.false_and]), rfl⟩
      · have h40' : ¬ (k : Int) < 40 := by omega
        have hres : isDig s.data.toList = ((s.size : Int) == 40) := by
          have hl : s.data.toList.length = s.size := hll.out
          rw [isDig, hl]
          by_cases h4 : s.size = 40
          · omega
          · have h4' : ¬ (s.size : Int) = 40 := by omega
            rw [beq_eq_false_iff_ne.2 h4, beq_eq_false_iff_ne.2 h4', Bool.and_false]
        have HR := hide hres
        clear hres
        go_wp2_with fail
        go_ret
        exact ⟨ret_bool (by rw [HR.out]), rfl⟩
    · have he : k = s.size := by omega
      have hks' : ¬ (k : Int) < (s.size : Int) := by omega
      have hres : isDig s.data.toList = ((s.size : Int) == 40) := by
        have hl : s.data.toList.length = s.size := hll.out
        have ha := HA.out
        rw [he, ← hl, List.take_length] at ha
        rw [isDig, ha, Bool.true_and, hl]
        by_cases h4 : s.size = 40
        · rw [h4]; rfl
        · have h4' : ¬ (s.size : Int) = 40 := by omega
          rw [beq_eq_false_iff_ne.2 h4, beq_eq_false_iff_ne.2 h4']
      have HR := hide hres
      clear hres
      go_wp2_with fail
      go_ret
      exact ⟨ret_bool (by rw [HR.out]), rfl⟩
theorem sumsIs_any (s : ByteArray) (w : World) (hs : s.size ≤ 9223372036854775807) :
    Calls Try.prog 9 #[.string s] w fun e w' => e = .returned (.bool true) ∧ Below w.heap.size w w' := by
  go_enter Try.func9, Try.ntmps9
  go_wp2_with fail
  refine (is_any s w hs).mono ?_
  rintro e w1 ⟨rfl, hb1⟩
  go_wp2_with fail
  refine (ris_any s w1 hs).mono ?_
  rintro e w1' ⟨rfl, rfl⟩
  generalize isDig s.data.toList = q
  go_wp2_with fail
  refine (works_any w1).mono ?_
  rintro e w3 ⟨rfl, hb3⟩
  go_wp2_with fail
  go_ret
  exact ⟨ret_bool rfl, hb1.trans (hb3.mono hb1.size)⟩
end Go.Proofs.Ytiheldbiaamabaa
