/- The walk of Name (package taborref21). Conditions: those of each theorem. -/
import Derived.Test.YthfgblchlgodmaaCaC
namespace Go.Proofs.Ythfgblchlgodmaa
open Go.RowKit
set_option linter.unusedVariables false

theorem nameB_nat (y : UInt8) : nameB y = (decide (97 ≤ y.toNat ∧ y.toNat ≤ 122) || decide (65 ≤ y.toNat ∧ y.toNat ≤ 90) || decide (48 ≤ y.toNat ∧ y.toNat ≤ 57) || decide (95 ≤ y.toNat ∧ y.toNat ≤ 95)) := by
  unfold nameB inP partLo partHi
  simp [Bool.decide_and]
theorem all_snoc {l : List UInt8} {k : Nat} (hk : k < l.length) (h : (l.take k).all nameB = true) (hy : nameB (l.getD k 0) = true) : (l.take (k + 1)).all nameB = true := by
  rw [List.take_succ_eq_append_getElem hk, List.all_append, h]
  rw [List.getD_eq_getElem?_getD, List.getElem?_eq_getElem hk] at hy
  simpa using hy
theorem all_not {l : List UInt8} {k : Nat} (hk : k < l.length) (hy : nameB (l.getD k 0) = false) : allB l = false := by
  unfold allB
  rw [List.all_eq_false]
  rw [List.getD_eq_getElem?_getD, List.getElem?_eq_getElem hk] at hy
  exact ⟨l[k], List.getElem_mem hk, by simpa using hy⟩

set_option maxHeartbeats 8000000 in
theorem rname_any (s : ByteArray) (w : World) (hs : s.size ≤ 9223372036854775807) : Calls Try.prog 8 #[.string s] w fun e w' => e = .returned (.bool (nameS s)) ∧ w = w' := by
  go_enter Try.func8, Try.ntmps8
  go_wp2_with fail
  go_loop [3] (fun i => ∃ k : Nat, k ≤ s.size ∧ k ≤ 65 ∧ i = .int .i64 k ∧ (s.data.toList.take k).all nameB = true) (fun i => 65 - (intOf i).toNat)
  case atStart => exact ⟨0, Nat.zero_le _, by omega, rfl, rfl⟩
  case round =>
    obtain ⟨k, hk, hk65, rfl, hall⟩ := hrel
    have HA := hide hall
    clear hall
    have hll : Hid (s.data.toList.length = s.size) := Array.length_toList
    by_cases hks : k < s.size
    · have hks' : (k : Int) < (s.size : Int) := by omega
      by_cases h64 : k ≤ 64
      · have h64' : (k : Int) ≤ 64 := by omega
        have hx : ∀ W : World, (Instr.index 9 (.string s) (.int .i64 (k : Int))).run Try.prog W = .ok (.int .u8 ((s.data.toList.getD k 0).toNat : Int)) W := fun W => by
          rw [run_index_string _ _ _ _ _ Try.underlying9, dif_pos ⟨by omega, hks'⟩]
          have : s[((k : Int)).toNat]'(by omega) = s.data.toList.getD k 0 := by
            rw [List.getD_eq_getElem?_getD, List.getElem?_eq_getElem (by rw [hll.out]; exact hks)]
            simp
            rfl
          rw [this]
        have HT := hide (all_snoc (l := s.data.toList) (k := k) (by rw [hll.out]; exact hks) HA.out)
        have HF := hide (all_not (l := s.data.toList) (k := k) (by rw [hll.out]; exact hks))
        generalize s.data.toList.getD k 0 = y at *
        have hy := y.toNat_lt
        have hnb := nameB_nat y
        obtain ⟨v, hv⟩ : ∃ v : Nat, y.toNat = v := ⟨_, rfl⟩
        rw [hv] at hnb hy
        simp only [hv] at hx
        clear hv
        have HNB := hide hnb
        clear hnb
        have hiv : (0 ≤ v ∧ v ≤ 47) ∨ (48 ≤ v ∧ v ≤ 57) ∨ (58 ≤ v ∧ v ≤ 64) ∨ (65 ≤ v ∧ v ≤ 90) ∨ (91 ≤ v ∧ v ≤ 94) ∨ (95 ≤ v ∧ v ≤ 95) ∨ (96 ≤ v ∧ v ≤ 96) ∨ (97 ≤ v ∧ v ≤ 122) ∨ (123 ≤ v ∧ v ≤ 255) := by omega
        rcases hiv with ⟨g1, g2⟩ | ⟨g1, g2⟩ | ⟨g1, g2⟩ | ⟨g1, g2⟩ | ⟨g1, g2⟩ | ⟨g1, g2⟩ | ⟨g1, g2⟩ | ⟨g1, g2⟩ | ⟨g1, g2⟩
        · have hn : Hid (nameB y = false) := by
            show _ = _
            rw [HNB.out]
            simp
            omega
          have d1 : decide ((97 : Int) ≤ (v : Int)) = false := by simp; omega
          have d2 : decide ((v : Int) ≤ 122) = true := by simp; omega
          have d3 : decide ((65 : Int) ≤ (v : Int)) = false := by simp; omega
          have d4 : decide ((v : Int) ≤ 90) = true := by simp; omega
          have d5 : decide ((48 : Int) ≤ (v : Int)) = false := by simp; omega
          have d6 : decide ((v : Int) ≤ 57) = true := by simp; omega
          have d7 : ((v : Int) == 95) = false := by simp; omega
          clear g1 g2 hy
          go_wp2_with fail
          go_ret
          exact ⟨ret_bool (by unfold nameS; rw [HF.out hn.out]; simp), rfl⟩
        · have hn : Hid (nameB y = true) := by
            show _ = _
            rw [HNB.out]
            simp
            omega
          have d1 : decide ((97 : Int) ≤ (v : Int)) = false := by simp; omega
          have d2 : decide ((v : Int) ≤ 122) = true := by simp; omega
          have d3 : decide ((65 : Int) ≤ (v : Int)) = false := by simp; omega
          have d4 : decide ((v : Int) ≤ 90) = true := by simp; omega
          have d5 : decide ((48 : Int) ≤ (v : Int)) = true := by simp; omega
          have d6 : decide ((v : Int) ≤ 57) = true := by simp; omega
          have d7 : ((v : Int) == 95) = false := by simp; omega
          clear g1 g2 hy
          go_wp2_with fail
          refine ⟨⟨k + 1, by omega, by omega, by go_num, HT.out hn.out⟩, by simp [intOf]; omega⟩
        · have hn : Hid (nameB y = false) := by
            show _ = _
            rw [HNB.out]
            simp
            omega
          have d1 : decide ((97 : Int) ≤ (v : Int)) = false := by simp; omega
          have d2 : decide ((v : Int) ≤ 122) = true := by simp; omega
          have d3 : decide ((65 : Int) ≤ (v : Int)) = false := by simp; omega
          have d4 : decide ((v : Int) ≤ 90) = true := by simp; omega
          have d5 : decide ((48 : Int) ≤ (v : Int)) = true := by simp; omega
          have d6 : decide ((v : Int) ≤ 57) = false := by simp; omega
          have d7 : ((v : Int) == 95) = false := by simp; omega
          clear g1 g2 hy
          go_wp2_with fail
          go_ret
          exact ⟨ret_bool (by unfold nameS; rw [HF.out hn.out]; simp), rfl⟩
        · have hn : Hid (nameB y = true) := by
            show _ = _
            rw [HNB.out]
            simp
            omega
          have d1 : decide ((97 : Int) ≤ (v : Int)) = false := by simp; omega
          have d2 : decide ((v : Int) ≤ 122) = true := by simp; omega
          have d3 : decide ((65 : Int) ≤ (v : Int)) = true := by simp; omega
          have d4 : decide ((v : Int) ≤ 90) = true := by simp; omega
          have d5 : decide ((48 : Int) ≤ (v : Int)) = true := by simp; omega
          have d6 : decide ((v : Int) ≤ 57) = false := by simp; omega
          have d7 : ((v : Int) == 95) = false := by simp; omega
          clear g1 g2 hy
          go_wp2_with fail
          refine ⟨⟨k + 1, by omega, by omega, by go_num, HT.out hn.out⟩, by simp [intOf]; omega⟩
        · have hn : Hid (nameB y = false) := by
            show _ = _
            rw [HNB.out]
            simp
            omega
          have d1 : decide ((97 : Int) ≤ (v : Int)) = false := by simp; omega
          have d2 : decide ((v : Int) ≤ 122) = true := by simp; omega
          have d3 : decide ((65 : Int) ≤ (v : Int)) = true := by simp; omega
          have d4 : decide ((v : Int) ≤ 90) = false := by simp; omega
          have d5 : decide ((48 : Int) ≤ (v : Int)) = true := by simp; omega
          have d6 : decide ((v : Int) ≤ 57) = false := by simp; omega
          have d7 : ((v : Int) == 95) = false := by simp; omega
          clear g1 g2 hy
          go_wp2_with fail
          go_ret
          exact ⟨ret_bool (by unfold nameS; rw [HF.out hn.out]; simp), rfl⟩
        · have hn : Hid (nameB y = true) := by
            show _ = _
            rw [HNB.out]
            simp
            omega
          have d1 : decide ((97 : Int) ≤ (v : Int)) = false := by simp; omega
          have d2 : decide ((v : Int) ≤ 122) = true := by simp; omega
          have d3 : decide ((65 : Int) ≤ (v : Int)) = true := by simp; omega
          have d4 : decide ((v : Int) ≤ 90) = false := by simp; omega
          have d5 : decide ((48 : Int) ≤ (v : Int)) = true := by simp; omega
          have d6 : decide ((v : Int) ≤ 57) = false := by simp; omega
          have d7 : ((v : Int) == 95) = true := by simp; omega
          clear g1 g2 hy
          go_wp2_with fail
          refine ⟨⟨k + 1, by omega, by omega, by go_num, HT.out hn.out⟩, by simp [intOf]; omega⟩
        · have hn : Hid (nameB y = false) := by
            show _ = _
            rw [HNB.out]
            simp
            omega
          have d1 : decide ((97 : Int) ≤ (v : Int)) = false := by simp; omega
          have d2 : decide ((v : Int) ≤ 122) = true := by simp; omega
          have d3 : decide ((65 : Int) ≤ (v : Int)) = true := by simp; omega
          have d4 : decide ((v : Int) ≤ 90) = false := by simp; omega
          have d5 : decide ((48 : Int) ≤ (v : Int)) = true := by simp; omega
          have d6 : decide ((v : Int) ≤ 57) = false := by simp; omega
          have d7 : ((v : Int) == 95) = false := by simp; omega
          clear g1 g2 hy
          go_wp2_with fail
          go_ret
          exact ⟨ret_bool (by unfold nameS; rw [HF.out hn.out]; simp), rfl⟩
        · have hn : Hid (nameB y = true) := by
            show _ = _
            rw [HNB.out]
            simp
            omega
          have d1 : decide ((97 : Int) ≤ (v : Int)) = true := by simp; omega
          have d2 : decide ((v : Int) ≤ 122) = true := by simp; omega
          have d3 : decide ((65 : Int) ≤ (v : Int)) = true := by simp; omega
          have d4 : decide ((v : Int) ≤ 90) = false := by simp; omega
          have d5 : decide ((48 : Int) ≤ (v : Int)) = true := by simp; omega
          have d6 : decide ((v : Int) ≤ 57) = false := by simp; omega
          have d7 : ((v : Int) == 95) = false := by simp; omega
          clear g1 g2 hy
          go_wp2_with fail
          refine ⟨⟨k + 1, by omega, by omega, by go_num, HT.out hn.out⟩, by simp [intOf]; omega⟩
        · have hn : Hid (nameB y = false) := by
            show _ = _
            rw [HNB.out]
            simp
            omega
          have d1 : decide ((97 : Int) ≤ (v : Int)) = true := by simp; omega
          have d2 : decide ((v : Int) ≤ 122) = false := by simp; omega
          have d3 : decide ((65 : Int) ≤ (v : Int)) = true := by simp; omega
          have d4 : decide ((v : Int) ≤ 90) = false := by simp; omega
          have d5 : decide ((48 : Int) ≤ (v : Int)) = true := by simp; omega
          have d6 : decide ((v : Int) ≤ 57) = false := by simp; omega
          have d7 : ((v : Int) == 95) = false := by simp; omega
          clear g1 g2 hy
          go_wp2_with fail
          go_ret
          exact ⟨ret_bool (by unfold nameS; rw [HF.out hn.out]; simp), rfl⟩
      · have h64' : ¬ (k : Int) ≤ 64 := by omega
        have hbig : ¬ (s.size : Int) ≤ 64 := by omega
        have h1 : (1 : Int) ≤ (s.size : Int) := by omega
        have HX : Hid (nameS s = false) := by
          show _ = _
          unfold nameS
          rw [show decide (s.size ≤ 64) = false from decide_eq_false (by omega)]
          simp
        go_wp2_with fail
        go_ret
        exact ⟨ret_bool HX.out.symm, rfl⟩
    · have hks' : ¬ (k : Int) < (s.size : Int) := by omega
      obtain rfl : k = s.size := by omega
      have hal : allB s.data.toList = true := by
        have := HA.out
        rw [List.take_of_length_le (by rw [hll.out]; exact Nat.le_refl _)] at this
        exact this
      by_cases h0 : s.size = 0
      · have h1 : ¬ (1 : Int) ≤ (s.size : Int) := by omega
        have HX : Hid (nameS s = false) := by
          show _ = _
          unfold nameS
          rw [show decide (0 < s.size) = false from decide_eq_false (by omega)]
          simp
        clear h0 hal
        go_wp2_with fail
        go_ret
        exact ⟨ret_bool HX.out.symm, rfl⟩
      · have h1 : (1 : Int) ≤ (s.size : Int) := by omega
        by_cases h64 : s.size ≤ 64
        · have h64' : (s.size : Int) ≤ 64 := by omega
          have HX : Hid (nameS s = true) := by
            show _ = _
            unfold nameS
            rw [show decide (0 < s.size) = true from decide_eq_true (by omega), show decide (s.size ≤ 64) = true from decide_eq_true h64, hal]
            rfl
          clear hal
          go_wp2_with fail
          go_ret
          exact ⟨ret_bool HX.out.symm, rfl⟩
        · have h64' : ¬ (s.size : Int) ≤ 64 := by omega
          have HX : Hid (nameS s = false) := by
            show _ = _
            unfold nameS
            rw [show decide (s.size ≤ 64) = false from decide_eq_false h64]
            simp
          clear hal
          go_wp2_with fail
          go_ret
          exact ⟨ret_bool HX.out.symm, rfl⟩
end Go.Proofs.Ythfgblchlgodmaa
