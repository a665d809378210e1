/- The walks of EqualFunc and Same (package frames) and of the laws' helper all. Conditions: those of each theorem. -/
import Derived.Test.YtbpodmgogokpiaaFrT
import Derived.Test.YtbpodmgogokpiaaFrM
namespace Go.Proofs.Ytbpodmgogokpiaa
open Go.RowKit
set_option linter.unusedVariables false

set_option maxHeartbeats 2000000 in
theorem equalFunc_any (A : Option Addr) (n c : Nat) (A' : Option Addr) (n' c' : Nat) (vs vs' : List Value) (L L' : List (List ByteArray)) (w : World) {B B' : Nat} (hr : Rows2 w B A n vs L) (hr' : Rows2 w B' A' n' vs' L') (hn : n ≤ 200000) (hL : ∀ l ∈ L, l.length ≤ 200000) :
    Calls Try.prog 39 #[.slice A n c, .slice A' n' c', .func (.func 40) #[] #[]] w fun e w' => e = .returned (.bool (decide (L = L'))) ∧ ∃ m, w' = w.drewN m := by
  have hl := hide hr.num
  have hl' := hide hr'.num
  by_cases hnn : n = n'
  case neg =>
    have h1 : ((n : Int) != (n' : Int)) = true := by simp; omega
    have hd : decide (L = L') = false := by
      rw [decide_eq_false_iff_not]
      intro h
      exact hnn (by rw [← hl.out, ← hl'.out, h])
    rw [hd]
    go_enter Try.func39, Try.ntmps39
    go_wp2_with fail
    go_ret
    exact ⟨rfl, 0, rfl⟩
  case pos =>
    subst hnn
    go_enter Try.func39, Try.ntmps39
    go_wp2_with fail
    go_loopw [7, 8, 9, 17] (fun x y z i wr => ∃ t : Nat, t ≤ n ∧ i = .int .i64 t ∧ L.take t = L'.take t ∧ ∃ m, wr = w.drewN m) (fun _ _ _ i _ => n - (intOf i).toNat)
    case atStart => exact ⟨0, by omega, rfl, rfl, 0, rfl⟩
    case round =>
      obtain ⟨t, ht, rfl, htk, m, rfl⟩ := hrel
      have HT := hide htk
      clear htk
      by_cases htn : t < n
      · have htI : (t : Int) < (n : Int) := by omega
        have ht0 : (0 : Int) ≤ (t : Int) := by omega
        obtain ⟨b1, o1, l1, A1, n1, c1, rfl, hb1, hs1, hc1, hq1, _, _⟩ := (hr.drewN m).at2 htn
        obtain ⟨b2, o2, l2, A2, n2, c2, rfl, hb2, hs2, hc2, hq2, _, _⟩ := (hr'.drewN m).at2 htn
        have hw2 : IntKind.i64.wrap ((t : Int) + 1) = (t : Int) + 1 := IntWalk.i64_in _ (by omega)
        have hn1 : n1 ≤ 200000 := by
          have h1 := hL l1 (List.mem_of_getElem? hs1)
          rw [hq1.slen] at h1
          exact h1
        have HONE := hide (same1_any A1 n1 c1 A2 n2 c2 l1 l2 _ hq1 hq2 hn1)
        by_cases hss : l1 = l2
        · subst hss
          have HT2 : Hid (L.take (t + 1) = L'.take (t + 1)) := by
            show _ = _
            rw [List.take_add_one, List.take_add_one, hs1, hs2, HT.out]
          have hd : decide (l1 = l1) = true := by simp
          rw [hd] at HONE
          clear hs1 hs2
          obtain ⟨wd, hwd⟩ : ∃ wd, w.drewN m = wd := ⟨_, rfl⟩
          have HWD := hide hwd
          rw [hwd] at hc1 hc2 HONE ⊢
          clear hwd
          go_wp2_with (first
            | (go_at_call 40; refine HONE.out.mono ?_; rintro e w1 ⟨rfl, m1, hw1⟩; have HW1 := hide hw1; clear hw1)
            | fail)
          go_roundw
          case rel => exact ⟨t + 1, by omega, by simp, HT2.out, _, by rw [HW1.out, ← HWD.out, World.drewN_drewN]⟩
          case measure => simp [intOf]; omega
        · have hd : decide (L = L') = false := by
            rw [decide_eq_false_iff_not]
            rintro rfl
            rw [hs1] at hs2
            exact hss (Option.some.inj hs2)
          have HD := hide hd
          have hd2 : decide (l1 = l2) = false := by simpa using hss
          rw [hd2] at HONE
          clear hs1 hs2 hss hd hd2
          obtain ⟨wd, hwd⟩ : ∃ wd, w.drewN m = wd := ⟨_, rfl⟩
          have HWD := hide hwd
          rw [hwd] at hc1 hc2 HONE ⊢
          clear hwd
          go_wp2_with (first
            | (go_at_call 40; refine HONE.out.mono ?_; rintro e w1 ⟨rfl, m1, hw1⟩; have HW1 := hide hw1; clear hw1)
            | fail)
          go_ret
          exact ⟨ret_bool HD.out.symm, _, by rw [HW1.out, ← HWD.out, World.drewN_drewN]⟩
      · have htI : ¬ (t : Int) < (n : Int) := by omega
        obtain rfl : t = n := by omega
        have hd : decide (L = L') = true := by
          rw [decide_eq_true_iff]
          have := HT.out
          rwa [List.take_of_length_le (by rw [hl.out]; omega), List.take_of_length_le (by rw [hl'.out]; omega)] at this
        have HD := hide hd
        clear hd
        go_wp2_with fail
        go_ret
        exact ⟨ret_bool HD.out.symm, m, rfl⟩

theorem same_any (A : Option Addr) (n c : Nat) (A' : Option Addr) (n' c' : Nat) (vs vs' : List Value) (L L' : List (List ByteArray)) (w : World) {B B' : Nat} (hr : Rows2 w B A n vs L) (hr' : Rows2 w B' A' n' vs' L') (hn : n ≤ 200000) (hL : ∀ l ∈ L, l.length ≤ 200000) :
    Calls Try.prog 23 #[.slice A n c, .slice A' n' c'] w fun e w' => e = .returned (.bool (decide (L = L'))) ∧ ∃ m, w' = w.drewN m := by
  have H := hide (equalFunc_any A n c A' n' c' vs vs' L L' w hr hr' hn hL)
  go_enter Try.func23, Try.ntmps23
  go_wp2_with (first
    | (go_at_call 39; refine H.out.mono ?_; rintro e w1 ⟨rfl, m, rfl⟩)
    | fail)
  go_ret
  exact ⟨rfl, m, rfl⟩
end Go.Proofs.Ytbpodmgogokpiaa
