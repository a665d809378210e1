/- The walk of the law FramesSame: it returns true at every input. Conditions: no text takes more than the form's reach. -/
import Derived.Test.YtbpodmgogokpiaaFrV
import Derived.Test.YtbpodmgogokpiaaFrU
import Derived.Test.YtbpodmgogokpiaaFrN
namespace Go.Proofs.Ytbpodmgogokpiaa
open Go.RowKit
set_option linter.unusedVariables false

set_option maxHeartbeats 4000000 in
theorem framesSame_any (A : Option Addr) (n c : Nat) (vs : List Value) (L : List (List ByteArray)) (A' : Option Addr) (n' c' : Nat) (vs' : List Value) (L' : List (List ByteArray)) (w : World)
    (hr : Rows2 w w.heap.size A n vs L) (hn : n ≤ maxLen) (hs : ∀ l ∈ L, ∀ s ∈ l, s.size ≤ 140737488351232)
    (hr' : Rows2 w w.heap.size A' n' vs' L') (hn' : n' ≤ maxLen) (hs' : ∀ l ∈ L', ∀ s ∈ l, s.size ≤ 140737488351232) :
    Calls Try.prog 9 #[.slice A n c, .slice A' n' c'] w fun e w' => e = .returned (.bool true) ∧ Below w.heap.size w w' := by
  have h1 := hide (all_any A n c vs L w hr hn hs)
  have h2 := hide (all_any A' n' c' vs' L' w hr' hn' hs')
  go_enter Try.func9, Try.ntmps9
  go_wp2_with fail
  go_at_call 22
  refine h1.out.mono ?_
  rintro e w1 ⟨⟨x1, rfl, hx1⟩, rfl⟩
  cases x1 with
  | false =>
    clear hx1
    go_wp2_with (first
      | (go_at_call 11; refine (works_any _).mono ?_; rintro e w1 ⟨rfl, hb1⟩)
      | fail)
    go_ret
    exact ⟨rfl, hb1⟩
  | true =>
    obtain ⟨hn2, hf⟩ := hx1 rfl
    go_wp2_with fail
    go_at_call 22
    refine h2.out.mono ?_
    rintro e w1 ⟨⟨x2, rfl, hx2⟩, rfl⟩
    cases x2 with
    | false =>
      clear hx2
      go_wp2_with (first
        | (go_at_call 11; refine (works_any _).mono ?_; rintro e w1 ⟨rfl, hb1⟩)
        | fail)
      go_ret
      exact ⟨rfl, hb1⟩
    | true =>
      clear hx2
      have hL : ∀ l ∈ L, l.length ≤ 200000 := fun l hl => by
        obtain ⟨j, hj⟩ := List.mem_iff_getElem?.1 hl
        have := (few_facts (hf j l hj)).1
        omega
      have S1 := hide (same_any A n c A' n' c' vs vs' L L' _ hr hr' (by omega) hL)
      have R1 : Hid (∀ m, Calls Try.prog 21 #[.slice A n c, .slice A' n' c'] (w.drewN m) fun e w' => e = .returned (.bool (decide (L = L'))) ∧ ∃ k, w' = (w.drewN m).drewN k) := fun m => rsame_any A n c A' n' c' vs vs' L L' _ (hr.drewN m) (hr'.drewN m) (by omega) hL
      have S2 : Hid (∀ m, Calls Try.prog 23 #[.slice A n c, .slice A n c] (w.drewN m) fun e w' => e = .returned (.bool true) ∧ ∃ k, w' = (w.drewN m).drewN k) := fun m => by
        have h9 := same_any A n c A n c vs vs L L _ (hr.drewN m) (hr.drewN m) (by omega) hL
        rw [show decide (L = L) = true from by simp] at h9
        exact h9
      clear hf hL h1 h2 hn2
      generalize decide (L = L') = d at *
      go_wp2_with (first
        | (go_at_call 23; refine S1.out.mono ?_; rintro e w1 ⟨rfl, m1, rfl⟩; clear S1)
        | (go_at_call 21; refine (R1.out _).mono ?_; rintro e w2 ⟨rfl, m2, rfl⟩; have hdd : (d == d) = true := by simp
           rw [World.drewN_drewN])
        | (go_at_call 23; refine (S2.out _).mono ?_; rintro e w3 ⟨rfl, m3, rfl⟩; rw [World.drewN_drewN])
        | (go_at_call 11; refine (works_any _).mono ?_; rintro e w1 ⟨rfl, hb1⟩)
        | fail)
      go_ret
      exact ⟨ret_bool rfl, (below_drewN (Below.refl _ _) _).trans hb1⟩
end Go.Proofs.Ytbpodmgogokpiaa
