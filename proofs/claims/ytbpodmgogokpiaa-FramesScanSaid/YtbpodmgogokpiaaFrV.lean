/- The walks of the laws' helper all (package taborlaw03): whether rows of lists are few. Conditions: no text takes more than the form's reach. -/
import Derived.Test.YtbpodmgogokpiaaFrU
import Derived.Test.YtbpodmgogokpiaaFrN
namespace Go.Proofs.Ytbpodmgogokpiaa
open Go.RowKit
set_option linter.unusedVariables false

def AllPost (n : Nat) (L : List (List ByteArray)) (e : Ending) : Prop := ∃ b : Bool, e = .returned (.bool b) ∧ (b = true → n ≤ 250 ∧ ∀ (j : Nat) (l : List ByteArray), L[j]? = some l → accT l l.length ≤ 3000)
set_option maxHeartbeats 2000000 in
theorem all_any (A : Option Addr) (n c : Nat) (vs : List Value) (L : List (List ByteArray)) (w : World) {B : Nat} (hr : Rows2 w B A n vs L) (hn : n ≤ maxLen) (hs : ∀ l ∈ L, ∀ s ∈ l, s.size ≤ 140737488351232) :
    Calls Try.prog 22 #[.slice A n c] w fun e w' => AllPost n L e ∧ w = w' := by
  have hn' : n ≤ 9223372036854775807 := hn
  have hl := hide hr.num
  go_enter Try.func22, Try.ntmps22
  go_wp2_with fail
  go_loopw [3, 4, 5] (fun a i x wr => ∃ t v : Nat, t ≤ n ∧ a = .int .i64 v ∧ i = .int .i64 t ∧ 12 * t ≤ v ∧ v ≤ 7000 ∧ (∀ (j : Nat) (l : List ByteArray), j < t → L[j]? = some l → accT l l.length ≤ 3000) ∧ wr = w) (fun _ i _ _ => n - (intOf i).toNat)
  case atStart => exact ⟨0, 0, by omega, rfl, rfl, by omega, by omega, fun j l h => absurd h (by omega), rfl⟩
  case round =>
    obtain ⟨t, v, ht, rfl, rfl, htv, hv7, hall, rfl⟩ := hrel
    have HALL := hide hall
    clear hall
    by_cases htn : t < n
    · have htI : (t : Int) < (n : Int) := by omega
      by_cases h3 : v ≤ 3000
      · have h3I : (v : Int) ≤ 3000 := by omega
        have ht0 : (0 : Int) ≤ (t : Int) := by omega
        obtain ⟨b, o, l, A1, n1, c1, rfl, hb, hls, hc, hq, hn1, hc1⟩ := hr.at2 htn
        have hss := hs l (List.mem_of_getElem? hls)
        have hfw := hide (few_any A1 n1 c1 l _ hq (by omega) hss)
        have hll := hide hq.slen
        have HLS := hide hls
        clear hls
        by_cases hf : accT l l.length ≤ 3000
        · have hd : decide (accT l l.length ≤ 3000) = true := by simpa using hf
          have hw1 : IntKind.i64.wrap ((v : Int) + 12) = (v : Int) + 12 := IntWalk.i64_in _ (by omega)
          have hw2 : IntKind.i64.wrap ((t : Int) + 1) = (t : Int) + 1 := IntWalk.i64_in _ (by omega)
          have HF := hide hf
          have hn7 := (few_facts hf).1
          rw [hll.out] at hn7
          go_wp2_with (first
            | (go_at_call 10; refine hfw.out.mono ?_; rintro e w1 ⟨hp, rfl⟩; unfold FewPost at hp; subst hp; rw [hd])
            | fail)
          go_loopw [3, 5] (fun a k wr' => ∃ u : Nat, u ≤ n1 ∧ a = .int .i64 ((v + 12 + accT l u : Nat)) ∧ k = .int .i64 u ∧ wr' = wr) (fun _ k _ => n1 - (intOf k).toNat)
          case atStart => exact ⟨0, by omega, by simp [accT], rfl, rfl⟩
          case round =>
            obtain ⟨u, hu, rfl, rfl, rfl⟩ := hrel
            have hle := accT_le l u
            have hf' := HF.out
            have hk3 : accT l u ≤ 3000 := by omega
            by_cases hun : u < n1
            · have huI : (u : Int) < (n1 : Int) := by omega
              have hu0 : (0 : Int) ≤ (u : Int) := by omega
              obtain ⟨b2, o2, s, rfl, hb2, hls2, hc2⟩ := hq.text hun
              have hsz := hss s (List.mem_of_getElem? hls2)
              have hnx := hide (accT_succ hls2)
              have hw4 : IntKind.i64.wrap (((v + 12 + accT l u : Nat) : Int) + 4) = ((v + 12 + accT l u : Nat) : Int) + 4 := IntWalk.i64_in _ (by omega)
              have hw5 : IntKind.i64.wrap (((v + 12 + accT l u : Nat) : Int) + 4 + (s.size : Int)) = ((v + 12 + accT l u : Nat) : Int) + 4 + (s.size : Int) := IntWalk.i64_in _ (by omega)
              have hw6 : IntKind.i64.wrap ((u : Int) + 1) = (u : Int) + 1 := IntWalk.i64_in _ (by omega)
              generalize hq5 : v + 12 + accT l u = q5 at *
              have HQ5 := hide hq5
              clear hq5 hle hf'
              go_wp2_with fail
              go_roundw
              case rel => exact ⟨u + 1, by omega, by rw [hnx.out]; have := HQ5.out; congr 1; omega, by simp, by first | rfl | trivial⟩
              case measure => simp [intOf]; omega
            · have huI : ¬ (u : Int) < (n1 : Int) := by omega
              obtain rfl : u = n1 := by omega
              have hq6 : v + 12 + accT l u ≤ 7000 := by omega
              have hq7 : 12 * (t + 1) ≤ v + 12 + accT l u := by omega
              generalize v + 12 + accT l u = q5 at *
              clear hle hf'
              go_wp2_with fail
              go_roundw
              case rel =>
                refine ⟨t + 1, q5, by omega, rfl, by simp, hq7, hq6, fun j l' hj hl' => ?_, by first | rfl | trivial⟩
                by_cases hjt : j < t
                · exact HALL.out j l' hjt hl'
                · obtain rfl : j = t := by omega
                  have h9 := HLS.out
                  rw [hl'] at h9
                  injection h9 with h9
                  rw [h9]
                  exact HF.out
              case measure => simp [intOf]; omega
        · have hd : decide (accT l l.length ≤ 3000) = false := by simpa using hf
          go_wp2_with (first
            | (go_at_call 10; refine hfw.out.mono ?_; rintro e w1 ⟨hp, rfl⟩; unfold FewPost at hp; subst hp; rw [hd])
            | fail)
          go_ret
          exact ⟨⟨false, rfl, fun h => by cases h⟩, rfl⟩
      · have h3I : ¬ (v : Int) ≤ 3000 := by omega
        go_wp2_with fail
        go_ret
        exact ⟨⟨_, rfl, fun h => by cases h⟩, rfl⟩
    · have htI : ¬ (t : Int) < (n : Int) := by omega
      obtain rfl : t = n := by omega
      go_wp2_with fail
      go_ret
      refine ⟨⟨_, rfl, fun h => ?_⟩, rfl⟩
      simp at h
      refine ⟨by omega, fun j l hj => HALL.out j l ?_ hj⟩
      have h9 := (List.getElem?_eq_some_iff.1 hj).1
      rw [hl.out] at h9
      exact h9

end Go.Proofs.Ytbpodmgogokpiaa
