/- The walk of the law's few (package taborlaw02). Conditions: those of the theorem. -/
import Derived.Test.YtaaaljpnhfmbpaaDkX
namespace Go.Proofs.Ytaaaljpnhfmbpaa
open Go.RowKit
set_option linter.unusedVariables false

def wsum (l : List AF) : Nat := (l.map fun x => 10 + x.name.size + x.b.size).sum
theorem wsum_snoc {l : List AF} {t : Nat} {x : AF} (hx : l[t]? = some x) : wsum (l.take (t + 1)) = wsum (l.take t) + 10 + x.name.size + x.b.size := by
  unfold wsum
  rw [take_snocD hx, List.map_append, List.sum_append]
  simp
  omega
theorem wsum_take (l : List AF) (t : Nat) : wsum (l.take t) ≤ wsum l := by
  have h : l = l.take t ++ l.drop t := (List.take_append_drop t l).symm
  conv => rhs; rw [h]
  unfold wsum
  rw [List.map_append, List.sum_append]
  omega
theorem wsum_mem {l : List AF} {x : AF} (hx : x ∈ l) : 10 + x.name.size + x.b.size ≤ wsum l := by
  obtain ⟨l1, l2, rfl⟩ := List.append_of_mem hx
  unfold wsum
  rw [List.map_append, List.sum_append, List.map_cons, List.sum_cons]
  omega
theorem wsum_len (l : List AF) : l.length ≤ wsum l := by
  induction l with
  | nil => exact Nat.le_refl _
  | cons x l ih =>
    unfold wsum at ih ⊢
    rw [List.map_cons, List.sum_cons, List.length_cons]
    omega

set_option maxHeartbeats 4000000 in
theorem few_any {A : Option Addr} {n c : Nat} {l : List AF} (w : World) (hr : Reads w w.heap.size 3 A n (afs l)) (hn : n ≤ maxLen) (hs : ∀ x ∈ l, x.name.size ≤ 140737488351232 ∧ x.b.size ≤ 140737488351232) :
    Calls Try.prog 13 #[.slice A n c] w fun e w' => e = .returned (.bool (decide (wsum l ≤ 3000))) ∧ Below w.heap.size w w' := by
  have HL := hide hr.alen
  unfold maxLen at hn
  go_enter Try.func13, Try.ntmps13
  go_wp2_with fail
  go_loopw [3, 4] (fun s i wr => ∃ t S : Nat, t ≤ n ∧ i = .int .i64 t ∧ s = .int .i64 S ∧ S = wsum (l.take t) ∧ S ≤ 400000000000000 ∧ Below w.heap.size w wr) (fun _ i _ => n - (intOf i).toNat)
  case atStart => exact ⟨0, 0, by omega, rfl, rfl, rfl, by omega, Below.refl _ _⟩
  case round =>
    obtain ⟨t, S, ht, rfl, rfl, hS, hSb, hbw⟩ := hrel
    have HS := hide hS
    clear hS
    by_cases htn : t < n
    · have htI : (t : Int) < (n : Int) := by omega
      have ht0 : (0 : Int) ≤ (t : Int) := by omega
      have hw2 : IntKind.i64.wrap ((t : Int) + 1) = (t : Int) + 1 := IntWalk.i64_in _ (by omega)
      by_cases h3 : S ≤ 3000
      · have h3I : (S : Int) ≤ 3000 := by omega
        have hd3 : decide ((S : Int) ≤ 3000) = true := decide_eq_true h3I
        obtain ⟨b, o, x, rfl, hb, hlx, k1, k2, k3⟩ := (hr.below hbw).file htn
        obtain ⟨s1, s2⟩ := hs x (List.mem_of_getElem? hlx)
        have HX := hide (wsum_snoc hlx)
        have hwa : IntKind.i64.wrap ((S : Int) + 10) = ((S + 10 : Nat) : Int) := by rw [IntWalk.i64_in _ (by omega)]; omega
        have hwb : IntKind.i64.wrap (((S + 10 : Nat) : Int) + (x.name.size : Int)) = ((S + 10 + x.name.size : Nat) : Int) := by rw [IntWalk.i64_in _ (by omega)]; omega
        have hwc : IntKind.i64.wrap (((S + 10 + x.name.size : Nat) : Int) + (x.b.size : Int)) = ((S + 10 + x.name.size + x.b.size : Nat) : Int) := by rw [IntWalk.i64_in _ (by omega)]; omega
        have hnb : Hid (S + 10 + x.name.size + x.b.size ≤ 400000000000000) := by show _ ≤ _; omega
        clear hlx hs
        obtain ⟨S1, hS1⟩ : ∃ S1, S1 = S + 10 := ⟨_, rfl⟩
        obtain ⟨S2, hS2⟩ : ∃ S2, S2 = S1 + x.name.size := ⟨_, rfl⟩
        obtain ⟨S3, hS3⟩ : ∃ S3, S3 = S2 + x.b.size := ⟨_, rfl⟩
        rw [← hS1] at hwa hwb hwc hnb
        rw [← hS2] at hwb hwc hnb
        rw [← hS3] at hwc hnb
        have HE : Hid (S3 = S + 10 + x.name.size + x.b.size) := by show _ = _; omega
        clear hS1 hS2 hS3 s1 s2
        go_wp2_with fail
        go_quiet (fail)
        go_wp2_with fail
        go_roundw
        case rel => exact ⟨t + 1, S3, by omega, by simp, rfl, by rw [HX.out, ← HS.out, HE.out], hnb.out, below_drewN hbw _⟩
        case measure => simp [intOf]; omega
      · have h3I : ¬ (S : Int) ≤ 3000 := by omega
        have hd3 : decide ((S : Int) ≤ 3000) = false := decide_eq_false h3I
        have HF : Hid (decide (wsum l ≤ 3000) = false) := by
          refine decide_eq_false fun h => ?_
          have := wsum_take l t
          rw [← HS.out] at this
          omega
        clear hs
        go_wp2_with fail
        go_ret
        exact ⟨ret_bool HF.out.symm, hbw⟩
    · have htI : ¬ (t : Int) < (n : Int) := by omega
      have hfin : Hid (S = wsum l) := by
        show _ = _
        rw [HS.out, List.take_of_length_le (by rw [HL.out]; omega)]
      have HF : Hid (decide ((S : Int) ≤ 3000) = decide (wsum l ≤ 3000)) := by
        show _ = _
        rw [← hfin.out]
        by_cases h : S ≤ 3000
        · rw [decide_eq_true h, decide_eq_true (by omega)]
        · rw [decide_eq_false h, decide_eq_false (by omega)]
      clear hs
      go_wp2_with fail
      go_ret
      exact ⟨ret_bool (by rw [← HF.out]), hbw⟩
end Go.Proofs.Ytaaaljpnhfmbpaa
