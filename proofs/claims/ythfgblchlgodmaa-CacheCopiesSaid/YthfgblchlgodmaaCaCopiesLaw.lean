/- The law CacheCopies returns true at every input: no conditions. -/
import Derived.Test.YthfgblchlgodmaaRows
import Derived.WalkKit
import Derived.ProofKit
import Derived.OpenShut
import Derived.ShutString
import Derived.ChangeOld
import Derived.SizedLaws
import Derived.Below
import Derived.Test.YthfgblchlgodmaaCbG
import Derived.Test.YthfgblchlgodmaaActLift
namespace Go.Proofs.Ythfgblchlgodmaa.cacheCopies
open Go.ChangeShapes Go.WideShapes Go.ChangeAt Go.RowKit
open Go.ChangeMaps (open_string shut_string)
set_option linter.unusedVariables false

theorem own : ownKnob Try.prog.godebug = none := by kernel_rfl
theorem arr3S {cs : Array Value} (h : cs.size = 3) : ∃ a b c, cs = #[a, b, c] := by
  obtain ⟨l⟩ := cs
  match l, h with
  | [a, b, c], _ => exact ⟨a, b, c, rfl⟩
theorem laidOut : laidOutB Try.prog = true := by kernel_rfl

set_option maxHeartbeats 1000000 in
set_option maxRecDepth 100000 in
theorem lifted (os : Os) (started : os.Started) (H : Type) (enc : TypeId × Value → H) :
    ReturnsInHanded {} Try.checked os 5 .any (Rows.cacheCopiesSpec.pre6 enc Try.prog Try.f5 Rows.cacheCopiesRow.domain false) (Rows.cacheCopiesSpec.post enc Try.prog Try.f5 false true false false) := by
  refine returnsInHanded_of_change_sized (C := Try.checked) own started (by kernel_rfl) Try.func5
    (ChangeSpec.witness6 (enc := enc) (C := Try.checked) false ⟨#[], #[.slice none 0 0, .agg #[.int .i64 0, .string ByteArray.empty, .string ByteArray.empty]], []⟩ 8 (by kernel_rfl) (by kernel_rfl) (by kernel_rfl) (by kernel_rfl)) ?_
  intro W base args ds gs before hval0 hW hcnd hsz _
  have hval : ∀ (j : Nat) t v, Try.f5.params[j]? = some t → args[j]? = some v → Value.okWide Try.prog W .any base t v := hval0
  have hW' := hW
  obtain ⟨p, q, hA0, hV, rfl, hfz, hnd⟩ := hW
  have hA : DataW.TrodAll enc Try.prog W 0 (fun _ => true) true Try.f5.params.toList args.toList ds p := hA0
  rw [Try.params5] at hA hval hsz
  obtain ⟨v0, vs0, d0, ds0, p0, q0, hargs, rfl, rfl, h0, r0⟩ := trodAll_cons hA
  obtain ⟨v1, vs1, d1, ds1, p1, q1, rfl, rfl, rfl, h1, r1⟩ := trodAll_cons r0
  obtain ⟨rfl, rfl, rfl⟩ := trodAll_nil r1
  obtain rfl : args = #[v0, v1] := by cases args; simp_all
  obtain ⟨rfl, rfl⟩ := trodVars_none hV
  obtain ⟨a0, len0, cap0, rfl⟩ := okWide_slice Try.underlying24 (hval 0 24 v0 rfl rfl)
  have k0 := h0
  have lt0 : ∀ x ∈ p0, x.block < W.heap.size := by obtain ⟨m, hm⟩ := k0; exact DataW.trod_lt m _ _ _ hm
  obtain ⟨l0, hr0, hc0, hm0, hs0⟩ := open_acts (j := 0) hsz rfl rfl h0
  obtain ⟨cs1, rfl, hcs1⟩ := okWide_struct Try.underlying39 (hval 1 39 v1 rfl rfl)
  have k1 := h1
  have lt1 : ∀ x ∈ p1, x.block < W.heap.size := by obtain ⟨m, hm⟩ := k1; exact DataW.trod_lt m _ _ _ hm
  obtain ⟨c0, c1, c2, rfl⟩ := arr3S (hcs1.trans (by kernel_rfl : Try.prog.cellsOf 39 = 3))
  obtain ⟨fuel1, hf1⟩ := h1
  obtain ⟨x1, rfl, rfl, rfl, hag1⟩ := open_act hf1
  have hw : ∀ s : ByteArray, s.data.toList.length ∈ DataW.weights Try.prog 39 d1 → s.size ≤ 140737488351232 := fun s hs => by
    have hm1 : s.data.toList.length ∈ DataW.weightsEach Try.prog [24, 39] [d0, d1] := DataW.weights_mem_each (j := 1) rfl rfl _ hs
    have h7 := List.all_eq_true.1 hsz _ hm1
    have h8 : s.data.toList.length ≤ reachBytes := of_decide_eq_true h7
    rw [Array.length_toList] at h8
    exact h8
  have hs1 : x1.name.size ≤ 140737488351232 ∧ x1.script.size ≤ 140737488351232 := by
    have hag : d1 = .agg [.lit (.int .i64 x1.what), .lit (.string x1.name.data.toList), .lit (.string x1.script.data.toList)] := hag1
    refine ⟨hw _ ?_, hw _ ?_⟩
    all_goals
      rw [hag]
      unfold DataW.weights
      rw [Try.underlying39]
      simp [DataW.weightsEach, DataW.weights]
  clear hA0 hval0
  refine (cacheCopies_any a0 len0 cap0 l0 x1 W hr0 (Nat.le_trans hc0 hm0) hs0 hs1).mono fun e W' ⟨he, bel⟩ => ?_
  subst he
  exact ⟨_, rfl, _, _, _, [], _, [], hW', trodAll_mk1 (shut_bool Try.underlying4 _), (trodAll_cons_mk (Below.trod laidOut (by kernel_rfl) (of_decide_eq_true (by kernel_rfl)) k0 bel lt0) (trodAll_cons_mk (Below.trod laidOut (by kernel_rfl) (of_decide_eq_true (by kernel_rfl)) k1 bel lt1) trodAll_mk0)), rfl, bel.frame _, fun h => by cases h⟩

theorem over : Rows.cacheCopiesRow.holds Try.pinned (OpenSpec.ofChange Rows.cacheCopiesSpec) :=
  OpenClaim.holds_of_wide 5 Try.f5 rfl rfl rfl rfl rfl rfl rfl ⟨rfl, rfl, rfl, rfl, rfl⟩ rfl rfl rfl rfl rfl (by kernel_rfl) Try.func5 (by kernel_rfl)
    (of_decide_eq_true (by kernel_rfl)) (by unfold Func.isWrapper; first | (rw [if_pos (by decide +kernel)]; kernel_rfl) | (rw [if_neg (by decide +kernel)]; exact ⟨rfl, rfl⟩))
    (fun os started H enc _ => lifted os started H enc)

theorem proved : Rows.CacheCopiesSaid := over
end Go.Proofs.Ythfgblchlgodmaa.cacheCopies
namespace Go.Proofs.Ythfgblchlgodmaa
theorem cacheCopiesTrue : Rows.CacheCopiesSaid := cacheCopies.proved
end Go.Proofs.Ythfgblchlgodmaa
