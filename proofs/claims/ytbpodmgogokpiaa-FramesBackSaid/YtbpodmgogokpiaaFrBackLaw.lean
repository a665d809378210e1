/- The law FramesBack returns true at every input: no conditions. -/
import Derived.Test.YtbpodmgogokpiaaRows
import Derived.WalkKit
import Derived.ProofKit
import Derived.OpenShut
import Derived.ShutString
import Derived.ChangeOld
import Derived.SizedLaws
import Derived.Below
import Derived.Test.YtbpodmgogokpiaaFrR
import Derived.Test.YtbpodmgogokpiaaTxLift
import Derived.Test.YtbpodmgogokpiaaLift
namespace Go.Proofs.Ytbpodmgogokpiaa.framesBack
open Go.ChangeShapes Go.WideShapes Go.ChangeAt Go.RowKit
open Go.ChangeMaps (open_string shut_string)
set_option linter.unusedVariables false

theorem own : ownKnob Try.prog.godebug = none := by kernel_rfl
theorem laidOut : laidOutB Try.prog = true := by kernel_rfl

theorem arr4 {cs : Array Value} (h : cs.size = 4) : ∃ a b c d, cs = #[a, b, c, d] := by
  obtain ⟨l⟩ := cs
  match l, h with
  | [a, b, c, d], _ => exact ⟨a, b, c, d, rfl⟩
theorem list4 {α : Type} {l : List α} (h : l.length = 4) : ∃ a b c d, l = [a, b, c, d] := by
  match l, h with
  | [a, b, c, d], _ => exact ⟨a, b, c, d, rfl⟩

set_option maxHeartbeats 1000000 in
set_option maxRecDepth 100000 in
theorem lifted (os : Os) (started : os.Started) (H : Type) (enc : TypeId × Value → H) :
    ReturnsInHanded {} Try.checked os 7 .any (Rows.framesBackSpec.pre6 enc Try.prog Try.f7 Rows.framesBackRow.domain false) (Rows.framesBackSpec.post enc Try.prog Try.f7 false true false false) := by
  refine returnsInHanded_of_change_sized (C := Try.checked) own started (by kernel_rfl) Try.func7
    (ChangeSpec.witness6 (enc := enc) (C := Try.checked) false ⟨#[], #[.slice none 0 0, .agg #[.slice none 0 0, .int .i64 0, .int .i64 0, .int .u8 0]], []⟩ 8 (by kernel_rfl) (by kernel_rfl) (by kernel_rfl) (by kernel_rfl)) ?_
  intro W base args ds gs before hval0 hW hcnd hsz _
  have hval : ∀ (j : Nat) t v, Try.f7.params[j]? = some t → args[j]? = some v → Value.okWide Try.prog W .any base t v := hval0
  have hW' := hW
  obtain ⟨p, q, hA0, hV, rfl, hfz, hnd⟩ := hW
  have hA : DataW.TrodAll enc Try.prog W 0 (fun _ => true) true Try.f7.params.toList args.toList ds p := hA0
  rw [Try.params7] at hA hval hsz
  obtain ⟨v0, vs0, d0, ds0, p0, q0, hargs, rfl, rfl, h0, r0⟩ := trodAll_cons hA
  obtain ⟨v1, vs1, d1, ds1, p1, q1, rfl, rfl, rfl, h1, r1⟩ := trodAll_cons r0
  obtain ⟨rfl, rfl, rfl⟩ := trodAll_nil r1
  obtain rfl : args = #[v0, v1] := by cases args; simp_all
  obtain ⟨rfl, rfl⟩ := trodVars_none hV
  obtain ⟨a0, len0, cap0, rfl⟩ := okWide_slice Try.underlying22 (hval 0 22 v0 rfl rfl)
  have k0 := h0
  have lt0 : ∀ x ∈ p0, x.block < W.heap.size := by obtain ⟨m, hm⟩ := k0; exact DataW.trod_lt m _ _ _ hm
  obtain ⟨l0, hr0, hc0, hm0, hs0⟩ := open_texts (j := 0) hsz rfl rfl h0
  obtain ⟨cs1, rfl, hcs1⟩ := okWide_struct Try.underlying44 (hval 1 44 v1 rfl rfl)
  have k1 := h1
  have lt1 : ∀ x ∈ p1, x.block < W.heap.size := by obtain ⟨m, hm⟩ := k1; exact DataW.trod_lt m _ _ _ hm
  obtain ⟨c0, c1, c2, c3, rfl⟩ := arr4 (hcs1.trans (by kernel_rfl : Try.prog.cellsOf 44 = 4))
  obtain ⟨fuel1, hf1⟩ := h1
  obtain ⟨xs, n1, _, _, hl1, hxl, hff⟩ := DataW.trod_struct Try.underlying44 hf1
  obtain ⟨y0, y1, y2, y3, rfl⟩ := list4 hxl
  have s1 : Try.prog.cellsOf 25 = 1 := by kernel_rfl
  have s2 : Try.prog.cellsOf 3 = 1 := by kernel_rfl
  have s3 : Try.prog.cellsOf 5 = 1 := by kernel_rfl
  have g0 : DataW.trod enc Try.prog W 0 (fun _ => true) true n1 25 ((List.drop 0 [c0, c1, c2, c3]).take (Try.prog.cellsOf 25)) = some y0 := hff 0 _ rfl
  have g1 : DataW.trod enc Try.prog W 0 (fun _ => true) true n1 3 ((List.drop 1 [c0, c1, c2, c3]).take (Try.prog.cellsOf 3)) = some y1 := hff 1 _ rfl
  have g2 : DataW.trod enc Try.prog W 0 (fun _ => true) true n1 3 ((List.drop 2 [c0, c1, c2, c3]).take (Try.prog.cellsOf 3)) = some y2 := hff 2 _ rfl
  have g3 : DataW.trod enc Try.prog W 0 (fun _ => true) true n1 5 ((List.drop 3 [c0, c1, c2, c3]).take (Try.prog.cellsOf 5)) = some y3 := hff 3 _ rfl
  rw [s1] at g0
  rw [s2] at g1 g2
  rw [s3] at g3
  obtain ⟨a1, len1, cap1, z1, e0, w1⟩ : ∃ a len cap zs, c0 = .slice a len cap ∧ IsRow .u8 W a len cap zs := by
    rcases open_ints (cs := [c0]) Try.underlying25 Try.underlying5 (by kernel_rfl) g0 with ⟨hcs, _⟩ | ⟨x, l, c, zs, hcs, _, hl, hm, hz, _, hcell, hwz⟩
    · injection hcs with hcs
      exact ⟨none, 0, 0, [], hcs, .inl ⟨rfl, rfl, rfl, rfl⟩⟩
    · injection hcs with hcs
      exact ⟨some x, l, c, zs, hcs, .inr ⟨x, rfl, hl, hm, by simpa using hz, hcell, hwz⟩⟩
  obtain ⟨i1, e1, _, _⟩ := DataW.trod_int (cs := [c1]) Try.underlying3 g1
  obtain ⟨i2, e2, _, _⟩ := DataW.trod_int (cs := [c2]) Try.underlying3 g2
  obtain ⟨i3, e3, _, w3⟩ := DataW.trod_int (cs := [c3]) Try.underlying5 g3
  obtain rfl : c1 = .int .i64 i1 := by injection e1
  obtain rfl : c2 = .int .i64 i2 := by injection e2
  obtain rfl : c3 = .int .u8 i3 := by injection e3
  subst e0
  obtain ⟨b3, rfl⟩ : ∃ b : UInt8, i3 = (b.toNat : Int) := ⟨UInt8.ofNat i3.toNat, by have := u8_wf w3; rw [UInt8.toNat_ofNat']; omega⟩
  obtain ⟨l1, hr1, hc1, hm1⟩ := w1.reads
  clear hA0 hval0
  refine (framesBack_any a0 len0 cap0 l0 a1 len1 cap1 l1 i1 i2 b3 W hr0 hc0 hm0 hs0 hr1 hc1 hm1).mono fun e W' ⟨he, bel⟩ => ?_
  subst he
  exact ⟨_, rfl, _, _, _, [], _, [], hW', trodAll_mk1 (shut_bool Try.underlying4 _), (trodAll_cons_mk (Below.trod laidOut (by kernel_rfl) (of_decide_eq_true (by kernel_rfl)) k0 bel lt0) (trodAll_cons_mk (Below.trod laidOut (by kernel_rfl) (of_decide_eq_true (by kernel_rfl)) k1 bel lt1) trodAll_mk0)), rfl, bel.frame _, fun h => by cases h⟩

theorem over : Rows.framesBackRow.holds Try.pinned (OpenSpec.ofChange Rows.framesBackSpec) :=
  OpenClaim.holds_of_wide 7 Try.f7 rfl rfl rfl rfl rfl rfl rfl ⟨rfl, rfl, rfl, rfl, rfl⟩ rfl rfl rfl rfl rfl (by kernel_rfl) Try.func7 (by kernel_rfl)
    (of_decide_eq_true (by kernel_rfl)) (by unfold Func.isWrapper; first | (rw [if_pos (by decide +kernel)]; kernel_rfl) | (rw [if_neg (by decide +kernel)]; exact ⟨rfl, rfl⟩))
    (fun os started H enc _ => lifted os started H enc)

theorem proved : Rows.FramesBackSaid := over
end Go.Proofs.Ytbpodmgogokpiaa.framesBack
namespace Go.Proofs.Ytbpodmgogokpiaa
theorem framesBackTrue : Rows.FramesBackSaid := framesBack.proved
end Go.Proofs.Ytbpodmgogokpiaa
