/- The law SumsBlock returns true at every input: no conditions. -/
import Derived.Test.YtiheldbiaamabaaRows
import Derived.WalkKit
import Derived.ProofKit
import Derived.OpenShut
import Derived.ShutString
import Derived.ChangeOld
import Derived.Below
import Derived.Test.YtiheldbiaamabaaLawH
import Derived.Test.YtiheldbiaamabaaLift
namespace Go.Proofs.Ytiheldbiaamabaa.sumsBlock
open Go.ChangeShapes Go.WideShapes Go.ChangeAt Go.RowKit
open Go.ChangeMaps (open_string shut_string)
set_option linter.unusedVariables false

theorem own : ownKnob Try.prog.godebug = none := by kernel_rfl
theorem laidOut : laidOutB Try.prog = true := by kernel_rfl
theorem cells25 : Try.prog.cellsOf 25 = 1 := by kernel_rfl
theorem cells36 : Try.prog.cellsOf 36 = 5 := by kernel_rfl
theorem list5 {α : Type} (l : List α) (h : (⟨l⟩ : Array α).size = 5) : ∃ a b c d e, l = [a, b, c, d, e] := by
  match l, h with
  | [a, b, c, d, e], _ => exact ⟨a, b, c, d, e, rfl⟩
theorem trod5 {H : Type} {enc : TypeId × Value → H} {P : Program} {w : World} {base : Nat} {spare : Nat → Bool} {held : Bool} {t e : TypeId} {fuel : Nat} {c0 c1 c2 c3 c4 : Value} {x : DataW H × List MemPlace} (ht : P.underlying t = some (.array 5 e)) (hce : P.cellsOf e = 1)
    (h : DataW.trod enc P w base spare held fuel t [c0, c1, c2, c3, c4] = some x) :
    ∃ y0 y1 y2 y3 y4 n, x = (.agg [y0.1, y1.1, y2.1, y3.1, y4.1], y0.2 ++ (y1.2 ++ (y2.2 ++ (y3.2 ++ y4.2)))) ∧ DataW.trod enc P w base spare held n e [c0] = some y0 ∧ DataW.trod enc P w base spare held n e [c1] = some y1 ∧ DataW.trod enc P w base spare held n e [c2] = some y2 ∧ DataW.trod enc P w base spare held n e [c3] = some y3 ∧ DataW.trod enc P w base spare held n e [c4] = some y4 := by
  obtain ⟨xs, m, rfl, rfl, _, hl, hi⟩ := DataW.trod_array ht h
  obtain ⟨y0, y1, y2, y3, y4, rfl⟩ := list5 xs (by simpa using hl)
  refine ⟨y0, y1, y2, y3, y4, m, by simp, ?_, ?_, ?_, ?_, ?_⟩
  · simpa [hce] using hi 0 (by decide)
  · simpa [hce] using hi 1 (by decide)
  · simpa [hce] using hi 2 (by decide)
  · simpa [hce] using hi 3 (by decide)
  · simpa [hce] using hi 4 (by decide)

theorem walk (x0 x1 x2 x3 x4 : Int) (a1 : Option Addr) (len1 cap1 : Nat) (z1 : List Int) (w : World) (k0 : (Lit.int .u32 x0).wf = true) (k1 : (Lit.int .u32 x1).wf = true) (k2 : (Lit.int .u32 x2).wf = true) (k3 : (Lit.int .u32 x3).wf = true) (k4 : (Lit.int .u32 x4).wf = true) (w1 : IsRow .u8 w a1 len1 cap1 z1) :
    Calls Try.prog 7 #[.agg #[.int .u32 x0, .int .u32 x1, .int .u32 x2, .int .u32 x3, .int .u32 x4], .slice a1 len1 cap1] w fun e w' => e = .returned (.bool true) ∧ Below w.heap.size w w' := by
  obtain ⟨l, hr, h1, h2⟩ := w1.reads
  obtain ⟨s0, rfl, hs0⟩ := u32_wf k0
  obtain ⟨s1, rfl, hs1⟩ := u32_wf k1
  obtain ⟨s2, rfl, hs2⟩ := u32_wf k2
  obtain ⟨s3, rfl, hs3⟩ := u32_wf k3
  obtain ⟨s4, rfl, hs4⟩ := u32_wf k4
  exact sumsBlock_any ⟨s0, s1, s2, s3, s4⟩ ⟨hs0, hs1, hs2, hs3, hs4⟩ a1 len1 cap1 l w hr h1 h2

set_option maxHeartbeats 1000000 in
set_option maxRecDepth 100000 in
theorem lifted (os : Os) (started : os.Started) (H : Type) (enc : TypeId × Value → H) :
    ReturnsInHanded {} Try.checked os 7 .any (Rows.sumsBlockSpec.pre6 enc Try.prog Try.f7 Rows.sumsBlockRow.domain false) (Rows.sumsBlockSpec.post enc Try.prog Try.f7 false true false false) := by
  refine returnsInHanded_of_change (C := Try.checked) own started (by kernel_rfl) Try.func7
    (ChangeSpec.witness6 (enc := enc) (C := Try.checked) false ⟨#[], #[.agg #[.int .u32 0, .int .u32 0, .int .u32 0, .int .u32 0, .int .u32 0], .slice none 0 0], []⟩ 8 (by kernel_rfl) (by kernel_rfl) (by kernel_rfl) (by kernel_rfl)) ?_
  intro W base args ds gs before hval0 hW hcnd _
  have hval : ∀ (j : Nat) t v, Try.f7.params[j]? = some t → args[j]? = some v → Value.okWide Try.prog W .any base t v := hval0
  have hW' := hW
  obtain ⟨p, q, hA0, hV, rfl, hfz, hnd⟩ := hW
  have hA : DataW.TrodAll enc Try.prog W 0 (fun _ => true) true Try.f7.params.toList args.toList ds p := hA0
  rw [Try.params7] at hA hval
  obtain ⟨v0, vs0, d0, ds0, p0, q0, hargs, rfl, rfl, h0, r0⟩ := trodAll_cons hA
  obtain ⟨v1, vs1, d1, ds1, p1, q1, rfl, rfl, rfl, h1, r1⟩ := trodAll_cons r0
  obtain ⟨rfl, rfl, rfl⟩ := trodAll_nil r1
  obtain rfl : args = #[v0, v1] := by cases args; simp_all
  obtain ⟨rfl, rfl⟩ := trodVars_none hV
  obtain ⟨cs, rfl, hsz, _⟩ : ∃ cs, v0 = .agg cs ∧ cs.size = Try.prog.cellsOf 36 ∧ Row.okWide Try.prog W .any base 36 cs := by
    have := hval 0 36 v0 rfl rfl
    simpa [Value.okWide, Try.underlying36] using this
  rw [cells36] at hsz
  obtain ⟨l⟩ := cs
  obtain ⟨c0, c1, c2, c3, c4, rfl⟩ := list5 l hsz
  obtain ⟨fuel0, hf0⟩ := h0
  obtain ⟨y0, y1, y2, y3, y4, m, hx, hy0, hy1, hy2, hy3, hy4⟩ := trod5 Try.underlying36 cells25 hf0
  obtain ⟨x0, e0, rfl, w0⟩ := DataW.trod_int Try.underlying25 hy0
  obtain ⟨x1, e1, rfl, w1'⟩ := DataW.trod_int Try.underlying25 hy1
  obtain ⟨x2, e2, rfl, w2⟩ := DataW.trod_int Try.underlying25 hy2
  obtain ⟨x3, e3, rfl, w3⟩ := DataW.trod_int Try.underlying25 hy3
  obtain ⟨x4, e4, rfl, w4⟩ := DataW.trod_int Try.underlying25 hy4
  simp at e0 e1 e2 e3 e4
  subst e0 e1 e2 e3 e4
  simp only [Prod.mk.injEq, List.append_nil] at hx
  obtain ⟨rfl, rfl⟩ := hx
  obtain ⟨a1, len1, cap1, rfl⟩ := okWide_slice Try.underlying22 (hval 1 22 v1 rfl rfl)
  have k1 := h1
  have lt1 : ∀ x ∈ p1, x.block < W.heap.size := by obtain ⟨m, hm⟩ := k1; exact DataW.trod_lt m _ _ _ hm
  obtain ⟨z1, w1⟩ : ∃ zs, IsRow .u8 W a1 len1 cap1 zs := by
    obtain ⟨fuel, hf⟩ := h1
    rcases open_ints Try.underlying22 Try.underlying5 (by kernel_rfl) hf with ⟨hcs, _⟩ | ⟨x, l, c, zs, hcs, _, hl, hm, hz, _, hcell, hwz⟩
    · simp [Value.cells] at hcs
      obtain ⟨rfl, rfl, rfl⟩ := hcs
      exact ⟨[], .inl ⟨rfl, rfl, rfl, rfl⟩⟩
    · simp [Value.cells] at hcs
      obtain ⟨rfl, rfl, rfl⟩ := hcs
      exact ⟨zs, .inr ⟨_, rfl, hl, hm, by simpa using hz, hcell, hwz⟩⟩
  clear hA0 hval0
  refine (walk x0 x1 x2 x3 x4 a1 len1 cap1 z1 W w0 w1' w2 w3 w4 w1).mono fun e W' ⟨he, bel⟩ => ?_
  subst he
  have rdA : ∀ sp : Nat → Bool, DataW.Trod enc Try.prog W' 0 sp true 36 (.agg #[.int .u32 x0, .int .u32 x1, .int .u32 x2, .int .u32 x3, .int .u32 x4]) (DataW.agg [.lit (.int .u32 x0), .lit (.int .u32 x1), .lit (.int .u32 x2), .lit (.int .u32 x3), .lit (.int .u32 x4)]) [] := fun sp => ⟨2, by simp [DataW.trod, Value.cells, Try.underlying36, Try.underlying25, cells25, cells36, w0, w1', w2, w3, w4, show List.range 5 = [0, 1, 2, 3, 4] from rfl]⟩
  exact ⟨_, rfl, _, _, _, [], _, [], hW', trodAll_mk1 (shut_bool Try.underlying4 _), (trodAll_cons_mk (rdA _) (trodAll_cons_mk (Below.trod laidOut (by kernel_rfl) (of_decide_eq_true (by kernel_rfl)) k1 bel lt1) trodAll_mk0)), rfl, bel.frame _, fun h => by cases h⟩

theorem over : Rows.sumsBlockRow.holds Try.pinned (OpenSpec.ofChange Rows.sumsBlockSpec) :=
  OpenClaim.holds_of_wide 7 Try.f7 rfl rfl rfl rfl rfl rfl rfl ⟨rfl, rfl, rfl, rfl, rfl⟩ rfl rfl rfl rfl rfl (by kernel_rfl) Try.func7 (by kernel_rfl)
    (of_decide_eq_true (by kernel_rfl)) (by unfold Func.isWrapper; first | (rw [if_pos (by decide +kernel)]; kernel_rfl) | (rw [if_neg (by decide +kernel)]; exact ⟨rfl, rfl⟩))
    (fun os started H enc _ => lifted os started H enc)

theorem proved : Rows.SumsBlockSaid := over
end Go.Proofs.Ytiheldbiaamabaa.sumsBlock
namespace Go.Proofs.Ytiheldbiaamabaa
theorem sumsBlockTrue : Rows.SumsBlockSaid := sumsBlock.proved
end Go.Proofs.Ytiheldbiaamabaa
