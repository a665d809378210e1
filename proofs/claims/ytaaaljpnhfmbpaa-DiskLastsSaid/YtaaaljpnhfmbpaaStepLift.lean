/- What a law is told of a step that comes in, as my walks read it. -/
import Derived.Test.YtaaaljpnhfmbpaaFileLift
import Derived.Test.YtaaaljpnhfmbpaaDkRa
import Derived.Test.YtaaaljpnhfmbpaaLift
namespace Go.Proofs.Ytaaaljpnhfmbpaa
open Go.RowKit Go.ChangeShapes Go.Deep
set_option linter.unusedVariables false
theorem list5S {α : Type} {l : List α} (h : l.length = 5) : ∃ a b c d e, l = [a, b, c, d, e] := by
  match l, h with
  | [a, b, c, d, e], _ => exact ⟨a, b, c, d, e, rfl⟩
theorem open_step {H : Type} {enc : TypeId × Value → H} {W : World} {fuel : Nat} {c0 c1 c2 c3 c4 : Value} {y : DataW H × List MemPlace} (hf : DataW.trod enc Try.prog W 0 (fun _ => true) true fuel 48 [c0, c1, c2, c3, c4] = some y) :
    ∃ (what : Int) (name tn : ByteArray) (M : Option Addr) (m mc : Nat) (bs : List UInt8) (z : Int), c0 = .int .i64 what ∧ c1 = .string name ∧ c2 = .string tn ∧ c3 = .slice M m mc ∧ c4 = .int .i64 z ∧ Reads W W.heap.size 1 M m (bvs bs) ∧ m ≤ mc ∧ mc ≤ maxLen ∧
      (name.data.toList.length ∈ DataW.weights Try.prog 48 y.1 ∧ tn.data.toList.length ∈ DataW.weights Try.prog 48 y.1) := by
  obtain ⟨xs, n1, _, hy, hl1, hxl, hff⟩ := DataW.trod_struct Try.underlying48 hf
  obtain ⟨y0, y1, y2, y3, y4, rfl⟩ := list5S hxl
  have s1 : Try.prog.cellsOf 9 = 1 := by kernel_rfl
  have s2 : Try.prog.cellsOf 3 = 1 := by kernel_rfl
  have s3 : Try.prog.cellsOf 35 = 1 := by kernel_rfl
  have g0 : DataW.trod enc Try.prog W 0 (fun _ => true) true n1 3 ((List.drop 0 [c0, c1, c2, c3, c4]).take (Try.prog.cellsOf 3)) = some y0 := hff 0 _ rfl
  have g1 : DataW.trod enc Try.prog W 0 (fun _ => true) true n1 9 ((List.drop 1 [c0, c1, c2, c3, c4]).take (Try.prog.cellsOf 9)) = some y1 := hff 1 _ rfl
  have g2 : DataW.trod enc Try.prog W 0 (fun _ => true) true n1 9 ((List.drop 2 [c0, c1, c2, c3, c4]).take (Try.prog.cellsOf 9)) = some y2 := hff 2 _ rfl
  have g3 : DataW.trod enc Try.prog W 0 (fun _ => true) true n1 35 ((List.drop 3 [c0, c1, c2, c3, c4]).take (Try.prog.cellsOf 35)) = some y3 := hff 3 _ rfl
  have g4 : DataW.trod enc Try.prog W 0 (fun _ => true) true n1 3 ((List.drop 4 [c0, c1, c2, c3, c4]).take (Try.prog.cellsOf 3)) = some y4 := hff 4 _ rfl
  rw [s2] at g0 g4
  rw [s1] at g1 g2
  rw [s3] at g3
  obtain ⟨i0, e0, _, _⟩ := DataW.trod_int (cs := [c0]) Try.underlying3 g0
  obtain ⟨a1, e1, x1, _⟩ := DataW.trod_string (cs := [c1]) Try.underlying9 g1
  obtain ⟨a2, e2, x2, _⟩ := DataW.trod_string (cs := [c2]) Try.underlying9 g2
  obtain ⟨i4, e4, _, _⟩ := DataW.trod_int (cs := [c4]) Try.underlying3 g4
  obtain ⟨M, m, mc, zs, e3, w3⟩ : ∃ a len cap zs, c3 = .slice a len cap ∧ IsRow .u8 W a len cap zs := by
    rcases open_ints (cs := [c3]) Try.underlying35 Try.underlying5 (by kernel_rfl) g3 with ⟨hcs, _⟩ | ⟨x, l, c, zs, hcs, _, hl, hm, hz, _, hcell, hwz⟩
    · injection hcs with hcs
      exact ⟨none, 0, 0, [], hcs, .inl ⟨rfl, rfl, rfl, rfl⟩⟩
    · injection hcs with hcs
      exact ⟨some x, l, c, zs, hcs, .inr ⟨x, rfl, hl, hm, by simpa using hz, hcell, hwz⟩⟩
  obtain ⟨bs, hr3, hc3, hm3⟩ := w3.reads
  injection e0 with e0
  injection e1 with e1
  injection e2 with e2
  injection e4 with e4
  refine ⟨i0, a1, a2, M, m, mc, bs, i4, e0, e1, e2, e3, e4, hr3, hc3, hm3, ?_, ?_⟩
  all_goals
    rw [hy, x1, x2]
    unfold DataW.weights
    rw [Try.underlying48]
    simp [DataW.weightsEach, DataW.weights]
end Go.Proofs.Ytaaaljpnhfmbpaa
