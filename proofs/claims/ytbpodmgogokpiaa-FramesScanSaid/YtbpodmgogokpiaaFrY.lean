/- Parts of the walk of FramesRows: a row of lists that a call made is read as any row; what is scanned is short. Conditions: those of each theorem. -/
import Derived.Test.YtbpodmgogokpiaaFrX
import Derived.Test.YtbpodmgogokpiaaFrL
import Derived.Test.YtbpodmgogokpiaaFrT
import Derived.Test.YtbpodmgogokpiaaFrM
namespace Go.Proofs.Ytbpodmgogokpiaa
open Go.RowKit
set_option linter.unusedVariables false

theorem LOwn.rows2 {w : World} {B : Nat} {v : Value} {ps : List SPart} (h : LOwn w B v ps) : ∃ A c, v = .slice A ps.length c ∧ ps.length ≤ c ∧ c ≤ maxLen ∧ Rows2 w w.heap.size A ps.length (lvs ps) (ps.map (·.l)) := by
  obtain ⟨h1, h2⟩ := h
  obtain ⟨A, c, rfl, hc1, hc2⟩ := own_slice h1
  refine ⟨A, c, rfl, hc1, hc2, Reads.of_own h1, by simp [lvs], fun i l hi => ?_⟩
  rw [List.getElem?_map, Option.map_eq_some_iff] at hi
  obtain ⟨p, hp, rfl⟩ := hi
  have h3 := h2 p (List.mem_of_getElem? hp)
  obtain ⟨A', c', e, hc3, hc4⟩ := own_slice h3
  injection e with e1 e2 e3
  refine ⟨p.A, p.n, p.c, by simp [lvs, hp], ?_, by omega, by omega⟩
  exact Reads.of_own h3
theorem frame_of_scan {b : List UInt8} {l : List ByteArray} (n : Nat) (hn : b.length ≤ n) (hl : l ∈ (scanF b).1) : (frameF l).length ≤ b.length := by
  have h := scan_back n b hn
  have h1 : (frameF l).length ≤ (((scanF b).1.map frameF).flatten).length := by
    obtain ⟨x, y, e⟩ := List.append_of_mem hl
    rw [e, List.map_append, List.map_cons, List.flatten_append, List.flatten_cons, List.length_append, List.length_append]
    omega
  rw [h.1, List.length_take] at h1
  omega
theorem size_of_scan {b : List UInt8} {l : List ByteArray} (n : Nat) (hn : b.length ≤ n) (hb : b.length ≤ 200000) (hl : l ∈ (scanF b).1) : ¬ sizeF l = 0 := by
  have h := frame_of_scan n hn hl
  rw [frame_length] at h
  have h2 : fsum l l.length = 4 + accT l l.length := by unfold fsum accT; rfl
  have h3 := (accT_all l).1
  have h4 : accT l l.length = (l.map fun s => 4 + s.size).sum := by unfold accT; rw [List.take_length]
  unfold sizeF
  rw [if_pos ⟨by omega, by omega⟩]
  omega
end Go.Proofs.Ytbpodmgogokpiaa
