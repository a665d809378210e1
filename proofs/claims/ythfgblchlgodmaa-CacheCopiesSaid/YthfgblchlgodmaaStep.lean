/- Steps of a region that draws its order: a conversion of a text to bytes; four bytes of a number (the document's). Conditions: those of each theorem. -/
import Derived.Test.YthfgblchlgodmaaLib
import Derived.Test.YthfgblchlgodmaaGrow
namespace Go.Proofs.Ythfgblchlgodmaa
open Go.RowKit
set_option linter.unusedVariables false
theorem step_bytesOf {P : Program} {ops : Array Oper} {o : Oper} {a : Act} {w : World} {K : Act → World → Prop} {Q : Exit → Act → World → Prop} {E : Prop} (hgd : o.guard = none) (x : Operand) (src dst e : TypeId) (ho : o.op = .convert src dst x)
    (hs : P.underlying src = some .string) (hd : P.underlying dst = some (.slice e)) (he : P.underlying e = some (.int .u8)) (s : ByteArray) (hx : a.eval x = .string s) (hsz : s.size ≤ maxLen)
    (h : ∀ c w', Below w.heap.size w w' → w'.heap.size = w.heap.size + 1 → Reads w' (w.heap.size + 1) 1 (some ⟨w.heap.size, 0, none⟩) s.size (bvs s.data.toList) → s.size ≤ c → c ≤ maxLen →
      K (a.put o.dst (.slice (some ⟨w.heap.size, 0, none⟩) s.size c)) w') : if Region.wanted o (yielded ops a.tmps) = true then Oper.wp P o a w K Q else E := by
  have hw : Region.wanted o (yielded ops a.tmps) = true := by simp [Region.wanted, hgd]
  rw [if_pos hw]
  have hr := run_bytes_of_string (P := P) w src dst e s hs hd he
  unfold Oper.wp execOp
  simp only [ho, hx, Sem.run_bind, Sem.run_pure, hr, Result.andThen_ok]
  have hge := grownCap_ge w s.size 0 e
  refine h _ _ ?_ (by simp) ?_ hge (grownCap_le_maxLen _ _ _ _ hsz)
  · exact ((Below.refl _ _).drew.alloc (by simp) _)
  · refine ⟨by simp [bvs], fun _ => ⟨_, _, rfl, by omega, fun j u hu => ?_⟩⟩
    have hlt : j < s.size := by have := (List.getElem?_eq_some_iff.1 hu).1; simpa [bvs] using this
    have hb : (w.drew.alloc (.cells (bytesRow s (grownCap w s.size 0 e)) e ((bytesRow s (grownCap w s.size 0 e)).size, (bytesRow s (grownCap w s.size 0 e)).size + 1))).heap[w.heap.size]? = some (.cells (bytesRow s (grownCap w s.size 0 e)) e ((bytesRow s (grownCap w s.size 0 e)).size, (bytesRow s (grownCap w s.size 0 e)).size + 1)) := heap_alloc_new w.drew _
    rw [Nat.zero_add, cell_of_row _ _ _ _ _ _ hb]
    rw [bvs_at] at hu
    rw [← hu]
    simp [bytesRow, Array.getElem?_append, hlt]

/-- a text's bytes: the value and the world of the conversion, closed to the walk -/
def convW (s : ByteArray) (e : TypeId) (w : World) : World := w.drew.alloc (.cells (bytesRow s (grownCap w s.size 0 e)) e ((bytesRow s (grownCap w s.size 0 e)).size, (bytesRow s (grownCap w s.size 0 e)).size + 1))
def convV (s : ByteArray) (e : TypeId) (w : World) : Value := .slice (some ⟨w.heap.size, 0, none⟩) s.size (grownCap w s.size 0 e)
theorem run_conv {P : Program} (w : World) (src dst e : TypeId) (s : ByteArray) (hs : P.underlying src = some .string) (hd : P.underlying dst = some (.slice e)) (he : P.underlying e = some (.int .u8)) : (convert src dst (.string s)).run P w = .ok (convV s e w) (convW s e w) :=
  run_bytes_of_string (P := P) w src dst e s hs hd he
theorem convW_below (s : ByteArray) (e : TypeId) (w : World) : Below w.heap.size w (convW s e w) := (Below.refl _ _).drew.alloc (by simp) _
theorem convW_reads (s : ByteArray) (e : TypeId) (w : World) : Reads (convW s e w) (convW s e w).heap.size 1 (some ⟨w.heap.size, 0, none⟩) s.size (bvs s.data.toList) := by
  refine ⟨by simp [bvs], fun _ => ⟨_, _, rfl, by simp [convW], fun j u hu => ?_⟩⟩
  have hlt : j < s.size := by have := (List.getElem?_eq_some_iff.1 hu).1; simpa [bvs] using this
  have hb : (convW s e w).heap[w.heap.size]? = some (.cells (bytesRow s (grownCap w s.size 0 e)) e ((bytesRow s (grownCap w s.size 0 e)).size, (bytesRow s (grownCap w s.size 0 e)).size + 1)) := heap_alloc_new w.drew _
  rw [Nat.zero_add, cell_of_row _ _ _ _ _ _ hb]
  rw [bvs_at] at hu
  rw [← hu]
  simp [bytesRow, Array.getElem?_append, hlt]
end Go.Proofs.Ythfgblchlgodmaa
