/- Known values at the bounds of texts (plain part of DequeBounds). Conditions: those of each theorem. -/
import Derived.Test.YtlglelgnpkdnbaaDqO
namespace Go.Proofs.Ytlglelgnpkdnbaa
open Go.RowKit
set_option linter.unusedVariables false

theorem u8_ok : ElemOk Try.prog 5 1 1 (.int .u8 0) := elemOk (by kernel_rfl) rfl (by decide)
theorem Reads.frontV {w : World} {B n : Nat} {A : Option Addr} {xs : List Value} (h : Reads w B 1 A n xs) {m : Nat} (hm : m ≤ n) : Reads w B 1 A m (xs.take m) := by
  refine ⟨by rw [List.length_take]; have := h.1; omega, fun h0 => ?_⟩
  obtain ⟨b, o, e, hb, hc⟩ := h.2 (by omega)
  exact ⟨b, o, e, hb, fun j u hu => hc j u (by
    rw [List.getElem?_take] at hu
    split at hu
    · exact hu
    · cases hu)⟩
theorem bounds_rows : ∃ L P : List ByteArray, List.replicate 65537 (Value.string ⟨#[]⟩) = svs L ∧ svs P = (svs L).take 65536 ∧ P.length = 65536 ∧ (∀ s ∈ P, s.size ≤ 1048576) := by
  refine ⟨List.replicate 65537 ⟨#[]⟩, List.replicate 65536 ⟨#[]⟩, ?_, ?_, List.length_replicate .., fun s hs => by rw [(List.mem_replicate.1 hs).2]; exact Nat.zero_le _⟩
  · unfold svs; rw [List.map_replicate]
  · unfold svs; rw [List.map_replicate, List.map_replicate, List.take_replicate]; rfl
theorem bounds_bytes : ∃ l : List UInt8, List.replicate 1048577 (Value.int .u8 0) = bvs l ∧ (⟨l.toArray⟩ : ByteArray).size = 1048577 := by
  refine ⟨List.replicate 1048577 0, ?_, ?_⟩
  · unfold bvs; rw [List.map_replicate]; rfl
  · show (List.replicate 1048577 (0 : UInt8)).toArray.size = 1048577
    rw [List.size_toArray, List.length_replicate]
theorem cut_size {s : ByteArray} (h : s.size = 1048577) : (s.extract 0 1048576).size = 1048576 := by
  rw [ByteArray.size_extract, h]; rfl
end Go.Proofs.Ytlglelgnpkdnbaa
