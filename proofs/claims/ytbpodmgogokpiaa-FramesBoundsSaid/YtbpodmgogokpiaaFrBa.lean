/- Known values at the bounds of texts and bytes (plain part of FramesBounds). Conditions: those of each theorem. -/
import Derived.Test.YtbpodmgogokpiaaFrQ
import Derived.Test.YtbpodmgogokpiaaFrM
namespace Go.Proofs.Ytbpodmgogokpiaa
open Go.RowKit
set_option linter.unusedVariables false

theorem Reads.frontV {w : World} {B n : Nat} {A : Option Addr} {xs : List Value} (h : Reads w B 1 A n xs) {m : Nat} (hm : m ≤ n) : Reads w B 1 A m (xs.take m) := by
  refine ⟨by rw [List.length_take]; have := h.1; omega, fun h0 => ?_⟩
  obtain ⟨b, o, e, hb, hc⟩ := h.2 (by omega)
  exact ⟨b, o, e, hb, fun j u hu => hc j u (by
    rw [List.getElem?_take] at hu
    split at hu
    · exact hu
    · cases hu)⟩
theorem fsum_rep (n : Nat) : fsum (List.replicate n (⟨#[]⟩ : ByteArray)) (List.replicate n (⟨#[]⟩ : ByteArray)).length = 4 + n * 4 := by
  have h0 : (⟨#[]⟩ : ByteArray).size = 0 := rfl
  unfold fsum
  rw [List.take_length, List.map_replicate, List.sum_replicate_nat, h0]
theorem read_whole {l : List ByteArray} {k : Nat} (h1 : l.length ≤ 65536) (h2 : fsum l l.length ≤ 1048576) (h3 : ∀ s ∈ l, s.size < 4294967296) (hk : fsum l l.length + 8 = k) :
    ¬ sizeF l = 0 ∧ (frameF l).length = k ∧ readF (frameF l) = .inr (l, k) := by
  have hf := frame_length l
  have hb := frameF_len l
  refine ⟨by unfold sizeF; rw [if_pos ⟨h1, h2⟩]; omega, by omega, ?_⟩
  have hr := readF_frame l [] h1 (by omega) h3
  rw [List.append_nil] at hr
  rw [hr, hf, hk]
theorem bounds_rows : ∃ L P : List ByteArray, List.replicate 65537 (Value.string ⟨#[]⟩) = svs L ∧ svs P = (svs L).take 65536 ∧ L.length = 65537 ∧ P.length = 65536 ∧ (∀ s ∈ L, s.size ≤ 140737488351232) ∧ (∀ s ∈ P, s.size ≤ 140737488351232) ∧
    sizeF L = 0 ∧ ¬ sizeF P = 0 ∧ (frameF P).length = 262156 ∧ readF (frameF P) = .inr (P, 262156) := by
  have hz : ∀ n, ∀ s ∈ List.replicate n (⟨#[]⟩ : ByteArray), s.size = 0 := fun n s hs => by rw [(List.mem_replicate.1 hs).2]; rfl
  have hw := read_whole (l := List.replicate 65536 (⟨#[]⟩ : ByteArray)) (k := 262156) (by rw [List.length_replicate]; omega) (by rw [fsum_rep]; omega) (fun s hs => by rw [hz _ s hs]; omega) (by rw [fsum_rep])
  refine ⟨List.replicate 65537 ⟨#[]⟩, List.replicate 65536 ⟨#[]⟩, ?_, ?_, List.length_replicate .., List.length_replicate .., fun s hs => by rw [hz _ s hs]; omega, fun s hs => by rw [hz _ s hs]; omega, ?_, hw⟩
  · unfold svs; rw [List.map_replicate]
  · unfold svs; rw [List.map_replicate, List.map_replicate, List.take_replicate]; rfl
  · unfold sizeF
    rw [if_neg (fun h => by rw [List.length_replicate] at h; omega)]
theorem fsum_one (s : ByteArray) : fsum [s] [s].length = 8 + s.size := by
  unfold fsum
  simp
  omega
theorem bounds_fit {s : ByteArray} (h : s.size = 1048568) : ¬ sizeF [s] = 0 ∧ (frameF [s]).length = 1048584 ∧ readF (frameF [s]) = .inr ([s], 1048584) :=
  read_whole (by simp) (by rw [fsum_one, h]; omega) (fun x hx => by rw [List.mem_singleton.1 hx, h]; omega) (by rw [fsum_one, h])
theorem bounds_over {s : ByteArray} (h : s.size = 1048569) : sizeF [s] = 0 := by
  unfold sizeF
  rw [if_neg (fun e => by rw [fsum_one, h] at e; omega)]
theorem bounds_bytes : ∃ l : List UInt8, List.replicate 1048569 (Value.int .u8 0) = bvs l ∧ (⟨l.toArray⟩ : ByteArray).size = 1048569 := by
  refine ⟨List.replicate 1048569 0, ?_, ?_⟩
  · unfold bvs; rw [List.map_replicate]; rfl
  · show (List.replicate 1048569 (0 : UInt8)).toArray.size = 1048569
    rw [List.size_toArray, List.length_replicate]
theorem cut_size {s : ByteArray} (h : s.size = 1048569) : (s.extract 0 1048568).size = 1048568 := by
  rw [ByteArray.size_extract, h]; rfl
theorem bounds_no : readF [1, 0, 16, 0, 0, 0, 0, 0, 0] = .inl 121 := by
  have h : of4 [1, 0, 16, 0, 0, 0, 0, 0, 0] = 1048577 := by decide
  unfold readF
  rw [if_neg (by simp), h, if_pos (by omega)]
end Go.Proofs.Ytbpodmgogokpiaa
