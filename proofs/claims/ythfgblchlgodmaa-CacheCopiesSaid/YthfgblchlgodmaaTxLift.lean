/- What a law is told of a slice of texts that comes in, as my walks read it: its cells, and that no text takes more than the form's reach. -/
import Derived.Test.YthfgblchlgodmaaTx
import Derived.ProofKit
import Derived.SizedLaws
import Derived.Deep.Strs
import Derived.RangeFuncOwn
namespace Go.Proofs.Ythfgblchlgodmaa
open Go.RowKit Go.ChangeShapes Go.Deep
set_option linter.unusedVariables false
theorem weights_elem {H : Type} {P : Program} {e : TypeId} : ∀ {ds : List (DataW H)} {d : DataW H}, d ∈ ds → ∀ n ∈ d.weights P e, n ∈ DataW.weightsAll P e ds
  | [], d, h, n, hn => by cases h
  | x :: r, d, h, n, hn => by
    unfold DataW.weightsAll
    rcases List.mem_cons.1 h with rfl | h
    · exact List.mem_append.2 (.inl hn)
    · exact List.mem_append.2 (.inr (weights_elem h n hn))
theorem strs_sized {H : Type} {P : Program} {ts : List TypeId} {ds : List (DataW H)} {j : Nat} {t e : TypeId} {elems spare : List (DataW H)} {s : ByteArray} (h : (DataW.weightsEach P ts ds).all (· ≤ reachBytes) = true) (ht : ts[j]? = some t) (hd : ds[j]? = some (.slice elems spare)) (hu : P.underlying t = some (.slice e))
    (hi : (DataW.lit (.string s.data.toList) : DataW H) ∈ elems) : s.size ≤ reachBytes := by
  have hm : s.data.toList.length ∈ DataW.weightsEach P ts ds := DataW.weights_mem_each ht hd _ (by
    unfold DataW.weights
    rw [hu]
    exact List.mem_cons_of_mem _ (List.mem_append.2 (.inl (weights_elem hi _ (by unfold DataW.weights; simp)))))
  have h2 := List.all_eq_true.1 h _ hm
  generalize reachBytes = rb at *
  have h3 : s.data.toList.length ≤ rb := of_decide_eq_true h2
  rw [Array.length_toList] at h3
  exact h3
theorem str_sized {H : Type} {P : Program} {ts : List TypeId} {ds : List (DataW H)} {j : Nat} {t : TypeId} {s : ByteArray} (h : (DataW.weightsEach P ts ds).all (· ≤ reachBytes) = true) (ht : ts[j]? = some t) (hd : ds[j]? = some (.lit (.string s.data.toList))) : s.size ≤ 140737488351232 := by
  have hm : s.data.toList.length ∈ DataW.weightsEach P ts ds := DataW.weights_mem_each ht hd _ (by unfold DataW.weights; simp)
  have h2 := List.all_eq_true.1 h _ hm
  have h3 : s.data.toList.length ≤ reachBytes := of_decide_eq_true h2
  rw [Array.length_toList] at h3
  exact h3
theorem open_texts {H : Type} {enc : TypeId × Value → H} {W : World} {ts : List TypeId} {ds : List (DataW H)} {j : Nat} {d : DataW H} {p : List MemPlace} {a : Option Addr} {len cap : Nat} (hsz : (DataW.weightsEach Try.prog ts ds).all (· ≤ reachBytes) = true) (ht : ts[j]? = some 60) (hd : ds[j]? = some d)
    (h : DataW.Trod enc Try.prog W 0 (fun _ => true) true 60 (.slice a len cap) d p) :
    ∃ l : List ByteArray, Reads W W.heap.size 1 a len (svs l) ∧ len ≤ cap ∧ cap ≤ maxLen ∧ ∀ s ∈ l, s.size ≤ 140737488351232 := by
  obtain ⟨fuel, hf⟩ := h
  rcases open_strs Try.underlying60 Try.underlying9 (by kernel_rfl) hf with ⟨hcs, hx⟩ | ⟨ad, len', cap', m, Sx, hcs, _, hl, hm, hmm, hx, hcell⟩
  · simp [Value.cells] at hcs
    obtain ⟨rfl, rfl, rfl⟩ := hcs
    exact ⟨[], Reads.none_ _ _ _ _, Nat.le_refl _, by decide, fun s hs => by cases hs⟩
  · simp [Value.cells] at hcs
    obtain ⟨rfl, rfl, rfl⟩ := hcs
    rw [if_pos rfl] at hmm
    subst hmm
    injection hx with hx1 hx2
    refine ⟨(List.range len).map Sx, ⟨by simp [svs], fun hn => ?_⟩, hl, hm, fun s hs => ?_⟩
    · have h0 := (hcell 0 (by omega)).1
      have hx0 : ad.add 0 = ad := rfl
      rw [hx0] at h0
      obtain ⟨b, o, sp⟩ := ad
      have hsp : sp = none := by
        cases sp with
        | none => rfl
        | some z =>
          unfold World.cell? at h0
          split at h0
          · simp at h0
          · cases h0
      subst hsp
      obtain ⟨ob, hob, _⟩ := cells_of_cell h0
      refine ⟨b, o, rfl, (Array.getElem?_eq_some_iff.1 hob).1, fun i u hu => ?_⟩
      have hi : i < len := by
        have := (List.getElem?_eq_some_iff.1 hu).1
        simpa [svs] using this
      have hv := (hcell i (by omega)).1
      rw [add_lit] at hv
      rw [hv]
      simp [svs, hi] at hu
      rw [← hu]
    · obtain ⟨i, hi, rfl⟩ := List.mem_map.1 hs
      have := strs_sized (s := Sx i) hsz ht (by rw [hd, hx1]) Try.underlying60 (List.mem_map.2 ⟨i, hi, rfl⟩)
      exact this
end Go.Proofs.Ythfgblchlgodmaa
