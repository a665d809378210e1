/- What a law is told of a row of lists of texts that comes in, as my walks read it: its cells, and that no text takes more than the form's reach. -/
import Derived.Test.YtbpodmgogokpiaaTxLift
import Derived.Test.YtbpodmgogokpiaaFrT
import Derived.ChangeSlices
namespace Go.Proofs.Ytbpodmgogokpiaa
open Go.RowKit Go.ChangeShapes Go.Deep
set_option linter.unusedVariables false
theorem at_place {W : World} {ad : Addr} {v : Value} (h : W.cell? ad = some v) : ∃ b o, ad = ⟨b, o, none⟩ ∧ b < W.heap.size := by
  obtain ⟨b, o, sp⟩ := ad
  have hsp : sp = none := by
    cases sp with
    | none => rfl
    | some z =>
      unfold World.cell? at h
      split at h
      · simp at h
      · cases h
  subst hsp
  obtain ⟨ob, hob, _⟩ := cells_of_cell h
  exact ⟨b, o, rfl, (Array.getElem?_eq_some_iff.1 hob).1⟩
theorem open_text_row {H : Type} {enc : TypeId × Value → H} {W : World} {fuel : Nat} {cs : List Value} {y : DataW H × List MemPlace} (hf : DataW.trod enc Try.prog W 0 (fun _ => true) true fuel 22 cs = some y) :
    ∃ (a : Option Addr) (len cap : Nat) (l : List ByteArray), cs = [.slice a len cap] ∧ Reads W W.heap.size 1 a len (svs l) ∧ len ≤ cap ∧ cap ≤ maxLen ∧ (∀ s ∈ l, ∃ elems spare, y.1 = .slice elems spare ∧ (DataW.lit (.string s.data.toList) : DataW H) ∈ elems) := by
  rcases open_strs Try.underlying22 Try.underlying9 (by kernel_rfl) hf with ⟨hcs, hx⟩ | ⟨ad, len, cap, m, Sx, hcs, _, hl, hm, hmm, hx, hcell⟩
  · exact ⟨none, 0, 0, [], hcs, Reads.none_ _ _ _ _, Nat.le_refl _, by decide, fun s hs => by cases hs⟩
  · rw [if_pos rfl] at hmm
    subst hmm
    refine ⟨some ad, len, m, (List.range len).map Sx, hcs, ⟨by simp [svs], fun hn => ?_⟩, hl, hm, fun s hs => ?_⟩
    · have h0 := (hcell 0 (by omega)).1
      have hx0 : ad.add 0 = ad := rfl
      rw [hx0] at h0
      obtain ⟨b, o, rfl, hb⟩ := at_place h0
      refine ⟨b, o, rfl, hb, fun i u hu => ?_⟩
      have hi : i < len := by
        have := (List.getElem?_eq_some_iff.1 hu).1
        simpa [svs] using this
      have hv := (hcell i (by omega)).1
      rw [add_lit] at hv
      rw [hv]
      simp [svs, hi] at hu
      rw [← hu]
    · obtain ⟨i, hi, rfl⟩ := List.mem_map.1 hs
      subst hx
      exact ⟨_, _, rfl, List.mem_map.2 ⟨i, hi, rfl⟩⟩
theorem open_rows {H : Type} {enc : TypeId × Value → H} {W : World} {ts : List TypeId} {ds : List (DataW H)} {j : Nat} {d : DataW H} {p : List MemPlace} {a : Option Addr} {len cap : Nat} (hsz : (DataW.weightsEach Try.prog ts ds).all (· ≤ reachBytes) = true) (ht : ts[j]? = some 39) (hd : ds[j]? = some d)
    (h : DataW.Trod enc Try.prog W 0 (fun _ => true) true 39 (.slice a len cap) d p) :
    ∃ (vs : List Value) (L : List (List ByteArray)), Rows2 W W.heap.size a len vs L ∧ len ≤ cap ∧ cap ≤ maxLen ∧ ∀ l ∈ L, ∀ s ∈ l, s.size ≤ 140737488351232 := by
  obtain ⟨fuel, hf⟩ := h
  rcases DataW.trod_slice Try.underlying39 hf with ⟨hcs, hx⟩ | ⟨ad, len', cap', elems, rest, n, _, hcs, hx, _, hl, hm, hlen, hel, _, _⟩
  · simp [Value.cells] at hcs
    obtain ⟨rfl, rfl, rfl⟩ := hcs
    exact ⟨[], [], ⟨Reads.none_ _ _ _ _, rfl, fun i l h => by simp at h⟩, Nat.le_refl _, by decide, fun l hl => by cases hl⟩
  · simp [Value.cells] at hcs
    obtain ⟨rfl, rfl, rfl⟩ := hcs
    injection hx with hx1 hx2
    have s1 : Try.prog.cellsOf 22 = 1 := by kernel_rfl
    have one : ∀ i, ∃ x : Option Addr × Nat × Nat × List ByteArray, i < len → W.cell? (ad.add i) = some (.slice x.1 x.2.1 x.2.2.1) ∧ Reads W W.heap.size 1 x.1 x.2.1 (svs x.2.2.2) ∧ x.2.1 ≤ x.2.2.1 ∧ x.2.2.1 ≤ maxLen ∧ ∀ s ∈ x.2.2.2, s.size ≤ 140737488351232 := by
      intro i
      by_cases hi : i < len
      · have h1 := hel i hi
        rw [s1, Nat.mul_one] at h1
        have hie : i < elems.length := by omega
        have hei : elems[i]? = some elems[i] := List.getElem?_eq_getElem hie
        rw [hei, Option.bind_eq_some_iff] at h1
        obtain ⟨cs', hcs', hy⟩ := h1
        obtain ⟨a', n', c', l, rfl, hr, h2, h3, h4⟩ := open_text_row hy
        refine ⟨(a', n', c', l), fun _ => ⟨cell_of_cells?_one hcs', hr, h2, h3, fun s hs => ?_⟩⟩
        obtain ⟨el, sp, e5, h6⟩ := h4 s hs
        have hm1 : s.data.toList.length ∈ DataW.weightsEach Try.prog ts ds := DataW.weights_mem_each ht hd _ (by
          rw [hx1]
          unfold DataW.weights
          rw [Try.underlying39]
          refine List.mem_cons_of_mem _ (List.mem_append.2 (.inl (weights_elem (d := elems[i].1) (List.mem_map.2 ⟨elems[i], List.getElem_mem hie, rfl⟩) _ ?_)))
          rw [e5]
          unfold DataW.weights
          rw [Try.underlying22]
          exact List.mem_cons_of_mem _ (List.mem_append.2 (.inl (weights_elem h6 _ (by unfold DataW.weights; simp)))))
        have h7 := List.all_eq_true.1 hsz _ hm1
        have h8 : s.data.toList.length ≤ reachBytes := of_decide_eq_true h7
        rw [Array.length_toList] at h8
        exact h8
      · exact ⟨(none, 0, 0, []), fun h => absurd h hi⟩
    obtain ⟨f, hf⟩ := Classical.skolem.1 one
    refine ⟨(List.range len).map fun i => .slice (f i).1 (f i).2.1 (f i).2.2.1, (List.range len).map fun i => (f i).2.2.2, ⟨⟨by simp, fun hn => ?_⟩, by simp, fun i l hi => ?_⟩, hl, hm, fun l hl' => ?_⟩
    · have h0 := (hf 0 (by omega)).1
      have hx0 : ad.add 0 = ad := rfl
      rw [hx0] at h0
      obtain ⟨b, o, rfl, hb⟩ := at_place h0
      refine ⟨b, o, rfl, hb, fun i u hu => ?_⟩
      have hi : i < len := by
        have := (List.getElem?_eq_some_iff.1 hu).1
        simpa using this
      have hv := (hf i hi).1
      rw [add_lit] at hv
      rw [hv]
      simp [hi] at hu
      rw [← hu]
    · have hil : i < len := by
        have := (List.getElem?_eq_some_iff.1 hi).1
        simpa using this
      simp [hil] at hi
      obtain ⟨h1, h2, h3, h4, h5⟩ := hf i hil
      subst hi
      exact ⟨(f i).1, (f i).2.1, (f i).2.2.1, by simp [hil], h2, h3, h4⟩
    · obtain ⟨i, hi, rfl⟩ := List.mem_map.1 hl'
      exact (hf i (List.mem_range.1 hi)).2.2.2.2
end Go.Proofs.Ytbpodmgogokpiaa
