/- What a law is told of a slice of ints that comes in, as my walks read it. -/
import Derived.Test.YtaaaljpnhfmbpaaStepLift
import Derived.Test.YtaaaljpnhfmbpaaDkM
namespace Go.Proofs.Ytaaaljpnhfmbpaa
open Go.RowKit Go.ChangeShapes Go.Deep
set_option linter.unusedVariables false
theorem IsRow.ireads {w : World} {a : Option Addr} {len cap : Nat} {zs : List Int} (h : IsRow .i64 w a len cap zs) : ∃ l : List Int, Reads w w.heap.size 1 a len (ivs l) ∧ len ≤ cap ∧ cap ≤ maxLen := by
  rcases h with ⟨rfl, rfl, rfl, rfl⟩ | ⟨x, rfl, h1, h2, h3, h4, h5⟩
  · exact ⟨[], Reads.none_ _ _ _ _, Nat.le_refl _, by decide⟩
  · refine ⟨zs.take len, ⟨by simp [ivs]; omega, fun hn => ?_⟩, h1, h2⟩
    have h0 := h4 0 (by omega)
    have hx : x.add 0 = x := rfl
    rw [hx] at h0
    obtain ⟨b, o, sp⟩ := x
    have hsp : sp = none := by
      cases sp with
      | none => rfl
      | some z =>
        unfold World.cell? at h0
        split at h0
        · simp at h0
        · cases h0
    subst hsp
    obtain ⟨ob, hob, _⟩ := cells_of_cell h0
    refine ⟨b, o, rfl, (Array.getElem?_eq_some_iff.1 hob).1, fun j u hu => ?_⟩
    have hj : j < len := by
      have := (List.getElem?_eq_some_iff.1 hu).1
      simp [ivs] at this
      omega
    have h6 := h4 j (by omega)
    have hadd : (⟨b, o, none⟩ : Addr).add j = ⟨b, o + j, none⟩ := by unfold Addr.add; split <;> simp_all
    rw [hadd] at h6
    rw [h6]
    have hjz : j < zs.length := by omega
    simp only [ivs, List.getElem?_map, List.getElem?_take, if_pos hj, List.getElem?_eq_getElem hjz, Option.map_some] at hu
    injection hu with hu
    rw [← hu, List.getD_eq_getElem?_getD, List.getElem?_eq_getElem hjz, Option.getD_some]
theorem open_keep {H : Type} {enc : TypeId × Value → H} {W : World} {fuel : Nat} {v : Value} {y : DataW H × List MemPlace} (g : DataW.trod enc Try.prog W 0 (fun _ => true) true fuel 42 [v] = some y) :
    ∃ (K : Option Addr) (mk ck : Nat) (ks : List Int), v = .slice K mk ck ∧ Reads W W.heap.size 1 K mk (ivs ks) ∧ mk ≤ ck ∧ ck ≤ maxLen := by
  obtain ⟨M, m, mc, zs, e3, w3⟩ : ∃ a len cap zs, v = .slice a len cap ∧ IsRow .i64 W a len cap zs := by
    rcases open_ints (cs := [v]) Try.underlying42 Try.underlying3 (by kernel_rfl) g with ⟨hcs, _⟩ | ⟨x, l, c, zs, hcs, _, hl, hm, hz, _, hcell, hwz⟩
    · injection hcs with hcs
      exact ⟨none, 0, 0, [], hcs, .inl ⟨rfl, rfl, rfl, rfl⟩⟩
    · injection hcs with hcs
      exact ⟨some x, l, c, zs, hcs, .inr ⟨x, rfl, hl, hm, by simpa using hz, hcell, hwz⟩⟩
  obtain ⟨ks, hr, h1, h2⟩ := w3.ireads
  exact ⟨M, m, mc, ks, e3, hr, h1, h2⟩
end Go.Proofs.Ytaaaljpnhfmbpaa
