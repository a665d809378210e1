/- What holds of a list of files behind a crash. -/
import Derived.Test.YtaaaljpnhfmbpaaDkCr
namespace Go.Proofs.Ytaaaljpnhfmbpaa
open Go.RowKit
set_option linter.unusedVariables false

theorem DKd.synced {B g r : Nat} {w : World} {d : DS} (h : DKd B w g r d) : ∀ x ∈ d.l, x.2.2 ≤ x.2.1.length := by
  obtain ⟨fs, hd, hp, hl⟩ := h
  intro x hx
  obtain ⟨f, hf, rfl⟩ := List.mem_map.1 (hp.mem_iff.2 hx)
  have h1 := hd.2.2.2.2.1 f hf
  have h2 := h1.len
  have h3 := h1.2.2.2
  show f.sy ≤ f.b.length
  omega
theorem FitK.crash {l : FL} {K : Nat} (h : FitK l K) (hs : ∀ x ∈ l, x.2.2 ≤ x.2.1.length) (ks : List Int) : FitK (crashL ks l) K := by
  refine ⟨by rw [crashL_len]; exact h.num, fun x hx => ?_⟩
  unfold crashL at hx
  obtain ⟨i, hi, rfl⟩ := List.mem_mapIdx.1 hx
  have h1 := h.all l[i] (List.getElem_mem _)
  have h2 := hs l[i] (List.getElem_mem _)
  have h3 := moreN_le ks i l[i].2.1.length l[i].2.2 h2
  unfold crash1
  refine ⟨h1.1, ?_, ?_⟩
  · show (List.take _ _).length ≤ _
    rw [List.length_take]
    omega
  · show l[i].2.2 + moreN ks i l[i].2.1.length l[i].2.2 ≤ _
    omega
end Go.Proofs.Ytaaaljpnhfmbpaa
