/- What Crash leaves of a list of files, at numbers of any length. -/
import Derived.Test.YtaaaljpnhfmbpaaDkT
import Derived.Test.YtaaaljpnhfmbpaaDkMb
namespace Go.Proofs.Ytaaaljpnhfmbpaa
open Go.RowKit
set_option linter.unusedVariables false
theorem crash_sW {B g r m mc : Nat} {M : Option Addr} {ks : List Int} {d : DS} (w : World) (h : DKd B w g r d) (hf : Fit d.l) (hM : Reads w w.heap.size 1 M m (ivs ks)) (hm : m ≤ maxLen) :
    Calls Try.prog 24 #[.pointer (some ⟨g, 0, none⟩), .slice M m mc] w fun e w' => ∃ g' r', e = .returned (.pointer (some ⟨g', 0, none⟩)) ∧ DKd w.heap.size w' g' r' ⟨crashL ks d.l, 0, false, 0⟩ ∧ Below w.heap.size w w' := by
  obtain ⟨l, st, en, lf⟩ := d
  obtain ⟨fs, hd, hp, hl⟩ := h
  have hlen : fs.length = l.length := by have := hp.length_eq; rw [List.length_map] at this; exact this
  have hin : ∀ x ∈ fs, fdat x ∈ l := fun x hx => hp.mem_iff.1 (List.mem_map.2 ⟨x, hx, rfl⟩)
  have hs := srt_dat hp hl
  refine (crash_anyW w hd hM hm (by rw [hlen]; exact hf.num) (fun x hx => hf.name _ (hin x hx)) (fun x hx => ?_) ?_).mono ?_
  · have := hf.size _ (hin x hx)
    rw [← (hd.2.2.2.2.1 x hx).len]
    exact Nat.le_trans this (by decide)
  · have h1 : (srtF fs).map (·.name) = l.map (·.1) := by
      rw [← (show (srtF fs).map fdat = l from hs), List.map_map]
      rfl
    rw [h1]
    exact hl.names
  · rintro e w' ⟨g', r', fs', rfl, h1, h2, h3⟩
    rw [hs] at h2
    exact ⟨g', r', rfl, ⟨fs', h1, by rw [h2], rise_crash ks hl⟩, h3⟩
end Go.Proofs.Ytaaaljpnhfmbpaa
