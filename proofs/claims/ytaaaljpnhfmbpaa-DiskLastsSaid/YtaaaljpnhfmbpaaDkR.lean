/- The walks of a step's own functions: Cut's, Rename's, Remove's (package disk). Conditions: those of each theorem. -/
import Derived.Test.YtaaaljpnhfmbpaaDkQ
import Derived.BigRegion
namespace Go.Proofs.Ytaaaljpnhfmbpaa
open Go.RowKit
set_option linter.unusedVariables false

set_option maxHeartbeats 2000000 in
theorem cut1_any {p nb n c sy : Nat} {z : Int} {A : Option Addr} (w : World) (hp : Blk w p 67 (fcells A n c sy)) (hb : Blk w nb 3 #[.int .i64 z]) :
    Calls Try.prog 45 #[.pointer (some ⟨p, 0, none⟩), .pointer (some ⟨nb, 0, none⟩)] w fun e w' => e = .returned (.int .i64 (if z < 0 ∨ (n : Int) < z then 4 else 0)) ∧ ∃ k, w' = w.drewN k := by
  have c0 : w.cell? ⟨p, 0, none⟩ = some (.slice A n c) := hp.cell 0
  have c1 : w.cell? ⟨nb, 0, none⟩ = some (.int .i64 z) := hb.cell 0
  clear hp hb
  by_cases h : z < 0
  · have hd : decide (z < 0) = true := by simpa using h
    rw [if_pos (.inl h)]
    clear h
    go_enter Try.func45, Try.ntmps45
    go_wp2_with fail
    go_quiet (fail)
    go_wp2_with fail
    go_ret
    exact ⟨rfl, _, rfl⟩
  · have hd : decide (z < 0) = false := by simpa using h
    by_cases h2 : (n : Int) < z
    · have hd2 : decide ((n : Int) < z) = true := by simpa using h2
      rw [if_pos (.inr h2)]
      clear h h2
      go_enter Try.func45, Try.ntmps45
      go_wp2_with fail
      go_quiet (fail)
      go_wp2_with fail
      go_ret
      exact ⟨rfl, _, rfl⟩
    · have hd2 : decide ((n : Int) < z) = false := by simpa using h2
      rw [if_neg (by omega)]
      clear h h2
      go_enter Try.func45, Try.ntmps45
      go_wp2_with fail
      go_quiet (fail)
      go_wp2_with fail
      go_ret
      exact ⟨rfl, _, rfl⟩

set_option maxHeartbeats 2000000 in
theorem remove1_any {p bd bn g r : Nat} {kvs : List KV} {st lf : Int} {en : Bool} {name : ByteArray} (w : World) (hbd : Blk w bd 28 #[.pointer (some ⟨g, 0, none⟩)]) (hbn : Blk w bn 9 #[.string name]) (hg : Blk w g 70 (kcells r st en lf)) (hr : Ms w r kvs) :
    Calls Try.prog 48 #[.pointer (some ⟨p, 0, none⟩), .pointer (some ⟨bd, 0, none⟩), .pointer (some ⟨bn, 0, none⟩)] w fun e w' => e = .returned (.tuple #[]) ∧ ∃ o, w' = w.drew.putObj r o ∧ Ms w' r (delS kvs name) := by
  have q1 : w.cell? ⟨bd, 0, none⟩ = some (.pointer (some ⟨g, 0, none⟩)) := hbd.cell 0
  have q2 : w.cell? ⟨bn, 0, none⟩ = some (.string name) := hbn.cell 0
  have q3 : w.cell? ⟨g, 0, none⟩ = some (.map (some r)) := hg.cell 0
  have q1d : w.drew.cell? ⟨bd, 0, none⟩ = some (.pointer (some ⟨g, 0, none⟩)) := hbd.cell 0
  have q2d : w.drew.cell? ⟨bn, 0, none⟩ = some (.string name) := hbn.cell 0
  have q3d : w.drew.cell? ⟨g, 0, none⟩ = some (.map (some r)) := hg.cell 0
  have hu := fun ty => Ms.delete (P := Try.prog) Try.underlying68 Try.underlying9 (show Ms w.drew r kvs from hr) name ty
  obtain ⟨o, hu1, hms⟩ := hu 0
  have HMS := hide hms
  clear hms hu
  clear hbd hbn hg hr
  go_enter Try.func48, Try.ntmps48
  go_upto_region 0 with (fail)
  go_region_law (fail)
  all_goals
    go_wp2_with fail
    go_end0
    exact ⟨rfl, o, rfl, HMS.out⟩

set_option maxHeartbeats 4000000 in
set_option maxRecDepth 20000 in
theorem rename1_any {p bd bf bt g r : Nat} {kvs : List KV} {st lf : Int} {en : Bool} {nf nt : ByteArray} (w : World) (hbd : Blk w bd 28 #[.pointer (some ⟨g, 0, none⟩)]) (hbf : Blk w bf 9 #[.string nf]) (hbt : Blk w bt 9 #[.string nt]) (hg : Blk w g 70 (kcells r st en lf)) (hr : Ms w r kvs) :
    Calls Try.prog 47 #[.pointer (some ⟨p, 0, none⟩), .pointer (some ⟨bd, 0, none⟩), .pointer (some ⟨bf, 0, none⟩), .pointer (some ⟨bt, 0, none⟩)] w fun e w' => e = .returned (.tuple #[]) ∧ ∃ o o', w' = (w.drew.putObj r o).drew.putObj r o' ∧ Ms w' r (putS (delS kvs nf) nt (.pointer (some ⟨p, 0, none⟩))) := by
  have q1 : w.cell? ⟨bd, 0, none⟩ = some (.pointer (some ⟨g, 0, none⟩)) := hbd.cell 0
  have q2 : w.cell? ⟨bf, 0, none⟩ = some (.string nf) := hbf.cell 0
  have q3 : w.cell? ⟨g, 0, none⟩ = some (.map (some r)) := hg.cell 0
  have q1d : w.drew.cell? ⟨bd, 0, none⟩ = some (.pointer (some ⟨g, 0, none⟩)) := hbd.cell 0
  have q2d : w.drew.cell? ⟨bf, 0, none⟩ = some (.string nf) := hbf.cell 0
  have q3d : w.drew.cell? ⟨g, 0, none⟩ = some (.map (some r)) := hg.cell 0
  obtain ⟨o, hu1, hms⟩ := Ms.delete (P := Try.prog) Try.underlying68 Try.underlying9 (show Ms w.drew r kvs from hr) nf 0
  have hbd6 := Blk.putObj (show Blk w.drew bd 28 #[.pointer (some ⟨g, 0, none⟩)] from hbd) (show Ms w.drew r kvs from hr) o
  have hbt6 := Blk.putObj (show Blk w.drew bt 9 #[.string nt] from hbt) (show Ms w.drew r kvs from hr) o
  have hg6 := Blk.putObj (show Blk w.drew g 70 (kcells r st en lf) from hg) (show Ms w.drew r kvs from hr) o
  clear hbd hbf hbt hg hr
  go_enter Try.func47, Try.ntmps47
  go_upto_region 0 with (fail)
  go_region_law (fail)
  all_goals
    clear q1 q2 q3 q1d q2d q3d hu1
    obtain ⟨W, hW⟩ : ∃ W, W = w.drew.putObj r o := ⟨_, rfl⟩
    rw [← hW] at hms hbd6 hbt6 hg6
    simp only [← hW]
    have HW := hide hW
    clear hW
    have q1 : W.cell? ⟨bd, 0, none⟩ = some (.pointer (some ⟨g, 0, none⟩)) := hbd6.cell 0
    have q2 : W.cell? ⟨bt, 0, none⟩ = some (.string nt) := hbt6.cell 0
    have q3 : W.cell? ⟨g, 0, none⟩ = some (.map (some r)) := hg6.cell 0
    have q1d : W.drew.cell? ⟨bd, 0, none⟩ = some (.pointer (some ⟨g, 0, none⟩)) := hbd6.cell 0
    have q2d : W.drew.cell? ⟨bt, 0, none⟩ = some (.string nt) := hbt6.cell 0
    have q3d : W.drew.cell? ⟨g, 0, none⟩ = some (.map (some r)) := hg6.cell 0
    obtain ⟨o', hu, hms'⟩ := Ms.update (P := Try.prog) Try.underlying68 Try.underlying9 (show Ms W.drew r (delS kvs nf) from hms) nt (.pointer (some ⟨p, 0, none⟩))
    have HMS := hide hms'
    clear hms' hms hbd6 hbt6 hg6
    go_upto_region 1 with (fail)
    go_region_law (fail)
    all_goals
      go_wp2_with fail
      go_end0
      exact ⟨rfl, o, o', by rw [HW.out], HMS.out⟩
end Go.Proofs.Ytaaaljpnhfmbpaa
