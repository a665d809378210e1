/-
  No cell of these rows narrows 'for every input' (looked for: loops, veiled, ifaces, maps, wideKeys, modest, calm, conditions, laid).
  DERIVED. THE GIVEN ROWS OF THIS SEAT. 7 by the template 'for every input the law returns true; each argument reads behind the call as it read before'; 0 by the template 'total and deterministic' (their statements: YtbpodmgogokpiaaTotals.lean).
  GIVEN WITH THE SEED: the statements are not yours to turn. If you find one false, say at which input.
  Laid BY PROGRAM, IN A SANDBOX (cutbox-rows.mjs): the forced cells as the released guide's own fill.sh prints them over the translation bb110b880ac43611… (all of the seat's roots in one cut). By AI agents, Wed Nov 11 2026. No macro, syntax, notation, axiom, sorry.
-/
import Derived.Test.YtbpodmgogokpiaaChecked
import GoSem.Claim
import GoSem.ClaimJoined
import GoSem.ClaimMapViews
import Derived.JoinedTies
import Derived.KernelRfl
namespace Go.Proofs.Ytbpodmgogokpiaa
/- THE CELL 'sum', in the pinned program and in every row, IS THE sha256 OF THE DUMP (.gsa) THAT YtbpodmgogokpiaaProg.lean LOADS. Nothing in Lean hashes anything: it is a label: what it is worth is what the hold of that sum in a sandbox is worth. -/
noncomputable def Try.pinned : Pinned := { name := "ytbpodmgogokpiaa", sum := "bb110b880ac4361157600a4fa2d64831ffe288b43a663e3d0e177f2b45384f57", checked := Try.checked }
namespace Rows
def none {H : Type} : Left H := { results := [], args := [] }

/-- 'taborlaw03.FramesPut': WHATEVER THE INPUT: true; the input reads as it did. -/
def framesPutSpec : ChangeSpec := { name := "framesPut", fn := fun _ => fun
  | [d] => { results := [.lit (.bool true)], args := [d] }
  | _ => none }
def framesPutRow : OpenClaim := { program := "ytbpodmgogokpiaa", sum := "bb110b880ac4361157600a4fa2d64831ffe288b43a663e3d0e177f2b45384f57", func := "tabor/taborlaw03.FramesPut", spec := "framesPut", unfollowed := true, recurses := true, apart := false }
def FramesPutSaid : Prop := framesPutRow.holds Try.pinned (OpenSpec.ofChange framesPutSpec)

/-- ITS FALSE NEIGHBOUR: 'it returns false'. Refute it at one input. -/
def framesPutWrong : ChangeSpec := { name := "framesPut", fn := fun _ => fun
  | [d] => { results := [.lit (.bool false)], args := [d] }
  | _ => none }
def FramesPutWrongFalsely : Prop := framesPutRow.holds Try.pinned (OpenSpec.ofChange framesPutWrong)

/-- 'taborlaw03.FramesRead': WHATEVER THE INPUT: true; the input reads as it did. -/
def framesReadSpec : ChangeSpec := { name := "framesRead", fn := fun _ => fun
  | [d] => { results := [.lit (.bool true)], args := [d] }
  | _ => none }
def framesReadRow : OpenClaim := { program := "ytbpodmgogokpiaa", sum := "bb110b880ac4361157600a4fa2d64831ffe288b43a663e3d0e177f2b45384f57", func := "tabor/taborlaw03.FramesRead", spec := "framesRead", unfollowed := true, recurses := true, apart := false }
def FramesReadSaid : Prop := framesReadRow.holds Try.pinned (OpenSpec.ofChange framesReadSpec)

/-- ITS FALSE NEIGHBOUR: 'it returns false'. Refute it at one input. -/
def framesReadWrong : ChangeSpec := { name := "framesRead", fn := fun _ => fun
  | [d] => { results := [.lit (.bool false)], args := [d] }
  | _ => none }
def FramesReadWrongFalsely : Prop := framesReadRow.holds Try.pinned (OpenSpec.ofChange framesReadWrong)

/-- 'taborlaw03.FramesScan': WHATEVER THE INPUT: true; the input reads as it did. -/
def framesScanSpec : ChangeSpec := { name := "framesScan", fn := fun _ => fun
  | [d] => { results := [.lit (.bool true)], args := [d] }
  | _ => none }
def framesScanRow : OpenClaim := { program := "ytbpodmgogokpiaa", sum := "bb110b880ac4361157600a4fa2d64831ffe288b43a663e3d0e177f2b45384f57", func := "tabor/taborlaw03.FramesScan", spec := "framesScan", unfollowed := true, recurses := true, apart := false }
def FramesScanSaid : Prop := framesScanRow.holds Try.pinned (OpenSpec.ofChange framesScanSpec)

/-- ITS FALSE NEIGHBOUR: 'it returns false'. Refute it at one input. -/
def framesScanWrong : ChangeSpec := { name := "framesScan", fn := fun _ => fun
  | [d] => { results := [.lit (.bool false)], args := [d] }
  | _ => none }
def FramesScanWrongFalsely : Prop := framesScanRow.holds Try.pinned (OpenSpec.ofChange framesScanWrong)

/-- 'taborlaw03.FramesBounds': WHATEVER THE INPUT: true; the input reads as it did. -/
def framesBoundsSpec : ChangeSpec := { name := "framesBounds", fn := fun _ => fun
  | [] => { results := [.lit (.bool true)], args := [] }
  | _ => none }
def framesBoundsRow : OpenClaim := { program := "ytbpodmgogokpiaa", sum := "bb110b880ac4361157600a4fa2d64831ffe288b43a663e3d0e177f2b45384f57", func := "tabor/taborlaw03.FramesBounds", spec := "framesBounds", unfollowed := true, recurses := true, apart := false }
def FramesBoundsSaid : Prop := framesBoundsRow.holds Try.pinned (OpenSpec.ofChange framesBoundsSpec)

/-- ITS FALSE NEIGHBOUR: 'it returns false'. Refute it at one input. -/
def framesBoundsWrong : ChangeSpec := { name := "framesBounds", fn := fun _ => fun
  | [] => { results := [.lit (.bool false)], args := [] }
  | _ => none }
def FramesBoundsWrongFalsely : Prop := framesBoundsRow.holds Try.pinned (OpenSpec.ofChange framesBoundsWrong)

/-- 'taborlaw03.FramesBack': WHATEVER THE INPUT: true; the input reads as it did. -/
def framesBackSpec : ChangeSpec := { name := "framesBack", fn := fun _ => fun
  | [d1, d2] => { results := [.lit (.bool true)], args := [d1, d2] }
  | _ => none }
def framesBackRow : OpenClaim := { program := "ytbpodmgogokpiaa", sum := "bb110b880ac4361157600a4fa2d64831ffe288b43a663e3d0e177f2b45384f57", func := "tabor/taborlaw03.FramesBack", spec := "framesBack", unfollowed := true, recurses := true, apart := false }
def FramesBackSaid : Prop := framesBackRow.holds Try.pinned (OpenSpec.ofChange framesBackSpec)

/-- ITS FALSE NEIGHBOUR: 'it returns false'. Refute it at one input. -/
def framesBackWrong : ChangeSpec := { name := "framesBack", fn := fun _ => fun
  | [d1, d2] => { results := [.lit (.bool false)], args := [d1, d2] }
  | _ => none }
def FramesBackWrongFalsely : Prop := framesBackRow.holds Try.pinned (OpenSpec.ofChange framesBackWrong)

/-- 'taborlaw03.FramesRows': WHATEVER THE INPUT: true; the input reads as it did. -/
def framesRowsSpec : ChangeSpec := { name := "framesRows", fn := fun _ => fun
  | [d1, d2, d3, d4] => { results := [.lit (.bool true)], args := [d1, d2, d3, d4] }
  | _ => none }
def framesRowsRow : OpenClaim := { program := "ytbpodmgogokpiaa", sum := "bb110b880ac4361157600a4fa2d64831ffe288b43a663e3d0e177f2b45384f57", func := "tabor/taborlaw03.FramesRows", spec := "framesRows", unfollowed := true, recurses := true, apart := false }
def FramesRowsSaid : Prop := framesRowsRow.holds Try.pinned (OpenSpec.ofChange framesRowsSpec)

/-- ITS FALSE NEIGHBOUR: 'it returns false'. Refute it at one input. -/
def framesRowsWrong : ChangeSpec := { name := "framesRows", fn := fun _ => fun
  | [d1, d2, d3, d4] => { results := [.lit (.bool false)], args := [d1, d2, d3, d4] }
  | _ => none }
def FramesRowsWrongFalsely : Prop := framesRowsRow.holds Try.pinned (OpenSpec.ofChange framesRowsWrong)

/-- 'taborlaw03.FramesSame': WHATEVER THE INPUT: true; the input reads as it did. -/
def framesSameSpec : ChangeSpec := { name := "framesSame", fn := fun _ => fun
  | [d1, d2] => { results := [.lit (.bool true)], args := [d1, d2] }
  | _ => none }
def framesSameRow : OpenClaim := { program := "ytbpodmgogokpiaa", sum := "bb110b880ac4361157600a4fa2d64831ffe288b43a663e3d0e177f2b45384f57", func := "tabor/taborlaw03.FramesSame", spec := "framesSame", unfollowed := true, recurses := true, apart := false }
def FramesSameSaid : Prop := framesSameRow.holds Try.pinned (OpenSpec.ofChange framesSameSpec)

/-- ITS FALSE NEIGHBOUR: 'it returns false'. Refute it at one input. -/
def framesSameWrong : ChangeSpec := { name := "framesSame", fn := fun _ => fun
  | [d1, d2] => { results := [.lit (.bool false)], args := [d1, d2] }
  | _ => none }
def FramesSameWrongFalsely : Prop := framesSameRow.holds Try.pinned (OpenSpec.ofChange framesSameWrong)

/- THE SECOND FORM. 'bulk': how many values and letters a reading holds, each counted each time it is reached (what is shared counts as often as it is met; a slice's spare places count too). A statement '..UptoSaid' is the law's where the arguments, and the package variables that the reading takes, are together of bulk at most 1048576: NARROWER than '..Said'. Prove '..Said' where nothing that the law and all that it calls make is longer than what came in: it says more and counts as full. Else prove '..UptoSaid'. A law counts once. -/
mutual
def uptoBulk {H : Type} : DataW H → Nat
  | .lit (.string bytes) => bytes.length + 1
  | .lit _ => 1
  | .nil => 1
  | .ptr d => uptoBulk d + 1
  | .slice elems spare => uptoBulkAll elems + uptoBulkAll spare + 1
  | .agg parts => uptoBulkAll parts + 1
  | .iface _ d => uptoBulk d + 1
  | .map entries => uptoBulkEntries entries + 1
  | .held _ => 1
def uptoBulkAll {H : Type} : List (DataW H) → Nat
  | [] => 0
  | d :: r => uptoBulk d + uptoBulkAll r
def uptoBulkEntries {H : Type} : List (Lit × DataW H) → Nat
  | [] => 0
  | x :: r => uptoBulkEntry x + uptoBulkEntries r
def uptoBulkEntry {H : Type} : Lit × DataW H → Nat
  | (.string bytes, d) => bytes.length + uptoBulk d + 1
  | (_, d) => uptoBulk d + 1
 end
def uptoSmall : (H : Type) → List (DataW H) → Bool := fun _ ds => decide (uptoBulkAll ds ≤ 1048576)
def OpenSpec.upto (s : _root_.Go.ChangeSpec) : _root_.Go.OpenSpec := { _root_.Go.OpenSpec.ofChange s with cond := some uptoSmall }

/-- 'taborlaw03.FramesPut', WHERE WHAT IT READS IS OF BULK AT MOST 1048576: true; the input reads as it did. -/
def framesPutUptoRow : OpenClaim := { program := "ytbpodmgogokpiaa", sum := "bb110b880ac4361157600a4fa2d64831ffe288b43a663e3d0e177f2b45384f57", func := "tabor/taborlaw03.FramesPut", spec := "framesPut", unfollowed := true, recurses := true, apart := false, narrowed := true }
def FramesPutUptoSaid : Prop := framesPutUptoRow.holds Try.pinned (OpenSpec.upto framesPutSpec)

/-- 'taborlaw03.FramesRead', WHERE WHAT IT READS IS OF BULK AT MOST 1048576: true; the input reads as it did. -/
def framesReadUptoRow : OpenClaim := { program := "ytbpodmgogokpiaa", sum := "bb110b880ac4361157600a4fa2d64831ffe288b43a663e3d0e177f2b45384f57", func := "tabor/taborlaw03.FramesRead", spec := "framesRead", unfollowed := true, recurses := true, apart := false, narrowed := true }
def FramesReadUptoSaid : Prop := framesReadUptoRow.holds Try.pinned (OpenSpec.upto framesReadSpec)

/-- 'taborlaw03.FramesScan', WHERE WHAT IT READS IS OF BULK AT MOST 1048576: true; the input reads as it did. -/
def framesScanUptoRow : OpenClaim := { program := "ytbpodmgogokpiaa", sum := "bb110b880ac4361157600a4fa2d64831ffe288b43a663e3d0e177f2b45384f57", func := "tabor/taborlaw03.FramesScan", spec := "framesScan", unfollowed := true, recurses := true, apart := false, narrowed := true }
def FramesScanUptoSaid : Prop := framesScanUptoRow.holds Try.pinned (OpenSpec.upto framesScanSpec)

/-- 'taborlaw03.FramesBounds', WHERE WHAT IT READS IS OF BULK AT MOST 1048576: true; the input reads as it did. -/
def framesBoundsUptoRow : OpenClaim := { program := "ytbpodmgogokpiaa", sum := "bb110b880ac4361157600a4fa2d64831ffe288b43a663e3d0e177f2b45384f57", func := "tabor/taborlaw03.FramesBounds", spec := "framesBounds", unfollowed := true, recurses := true, apart := false, narrowed := true }
def FramesBoundsUptoSaid : Prop := framesBoundsUptoRow.holds Try.pinned (OpenSpec.upto framesBoundsSpec)

/-- 'taborlaw03.FramesBack', WHERE WHAT IT READS IS OF BULK AT MOST 1048576: true; the input reads as it did. -/
def framesBackUptoRow : OpenClaim := { program := "ytbpodmgogokpiaa", sum := "bb110b880ac4361157600a4fa2d64831ffe288b43a663e3d0e177f2b45384f57", func := "tabor/taborlaw03.FramesBack", spec := "framesBack", unfollowed := true, recurses := true, apart := false, narrowed := true }
def FramesBackUptoSaid : Prop := framesBackUptoRow.holds Try.pinned (OpenSpec.upto framesBackSpec)

/-- 'taborlaw03.FramesRows', WHERE WHAT IT READS IS OF BULK AT MOST 1048576: true; the input reads as it did. -/
def framesRowsUptoRow : OpenClaim := { program := "ytbpodmgogokpiaa", sum := "bb110b880ac4361157600a4fa2d64831ffe288b43a663e3d0e177f2b45384f57", func := "tabor/taborlaw03.FramesRows", spec := "framesRows", unfollowed := true, recurses := true, apart := false, narrowed := true }
def FramesRowsUptoSaid : Prop := framesRowsUptoRow.holds Try.pinned (OpenSpec.upto framesRowsSpec)

/-- 'taborlaw03.FramesSame', WHERE WHAT IT READS IS OF BULK AT MOST 1048576: true; the input reads as it did. -/
def framesSameUptoRow : OpenClaim := { program := "ytbpodmgogokpiaa", sum := "bb110b880ac4361157600a4fa2d64831ffe288b43a663e3d0e177f2b45384f57", func := "tabor/taborlaw03.FramesSame", spec := "framesSame", unfollowed := true, recurses := true, apart := false, narrowed := true }
def FramesSameUptoSaid : Prop := framesSameUptoRow.holds Try.pinned (OpenSpec.upto framesSameSpec)

end Rows
end Go.Proofs.Ytbpodmgogokpiaa
