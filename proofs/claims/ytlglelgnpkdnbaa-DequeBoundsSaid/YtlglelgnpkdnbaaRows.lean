/-
  No cell of these rows narrows 'for every input' (looked for: loops, veiled, ifaces, maps, wideKeys, modest, calm, conditions, laid).
  DERIVED. THE GIVEN ROWS OF THIS SEAT. 6 by the template 'for every input the law returns true; each argument reads behind the call as it read before'; 0 by the template 'total and deterministic' (their statements: YtlglelgnpkdnbaaTotals.lean).
  GIVEN WITH THE SEED: the statements are not yours to turn. If you find one false, say at which input.
  Laid BY PROGRAM, IN A SANDBOX (cutbox-rows.mjs): the forced cells as the released guide's own fill.sh prints them over the translation b1ebca2e4f2fb46f… (all of the seat's roots in one cut). By AI agents, Wed Nov 11 2026. No macro, syntax, notation, axiom, sorry.
-/
import Derived.Test.YtlglelgnpkdnbaaChecked
import GoSem.Claim
import GoSem.ClaimJoined
import GoSem.ClaimMapViews
import Derived.JoinedTies
import Derived.KernelRfl
namespace Go.Proofs.Ytlglelgnpkdnbaa
/- THE CELL 'sum', in the pinned program and in every row, IS THE sha256 OF THE DUMP (.gsa) THAT YtlglelgnpkdnbaaProg.lean LOADS. Nothing in Lean hashes anything: it is a label: what it is worth is what the hold of that sum in a sandbox is worth. -/
noncomputable def Try.pinned : Pinned := { name := "ytlglelgnpkdnbaa", sum := "b1ebca2e4f2fb46fcb059d503d028e3f4fb8d893b7382ea23577d9dfd5cd25cb", checked := Try.checked }
namespace Rows
def none {H : Type} : Left H := { results := [], args := [] }

/-- 'taborlaw06.DequeSpans': WHATEVER THE INPUT: true; the input reads as it did. -/
def dequeSpansSpec : ChangeSpec := { name := "dequeSpans", fn := fun _ => fun
  | [d1, d2, d3] => { results := [.lit (.bool true)], args := [d1, d2, d3] }
  | _ => none }
def dequeSpansRow : OpenClaim := { program := "ytlglelgnpkdnbaa", sum := "b1ebca2e4f2fb46fcb059d503d028e3f4fb8d893b7382ea23577d9dfd5cd25cb", func := "tabor/taborlaw06.DequeSpans", spec := "dequeSpans", unfollowed := true, recurses := true, apart := false }
def DequeSpansSaid : Prop := dequeSpansRow.holds Try.pinned (OpenSpec.ofChange dequeSpansSpec)

/-- ITS FALSE NEIGHBOUR: 'it returns false'. Refute it at one input. -/
def dequeSpansWrong : ChangeSpec := { name := "dequeSpans", fn := fun _ => fun
  | [d1, d2, d3] => { results := [.lit (.bool false)], args := [d1, d2, d3] }
  | _ => none }
def DequeSpansWrongFalsely : Prop := dequeSpansRow.holds Try.pinned (OpenSpec.ofChange dequeSpansWrong)

/-- 'taborlaw06.DequePlaces': WHATEVER THE INPUT: true; the input reads as it did. -/
def dequePlacesSpec : ChangeSpec := { name := "dequePlaces", fn := fun _ => fun
  | [d1, d2] => { results := [.lit (.bool true)], args := [d1, d2] }
  | _ => none }
def dequePlacesRow : OpenClaim := { program := "ytlglelgnpkdnbaa", sum := "b1ebca2e4f2fb46fcb059d503d028e3f4fb8d893b7382ea23577d9dfd5cd25cb", func := "tabor/taborlaw06.DequePlaces", spec := "dequePlaces", unfollowed := true, recurses := true, apart := false }
def DequePlacesSaid : Prop := dequePlacesRow.holds Try.pinned (OpenSpec.ofChange dequePlacesSpec)

/-- ITS FALSE NEIGHBOUR: 'it returns false'. Refute it at one input. -/
def dequePlacesWrong : ChangeSpec := { name := "dequePlaces", fn := fun _ => fun
  | [d1, d2] => { results := [.lit (.bool false)], args := [d1, d2] }
  | _ => none }
def DequePlacesWrongFalsely : Prop := dequePlacesRow.holds Try.pinned (OpenSpec.ofChange dequePlacesWrong)

/-- 'taborlaw06.DequePops': WHATEVER THE INPUT: true; the input reads as it did. -/
def dequePopsSpec : ChangeSpec := { name := "dequePops", fn := fun _ => fun
  | [d1, d2, d3] => { results := [.lit (.bool true)], args := [d1, d2, d3] }
  | _ => none }
def dequePopsRow : OpenClaim := { program := "ytlglelgnpkdnbaa", sum := "b1ebca2e4f2fb46fcb059d503d028e3f4fb8d893b7382ea23577d9dfd5cd25cb", func := "tabor/taborlaw06.DequePops", spec := "dequePops", unfollowed := true, recurses := true, apart := false }
def DequePopsSaid : Prop := dequePopsRow.holds Try.pinned (OpenSpec.ofChange dequePopsSpec)

/-- ITS FALSE NEIGHBOUR: 'it returns false'. Refute it at one input. -/
def dequePopsWrong : ChangeSpec := { name := "dequePops", fn := fun _ => fun
  | [d1, d2, d3] => { results := [.lit (.bool false)], args := [d1, d2, d3] }
  | _ => none }
def DequePopsWrongFalsely : Prop := dequePopsRow.holds Try.pinned (OpenSpec.ofChange dequePopsWrong)

/-- 'taborlaw06.DequeEnds': WHATEVER THE INPUT: true; the input reads as it did. -/
def dequeEndsSpec : ChangeSpec := { name := "dequeEnds", fn := fun _ => fun
  | [d1, d2, d3] => { results := [.lit (.bool true)], args := [d1, d2, d3] }
  | _ => none }
def dequeEndsRow : OpenClaim := { program := "ytlglelgnpkdnbaa", sum := "b1ebca2e4f2fb46fcb059d503d028e3f4fb8d893b7382ea23577d9dfd5cd25cb", func := "tabor/taborlaw06.DequeEnds", spec := "dequeEnds", unfollowed := true, recurses := true, apart := false }
def DequeEndsSaid : Prop := dequeEndsRow.holds Try.pinned (OpenSpec.ofChange dequeEndsSpec)

/-- ITS FALSE NEIGHBOUR: 'it returns false'. Refute it at one input. -/
def dequeEndsWrong : ChangeSpec := { name := "dequeEnds", fn := fun _ => fun
  | [d1, d2, d3] => { results := [.lit (.bool false)], args := [d1, d2, d3] }
  | _ => none }
def DequeEndsWrongFalsely : Prop := dequeEndsRow.holds Try.pinned (OpenSpec.ofChange dequeEndsWrong)

/-- 'taborlaw06.DequeTells': WHATEVER THE INPUT: true; the input reads as it did. -/
def dequeTellsSpec : ChangeSpec := { name := "dequeTells", fn := fun _ => fun
  | [d1, d2, d3, d4] => { results := [.lit (.bool true)], args := [d1, d2, d3, d4] }
  | _ => none }
def dequeTellsRow : OpenClaim := { program := "ytlglelgnpkdnbaa", sum := "b1ebca2e4f2fb46fcb059d503d028e3f4fb8d893b7382ea23577d9dfd5cd25cb", func := "tabor/taborlaw06.DequeTells", spec := "dequeTells", unfollowed := true, recurses := true, apart := false }
def DequeTellsSaid : Prop := dequeTellsRow.holds Try.pinned (OpenSpec.ofChange dequeTellsSpec)

/-- ITS FALSE NEIGHBOUR: 'it returns false'. Refute it at one input. -/
def dequeTellsWrong : ChangeSpec := { name := "dequeTells", fn := fun _ => fun
  | [d1, d2, d3, d4] => { results := [.lit (.bool false)], args := [d1, d2, d3, d4] }
  | _ => none }
def DequeTellsWrongFalsely : Prop := dequeTellsRow.holds Try.pinned (OpenSpec.ofChange dequeTellsWrong)

/-- 'taborlaw06.DequeBounds': WHATEVER THE INPUT: true; the input reads as it did. -/
def dequeBoundsSpec : ChangeSpec := { name := "dequeBounds", fn := fun _ => fun
  | [] => { results := [.lit (.bool true)], args := [] }
  | _ => none }
def dequeBoundsRow : OpenClaim := { program := "ytlglelgnpkdnbaa", sum := "b1ebca2e4f2fb46fcb059d503d028e3f4fb8d893b7382ea23577d9dfd5cd25cb", func := "tabor/taborlaw06.DequeBounds", spec := "dequeBounds", unfollowed := true, recurses := true, apart := false }
def DequeBoundsSaid : Prop := dequeBoundsRow.holds Try.pinned (OpenSpec.ofChange dequeBoundsSpec)

/-- ITS FALSE NEIGHBOUR: 'it returns false'. Refute it at one input. -/
def dequeBoundsWrong : ChangeSpec := { name := "dequeBounds", fn := fun _ => fun
  | [] => { results := [.lit (.bool false)], args := [] }
  | _ => none }
def DequeBoundsWrongFalsely : Prop := dequeBoundsRow.holds Try.pinned (OpenSpec.ofChange dequeBoundsWrong)

/- THE SECOND FORM. 'bulk': how many values and letters a reading holds, each counted each time it is reached (what is shared counts as often as it is met; a slice's spare places count too). A statement '..UptoSaid' is the law's where the arguments, and the package variables that the reading takes, are together of bulk at most 1048576: NARROWER than '..Said'. Prove '..Said' where nothing that the law and all that it calls make is longer than what came in: it says more and counts as full. Else prove '..UptoSaid'. A law counts once. -/
mutual
def uptoBulk {H : Type} : DataW H → Nat
  | .lit (.string bytes) => bytes.length + 1
  | .lit _ => 1
  | .nil => 1
  | .ptr d => uptoBulk d + 1
  | .slice elems spare => uptoBulkAll elems + uptoBulkAll spare + 1
  | .agg parts => uptoBulkAll parts + 1
  | .iface _ d => uptoBulk d + 1
  | .map entries => uptoBulkEntries entries + 1
  | .held _ => 1
def uptoBulkAll {H : Type} : List (DataW H) → Nat
  | [] => 0
  | d :: r => uptoBulk d + uptoBulkAll r
def uptoBulkEntries {H : Type} : List (Lit × DataW H) → Nat
  | [] => 0
  | x :: r => uptoBulkEntry x + uptoBulkEntries r
def uptoBulkEntry {H : Type} : Lit × DataW H → Nat
  | (.string bytes, d) => bytes.length + uptoBulk d + 1
  | (_, d) => uptoBulk d + 1
 end
def uptoSmall : (H : Type) → List (DataW H) → Bool := fun _ ds => decide (uptoBulkAll ds ≤ 1048576)
def OpenSpec.upto (s : _root_.Go.ChangeSpec) : _root_.Go.OpenSpec := { _root_.Go.OpenSpec.ofChange s with cond := some uptoSmall }

/-- 'taborlaw06.DequeSpans', WHERE WHAT IT READS IS OF BULK AT MOST 1048576: true; the input reads as it did. -/
def dequeSpansUptoRow : OpenClaim := { program := "ytlglelgnpkdnbaa", sum := "b1ebca2e4f2fb46fcb059d503d028e3f4fb8d893b7382ea23577d9dfd5cd25cb", func := "tabor/taborlaw06.DequeSpans", spec := "dequeSpans", unfollowed := true, recurses := true, apart := false, narrowed := true }
def DequeSpansUptoSaid : Prop := dequeSpansUptoRow.holds Try.pinned (OpenSpec.upto dequeSpansSpec)

/-- 'taborlaw06.DequePlaces', WHERE WHAT IT READS IS OF BULK AT MOST 1048576: true; the input reads as it did. -/
def dequePlacesUptoRow : OpenClaim := { program := "ytlglelgnpkdnbaa", sum := "b1ebca2e4f2fb46fcb059d503d028e3f4fb8d893b7382ea23577d9dfd5cd25cb", func := "tabor/taborlaw06.DequePlaces", spec := "dequePlaces", unfollowed := true, recurses := true, apart := false, narrowed := true }
def DequePlacesUptoSaid : Prop := dequePlacesUptoRow.holds Try.pinned (OpenSpec.upto dequePlacesSpec)

/-- 'taborlaw06.DequePops', WHERE WHAT IT READS IS OF BULK AT MOST 1048576: true; the input reads as it did. -/
def dequePopsUptoRow : OpenClaim := { program := "ytlglelgnpkdnbaa", sum := "b1ebca2e4f2fb46fcb059d503d028e3f4fb8d893b7382ea23577d9dfd5cd25cb", func := "tabor/taborlaw06.DequePops", spec := "dequePops", unfollowed := true, recurses := true, apart := false, narrowed := true }
def DequePopsUptoSaid : Prop := dequePopsUptoRow.holds Try.pinned (OpenSpec.upto dequePopsSpec)

/-- 'taborlaw06.DequeEnds', WHERE WHAT IT READS IS OF BULK AT MOST 1048576: true; the input reads as it did. -/
def dequeEndsUptoRow : OpenClaim := { program := "ytlglelgnpkdnbaa", sum := "b1ebca2e4f2fb46fcb059d503d028e3f4fb8d893b7382ea23577d9dfd5cd25cb", func := "tabor/taborlaw06.DequeEnds", spec := "dequeEnds", unfollowed := true, recurses := true, apart := false, narrowed := true }
def DequeEndsUptoSaid : Prop := dequeEndsUptoRow.holds Try.pinned (OpenSpec.upto dequeEndsSpec)

/-- 'taborlaw06.DequeTells', WHERE WHAT IT READS IS OF BULK AT MOST 1048576: true; the input reads as it did. -/
def dequeTellsUptoRow : OpenClaim := { program := "ytlglelgnpkdnbaa", sum := "b1ebca2e4f2fb46fcb059d503d028e3f4fb8d893b7382ea23577d9dfd5cd25cb", func := "tabor/taborlaw06.DequeTells", spec := "dequeTells", unfollowed := true, recurses := true, apart := false, narrowed := true }
def DequeTellsUptoSaid : Prop := dequeTellsUptoRow.holds Try.pinned (OpenSpec.upto dequeTellsSpec)

/-- 'taborlaw06.DequeBounds', WHERE WHAT IT READS IS OF BULK AT MOST 1048576: true; the input reads as it did. -/
def dequeBoundsUptoRow : OpenClaim := { program := "ytlglelgnpkdnbaa", sum := "b1ebca2e4f2fb46fcb059d503d028e3f4fb8d893b7382ea23577d9dfd5cd25cb", func := "tabor/taborlaw06.DequeBounds", spec := "dequeBounds", unfollowed := true, recurses := true, apart := false, narrowed := true }
def DequeBoundsUptoSaid : Prop := dequeBoundsUptoRow.holds Try.pinned (OpenSpec.upto dequeBoundsSpec)

end Rows
end Go.Proofs.Ytlglelgnpkdnbaa
