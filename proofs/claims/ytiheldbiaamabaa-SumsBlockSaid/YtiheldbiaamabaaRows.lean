/-
  No cell of these rows narrows 'for every input' (looked for: loops, veiled, ifaces, maps, wideKeys, modest, calm, conditions, laid).
  DERIVED. THE GIVEN ROWS OF THIS SEAT. 9 by the template 'for every input the law returns true; each argument reads behind the call as it read before'; 0 by the template 'total and deterministic' (their statements: YtiheldbiaamabaaTotals.lean).
  GIVEN WITH THE SEED: the statements are not yours to turn. If you find one false, say at which input.
  Laid BY PROGRAM, IN A SANDBOX (cutbox-rows.mjs): the forced cells as the released guide's own fill.sh prints them over the translation b8322fd50ae1830f… (all of the seat's roots in one cut). By AI agents, Wed Nov 11 2026. No macro, syntax, notation, axiom, sorry.
-/
import Derived.Test.YtiheldbiaamabaaChecked
import GoSem.Claim
import GoSem.ClaimJoined
import GoSem.ClaimMapViews
import Derived.JoinedTies
import Derived.KernelRfl
namespace Go.Proofs.Ytiheldbiaamabaa
/- THE CELL 'sum', in the pinned program and in every row, IS THE sha256 OF THE DUMP (.gsa) THAT YtiheldbiaamabaaProg.lean LOADS. Nothing in Lean hashes anything: it is a label: what it is worth is what the hold of that sum in a sandbox is worth. -/
noncomputable def Try.pinned : Pinned := { name := "ytiheldbiaamabaa", sum := "b8322fd50ae1830fac0dfab1d52e15b54514249df5f225cbb54468450b84ee90", checked := Try.checked }
namespace Rows
def none {H : Type} : Left H := { results := [], args := [] }

/-- 'taborlaw01.SumsCrc': WHATEVER THE INPUT: true; the input reads as it did. -/
def sumsCrcSpec : ChangeSpec := { name := "sumsCrc", fn := fun _ => fun
  | [d] => { results := [.lit (.bool true)], args := [d] }
  | _ => none }
def sumsCrcRow : OpenClaim := { program := "ytiheldbiaamabaa", sum := "b8322fd50ae1830fac0dfab1d52e15b54514249df5f225cbb54468450b84ee90", func := "tabor/taborlaw01.SumsCrc", spec := "sumsCrc", unfollowed := true, recurses := true, apart := false }
def SumsCrcSaid : Prop := sumsCrcRow.holds Try.pinned (OpenSpec.ofChange sumsCrcSpec)

/-- ITS FALSE NEIGHBOUR: 'it returns false'. Refute it at one input. -/
def sumsCrcWrong : ChangeSpec := { name := "sumsCrc", fn := fun _ => fun
  | [d] => { results := [.lit (.bool false)], args := [d] }
  | _ => none }
def SumsCrcWrongFalsely : Prop := sumsCrcRow.holds Try.pinned (OpenSpec.ofChange sumsCrcWrong)

/-- 'taborlaw01.SumsUpdate': WHATEVER THE INPUT: true; the input reads as it did. -/
def sumsUpdateSpec : ChangeSpec := { name := "sumsUpdate", fn := fun _ => fun
  | [d1, d2] => { results := [.lit (.bool true)], args := [d1, d2] }
  | _ => none }
def sumsUpdateRow : OpenClaim := { program := "ytiheldbiaamabaa", sum := "b8322fd50ae1830fac0dfab1d52e15b54514249df5f225cbb54468450b84ee90", func := "tabor/taborlaw01.SumsUpdate", spec := "sumsUpdate", unfollowed := true, recurses := true, apart := false }
def SumsUpdateSaid : Prop := sumsUpdateRow.holds Try.pinned (OpenSpec.ofChange sumsUpdateSpec)

/-- ITS FALSE NEIGHBOUR: 'it returns false'. Refute it at one input. -/
def sumsUpdateWrong : ChangeSpec := { name := "sumsUpdate", fn := fun _ => fun
  | [d1, d2] => { results := [.lit (.bool false)], args := [d1, d2] }
  | _ => none }
def SumsUpdateWrongFalsely : Prop := sumsUpdateRow.holds Try.pinned (OpenSpec.ofChange sumsUpdateWrong)

/-- 'taborlaw01.SumsBytes': WHATEVER THE INPUT: true; the input reads as it did. -/
def sumsBytesSpec : ChangeSpec := { name := "sumsBytes", fn := fun _ => fun
  | [d1, d2] => { results := [.lit (.bool true)], args := [d1, d2] }
  | _ => none }
def sumsBytesRow : OpenClaim := { program := "ytiheldbiaamabaa", sum := "b8322fd50ae1830fac0dfab1d52e15b54514249df5f225cbb54468450b84ee90", func := "tabor/taborlaw01.SumsBytes", spec := "sumsBytes", unfollowed := true, recurses := true, apart := false }
def SumsBytesSaid : Prop := sumsBytesRow.holds Try.pinned (OpenSpec.ofChange sumsBytesSpec)

/-- ITS FALSE NEIGHBOUR: 'it returns false'. Refute it at one input. -/
def sumsBytesWrong : ChangeSpec := { name := "sumsBytes", fn := fun _ => fun
  | [d1, d2] => { results := [.lit (.bool false)], args := [d1, d2] }
  | _ => none }
def SumsBytesWrongFalsely : Prop := sumsBytesRow.holds Try.pinned (OpenSpec.ofChange sumsBytesWrong)

/-- 'taborlaw01.SumsPads': WHATEVER THE INPUT: true; the input reads as it did. -/
def sumsPadsSpec : ChangeSpec := { name := "sumsPads", fn := fun _ => fun
  | [d] => { results := [.lit (.bool true)], args := [d] }
  | _ => none }
def sumsPadsRow : OpenClaim := { program := "ytiheldbiaamabaa", sum := "b8322fd50ae1830fac0dfab1d52e15b54514249df5f225cbb54468450b84ee90", func := "tabor/taborlaw01.SumsPads", spec := "sumsPads", unfollowed := true, recurses := true, apart := false }
def SumsPadsSaid : Prop := sumsPadsRow.holds Try.pinned (OpenSpec.ofChange sumsPadsSpec)

/-- ITS FALSE NEIGHBOUR: 'it returns false'. Refute it at one input. -/
def sumsPadsWrong : ChangeSpec := { name := "sumsPads", fn := fun _ => fun
  | [d] => { results := [.lit (.bool false)], args := [d] }
  | _ => none }
def SumsPadsWrongFalsely : Prop := sumsPadsRow.holds Try.pinned (OpenSpec.ofChange sumsPadsWrong)

/-- 'taborlaw01.SumsBlock': WHATEVER THE INPUT: true; the input reads as it did. -/
def sumsBlockSpec : ChangeSpec := { name := "sumsBlock", fn := fun _ => fun
  | [d1, d2] => { results := [.lit (.bool true)], args := [d1, d2] }
  | _ => none }
def sumsBlockRow : OpenClaim := { program := "ytiheldbiaamabaa", sum := "b8322fd50ae1830fac0dfab1d52e15b54514249df5f225cbb54468450b84ee90", func := "tabor/taborlaw01.SumsBlock", spec := "sumsBlock", unfollowed := true, recurses := true, apart := false }
def SumsBlockSaid : Prop := sumsBlockRow.holds Try.pinned (OpenSpec.ofChange sumsBlockSpec)

/-- ITS FALSE NEIGHBOUR: 'it returns false'. Refute it at one input. -/
def sumsBlockWrong : ChangeSpec := { name := "sumsBlock", fn := fun _ => fun
  | [d1, d2] => { results := [.lit (.bool false)], args := [d1, d2] }
  | _ => none }
def SumsBlockWrongFalsely : Prop := sumsBlockRow.holds Try.pinned (OpenSpec.ofChange sumsBlockWrong)

/-- 'taborlaw01.SumsDigest': WHATEVER THE INPUT: true; the input reads as it did. -/
def sumsDigestSpec : ChangeSpec := { name := "sumsDigest", fn := fun _ => fun
  | [d] => { results := [.lit (.bool true)], args := [d] }
  | _ => none }
def sumsDigestRow : OpenClaim := { program := "ytiheldbiaamabaa", sum := "b8322fd50ae1830fac0dfab1d52e15b54514249df5f225cbb54468450b84ee90", func := "tabor/taborlaw01.SumsDigest", spec := "sumsDigest", unfollowed := true, recurses := true, apart := false }
def SumsDigestSaid : Prop := sumsDigestRow.holds Try.pinned (OpenSpec.ofChange sumsDigestSpec)

/-- ITS FALSE NEIGHBOUR: 'it returns false'. Refute it at one input. -/
def sumsDigestWrong : ChangeSpec := { name := "sumsDigest", fn := fun _ => fun
  | [d] => { results := [.lit (.bool false)], args := [d] }
  | _ => none }
def SumsDigestWrongFalsely : Prop := sumsDigestRow.holds Try.pinned (OpenSpec.ofChange sumsDigestWrong)

/-- 'taborlaw01.SumsIs': WHATEVER THE INPUT: true; the input reads as it did. -/
def sumsIsSpec : ChangeSpec := { name := "sumsIs", fn := fun _ => fun
  | [d] => { results := [.lit (.bool true)], args := [d] }
  | _ => none }
def sumsIsRow : OpenClaim := { program := "ytiheldbiaamabaa", sum := "b8322fd50ae1830fac0dfab1d52e15b54514249df5f225cbb54468450b84ee90", func := "tabor/taborlaw01.SumsIs", spec := "sumsIs", unfollowed := true, recurses := true, apart := false }
def SumsIsSaid : Prop := sumsIsRow.holds Try.pinned (OpenSpec.ofChange sumsIsSpec)

/-- ITS FALSE NEIGHBOUR: 'it returns false'. Refute it at one input. -/
def sumsIsWrong : ChangeSpec := { name := "sumsIs", fn := fun _ => fun
  | [d] => { results := [.lit (.bool false)], args := [d] }
  | _ => none }
def SumsIsWrongFalsely : Prop := sumsIsRow.holds Try.pinned (OpenSpec.ofChange sumsIsWrong)

/-- 'taborlaw01.SumsParts': WHATEVER THE INPUT: true; the input reads as it did. -/
def sumsPartsSpec : ChangeSpec := { name := "sumsParts", fn := fun _ => fun
  | [d1, d2] => { results := [.lit (.bool true)], args := [d1, d2] }
  | _ => none }
def sumsPartsRow : OpenClaim := { program := "ytiheldbiaamabaa", sum := "b8322fd50ae1830fac0dfab1d52e15b54514249df5f225cbb54468450b84ee90", func := "tabor/taborlaw01.SumsParts", spec := "sumsParts", unfollowed := true, recurses := true, apart := false }
def SumsPartsSaid : Prop := sumsPartsRow.holds Try.pinned (OpenSpec.ofChange sumsPartsSpec)

/-- ITS FALSE NEIGHBOUR: 'it returns false'. Refute it at one input. -/
def sumsPartsWrong : ChangeSpec := { name := "sumsParts", fn := fun _ => fun
  | [d1, d2] => { results := [.lit (.bool false)], args := [d1, d2] }
  | _ => none }
def SumsPartsWrongFalsely : Prop := sumsPartsRow.holds Try.pinned (OpenSpec.ofChange sumsPartsWrong)

/-- 'taborlaw01.SumsUnlike': WHATEVER THE INPUT: true; the input reads as it did. -/
def sumsUnlikeSpec : ChangeSpec := { name := "sumsUnlike", fn := fun _ => fun
  | [d1, d2] => { results := [.lit (.bool true)], args := [d1, d2] }
  | _ => none }
def sumsUnlikeRow : OpenClaim := { program := "ytiheldbiaamabaa", sum := "b8322fd50ae1830fac0dfab1d52e15b54514249df5f225cbb54468450b84ee90", func := "tabor/taborlaw01.SumsUnlike", spec := "sumsUnlike", unfollowed := true, recurses := true, apart := false }
def SumsUnlikeSaid : Prop := sumsUnlikeRow.holds Try.pinned (OpenSpec.ofChange sumsUnlikeSpec)

/-- ITS FALSE NEIGHBOUR: 'it returns false'. Refute it at one input. -/
def sumsUnlikeWrong : ChangeSpec := { name := "sumsUnlike", fn := fun _ => fun
  | [d1, d2] => { results := [.lit (.bool false)], args := [d1, d2] }
  | _ => none }
def SumsUnlikeWrongFalsely : Prop := sumsUnlikeRow.holds Try.pinned (OpenSpec.ofChange sumsUnlikeWrong)

/- THE SECOND FORM. 'bulk': how many values and letters a reading holds, each counted each time it is reached (what is shared counts as often as it is met; a slice's spare places count too). A statement '..UptoSaid' is the law's where the arguments, and the package variables that the reading takes, are together of bulk at most 1048576: NARROWER than '..Said'. Prove '..Said' where nothing that the law and all that it calls make is longer than what came in: it says more and counts as full. Else prove '..UptoSaid'. A law counts once. -/
mutual
def uptoBulk {H : Type} : DataW H → Nat
  | .lit (.string bytes) => bytes.length + 1
  | .lit _ => 1
  | .nil => 1
  | .ptr d => uptoBulk d + 1
  | .slice elems spare => uptoBulkAll elems + uptoBulkAll spare + 1
  | .agg parts => uptoBulkAll parts + 1
  | .iface _ d => uptoBulk d + 1
  | .map entries => uptoBulkEntries entries + 1
  | .held _ => 1
def uptoBulkAll {H : Type} : List (DataW H) → Nat
  | [] => 0
  | d :: r => uptoBulk d + uptoBulkAll r
def uptoBulkEntries {H : Type} : List (Lit × DataW H) → Nat
  | [] => 0
  | x :: r => uptoBulkEntry x + uptoBulkEntries r
def uptoBulkEntry {H : Type} : Lit × DataW H → Nat
  | (.string bytes, d) => bytes.length + uptoBulk d + 1
  | (_, d) => uptoBulk d + 1
 end
def uptoSmall : (H : Type) → List (DataW H) → Bool := fun _ ds => decide (uptoBulkAll ds ≤ 1048576)
def OpenSpec.upto (s : _root_.Go.ChangeSpec) : _root_.Go.OpenSpec := { _root_.Go.OpenSpec.ofChange s with cond := some uptoSmall }

/-- 'taborlaw01.SumsCrc', WHERE WHAT IT READS IS OF BULK AT MOST 1048576: true; the input reads as it did. -/
def sumsCrcUptoRow : OpenClaim := { program := "ytiheldbiaamabaa", sum := "b8322fd50ae1830fac0dfab1d52e15b54514249df5f225cbb54468450b84ee90", func := "tabor/taborlaw01.SumsCrc", spec := "sumsCrc", unfollowed := true, recurses := true, apart := false, narrowed := true }
def SumsCrcUptoSaid : Prop := sumsCrcUptoRow.holds Try.pinned (OpenSpec.upto sumsCrcSpec)

/-- 'taborlaw01.SumsUpdate', WHERE WHAT IT READS IS OF BULK AT MOST 1048576: true; the input reads as it did. -/
def sumsUpdateUptoRow : OpenClaim := { program := "ytiheldbiaamabaa", sum := "b8322fd50ae1830fac0dfab1d52e15b54514249df5f225cbb54468450b84ee90", func := "tabor/taborlaw01.SumsUpdate", spec := "sumsUpdate", unfollowed := true, recurses := true, apart := false, narrowed := true }
def SumsUpdateUptoSaid : Prop := sumsUpdateUptoRow.holds Try.pinned (OpenSpec.upto sumsUpdateSpec)

/-- 'taborlaw01.SumsBytes', WHERE WHAT IT READS IS OF BULK AT MOST 1048576: true; the input reads as it did. -/
def sumsBytesUptoRow : OpenClaim := { program := "ytiheldbiaamabaa", sum := "b8322fd50ae1830fac0dfab1d52e15b54514249df5f225cbb54468450b84ee90", func := "tabor/taborlaw01.SumsBytes", spec := "sumsBytes", unfollowed := true, recurses := true, apart := false, narrowed := true }
def SumsBytesUptoSaid : Prop := sumsBytesUptoRow.holds Try.pinned (OpenSpec.upto sumsBytesSpec)

/-- 'taborlaw01.SumsPads', WHERE WHAT IT READS IS OF BULK AT MOST 1048576: true; the input reads as it did. -/
def sumsPadsUptoRow : OpenClaim := { program := "ytiheldbiaamabaa", sum := "b8322fd50ae1830fac0dfab1d52e15b54514249df5f225cbb54468450b84ee90", func := "tabor/taborlaw01.SumsPads", spec := "sumsPads", unfollowed := true, recurses := true, apart := false, narrowed := true }
def SumsPadsUptoSaid : Prop := sumsPadsUptoRow.holds Try.pinned (OpenSpec.upto sumsPadsSpec)

/-- 'taborlaw01.SumsBlock', WHERE WHAT IT READS IS OF BULK AT MOST 1048576: true; the input reads as it did. -/
def sumsBlockUptoRow : OpenClaim := { program := "ytiheldbiaamabaa", sum := "b8322fd50ae1830fac0dfab1d52e15b54514249df5f225cbb54468450b84ee90", func := "tabor/taborlaw01.SumsBlock", spec := "sumsBlock", unfollowed := true, recurses := true, apart := false, narrowed := true }
def SumsBlockUptoSaid : Prop := sumsBlockUptoRow.holds Try.pinned (OpenSpec.upto sumsBlockSpec)

/-- 'taborlaw01.SumsDigest', WHERE WHAT IT READS IS OF BULK AT MOST 1048576: true; the input reads as it did. -/
def sumsDigestUptoRow : OpenClaim := { program := "ytiheldbiaamabaa", sum := "b8322fd50ae1830fac0dfab1d52e15b54514249df5f225cbb54468450b84ee90", func := "tabor/taborlaw01.SumsDigest", spec := "sumsDigest", unfollowed := true, recurses := true, apart := false, narrowed := true }
def SumsDigestUptoSaid : Prop := sumsDigestUptoRow.holds Try.pinned (OpenSpec.upto sumsDigestSpec)

/-- 'taborlaw01.SumsIs', WHERE WHAT IT READS IS OF BULK AT MOST 1048576: true; the input reads as it did. -/
def sumsIsUptoRow : OpenClaim := { program := "ytiheldbiaamabaa", sum := "b8322fd50ae1830fac0dfab1d52e15b54514249df5f225cbb54468450b84ee90", func := "tabor/taborlaw01.SumsIs", spec := "sumsIs", unfollowed := true, recurses := true, apart := false, narrowed := true }
def SumsIsUptoSaid : Prop := sumsIsUptoRow.holds Try.pinned (OpenSpec.upto sumsIsSpec)

/-- 'taborlaw01.SumsParts', WHERE WHAT IT READS IS OF BULK AT MOST 1048576: true; the input reads as it did. -/
def sumsPartsUptoRow : OpenClaim := { program := "ytiheldbiaamabaa", sum := "b8322fd50ae1830fac0dfab1d52e15b54514249df5f225cbb54468450b84ee90", func := "tabor/taborlaw01.SumsParts", spec := "sumsParts", unfollowed := true, recurses := true, apart := false, narrowed := true }
def SumsPartsUptoSaid : Prop := sumsPartsUptoRow.holds Try.pinned (OpenSpec.upto sumsPartsSpec)

/-- 'taborlaw01.SumsUnlike', WHERE WHAT IT READS IS OF BULK AT MOST 1048576: true; the input reads as it did. -/
def sumsUnlikeUptoRow : OpenClaim := { program := "ytiheldbiaamabaa", sum := "b8322fd50ae1830fac0dfab1d52e15b54514249df5f225cbb54468450b84ee90", func := "tabor/taborlaw01.SumsUnlike", spec := "sumsUnlike", unfollowed := true, recurses := true, apart := false, narrowed := true }
def SumsUnlikeUptoSaid : Prop := sumsUnlikeUptoRow.holds Try.pinned (OpenSpec.upto sumsUnlikeSpec)

end Rows
end Go.Proofs.Ytiheldbiaamabaa
