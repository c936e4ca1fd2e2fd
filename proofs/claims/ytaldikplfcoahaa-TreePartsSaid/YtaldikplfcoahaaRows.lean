/-
  No cell of these rows narrows 'for every input' (looked for: loops, veiled, ifaces, maps, wideKeys, modest, calm, conditions, laid).
  DERIVED. THE GIVEN ROWS OF THIS SEAT. 6 by the template 'for every input the law returns true; each argument reads behind the call as it read before'; 0 by the template 'total and deterministic' (their statements: YtaldikplfcoahaaTotals.lean).
  GIVEN WITH THE SEED: the statements are not yours to turn. If you find one false, say at which input.
  Laid BY PROGRAM, IN A SANDBOX (cutbox-rows.mjs): the forced cells as the released guide's own fill.sh prints them over the translation c024a3a230b9d2de… (all of the seat's roots in one cut). By AI agents, Wed Nov 11 2026. No macro, syntax, notation, axiom, sorry.
-/
import Derived.Test.YtaldikplfcoahaaChecked
import GoSem.Claim
import GoSem.ClaimJoined
import GoSem.ClaimMapViews
import Derived.JoinedTies
import Derived.KernelRfl
namespace Go.Proofs.Ytaldikplfcoahaa
/- THE CELL 'sum', in the pinned program and in every row, IS THE sha256 OF THE DUMP (.gsa) THAT YtaldikplfcoahaaProg.lean LOADS. Nothing in Lean hashes anything: it is a label: what it is worth is what the hold of that sum in a sandbox is worth. -/
noncomputable def Try.pinned : Pinned := { name := "ytaldikplfcoahaa", sum := "c024a3a230b9d2deda34c756075636d876de381962801cd402cf5ccd15dd393b", checked := Try.checked }
namespace Rows
def none {H : Type} : Left H := { results := [], args := [] }

/-- 'truglaw19.InterestOnce': WHATEVER THE INPUT: true; the input reads as it did. -/
def interestOnceSpec : ChangeSpec := { name := "interestOnce", fn := fun _ => fun
  | [d1, d2, d3] => { results := [.lit (.bool true)], args := [d1, d2, d3] }
  | _ => none }
def interestOnceRow : OpenClaim := { program := "ytaldikplfcoahaa", sum := "c024a3a230b9d2deda34c756075636d876de381962801cd402cf5ccd15dd393b", func := "trug/truglaw19.InterestOnce", spec := "interestOnce", unfollowed := true, recurses := true, apart := false }
def InterestOnceSaid : Prop := interestOnceRow.holds Try.pinned (OpenSpec.ofChange interestOnceSpec)

/-- ITS FALSE NEIGHBOUR: 'it returns false'. Refute it at one input. -/
def interestOnceWrong : ChangeSpec := { name := "interestOnce", fn := fun _ => fun
  | [d1, d2, d3] => { results := [.lit (.bool false)], args := [d1, d2, d3] }
  | _ => none }
def InterestOnceWrongFalsely : Prop := interestOnceRow.holds Try.pinned (OpenSpec.ofChange interestOnceWrong)

/-- 'truglaw19.InterestPruned': WHATEVER THE INPUT: true; the input reads as it did. -/
def interestPrunedSpec : ChangeSpec := { name := "interestPruned", fn := fun _ => fun
  | [d1, d2, d3] => { results := [.lit (.bool true)], args := [d1, d2, d3] }
  | _ => none }
def interestPrunedRow : OpenClaim := { program := "ytaldikplfcoahaa", sum := "c024a3a230b9d2deda34c756075636d876de381962801cd402cf5ccd15dd393b", func := "trug/truglaw19.InterestPruned", spec := "interestPruned", unfollowed := true, recurses := true, apart := false }
def InterestPrunedSaid : Prop := interestPrunedRow.holds Try.pinned (OpenSpec.ofChange interestPrunedSpec)

/-- ITS FALSE NEIGHBOUR: 'it returns false'. Refute it at one input. -/
def interestPrunedWrong : ChangeSpec := { name := "interestPruned", fn := fun _ => fun
  | [d1, d2, d3] => { results := [.lit (.bool false)], args := [d1, d2, d3] }
  | _ => none }
def InterestPrunedWrongFalsely : Prop := interestPrunedRow.holds Try.pinned (OpenSpec.ofChange interestPrunedWrong)

/-- 'truglaw19.InterestHomes': WHATEVER THE INPUT: true; the input reads as it did. -/
def interestHomesSpec : ChangeSpec := { name := "interestHomes", fn := fun _ => fun
  | [d1, d2, d3, d4] => { results := [.lit (.bool true)], args := [d1, d2, d3, d4] }
  | _ => none }
def interestHomesRow : OpenClaim := { program := "ytaldikplfcoahaa", sum := "c024a3a230b9d2deda34c756075636d876de381962801cd402cf5ccd15dd393b", func := "trug/truglaw19.InterestHomes", spec := "interestHomes", unfollowed := true, recurses := true, apart := false }
def InterestHomesSaid : Prop := interestHomesRow.holds Try.pinned (OpenSpec.ofChange interestHomesSpec)

/-- ITS FALSE NEIGHBOUR: 'it returns false'. Refute it at one input. -/
def interestHomesWrong : ChangeSpec := { name := "interestHomes", fn := fun _ => fun
  | [d1, d2, d3, d4] => { results := [.lit (.bool false)], args := [d1, d2, d3, d4] }
  | _ => none }
def InterestHomesWrongFalsely : Prop := interestHomesRow.holds Try.pinned (OpenSpec.ofChange interestHomesWrong)

/-- 'truglaw18.TreeBytes': WHATEVER THE INPUT: true; the input reads as it did. -/
def treeBytesSpec : ChangeSpec := { name := "treeBytes", fn := fun _ => fun
  | [d1, d2] => { results := [.lit (.bool true)], args := [d1, d2] }
  | _ => none }
def treeBytesRow : OpenClaim := { program := "ytaldikplfcoahaa", sum := "c024a3a230b9d2deda34c756075636d876de381962801cd402cf5ccd15dd393b", func := "trug/truglaw18.TreeBytes", spec := "treeBytes", unfollowed := true, recurses := true, apart := false }
def TreeBytesSaid : Prop := treeBytesRow.holds Try.pinned (OpenSpec.ofChange treeBytesSpec)

/-- ITS FALSE NEIGHBOUR: 'it returns false'. Refute it at one input. -/
def treeBytesWrong : ChangeSpec := { name := "treeBytes", fn := fun _ => fun
  | [d1, d2] => { results := [.lit (.bool false)], args := [d1, d2] }
  | _ => none }
def TreeBytesWrongFalsely : Prop := treeBytesRow.holds Try.pinned (OpenSpec.ofChange treeBytesWrong)

/-- 'truglaw18.TreeParts': WHATEVER THE INPUT: true; the input reads as it did. -/
def treePartsSpec : ChangeSpec := { name := "treeParts", fn := fun _ => fun
  | [d1, d2] => { results := [.lit (.bool true)], args := [d1, d2] }
  | _ => none }
def treePartsRow : OpenClaim := { program := "ytaldikplfcoahaa", sum := "c024a3a230b9d2deda34c756075636d876de381962801cd402cf5ccd15dd393b", func := "trug/truglaw18.TreeParts", spec := "treeParts", unfollowed := true, recurses := true, apart := false }
def TreePartsSaid : Prop := treePartsRow.holds Try.pinned (OpenSpec.ofChange treePartsSpec)

/-- ITS FALSE NEIGHBOUR: 'it returns false'. Refute it at one input. -/
def treePartsWrong : ChangeSpec := { name := "treeParts", fn := fun _ => fun
  | [d1, d2] => { results := [.lit (.bool false)], args := [d1, d2] }
  | _ => none }
def TreePartsWrongFalsely : Prop := treePartsRow.holds Try.pinned (OpenSpec.ofChange treePartsWrong)

/-- 'truglaw18.TreeNext': WHATEVER THE INPUT: true; the input reads as it did. -/
def treeNextSpec : ChangeSpec := { name := "treeNext", fn := fun _ => fun
  | [d1, d2, d3] => { results := [.lit (.bool true)], args := [d1, d2, d3] }
  | _ => none }
def treeNextRow : OpenClaim := { program := "ytaldikplfcoahaa", sum := "c024a3a230b9d2deda34c756075636d876de381962801cd402cf5ccd15dd393b", func := "trug/truglaw18.TreeNext", spec := "treeNext", unfollowed := true, recurses := true, apart := false }
def TreeNextSaid : Prop := treeNextRow.holds Try.pinned (OpenSpec.ofChange treeNextSpec)

/-- ITS FALSE NEIGHBOUR: 'it returns false'. Refute it at one input. -/
def treeNextWrong : ChangeSpec := { name := "treeNext", fn := fun _ => fun
  | [d1, d2, d3] => { results := [.lit (.bool false)], args := [d1, d2, d3] }
  | _ => none }
def TreeNextWrongFalsely : Prop := treeNextRow.holds Try.pinned (OpenSpec.ofChange treeNextWrong)

/- THE SECOND FORM. 'bulk': how many values and letters a reading holds, each counted each time it is reached (what is shared counts as often as it is met; a slice's spare places count too). A statement '..UptoSaid' is the law's where the arguments, and the package variables that the reading takes, are together of bulk at most 1048576: NARROWER than '..Said'. Prove '..Said' where nothing that the law and all that it calls make is longer than what came in: it says more and counts as full. Else prove '..UptoSaid'. A law counts once. -/
mutual
def uptoBulk {H : Type} : DataW H → Nat
  | .lit (.string bytes) => bytes.length + 1
  | .lit _ => 1
  | .nil => 1
  | .ptr d => uptoBulk d + 1
  | .slice elems spare => uptoBulkAll elems + uptoBulkAll spare + 1
  | .agg parts => uptoBulkAll parts + 1
  | .iface _ d => uptoBulk d + 1
  | .map entries => uptoBulkEntries entries + 1
  | .held _ => 1
def uptoBulkAll {H : Type} : List (DataW H) → Nat
  | [] => 0
  | d :: r => uptoBulk d + uptoBulkAll r
def uptoBulkEntries {H : Type} : List (Lit × DataW H) → Nat
  | [] => 0
  | x :: r => uptoBulkEntry x + uptoBulkEntries r
def uptoBulkEntry {H : Type} : Lit × DataW H → Nat
  | (.string bytes, d) => bytes.length + uptoBulk d + 1
  | (_, d) => uptoBulk d + 1
 end
def uptoSmall : (H : Type) → List (DataW H) → Bool := fun _ ds => decide (uptoBulkAll ds ≤ 1048576)
def OpenSpec.upto (s : _root_.Go.ChangeSpec) : _root_.Go.OpenSpec := { _root_.Go.OpenSpec.ofChange s with cond := some uptoSmall }

/-- 'truglaw19.InterestOnce', WHERE WHAT IT READS IS OF BULK AT MOST 1048576: true; the input reads as it did. -/
def interestOnceUptoRow : OpenClaim := { program := "ytaldikplfcoahaa", sum := "c024a3a230b9d2deda34c756075636d876de381962801cd402cf5ccd15dd393b", func := "trug/truglaw19.InterestOnce", spec := "interestOnce", unfollowed := true, recurses := true, apart := false, narrowed := true }
def InterestOnceUptoSaid : Prop := interestOnceUptoRow.holds Try.pinned (OpenSpec.upto interestOnceSpec)

/-- 'truglaw19.InterestPruned', WHERE WHAT IT READS IS OF BULK AT MOST 1048576: true; the input reads as it did. -/
def interestPrunedUptoRow : OpenClaim := { program := "ytaldikplfcoahaa", sum := "c024a3a230b9d2deda34c756075636d876de381962801cd402cf5ccd15dd393b", func := "trug/truglaw19.InterestPruned", spec := "interestPruned", unfollowed := true, recurses := true, apart := false, narrowed := true }
def InterestPrunedUptoSaid : Prop := interestPrunedUptoRow.holds Try.pinned (OpenSpec.upto interestPrunedSpec)

/-- 'truglaw19.InterestHomes', WHERE WHAT IT READS IS OF BULK AT MOST 1048576: true; the input reads as it did. -/
def interestHomesUptoRow : OpenClaim := { program := "ytaldikplfcoahaa", sum := "c024a3a230b9d2deda34c756075636d876de381962801cd402cf5ccd15dd393b", func := "trug/truglaw19.InterestHomes", spec := "interestHomes", unfollowed := true, recurses := true, apart := false, narrowed := true }
def InterestHomesUptoSaid : Prop := interestHomesUptoRow.holds Try.pinned (OpenSpec.upto interestHomesSpec)

/-- 'truglaw18.TreeBytes', WHERE WHAT IT READS IS OF BULK AT MOST 1048576: true; the input reads as it did. -/
def treeBytesUptoRow : OpenClaim := { program := "ytaldikplfcoahaa", sum := "c024a3a230b9d2deda34c756075636d876de381962801cd402cf5ccd15dd393b", func := "trug/truglaw18.TreeBytes", spec := "treeBytes", unfollowed := true, recurses := true, apart := false, narrowed := true }
def TreeBytesUptoSaid : Prop := treeBytesUptoRow.holds Try.pinned (OpenSpec.upto treeBytesSpec)

/-- 'truglaw18.TreeParts', WHERE WHAT IT READS IS OF BULK AT MOST 1048576: true; the input reads as it did. -/
def treePartsUptoRow : OpenClaim := { program := "ytaldikplfcoahaa", sum := "c024a3a230b9d2deda34c756075636d876de381962801cd402cf5ccd15dd393b", func := "trug/truglaw18.TreeParts", spec := "treeParts", unfollowed := true, recurses := true, apart := false, narrowed := true }
def TreePartsUptoSaid : Prop := treePartsUptoRow.holds Try.pinned (OpenSpec.upto treePartsSpec)

/-- 'truglaw18.TreeNext', WHERE WHAT IT READS IS OF BULK AT MOST 1048576: true; the input reads as it did. -/
def treeNextUptoRow : OpenClaim := { program := "ytaldikplfcoahaa", sum := "c024a3a230b9d2deda34c756075636d876de381962801cd402cf5ccd15dd393b", func := "trug/truglaw18.TreeNext", spec := "treeNext", unfollowed := true, recurses := true, apart := false, narrowed := true }
def TreeNextUptoSaid : Prop := treeNextUptoRow.holds Try.pinned (OpenSpec.upto treeNextSpec)

end Rows
end Go.Proofs.Ytaldikplfcoahaa
