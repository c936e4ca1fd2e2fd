/-
  No cell of these rows narrows 'for every input' (looked for: loops, veiled, ifaces, maps, wideKeys, modest, calm, conditions, laid).
  DERIVED. THE GIVEN ROWS OF THIS SEAT. 9 by the template 'for every input the law returns true; each argument reads behind the call as it read before'; 0 by the template 'total and deterministic' (their statements: YtbgagffpmdlilaaTotals.lean).
  GIVEN WITH THE SEED: the statements are not yours to turn. If you find one false, say at which input.
  Laid BY PROGRAM, IN A SANDBOX (cutbox-rows.mjs): the forced cells as the released guide's own fill.sh prints them over the translation 3cf1e6851a28514b… (all of the seat's roots in one cut). By AI agents, Wed Nov 11 2026. No macro, syntax, notation, axiom, sorry.
-/
import Derived.Test.YtbgagffpmdlilaaChecked
import GoSem.Claim
import GoSem.ClaimJoined
import GoSem.ClaimMapViews
import Derived.JoinedTies
import Derived.KernelRfl
namespace Go.Proofs.Ytbgagffpmdlilaa
/- THE CELL 'sum', in the pinned program and in every row, IS THE sha256 OF THE DUMP (.gsa) THAT YtbgagffpmdlilaaProg.lean LOADS. Nothing in Lean hashes anything: it is a label: what it is worth is what the hold of that sum in a sandbox is worth. -/
noncomputable def Try.pinned : Pinned := { name := "ytbgagffpmdlilaa", sum := "3cf1e6851a28514bcc0a860b9b2732e34f478dc7ff4092e9e3f73a2443894700", checked := Try.checked }
namespace Rows
def none {H : Type} : Left H := { results := [], args := [] }

/-- 'truglaw18.TreeBytes': WHATEVER THE INPUT: true; the input reads as it did. -/
def treeBytesSpec : ChangeSpec := { name := "treeBytes", fn := fun _ => fun
  | [d1, d2] => { results := [.lit (.bool true)], args := [d1, d2] }
  | _ => none }
def treeBytesRow : OpenClaim := { program := "ytbgagffpmdlilaa", sum := "3cf1e6851a28514bcc0a860b9b2732e34f478dc7ff4092e9e3f73a2443894700", func := "trug/truglaw18.TreeBytes", spec := "treeBytes", unfollowed := true, recurses := true, apart := false }
def TreeBytesSaid : Prop := treeBytesRow.holds Try.pinned (OpenSpec.ofChange treeBytesSpec)

/-- ITS FALSE NEIGHBOUR: 'it returns false'. Refute it at one input. -/
def treeBytesWrong : ChangeSpec := { name := "treeBytes", fn := fun _ => fun
  | [d1, d2] => { results := [.lit (.bool false)], args := [d1, d2] }
  | _ => none }
def TreeBytesWrongFalsely : Prop := treeBytesRow.holds Try.pinned (OpenSpec.ofChange treeBytesWrong)

/-- 'truglaw20.RelaySums': WHATEVER THE INPUT: true; the input reads as it did. -/
def relaySumsSpec : ChangeSpec := { name := "relaySums", fn := fun _ => fun
  | [d1, d2, d3] => { results := [.lit (.bool true)], args := [d1, d2, d3] }
  | _ => none }
def relaySumsRow : OpenClaim := { program := "ytbgagffpmdlilaa", sum := "3cf1e6851a28514bcc0a860b9b2732e34f478dc7ff4092e9e3f73a2443894700", func := "trug/truglaw20.RelaySums", spec := "relaySums", unfollowed := true, recurses := true, apart := false }
def RelaySumsSaid : Prop := relaySumsRow.holds Try.pinned (OpenSpec.ofChange relaySumsSpec)

/-- ITS FALSE NEIGHBOUR: 'it returns false'. Refute it at one input. -/
def relaySumsWrong : ChangeSpec := { name := "relaySums", fn := fun _ => fun
  | [d1, d2, d3] => { results := [.lit (.bool false)], args := [d1, d2, d3] }
  | _ => none }
def RelaySumsWrongFalsely : Prop := relaySumsRow.holds Try.pinned (OpenSpec.ofChange relaySumsWrong)

/-- 'truglaw21.PeersApart': WHATEVER THE INPUT: true; the input reads as it did. -/
def peersApartSpec : ChangeSpec := { name := "peersApart", fn := fun _ => fun
  | [d1, d2] => { results := [.lit (.bool true)], args := [d1, d2] }
  | _ => none }
def peersApartRow : OpenClaim := { program := "ytbgagffpmdlilaa", sum := "3cf1e6851a28514bcc0a860b9b2732e34f478dc7ff4092e9e3f73a2443894700", func := "trug/truglaw21.PeersApart", spec := "peersApart", unfollowed := true, recurses := true, apart := false }
def PeersApartSaid : Prop := peersApartRow.holds Try.pinned (OpenSpec.ofChange peersApartSpec)

/-- ITS FALSE NEIGHBOUR: 'it returns false'. Refute it at one input. -/
def peersApartWrong : ChangeSpec := { name := "peersApart", fn := fun _ => fun
  | [d1, d2] => { results := [.lit (.bool false)], args := [d1, d2] }
  | _ => none }
def PeersApartWrongFalsely : Prop := peersApartRow.holds Try.pinned (OpenSpec.ofChange peersApartWrong)

/-- 'truglaw21.PeersStay': WHATEVER THE INPUT: true; the input reads as it did. -/
def peersStaySpec : ChangeSpec := { name := "peersStay", fn := fun _ => fun
  | [d1, d2, d3] => { results := [.lit (.bool true)], args := [d1, d2, d3] }
  | _ => none }
def peersStayRow : OpenClaim := { program := "ytbgagffpmdlilaa", sum := "3cf1e6851a28514bcc0a860b9b2732e34f478dc7ff4092e9e3f73a2443894700", func := "trug/truglaw21.PeersStay", spec := "peersStay", unfollowed := true, recurses := true, apart := false }
def PeersStaySaid : Prop := peersStayRow.holds Try.pinned (OpenSpec.ofChange peersStaySpec)

/-- ITS FALSE NEIGHBOUR: 'it returns false'. Refute it at one input. -/
def peersStayWrong : ChangeSpec := { name := "peersStay", fn := fun _ => fun
  | [d1, d2, d3] => { results := [.lit (.bool false)], args := [d1, d2, d3] }
  | _ => none }
def PeersStayWrongFalsely : Prop := peersStayRow.holds Try.pinned (OpenSpec.ofChange peersStayWrong)

/-- 'truglaw21.PeersBack': WHATEVER THE INPUT: true; the input reads as it did. -/
def peersBackSpec : ChangeSpec := { name := "peersBack", fn := fun _ => fun
  | [d1, d2] => { results := [.lit (.bool true)], args := [d1, d2] }
  | _ => none }
def peersBackRow : OpenClaim := { program := "ytbgagffpmdlilaa", sum := "3cf1e6851a28514bcc0a860b9b2732e34f478dc7ff4092e9e3f73a2443894700", func := "trug/truglaw21.PeersBack", spec := "peersBack", unfollowed := true, recurses := true, apart := false }
def PeersBackSaid : Prop := peersBackRow.holds Try.pinned (OpenSpec.ofChange peersBackSpec)

/-- ITS FALSE NEIGHBOUR: 'it returns false'. Refute it at one input. -/
def peersBackWrong : ChangeSpec := { name := "peersBack", fn := fun _ => fun
  | [d1, d2] => { results := [.lit (.bool false)], args := [d1, d2] }
  | _ => none }
def PeersBackWrongFalsely : Prop := peersBackRow.holds Try.pinned (OpenSpec.ofChange peersBackWrong)

/-- 'truglaw21.PeersLive': WHATEVER THE INPUT: true; the input reads as it did. -/
def peersLiveSpec : ChangeSpec := { name := "peersLive", fn := fun _ => fun
  | [d1, d2, d3] => { results := [.lit (.bool true)], args := [d1, d2, d3] }
  | _ => none }
def peersLiveRow : OpenClaim := { program := "ytbgagffpmdlilaa", sum := "3cf1e6851a28514bcc0a860b9b2732e34f478dc7ff4092e9e3f73a2443894700", func := "trug/truglaw21.PeersLive", spec := "peersLive", unfollowed := true, recurses := true, apart := false }
def PeersLiveSaid : Prop := peersLiveRow.holds Try.pinned (OpenSpec.ofChange peersLiveSpec)

/-- ITS FALSE NEIGHBOUR: 'it returns false'. Refute it at one input. -/
def peersLiveWrong : ChangeSpec := { name := "peersLive", fn := fun _ => fun
  | [d1, d2, d3] => { results := [.lit (.bool false)], args := [d1, d2, d3] }
  | _ => none }
def PeersLiveWrongFalsely : Prop := peersLiveRow.holds Try.pinned (OpenSpec.ofChange peersLiveWrong)

/-- 'truglaw33.ReaderLives': WHATEVER THE INPUT: true; the input reads as it did. -/
def readerLivesSpec : ChangeSpec := { name := "readerLives", fn := fun _ => fun
  | [d1, d2, d3, d4, d5] => { results := [.lit (.bool true)], args := [d1, d2, d3, d4, d5] }
  | _ => none }
def readerLivesRow : OpenClaim := { program := "ytbgagffpmdlilaa", sum := "3cf1e6851a28514bcc0a860b9b2732e34f478dc7ff4092e9e3f73a2443894700", func := "trug/truglaw33.ReaderLives", spec := "readerLives", inPlace := ["math.Float64bits", "math.Float64frombits"], unfollowed := true, recurses := true, apart := false }
def ReaderLivesSaid : Prop := readerLivesRow.holds Try.pinned (OpenSpec.ofChange readerLivesSpec)

/-- ITS FALSE NEIGHBOUR: 'it returns false'. Refute it at one input. -/
def readerLivesWrong : ChangeSpec := { name := "readerLives", fn := fun _ => fun
  | [d1, d2, d3, d4, d5] => { results := [.lit (.bool false)], args := [d1, d2, d3, d4, d5] }
  | _ => none }
def ReaderLivesWrongFalsely : Prop := readerLivesRow.holds Try.pinned (OpenSpec.ofChange readerLivesWrong)

/-- 'truglaw33.ReaderWaits': WHATEVER THE INPUT: true; the input reads as it did. -/
def readerWaitsSpec : ChangeSpec := { name := "readerWaits", fn := fun _ => fun
  | [d1, d2] => { results := [.lit (.bool true)], args := [d1, d2] }
  | _ => none }
def readerWaitsRow : OpenClaim := { program := "ytbgagffpmdlilaa", sum := "3cf1e6851a28514bcc0a860b9b2732e34f478dc7ff4092e9e3f73a2443894700", func := "trug/truglaw33.ReaderWaits", spec := "readerWaits", inPlace := ["math.Float64bits", "math.Float64frombits"], unfollowed := true, recurses := true, apart := false }
def ReaderWaitsSaid : Prop := readerWaitsRow.holds Try.pinned (OpenSpec.ofChange readerWaitsSpec)

/-- ITS FALSE NEIGHBOUR: 'it returns false'. Refute it at one input. -/
def readerWaitsWrong : ChangeSpec := { name := "readerWaits", fn := fun _ => fun
  | [d1, d2] => { results := [.lit (.bool false)], args := [d1, d2] }
  | _ => none }
def ReaderWaitsWrongFalsely : Prop := readerWaitsRow.holds Try.pinned (OpenSpec.ofChange readerWaitsWrong)

/-- 'truglaw33.ReaderOrder': WHATEVER THE INPUT: true; the input reads as it did. -/
def readerOrderSpec : ChangeSpec := { name := "readerOrder", fn := fun _ => fun
  | [d1, d2] => { results := [.lit (.bool true)], args := [d1, d2] }
  | _ => none }
def readerOrderRow : OpenClaim := { program := "ytbgagffpmdlilaa", sum := "3cf1e6851a28514bcc0a860b9b2732e34f478dc7ff4092e9e3f73a2443894700", func := "trug/truglaw33.ReaderOrder", spec := "readerOrder", inPlace := ["math.Float64bits", "math.Float64frombits"], unfollowed := true, recurses := true, apart := false }
def ReaderOrderSaid : Prop := readerOrderRow.holds Try.pinned (OpenSpec.ofChange readerOrderSpec)

/-- ITS FALSE NEIGHBOUR: 'it returns false'. Refute it at one input. -/
def readerOrderWrong : ChangeSpec := { name := "readerOrder", fn := fun _ => fun
  | [d1, d2] => { results := [.lit (.bool false)], args := [d1, d2] }
  | _ => none }
def ReaderOrderWrongFalsely : Prop := readerOrderRow.holds Try.pinned (OpenSpec.ofChange readerOrderWrong)

/- THE SECOND FORM. 'bulk': how many values and letters a reading holds, each counted each time it is reached (what is shared counts as often as it is met; a slice's spare places count too). A statement '..UptoSaid' is the law's where the arguments, and the package variables that the reading takes, are together of bulk at most 1048576: NARROWER than '..Said'. Prove '..Said' where nothing that the law and all that it calls make is longer than what came in: it says more and counts as full. Else prove '..UptoSaid'. A law counts once. -/
mutual
def uptoBulk {H : Type} : DataW H → Nat
  | .lit (.string bytes) => bytes.length + 1
  | .lit _ => 1
  | .nil => 1
  | .ptr d => uptoBulk d + 1
  | .slice elems spare => uptoBulkAll elems + uptoBulkAll spare + 1
  | .agg parts => uptoBulkAll parts + 1
  | .iface _ d => uptoBulk d + 1
  | .map entries => uptoBulkEntries entries + 1
  | .held _ => 1
def uptoBulkAll {H : Type} : List (DataW H) → Nat
  | [] => 0
  | d :: r => uptoBulk d + uptoBulkAll r
def uptoBulkEntries {H : Type} : List (Lit × DataW H) → Nat
  | [] => 0
  | x :: r => uptoBulkEntry x + uptoBulkEntries r
def uptoBulkEntry {H : Type} : Lit × DataW H → Nat
  | (.string bytes, d) => bytes.length + uptoBulk d + 1
  | (_, d) => uptoBulk d + 1
 end
def uptoSmall : (H : Type) → List (DataW H) → Bool := fun _ ds => decide (uptoBulkAll ds ≤ 1048576)
def OpenSpec.upto (s : _root_.Go.ChangeSpec) : _root_.Go.OpenSpec := { _root_.Go.OpenSpec.ofChange s with cond := some uptoSmall }

/-- 'truglaw18.TreeBytes', WHERE WHAT IT READS IS OF BULK AT MOST 1048576: true; the input reads as it did. -/
def treeBytesUptoRow : OpenClaim := { program := "ytbgagffpmdlilaa", sum := "3cf1e6851a28514bcc0a860b9b2732e34f478dc7ff4092e9e3f73a2443894700", func := "trug/truglaw18.TreeBytes", spec := "treeBytes", unfollowed := true, recurses := true, apart := false, narrowed := true }
def TreeBytesUptoSaid : Prop := treeBytesUptoRow.holds Try.pinned (OpenSpec.upto treeBytesSpec)

/-- 'truglaw20.RelaySums', WHERE WHAT IT READS IS OF BULK AT MOST 1048576: true; the input reads as it did. -/
def relaySumsUptoRow : OpenClaim := { program := "ytbgagffpmdlilaa", sum := "3cf1e6851a28514bcc0a860b9b2732e34f478dc7ff4092e9e3f73a2443894700", func := "trug/truglaw20.RelaySums", spec := "relaySums", unfollowed := true, recurses := true, apart := false, narrowed := true }
def RelaySumsUptoSaid : Prop := relaySumsUptoRow.holds Try.pinned (OpenSpec.upto relaySumsSpec)

/-- 'truglaw21.PeersApart', WHERE WHAT IT READS IS OF BULK AT MOST 1048576: true; the input reads as it did. -/
def peersApartUptoRow : OpenClaim := { program := "ytbgagffpmdlilaa", sum := "3cf1e6851a28514bcc0a860b9b2732e34f478dc7ff4092e9e3f73a2443894700", func := "trug/truglaw21.PeersApart", spec := "peersApart", unfollowed := true, recurses := true, apart := false, narrowed := true }
def PeersApartUptoSaid : Prop := peersApartUptoRow.holds Try.pinned (OpenSpec.upto peersApartSpec)

/-- 'truglaw21.PeersStay', WHERE WHAT IT READS IS OF BULK AT MOST 1048576: true; the input reads as it did. -/
def peersStayUptoRow : OpenClaim := { program := "ytbgagffpmdlilaa", sum := "3cf1e6851a28514bcc0a860b9b2732e34f478dc7ff4092e9e3f73a2443894700", func := "trug/truglaw21.PeersStay", spec := "peersStay", unfollowed := true, recurses := true, apart := false, narrowed := true }
def PeersStayUptoSaid : Prop := peersStayUptoRow.holds Try.pinned (OpenSpec.upto peersStaySpec)

/-- 'truglaw21.PeersBack', WHERE WHAT IT READS IS OF BULK AT MOST 1048576: true; the input reads as it did. -/
def peersBackUptoRow : OpenClaim := { program := "ytbgagffpmdlilaa", sum := "3cf1e6851a28514bcc0a860b9b2732e34f478dc7ff4092e9e3f73a2443894700", func := "trug/truglaw21.PeersBack", spec := "peersBack", unfollowed := true, recurses := true, apart := false, narrowed := true }
def PeersBackUptoSaid : Prop := peersBackUptoRow.holds Try.pinned (OpenSpec.upto peersBackSpec)

/-- 'truglaw21.PeersLive', WHERE WHAT IT READS IS OF BULK AT MOST 1048576: true; the input reads as it did. -/
def peersLiveUptoRow : OpenClaim := { program := "ytbgagffpmdlilaa", sum := "3cf1e6851a28514bcc0a860b9b2732e34f478dc7ff4092e9e3f73a2443894700", func := "trug/truglaw21.PeersLive", spec := "peersLive", unfollowed := true, recurses := true, apart := false, narrowed := true }
def PeersLiveUptoSaid : Prop := peersLiveUptoRow.holds Try.pinned (OpenSpec.upto peersLiveSpec)

/-- 'truglaw33.ReaderLives', WHERE WHAT IT READS IS OF BULK AT MOST 1048576: true; the input reads as it did. -/
def readerLivesUptoRow : OpenClaim := { program := "ytbgagffpmdlilaa", sum := "3cf1e6851a28514bcc0a860b9b2732e34f478dc7ff4092e9e3f73a2443894700", func := "trug/truglaw33.ReaderLives", spec := "readerLives", inPlace := ["math.Float64bits", "math.Float64frombits"], unfollowed := true, recurses := true, apart := false, narrowed := true }
def ReaderLivesUptoSaid : Prop := readerLivesUptoRow.holds Try.pinned (OpenSpec.upto readerLivesSpec)

/-- 'truglaw33.ReaderWaits', WHERE WHAT IT READS IS OF BULK AT MOST 1048576: true; the input reads as it did. -/
def readerWaitsUptoRow : OpenClaim := { program := "ytbgagffpmdlilaa", sum := "3cf1e6851a28514bcc0a860b9b2732e34f478dc7ff4092e9e3f73a2443894700", func := "trug/truglaw33.ReaderWaits", spec := "readerWaits", inPlace := ["math.Float64bits", "math.Float64frombits"], unfollowed := true, recurses := true, apart := false, narrowed := true }
def ReaderWaitsUptoSaid : Prop := readerWaitsUptoRow.holds Try.pinned (OpenSpec.upto readerWaitsSpec)

/-- 'truglaw33.ReaderOrder', WHERE WHAT IT READS IS OF BULK AT MOST 1048576: true; the input reads as it did. -/
def readerOrderUptoRow : OpenClaim := { program := "ytbgagffpmdlilaa", sum := "3cf1e6851a28514bcc0a860b9b2732e34f478dc7ff4092e9e3f73a2443894700", func := "trug/truglaw33.ReaderOrder", spec := "readerOrder", inPlace := ["math.Float64bits", "math.Float64frombits"], unfollowed := true, recurses := true, apart := false, narrowed := true }
def ReaderOrderUptoSaid : Prop := readerOrderUptoRow.holds Try.pinned (OpenSpec.upto readerOrderSpec)

end Rows
end Go.Proofs.Ytbgagffpmdlilaa
