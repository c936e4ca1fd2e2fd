/-
  No cell of these rows narrows 'for every input' (looked for: loops, veiled, ifaces, maps, wideKeys, modest, calm, conditions, laid).
  DERIVED. THE GIVEN ROWS OF THIS SEAT. 10 by the template 'for every input the law returns true; each argument reads behind the call as it read before'; 0 by the template 'total and deterministic' (their statements: YtociliegljoldaaGreatTotals.lean).
  GIVEN WITH THE SEED: the statements are not yours to turn. If you find one false, say at which input.
  Laid BY PROGRAM, IN A SANDBOX (cutbox-rows.mjs): the forced cells as the released guide's own fill.sh prints them over the translation 85099a61600e7578… (all of the seat's roots in one cut). By AI agents, Wed Nov 11 2026. No macro, syntax, notation, axiom, sorry.
-/
import Derived.Test.YtociliegljoldaaGreatChecked
import GoSem.Claim
import GoSem.ClaimJoined
import GoSem.ClaimMapViews
import Derived.JoinedTies
import Derived.KernelRfl
namespace Go.Proofs.YtociliegljoldaaGreat
/- THE CELL 'sum', in the pinned program and in every row, IS THE sha256 OF THE DUMP (.gsa) THAT YtociliegljoldaaGreatProg.lean LOADS. Nothing in Lean hashes anything: it is a label: what it is worth is what the hold of that sum in a sandbox is worth. -/
noncomputable def Tryz.pinned : Pinned := { name := "ytociliegljoldaagreat", sum := "85099a61600e7578e059108ac3219eda48e4f8d23327076cfb7c8bc56a20fbf3", checked := Tryz.checked }
namespace Rows
def none {H : Type} : Left H := { results := [], args := [] }

/-- 'truglaw22.StoreLives': WHATEVER THE INPUT: true; the input reads as it did. -/
def storeLivesSpec : ChangeSpec := { name := "storeLives", fn := fun _ => fun
  | [d1, d2, d3, d4, d5, d6] => { results := [.lit (.bool true)], args := [d1, d2, d3, d4, d5, d6] }
  | _ => none }
def storeLivesRow : OpenClaim := { program := "ytociliegljoldaagreat", sum := "85099a61600e7578e059108ac3219eda48e4f8d23327076cfb7c8bc56a20fbf3", func := "trug/truglaw22.StoreLives", spec := "storeLives", inPlace := ["math.Float64frombits", "math.Float64bits"], unfollowed := true, recurses := true, plainKeys := false, apart := false }
def StoreLivesSaid : Prop := storeLivesRow.holds Tryz.pinned (OpenSpec.ofChange storeLivesSpec)

/-- ITS FALSE NEIGHBOUR: 'it returns false'. Refute it at one input. -/
def storeLivesWrong : ChangeSpec := { name := "storeLives", fn := fun _ => fun
  | [d1, d2, d3, d4, d5, d6] => { results := [.lit (.bool false)], args := [d1, d2, d3, d4, d5, d6] }
  | _ => none }
def StoreLivesWrongFalsely : Prop := storeLivesRow.holds Tryz.pinned (OpenSpec.ofChange storeLivesWrong)

/-- 'truglaw22.StoreMakes': WHATEVER THE INPUT: true; the input reads as it did. -/
def storeMakesSpec : ChangeSpec := { name := "storeMakes", fn := fun _ => fun
  | [d] => { results := [.lit (.bool true)], args := [d] }
  | _ => none }
def storeMakesRow : OpenClaim := { program := "ytociliegljoldaagreat", sum := "85099a61600e7578e059108ac3219eda48e4f8d23327076cfb7c8bc56a20fbf3", func := "trug/truglaw22.StoreMakes", spec := "storeMakes", inPlace := ["math.Float64frombits", "math.Float64bits"], unfollowed := true, recurses := true, plainKeys := false, apart := false }
def StoreMakesSaid : Prop := storeMakesRow.holds Tryz.pinned (OpenSpec.ofChange storeMakesSpec)

/-- ITS FALSE NEIGHBOUR: 'it returns false'. Refute it at one input. -/
def storeMakesWrong : ChangeSpec := { name := "storeMakes", fn := fun _ => fun
  | [d] => { results := [.lit (.bool false)], args := [d] }
  | _ => none }
def StoreMakesWrongFalsely : Prop := storeMakesRow.holds Tryz.pinned (OpenSpec.ofChange storeMakesWrong)

/-- 'truglaw22.StorePurges': WHATEVER THE INPUT: true; the input reads as it did. -/
def storePurgesSpec : ChangeSpec := { name := "storePurges", fn := fun _ => fun
  | [d1, d2, d3] => { results := [.lit (.bool true)], args := [d1, d2, d3] }
  | _ => none }
def storePurgesRow : OpenClaim := { program := "ytociliegljoldaagreat", sum := "85099a61600e7578e059108ac3219eda48e4f8d23327076cfb7c8bc56a20fbf3", func := "trug/truglaw22.StorePurges", spec := "storePurges", inPlace := ["math.Float64frombits", "math.Float64bits"], unfollowed := true, recurses := true, plainKeys := false, apart := false }
def StorePurgesSaid : Prop := storePurgesRow.holds Tryz.pinned (OpenSpec.ofChange storePurgesSpec)

/-- ITS FALSE NEIGHBOUR: 'it returns false'. Refute it at one input. -/
def storePurgesWrong : ChangeSpec := { name := "storePurges", fn := fun _ => fun
  | [d1, d2, d3] => { results := [.lit (.bool false)], args := [d1, d2, d3] }
  | _ => none }
def StorePurgesWrongFalsely : Prop := storePurgesRow.holds Tryz.pinned (OpenSpec.ofChange storePurgesWrong)

/-- 'truglaw22.StoreMerges': WHATEVER THE INPUT: true; the input reads as it did. -/
def storeMergesSpec : ChangeSpec := { name := "storeMerges", fn := fun _ => fun
  | [d1, d2] => { results := [.lit (.bool true)], args := [d1, d2] }
  | _ => none }
def storeMergesRow : OpenClaim := { program := "ytociliegljoldaagreat", sum := "85099a61600e7578e059108ac3219eda48e4f8d23327076cfb7c8bc56a20fbf3", func := "trug/truglaw22.StoreMerges", spec := "storeMerges", inPlace := ["math.Float64bits", "math.Float64frombits"], unfollowed := true, recurses := true, plainKeys := false, apart := false }
def StoreMergesSaid : Prop := storeMergesRow.holds Tryz.pinned (OpenSpec.ofChange storeMergesSpec)

/-- ITS FALSE NEIGHBOUR: 'it returns false'. Refute it at one input. -/
def storeMergesWrong : ChangeSpec := { name := "storeMerges", fn := fun _ => fun
  | [d1, d2] => { results := [.lit (.bool false)], args := [d1, d2] }
  | _ => none }
def StoreMergesWrongFalsely : Prop := storeMergesRow.holds Tryz.pinned (OpenSpec.ofChange storeMergesWrong)

/-- 'truglaw22.StoreBack': WHATEVER THE INPUT: true; the input reads as it did. -/
def storeBackSpec : ChangeSpec := { name := "storeBack", fn := fun _ => fun
  | [d1, d2] => { results := [.lit (.bool true)], args := [d1, d2] }
  | _ => none }
def storeBackRow : OpenClaim := { program := "ytociliegljoldaagreat", sum := "85099a61600e7578e059108ac3219eda48e4f8d23327076cfb7c8bc56a20fbf3", func := "trug/truglaw22.StoreBack", spec := "storeBack", inPlace := ["math.Float64frombits", "math.Float64bits"], unfollowed := true, recurses := true, plainKeys := false, apart := false }
def StoreBackSaid : Prop := storeBackRow.holds Tryz.pinned (OpenSpec.ofChange storeBackSpec)

/-- ITS FALSE NEIGHBOUR: 'it returns false'. Refute it at one input. -/
def storeBackWrong : ChangeSpec := { name := "storeBack", fn := fun _ => fun
  | [d1, d2] => { results := [.lit (.bool false)], args := [d1, d2] }
  | _ => none }
def StoreBackWrongFalsely : Prop := storeBackRow.holds Tryz.pinned (OpenSpec.ofChange storeBackWrong)

/-- 'truglaw10.IndexLives': WHATEVER THE INPUT: true; the input reads as it did. -/
def indexLivesSpec : ChangeSpec := { name := "indexLives", fn := fun _ => fun
  | [d1, d2, d3, d4, d5] => { results := [.lit (.bool true)], args := [d1, d2, d3, d4, d5] }
  | _ => none }
def indexLivesRow : OpenClaim := { program := "ytociliegljoldaagreat", sum := "85099a61600e7578e059108ac3219eda48e4f8d23327076cfb7c8bc56a20fbf3", func := "trug/truglaw10.IndexLives", spec := "indexLives", unfollowed := true, recurses := true, plainKeys := false, apart := false }
def IndexLivesSaid : Prop := indexLivesRow.holds Tryz.pinned (OpenSpec.ofChange indexLivesSpec)

/-- ITS FALSE NEIGHBOUR: 'it returns false'. Refute it at one input. -/
def indexLivesWrong : ChangeSpec := { name := "indexLives", fn := fun _ => fun
  | [d1, d2, d3, d4, d5] => { results := [.lit (.bool false)], args := [d1, d2, d3, d4, d5] }
  | _ => none }
def IndexLivesWrongFalsely : Prop := indexLivesRow.holds Tryz.pinned (OpenSpec.ofChange indexLivesWrong)

/-- 'truglaw10.IndexOrder': WHATEVER THE INPUT: true; the input reads as it did. -/
def indexOrderSpec : ChangeSpec := { name := "indexOrder", fn := fun _ => fun
  | [d1, d2] => { results := [.lit (.bool true)], args := [d1, d2] }
  | _ => none }
def indexOrderRow : OpenClaim := { program := "ytociliegljoldaagreat", sum := "85099a61600e7578e059108ac3219eda48e4f8d23327076cfb7c8bc56a20fbf3", func := "trug/truglaw10.IndexOrder", spec := "indexOrder", unfollowed := true, recurses := true, plainKeys := false, apart := false }
def IndexOrderSaid : Prop := indexOrderRow.holds Tryz.pinned (OpenSpec.ofChange indexOrderSpec)

/-- ITS FALSE NEIGHBOUR: 'it returns false'. Refute it at one input. -/
def indexOrderWrong : ChangeSpec := { name := "indexOrder", fn := fun _ => fun
  | [d1, d2] => { results := [.lit (.bool false)], args := [d1, d2] }
  | _ => none }
def IndexOrderWrongFalsely : Prop := indexOrderRow.holds Tryz.pinned (OpenSpec.ofChange indexOrderWrong)

/-- 'truglaw10.IndexBack': WHATEVER THE INPUT: true; the input reads as it did. -/
def indexBackSpec : ChangeSpec := { name := "indexBack", fn := fun _ => fun
  | [d1, d2] => { results := [.lit (.bool true)], args := [d1, d2] }
  | _ => none }
def indexBackRow : OpenClaim := { program := "ytociliegljoldaagreat", sum := "85099a61600e7578e059108ac3219eda48e4f8d23327076cfb7c8bc56a20fbf3", func := "trug/truglaw10.IndexBack", spec := "indexBack", unfollowed := true, recurses := true, plainKeys := false, apart := false }
def IndexBackSaid : Prop := indexBackRow.holds Tryz.pinned (OpenSpec.ofChange indexBackSpec)

/-- ITS FALSE NEIGHBOUR: 'it returns false'. Refute it at one input. -/
def indexBackWrong : ChangeSpec := { name := "indexBack", fn := fun _ => fun
  | [d1, d2] => { results := [.lit (.bool false)], args := [d1, d2] }
  | _ => none }
def IndexBackWrongFalsely : Prop := indexBackRow.holds Tryz.pinned (OpenSpec.ofChange indexBackWrong)

/-- 'truglaw10.IndexStays': WHATEVER THE INPUT: true; the input reads as it did. -/
def indexStaysSpec : ChangeSpec := { name := "indexStays", fn := fun _ => fun
  | [d] => { results := [.lit (.bool true)], args := [d] }
  | _ => none }
def indexStaysRow : OpenClaim := { program := "ytociliegljoldaagreat", sum := "85099a61600e7578e059108ac3219eda48e4f8d23327076cfb7c8bc56a20fbf3", func := "trug/truglaw10.IndexStays", spec := "indexStays", unfollowed := true, recurses := true, plainKeys := false, apart := false }
def IndexStaysSaid : Prop := indexStaysRow.holds Tryz.pinned (OpenSpec.ofChange indexStaysSpec)

/-- ITS FALSE NEIGHBOUR: 'it returns false'. Refute it at one input. -/
def indexStaysWrong : ChangeSpec := { name := "indexStays", fn := fun _ => fun
  | [d] => { results := [.lit (.bool false)], args := [d] }
  | _ => none }
def IndexStaysWrongFalsely : Prop := indexStaysRow.holds Tryz.pinned (OpenSpec.ofChange indexStaysWrong)

/-- 'truglaw10.IndexClosed': WHATEVER THE INPUT: true; the input reads as it did. -/
def indexClosedSpec : ChangeSpec := { name := "indexClosed", fn := fun _ => fun
  | [d] => { results := [.lit (.bool true)], args := [d] }
  | _ => none }
def indexClosedRow : OpenClaim := { program := "ytociliegljoldaagreat", sum := "85099a61600e7578e059108ac3219eda48e4f8d23327076cfb7c8bc56a20fbf3", func := "trug/truglaw10.IndexClosed", spec := "indexClosed", unfollowed := true, recurses := true, plainKeys := false, apart := false }
def IndexClosedSaid : Prop := indexClosedRow.holds Tryz.pinned (OpenSpec.ofChange indexClosedSpec)

/-- ITS FALSE NEIGHBOUR: 'it returns false'. Refute it at one input. -/
def indexClosedWrong : ChangeSpec := { name := "indexClosed", fn := fun _ => fun
  | [d] => { results := [.lit (.bool false)], args := [d] }
  | _ => none }
def IndexClosedWrongFalsely : Prop := indexClosedRow.holds Tryz.pinned (OpenSpec.ofChange indexClosedWrong)

/- THE SECOND FORM. 'bulk': how many values and letters a reading holds, each counted each time it is reached (what is shared counts as often as it is met; a slice's spare places count too). A statement '..UptoSaid' is the law's where the arguments, and the package variables that the reading takes, are together of bulk at most 1048576: NARROWER than '..Said'. Prove '..Said' where nothing that the law and all that it calls make is longer than what came in: it says more and counts as full. Else prove '..UptoSaid'. A law counts once. -/
mutual
def uptoBulk {H : Type} : DataW H → Nat
  | .lit (.string bytes) => bytes.length + 1
  | .lit _ => 1
  | .nil => 1
  | .ptr d => uptoBulk d + 1
  | .slice elems spare => uptoBulkAll elems + uptoBulkAll spare + 1
  | .agg parts => uptoBulkAll parts + 1
  | .iface _ d => uptoBulk d + 1
  | .map entries => uptoBulkEntries entries + 1
  | .held _ => 1
def uptoBulkAll {H : Type} : List (DataW H) → Nat
  | [] => 0
  | d :: r => uptoBulk d + uptoBulkAll r
def uptoBulkEntries {H : Type} : List (Lit × DataW H) → Nat
  | [] => 0
  | x :: r => uptoBulkEntry x + uptoBulkEntries r
def uptoBulkEntry {H : Type} : Lit × DataW H → Nat
  | (.string bytes, d) => bytes.length + uptoBulk d + 1
  | (_, d) => uptoBulk d + 1
 end
def uptoSmall : (H : Type) → List (DataW H) → Bool := fun _ ds => decide (uptoBulkAll ds ≤ 1048576)
def OpenSpec.upto (s : _root_.Go.ChangeSpec) : _root_.Go.OpenSpec := { _root_.Go.OpenSpec.ofChange s with cond := some uptoSmall }

/-- 'truglaw22.StoreLives', WHERE WHAT IT READS IS OF BULK AT MOST 1048576: true; the input reads as it did. -/
def storeLivesUptoRow : OpenClaim := { program := "ytociliegljoldaagreat", sum := "85099a61600e7578e059108ac3219eda48e4f8d23327076cfb7c8bc56a20fbf3", func := "trug/truglaw22.StoreLives", spec := "storeLives", inPlace := ["math.Float64frombits", "math.Float64bits"], unfollowed := true, recurses := true, plainKeys := false, apart := false, narrowed := true }
def StoreLivesUptoSaid : Prop := storeLivesUptoRow.holds Tryz.pinned (OpenSpec.upto storeLivesSpec)

/-- 'truglaw22.StoreMakes', WHERE WHAT IT READS IS OF BULK AT MOST 1048576: true; the input reads as it did. -/
def storeMakesUptoRow : OpenClaim := { program := "ytociliegljoldaagreat", sum := "85099a61600e7578e059108ac3219eda48e4f8d23327076cfb7c8bc56a20fbf3", func := "trug/truglaw22.StoreMakes", spec := "storeMakes", inPlace := ["math.Float64frombits", "math.Float64bits"], unfollowed := true, recurses := true, plainKeys := false, apart := false, narrowed := true }
def StoreMakesUptoSaid : Prop := storeMakesUptoRow.holds Tryz.pinned (OpenSpec.upto storeMakesSpec)

/-- 'truglaw22.StorePurges', WHERE WHAT IT READS IS OF BULK AT MOST 1048576: true; the input reads as it did. -/
def storePurgesUptoRow : OpenClaim := { program := "ytociliegljoldaagreat", sum := "85099a61600e7578e059108ac3219eda48e4f8d23327076cfb7c8bc56a20fbf3", func := "trug/truglaw22.StorePurges", spec := "storePurges", inPlace := ["math.Float64frombits", "math.Float64bits"], unfollowed := true, recurses := true, plainKeys := false, apart := false, narrowed := true }
def StorePurgesUptoSaid : Prop := storePurgesUptoRow.holds Tryz.pinned (OpenSpec.upto storePurgesSpec)

/-- 'truglaw22.StoreMerges', WHERE WHAT IT READS IS OF BULK AT MOST 1048576: true; the input reads as it did. -/
def storeMergesUptoRow : OpenClaim := { program := "ytociliegljoldaagreat", sum := "85099a61600e7578e059108ac3219eda48e4f8d23327076cfb7c8bc56a20fbf3", func := "trug/truglaw22.StoreMerges", spec := "storeMerges", inPlace := ["math.Float64bits", "math.Float64frombits"], unfollowed := true, recurses := true, plainKeys := false, apart := false, narrowed := true }
def StoreMergesUptoSaid : Prop := storeMergesUptoRow.holds Tryz.pinned (OpenSpec.upto storeMergesSpec)

/-- 'truglaw22.StoreBack', WHERE WHAT IT READS IS OF BULK AT MOST 1048576: true; the input reads as it did. -/
def storeBackUptoRow : OpenClaim := { program := "ytociliegljoldaagreat", sum := "85099a61600e7578e059108ac3219eda48e4f8d23327076cfb7c8bc56a20fbf3", func := "trug/truglaw22.StoreBack", spec := "storeBack", inPlace := ["math.Float64frombits", "math.Float64bits"], unfollowed := true, recurses := true, plainKeys := false, apart := false, narrowed := true }
def StoreBackUptoSaid : Prop := storeBackUptoRow.holds Tryz.pinned (OpenSpec.upto storeBackSpec)

/-- 'truglaw10.IndexLives', WHERE WHAT IT READS IS OF BULK AT MOST 1048576: true; the input reads as it did. -/
def indexLivesUptoRow : OpenClaim := { program := "ytociliegljoldaagreat", sum := "85099a61600e7578e059108ac3219eda48e4f8d23327076cfb7c8bc56a20fbf3", func := "trug/truglaw10.IndexLives", spec := "indexLives", unfollowed := true, recurses := true, plainKeys := false, apart := false, narrowed := true }
def IndexLivesUptoSaid : Prop := indexLivesUptoRow.holds Tryz.pinned (OpenSpec.upto indexLivesSpec)

/-- 'truglaw10.IndexOrder', WHERE WHAT IT READS IS OF BULK AT MOST 1048576: true; the input reads as it did. -/
def indexOrderUptoRow : OpenClaim := { program := "ytociliegljoldaagreat", sum := "85099a61600e7578e059108ac3219eda48e4f8d23327076cfb7c8bc56a20fbf3", func := "trug/truglaw10.IndexOrder", spec := "indexOrder", unfollowed := true, recurses := true, plainKeys := false, apart := false, narrowed := true }
def IndexOrderUptoSaid : Prop := indexOrderUptoRow.holds Tryz.pinned (OpenSpec.upto indexOrderSpec)

/-- 'truglaw10.IndexBack', WHERE WHAT IT READS IS OF BULK AT MOST 1048576: true; the input reads as it did. -/
def indexBackUptoRow : OpenClaim := { program := "ytociliegljoldaagreat", sum := "85099a61600e7578e059108ac3219eda48e4f8d23327076cfb7c8bc56a20fbf3", func := "trug/truglaw10.IndexBack", spec := "indexBack", unfollowed := true, recurses := true, plainKeys := false, apart := false, narrowed := true }
def IndexBackUptoSaid : Prop := indexBackUptoRow.holds Tryz.pinned (OpenSpec.upto indexBackSpec)

/-- 'truglaw10.IndexStays', WHERE WHAT IT READS IS OF BULK AT MOST 1048576: true; the input reads as it did. -/
def indexStaysUptoRow : OpenClaim := { program := "ytociliegljoldaagreat", sum := "85099a61600e7578e059108ac3219eda48e4f8d23327076cfb7c8bc56a20fbf3", func := "trug/truglaw10.IndexStays", spec := "indexStays", unfollowed := true, recurses := true, plainKeys := false, apart := false, narrowed := true }
def IndexStaysUptoSaid : Prop := indexStaysUptoRow.holds Tryz.pinned (OpenSpec.upto indexStaysSpec)

/-- 'truglaw10.IndexClosed', WHERE WHAT IT READS IS OF BULK AT MOST 1048576: true; the input reads as it did. -/
def indexClosedUptoRow : OpenClaim := { program := "ytociliegljoldaagreat", sum := "85099a61600e7578e059108ac3219eda48e4f8d23327076cfb7c8bc56a20fbf3", func := "trug/truglaw10.IndexClosed", spec := "indexClosed", unfollowed := true, recurses := true, plainKeys := false, apart := false, narrowed := true }
def IndexClosedUptoSaid : Prop := indexClosedUptoRow.holds Tryz.pinned (OpenSpec.upto indexClosedSpec)

end Rows
end Go.Proofs.YtociliegljoldaaGreat
