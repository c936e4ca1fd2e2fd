/- Trees, plainly. -/
import Derived.Test.YtaldikplfcoahaaHm
namespace Go.Proofs.Ytaldikplfcoahaa
set_option linter.unusedSimpArgs false
set_option linter.unusedVariables false

structure Tr where
  kinds : List Int
  edges : List (Int × Int)

abbrev edgeV (e : Int × Int) : V := .agg [I64 e.1, I64 e.2]
def Tr.es (t : Tr) : V := .lst 2 (t.edges.map edgeV)
abbrev Tr.cs (t : Tr) : List V := t.kinds.map I64 ++ [t.es]
abbrev Tr.v (t : Tr) : V := .agg (t.kinds.map I64 ++ [t.es])

/-- A tree as one may come in. -/
structure Tr.Ok (t : Tr) : Prop where
  k : t.kinds.length = 12
  e : t.edges.length ≤ 1000000

def Tr.kind (t : Tr) (n : Int) : Int := if 1 ≤ n ∧ n ≤ 12 then t.kinds.getD (n - 1).toNat 0 else 0
def isKd (k : Int) : Bool := decide (1 ≤ k) && decide (k ≤ 3)
def Tr.there (t : Tr) (n : Int) : Bool := isKd (t.kind n)
/-- The nodes that may be. -/
def nums : List Int := [1, 2, 3, 4, 5, 6, 7, 8, 9, 10, 11, 12]
def Tr.nodes (t : Tr) (k : Int) : List Int := nums.filter fun n => isKd k && (t.kind n == k)
def Tr.edge (t : Tr) (a b : Int) : Bool := t.edges.any fun e => (e == (a, b)) || (e == (b, a))
def Tr.adj (t : Tr) (a b : Int) : Bool := (b != a) && t.there b && t.there a && t.edge a b
def Tr.next (t : Tr) (a : Int) : List Int := nums.filter fun b => t.adj a b

abbrev ints (l : List Int) : V := .lst 1 (l.map I64)

end Go.Proofs.Ytaldikplfcoahaa
