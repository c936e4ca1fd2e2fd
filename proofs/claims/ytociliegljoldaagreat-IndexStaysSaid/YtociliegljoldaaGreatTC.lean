import Derived.Test.YtociliegljoldaaGreatTB
import Derived.Test.YtociliegljoldaaGreatHC
namespace Go.Proofs.YtociliegljoldaaGreat
set_option linter.unusedSimpArgs false
set_option linter.unusedVariables false
open Go.Proofs
attribute [local irreducible] vc vcOps vcDraw vcK vcKP vcDK vcDB HWp HCalls postV Ex.then Ex.inBlock stepD callV appendV guardC guardD exV effV opV loadV storeV indexAddrV indexV sliceV
set_option maxRecDepth 10000
set_option maxHeartbeats 4000000

theorem IRow.lst {l : List Int} {σ : Store} : IRow (ints l) (fun i => .ro [I64 (l.getD i 0)]) l σ where
  len K := by skip
              simp only [go_sem, loadL_a, List.length_map]
  ix i hi K := by
    skip
    have g1 : (0 : Int) ≤ i := by omega
    have g2 : (i : Int) < l.length := by omega
    simp only [go_sem, loadL_a, g1, g2, Int.toNat_natCast, List.length_map, getD_ints l i hi]
  ld i hi K := by
    skip
    simp only [go_sem, loadL_a]
noncomputable def Tr.wants (t : Tr) (n m cart : Int) : Bool := (t.homes cart).any fun h => (t.beyond n m).any (h == ·)
theorem beyond_len (t : Tr) (n m : Int) : (t.beyond n m).length ≤ 12 := by
  unfold Tr.beyond; split
  · exact List.length_filter_le _ _
  · simp
theorem homes_len (t : Tr) (cart : Int) : (t.homes cart).length ≤ 12 := by
  unfold Tr.homes; split
  · simp
  · split
    · exact nodes_len t 1
    · simp
noncomputable def Tr.toward (t : Tr) (n fr cart : Int) : List Int := (t.next n).filter fun m => (m != fr) && t.wants n m cart
end Go.Proofs.YtociliegljoldaaGreat

namespace Go.Proofs.YtociliegljoldaaGreat
set_option linter.unusedSimpArgs false
set_option linter.unusedVariables false
open Go.Proofs
attribute [local irreducible] vc vcOps vcDraw vcK vcKP vcDK vcDB HWp HCalls postV Ex.then Ex.inBlock stepD callV appendV guardC guardD exV effV opV loadV storeV indexAddrV indexV sliceV
set_option maxRecDepth 10000
set_option maxHeartbeats 4000000

end Go.Proofs.YtociliegljoldaaGreat

namespace Go.Proofs.YtociliegljoldaaGreat
set_option linter.unusedSimpArgs false
set_option linter.unusedVariables false
open Go.Proofs
attribute [local irreducible] vc vcOps vcDraw vcK vcKP vcDK vcDB HWp HCalls postV Ex.then Ex.inBlock stepD callV appendV guardC guardD exV effV opV loadV storeV indexAddrV indexV sliceV
set_option maxRecDepth 10000
set_option maxHeartbeats 4000000
/-- append at elements of type int, k cells each; the slice is one of several. -/
theorem own_int {σ0 τ σ : Store} {x y : V} {cs news : List V} {n m : Nat} {ob : Option Nat} {K : V → Store → Prop} (hb : Own 1 σ0 τ x cs n ob) (hle : τ.le σ) (h0 : σ0.le σ) (hrow : ∀ KK : Nat → List V → Prop, KK m news → rowV 1 y σ KK) (hl : news.length = m * 1) (h1 : ∀ c ∈ news, c.one = true) (hm : n + m ≤ 1000000000)
    (h : ∀ x' ob' σ', Own 1 σ0 σ' x' (cs ++ news) (n + m) ob' → (∀ c l, σ c = some l → some c ≠ ob → σ' c = some l) → (∀ c, ob' = some c → ob = some c ∨ σ c = none) → K x' σ') : appendV Tryz.prog 81 81 x y σ K := by
  have hby : Tryz.prog.bytesOf 3 ≤ 1000 := by rw [show Tryz.prog.bytesOf 3 = 8 from by kernel_rfl]; decide
  refine Own.append Tryz.underlying81 Tryz.underlying81 (by exact trivial) in3 ce3 (by decide) zl3 hb hle h0 hrow hl h1 (by rw [maxLen_i]; omega) ?_ h
  exact Nat.le_trans (Nat.mul_le_mul hm hby) (by decide)

end Go.Proofs.YtociliegljoldaaGreat

namespace Go.Proofs.YtociliegljoldaaGreat
set_option linter.unusedSimpArgs false
set_option linter.unusedVariables false
open Go.Proofs
attribute [local irreducible] vc vcOps vcDraw vcK vcKP vcDK vcDB HWp HCalls postV Ex.then Ex.inBlock stepD callV appendV guardC guardD exV effV opV loadV storeV indexAddrV indexV sliceV
attribute [local irreducible] Ex.jump
set_option maxRecDepth 10000
set_option maxHeartbeats 4000000

abbrev hopV (e : Int × Int) : V := .agg [I64 e.1, I64 e.2]
def Tr.pass (t : Tr) (right : Int → Int → List Int) (q : List (Int × Int)) (out : List Int) : List (Int × Int) × List Int :=
  match q with
  | [] => ([], out)
  | (n, fr) :: q => (q ++ (right n fr).map (fun m => (m, n)), out ++ right n fr)
/-- The passes, at most f. -/
noncomputable def Tr.bfs (t : Tr) (cart : Int) : Nat → List (Int × Int) → List Int → List Int
  | 0, _, out => out
  | f + 1, q, out => let r := t.pass (fun n fr => t.toward n fr cart) q out
    if 0 < r.1.length ∧ r.2.length < 144 then Tr.bfs t cart f r.1 r.2 else r.2
noncomputable def Tr.reach (t : Tr) (s cart : Int) : List Int := if t.right = true then (t.bfs cart 1000 [(s, 0)] []).take 144 else []

theorem flat_ints : ∀ l : List Int, (l.map I64).flatMap V.cells = l.map I64
  | [] => rfl
  | a :: l => by rw [List.map_cons, List.flatMap_cons, flat_ints l]; rfl
theorem toward_len (t : Tr) (n fr cart : Int) : (t.toward n fr cart).length ≤ 12 := Nat.le_trans (List.length_filter_le _ _) (next_len t n)

/-- What is so at the label. -/
def RInv (t : Tr) (cart : Int) (R : List Int) (σ1 : Store) (a : List (Int × Int) × List Int × V × V × Option Nat × Option Nat) (τ : Store) : Prop :=
  t.right = true ∧ a.1 ≠ [] ∧ a.2.1.length < 144 ∧ Own 2 σ1 τ a.2.2.1 (a.1.flatMap fun e => [I64 e.1, I64 e.2]) a.1.length a.2.2.2.2.1 ∧ Own 1 σ1 τ a.2.2.2.1 (a.2.1.map I64) a.2.1.length a.2.2.2.2.2 ∧ σ1.le τ ∧
    (∀ b, a.2.2.2.2.1 = some b → a.2.2.2.2.2 ≠ some b) ∧ a.1.length ≤ a.2.1.length + 1 ∧ ∃ f, a.1.length + 400 ≤ f + 2 * a.2.1.length ∧ t.bfs cart (f + 1) a.1 a.2.1 = R

end Go.Proofs.YtociliegljoldaaGreat

