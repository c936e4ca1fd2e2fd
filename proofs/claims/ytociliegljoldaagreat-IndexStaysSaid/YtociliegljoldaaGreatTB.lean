import Derived.Test.YtociliegljoldaaGreatTA
namespace Go.Proofs.YtociliegljoldaaGreat
set_option linter.unusedSimpArgs false
set_option linter.unusedVariables false
open Go.Proofs
attribute [local irreducible] vc vcOps vcDraw vcK vcKP vcDK vcDB HWp HCalls postV Ex.then Ex.inBlock stepD callV appendV guardC guardD exV effV opV loadV storeV indexAddrV indexV sliceV
set_option maxRecDepth 10000
set_option maxHeartbeats 2000000

/-- To which one comes without coming to w. -/
inductive Rch (t : Tr) (w s : Int) : Int → Prop
  | refl : Rch t w s s
  | step {x y : Int} (h : Rch t w s x) (ha : t.adj x y = true) (hw : y ≠ w) : Rch t w s y
open Classical in
noncomputable def Tr.wset (t : Tr) (w s : Int) : List Int := nums.filter fun x => decide (Rch t w s x)

theorem mem_nums {x : Int} : x ∈ nums ↔ 1 ≤ x ∧ x ≤ 12 := by
  simp only [nums, List.mem_cons, List.not_mem_nil, or_false]; omega
theorem there_nums {t : Tr} {x : Int} (h : t.there x = true) : x ∈ nums := by
  rw [mem_nums]
  unfold Tr.there Tr.kind at h
  split at h
  · assumption
  · simp [isKd] at h
theorem adj_nums {t : Tr} {x y : Int} (h : t.adj x y = true) : y ∈ nums := by
  unfold Tr.adj at h
  simp only [Bool.and_eq_true] at h
  exact there_nums h.1.1.2
theorem mem_next {t : Tr} {x y : Int} : y ∈ t.next x ↔ t.adj x y = true := by
  unfold Tr.next
  rw [List.mem_filter]
  exact ⟨fun h => h.2, fun h => ⟨adj_nums h, h⟩⟩

theorem nodup_le : ∀ (l m : List Int), l.Nodup → (∀ x ∈ l, x ∈ m) → l.length ≤ m.length
  | [], _, _, _ => by simp
  | a :: l, m, h, hs => by
    have ha := hs a (List.mem_cons_self ..)
    have h2 := List.nodup_cons.1 h
    have := nodup_le l (m.erase a) h2.2 fun x hx => (List.mem_erase_of_ne (fun e => h2.1 (by rw [← e]; exact hx))).2 (hs x (List.mem_cons_of_mem _ hx))
    rw [List.length_erase_of_mem ha] at this
    have := List.length_pos_of_mem ha
    simp only [List.length_cons]; omega
/-- What is so of the nodes seen. -/
structure Seen (t : Tr) (w s : Int) (l : List Int) : Prop where
  nd : l.Nodup
  sub : ∀ x ∈ l, x ∈ nums
  has : s ∈ l
  rch : ∀ x ∈ l, Rch t w s x
theorem Seen.len {t : Tr} {w s : Int} {l : List Int} (h : Seen t w s l) : l.length ≤ 12 := nodup_le _ _ h.nd h.sub
theorem Seen.ne {t : Tr} {w s : Int} {l : List Int} (h : Seen t w s l) : l.length ≠ 0 := fun e => by
  rw [List.eq_nil_of_length_eq_zero e] at h; exact absurd h.has (by simp)
theorem Seen.add {t : Tr} {w s x y : Int} {l : List Int} (h : Seen t w s l) (hx : x ∈ l) (ha : t.adj x y = true) (hw : y ≠ w) (hn : y ∉ l) : Seen t w s (l ++ [y]) where
  nd := by rw [List.nodup_append]; exact ⟨h.nd, by simp, fun a ha' b hb e => by simp at hb; rw [hb] at e; rw [e] at ha'; exact hn ha'⟩
  sub z hz := by
    rcases List.mem_append.1 hz with q | q
    · exact h.sub z q
    · simp at q; subst q; exact adj_nums ha
  has := List.mem_append.2 (.inl h.has)
  rch z hz := by
    rcases List.mem_append.1 hz with q | q
    · exact h.rch z q
    · simp at q; subst q; exact .step (h.rch x hx) ha hw
/-- Sorted, they are the set. -/
theorem sorted_eq {t : Tr} {w s : Int} {l l' : List Int} (h : Seen t w s l) (hc : ∀ x ∈ l, ∀ y, t.adj x y = true → y ≠ w → y ∈ l) (hp : l'.Perm l) (hs : ∀ p q, p < q → q < l.length → l'.getD p 0 ≤ l'.getD q 0) : l' = t.wset w s := by
  have hm : ∀ x, x ∈ l ↔ Rch t w s x := fun x => ⟨h.rch x, fun hr => by
    induction hr with
    | refl => exact h.has
    | step _ ha hw ih => exact hc _ ih _ ha hw⟩
  have hl := hp.length_eq
  have hs' : l'.Pairwise (· ≤ ·) := by
    rw [List.pairwise_iff_getElem]
    intro i j hi hj hij
    have := hs i j hij (by omega)
    simpa [List.getD_eq_getElem?_getD, hi, hj] using this
  have hn : (t.wset w s).Pairwise (· ≤ ·) := by
    unfold Tr.wset
    exact List.Pairwise.filter _ (by decide)
  have hpw : l'.Perm (t.wset w s) := by
    have hnd : (t.wset w s).Nodup := List.Pairwise.filter _ (show nums.Pairwise (· ≠ ·) by decide)
    rw [List.perm_ext_iff_of_nodup (hp.nodup_iff.2 h.nd) hnd]
    intro x
    rw [hp.mem_iff, hm]
    unfold Tr.wset
    rw [List.mem_filter]
    simp only [decide_eq_true_eq]
    exact ⟨fun q => ⟨h.sub x ((hm x).2 q), q⟩, fun q => q.2⟩
  exact hpw.eq_of_pairwise (fun a b _ _ h1 h2 => Int.le_antisymm h1 h2) hs' hn
end Go.Proofs.YtociliegljoldaaGreat

namespace Go.Proofs.YtociliegljoldaaGreat
set_option linter.unusedSimpArgs false
set_option linter.unusedVariables false
open Go.Proofs
attribute [local irreducible] vc vcOps vcDraw vcK vcKP vcDK vcDB HWp HCalls postV Ex.then Ex.inBlock stepD callV appendV guardC guardD exV effV opV loadV storeV indexAddrV indexV sliceV
set_option maxRecDepth 10000
set_option maxHeartbeats 4000000

theorem next_len (t : Tr) (x : Int) : (t.next x).length ≤ 12 := List.length_filter_le _ _
end Go.Proofs.YtociliegljoldaaGreat

namespace Go.Proofs.YtociliegljoldaaGreat
set_option linter.unusedSimpArgs false
set_option linter.unusedVariables false
open Go.Proofs
attribute [local irreducible] vc vcOps vcDraw vcK vcKP vcDK vcDB HWp HCalls postV Ex.then Ex.inBlock stepD callV appendV guardC guardD exV effV opV loadV storeV indexAddrV indexV sliceV
set_option maxRecDepth 10000
set_option maxHeartbeats 4000000

theorem nil_ints {σ0 σ : Store} (h : σ0.le σ) : Weakens nilS σ (ints []) σ0 := Weakens.trans (Weakens.le h) (Bld.ints (l := []) (Bld.nil 1 σ0))
noncomputable def Tr.beyond (t : Tr) (n m : Int) : List Int := if t.adj n m = true then t.wset n m else []
def Tr.leaf (t : Tr) (n : Int) : Bool := match t.next n with | [x] => t.kind x == 3 | _ => false
def Tr.kindsOk (t : Tr) : Bool := !t.kinds.any fun k => decide (k < 0) || decide (3 < k)
end Go.Proofs.YtociliegljoldaaGreat

namespace Go.Proofs.YtociliegljoldaaGreat
set_option linter.unusedSimpArgs false
set_option linter.unusedVariables false
open Go.Proofs
attribute [local irreducible] vc vcOps vcDraw vcK vcKP vcDK vcDB HWp HCalls postV Ex.then Ex.inBlock stepD callV appendV guardC guardD exV effV opV loadV storeV indexAddrV indexV sliceV
set_option maxRecDepth 10000
set_option maxHeartbeats 4000000

theorem nodes_len (t : Tr) (k : Int) : (t.nodes k).length ≤ 12 := List.length_filter_le _ _
def Tr.homes (t : Tr) (cart : Int) : List Int :=
  if cart < 1 ∨ (t.nodes 1).length = 0 then [] else if (t.nodes 1).length = 1 then t.nodes 1
  else [(t.nodes 1).getD (cart.toNat % (t.nodes 1).length) 0, (t.nodes 1).getD ((cart.toNat % (t.nodes 1).length + 1) % (t.nodes 1).length) 0]
theorem getD_ints (l : List Int) (i : Nat) (h : i < l.length) : (l.map I64).getD i .top = I64 (l.getD i 0) := by simp [h]
end Go.Proofs.YtociliegljoldaaGreat

namespace Go.Proofs.YtociliegljoldaaGreat
set_option linter.unusedSimpArgs false
set_option linter.unusedVariables false
open Go.Proofs
attribute [local irreducible] vc vcOps vcDraw vcK vcKP vcDK vcDB HWp HCalls postV Ex.then Ex.inBlock stepD callV appendV guardC guardD exV effV opV loadV storeV indexAddrV indexV sliceV
set_option maxRecDepth 10000
set_option maxHeartbeats 4000000

theorem tz1 (a : Bool) : ((!a) = false → a = true) = True := by cases a <;> simp
theorem tz2 (a b : Bool) : ((!a || !b) = false → (a && b) = true) = True := by cases a <;> cases b <;> simp
theorem tz3 (a b x : Bool) : ((!a || !b || x) = false → (a && b && !x) = true) = True := by cases a <;> cases b <;> cases x <;> simp
theorem tz4 (a b x y : Bool) : ((!a || !b || x || y) = false → (a && b && !x && !y) = true) = True := by cases a <;> cases b <;> cases x <;> cases y <;> simp
def Tr.bad (t : Tr) (i : Nat) : Bool := let e := t.edges.getD i (0, 0); !t.there e.1 || !t.there e.2 || e.1 == e.2 || (t.edges.take i).any (e == ·) || (t.edges.take i).any ((e.2, e.1) == ·)
def Tr.edgesOk (t : Tr) : Bool := (List.range t.edges.length).all fun i => !t.bad i
end Go.Proofs.YtociliegljoldaaGreat

namespace Go.Proofs.YtociliegljoldaaGreat
set_option linter.unusedSimpArgs false
set_option linter.unusedVariables false
open Go.Proofs
attribute [local irreducible] vc vcOps vcDraw vcK vcKP vcDK vcDB HWp HCalls postV Ex.then Ex.inBlock stepD callV appendV guardC guardD exV effV opV loadV storeV indexAddrV indexV sliceV
set_option maxRecDepth 10000
set_option maxHeartbeats 4000000

def Tr.all (t : Tr) : Nat := (nums.filter t.there).length
def Tr.hung (t : Tr) (n : Int) : Bool := !((t.kind n == 1 || t.kind n == 2) && !t.leaf n)
noncomputable def Tr.right (t : Tr) : Bool := t.kindsOk && t.edgesOk && (nums.all t.hung) && (match t.nodes 3 with
  | [] => t.all == 0
  | s :: _ => ((t.edges.length : Int) == (t.all : Int) - 1) && (t.wset 0 s).length == t.all)
theorem beq_int (a b : Nat) : ((a : Int) == (b : Int)) = (a == b) := by
  rw [Bool.eq_iff_iff, beq_iff_eq, beq_iff_eq]; omega
end Go.Proofs.YtociliegljoldaaGreat

