/- Clocks and labels: which may be. -/
import Derived.Test.YtociliegljoldaaGreatG1
namespace Go.Proofs.YtociliegljoldaaGreat
set_option linter.unusedSimpArgs false
set_option linter.unusedVariables false
open Go.Proofs
attribute [local irreducible] vc vcOps vcDraw vcK vcKP vcDK vcDB HWp HCalls postV Ex.then Ex.inBlock stepD callV appendV guardC guardD exV effV opV loadV storeV indexAddrV indexV sliceV
set_option maxRecDepth 10000
set_option maxHeartbeats 4000000

abbrev U32 (n : Nat) : V := .val (.int .u32 (n : Int))
/-- A vector: how many of each node. -/
def vecV (d : List Nat) : V := .agg (d.map U32)
structure Lb where
  time : Nat
  node : Int
  n : Nat
  cart : Int
  seller : Int
  deps : List Nat
def Lb.cs (l : Lb) : List V := [U64 l.time, I64 l.node, U32 l.n, I64 l.cart, I64 l.seller] ++ l.deps.map U32
def Lb.v (l : Lb) : V := .agg l.cs
structure Lb.Ok (l : Lb) : Prop where
  d : l.deps.length = 12
  n : l.n < 4294967296
def nodeB (n : Int) : Bool := decide (1 ≤ n) && decide (n ≤ 12)
def dotB (node : Int) (n : Nat) : Bool := nodeB node && decide (1 ≤ n) && decide (n ≤ 1048576)
def getN (d : List Nat) (node : Int) : Nat := if nodeB node = true then d.getD (node - 1).toNat 0 else 0
def countsB (d : List Nat) : Bool := d.all fun n => decide (n ≤ 1048576)
def Lb.right (l : Lb) : Bool := decide (1 ≤ l.time) && decide (l.time ≤ 1099511627776) && decide (1 ≤ l.cart) && decide (l.cart ≤ 12) && decide (0 ≤ l.seller) && decide (l.seller ≤ 12) &&
  (dotB l.node l.n && decide (getN l.deps l.node + 1 = l.n) && countsB l.deps)

theorem cnode_pure (n : Int) : HPure Tryz.prog 143 [I64 n] (BV (nodeB n)) := by
  (refine HPure.of en143 fun σ => ?_); (refine HCalls.of_vc Tryz.func143 rfl ?_; rw [Tryz.ntmps143, Tryz.results143]; simp only [List.length_cons, List.length_nil, Nat.reduceAdd, Nat.reduceSub, List.replicate, List.cons_append, List.nil_append])
  (repeat (first | refine Stp.s ?_ | refine inBlock_exit' (by decide) ?_ | ((first | refine vc_region fun K KP hK hKP => ?_ | refine Stg.s ?_ | refine guardD_ret0 ?_ | refine exV_intro _ rfl ?_); (try simp only [go_sem, loadL_a]); try ((first | refine hK _ _ ?_ | refine hKP _ _ _ ?_ | refine hKP _ _ (fun _ => ?_)); clear hK hKP K KP))))
  (simp only [postV, resV, oneOf, List.getD_cons_succ, List.getD_cons_zero, and_true, true_and])
  exact Ends.le rfl (Store.le_refl _)
theorem cright_pure (node : Int) (n : Nat) : HPure Tryz.prog 124 [.agg [I64 node, U32 n]] (BV (dotB node n)) := by
  (refine HPure.of en124 fun σ => ?_); (refine HCalls.of_vc Tryz.func124 rfl ?_; rw [Tryz.ntmps124, Tryz.results124]; simp only [List.length_cons, List.length_nil, Nat.reduceAdd, Nat.reduceSub, List.replicate, List.cons_append, List.nil_append])
  (repeat (first | refine Stp.s ?_ | refine inBlock_exit' (by decide) ?_ | ((first | refine vc_region fun K KP hK hKP => ?_ | refine Stg.s ?_ | refine guardD_ret0 ?_ | refine exV_intro _ rfl ?_); (try simp only [go_sem, loadL_a]); try ((first | refine hK _ _ ?_ | refine hKP _ _ _ ?_ | refine hKP _ _ (fun _ => ?_)); clear hK hKP K KP))))
  intro b1 hb1
  have h1 := Store.set_same σ b1 (.cells [I64 node, U32 n])
  have hle := Store.le_set hb1 (Store.le_refl σ) (k := .cells [I64 node, U32 n])
  ((try simp only [go_sem, loadL_a, h1]); refine hK _ _ ?_; clear hK hKP K KP; repeat (first | refine Stp.s ?_ | refine inBlock_exit' (by decide) ?_ | ((first | refine vc_region fun K KP hK hKP => ?_ | refine Stg.s ?_ | refine guardD_ret0 ?_ | refine exV_intro _ rfl ?_); (try simp only [go_sem, loadL_a, h1]); try ((first | refine hK _ _ ?_ | refine hKP _ _ _ ?_ | refine hKP _ _ (fun _ => ?_)); clear hK hKP K KP))))
  ((try simp only [go_sem, loadL_a]); first | refine callV_pure (cnode_pure node) ?_ | refine guardC_q0 (fun _ => callV_pure (cnode_pure node) ⟨rfl, rfl⟩) ?_)
  ((try simp only [go_sem, loadL_a, h1]); (try ((first | refine hK _ _ ?_ | refine hKP _ _ _ ?_ | refine hKP _ _ (fun _ => ?_)); clear hK hKP K KP)); repeat (first | refine Stp.s ?_ | refine inBlock_exit' (by decide) ?_ | ((first | refine vc_region fun K KP hK hKP => ?_ | refine Stg.s ?_ | refine guardD_ret0 ?_ | refine exV_intro _ rfl ?_); (try simp only [go_sem, loadL_a, h1]); try ((first | refine hK _ _ ?_ | refine hKP _ _ _ ?_ | refine hKP _ _ (fun _ => ?_)); clear hK hKP K KP))))
  (simp only [postV, resV, oneOf, List.getD_cons_succ, List.getD_cons_zero, and_true, true_and])
  refine Ends.le (congrArg BV ?_) hle
  unfold dotB
  congr 1
  · congr 1
    rw [Bool.eq_iff_iff, decide_eq_true_eq, decide_eq_true_eq]; omega
  · rw [Bool.eq_iff_iff, decide_eq_true_eq, decide_eq_true_eq]; omega
theorem cget_pure (d : List Nat) (hd : d.length = 12) (node : Int) : HPure Tryz.prog 80 [vecV d, I64 node] (U32 (getN d node)) := by
  (refine HPure.of en80 fun σ => ?_); (refine HCalls.of_vc Tryz.func80 rfl ?_; rw [Tryz.ntmps80, Tryz.results80]; simp only [List.length_cons, List.length_nil, Nat.reduceAdd, Nat.reduceSub, List.replicate, List.cons_append, List.nil_append])
  (repeat (first | refine Stp.s ?_ | refine inBlock_exit' (by decide) ?_ | ((first | refine vc_region fun K KP hK hKP => ?_ | refine Stg.s ?_ | refine guardD_ret0 ?_ | refine exV_intro _ rfl ?_); (try simp only [go_sem, loadL_a, vecV]); try ((first | refine hK _ _ ?_ | refine hKP _ _ _ ?_ | refine hKP _ _ (fun _ => ?_)); clear hK hKP K KP))))
  intro b1 hb1
  have h1 := Store.set_same σ b1 (.cells (d.map U32))
  have hle := Store.le_set hb1 (Store.le_refl σ) (k := .cells (d.map U32))
  ((try simp only [go_sem, loadL_a, h1]); refine hK _ _ ?_; clear hK hKP K KP; repeat (first | refine Stp.s ?_ | refine inBlock_exit' (by decide) ?_ | ((first | refine vc_region fun K KP hK hKP => ?_ | refine Stg.s ?_ | refine guardD_ret0 ?_ | refine exV_intro _ rfl ?_); (try simp only [go_sem, loadL_a, h1]); try ((first | refine hK _ _ ?_ | refine hKP _ _ _ ?_ | refine hKP _ _ (fun _ => ?_)); clear hK hKP K KP))))
  ((try simp only [go_sem, loadL_a]); first | refine callV_pure (cnode_pure node) ?_ | refine guardC_q0 (fun _ => callV_pure (cnode_pure node) ⟨rfl, rfl⟩) ?_)
  ((try simp only [go_sem, loadL_a, h1]); (try ((first | refine hK _ _ ?_ | refine hKP _ _ _ ?_ | refine hKP _ _ (fun _ => ?_)); clear hK hKP K KP)); repeat (first | refine Stp.s ?_ | refine inBlock_exit' (by decide) ?_ | ((first | refine vc_region fun K KP hK hKP => ?_ | refine Stg.s ?_ | refine guardD_ret0 ?_ | refine exV_intro _ rfl ?_); (try simp only [go_sem, loadL_a, h1]); try ((first | refine hK _ _ ?_ | refine hKP _ _ _ ?_ | refine hKP _ _ (fun _ => ?_)); clear hK hKP K KP))))
  refine vc_cond rfl (fun hc => ?_) (fun hc => ?_)
  · (repeat (first | refine Stp.s ?_ | refine inBlock_exit' (by decide) ?_ | ((first | refine vc_region fun K KP hK hKP => ?_ | refine Stg.s ?_ | refine guardD_ret0 ?_ | refine exV_intro _ rfl ?_); (try simp only [go_sem, loadL_a]); try ((first | refine hK _ _ ?_ | refine hKP _ _ _ ?_ | refine hKP _ _ (fun _ => ?_)); clear hK hKP K KP))))
    (simp only [postV, resV, oneOf, List.getD_cons_succ, List.getD_cons_zero, and_true, true_and])
    refine Ends.le ?_ hle
    unfold getN; rw [if_neg (by simpa using hc)]; rfl
  · have hn : nodeB node = true := by simpa using hc
    have hn2 : 1 ≤ node ∧ node ≤ 12 := by unfold nodeB at hn; simpa using hn
    have hw : IntKind.i64.wrap (node - 1) = node - 1 := i64_in (by omega) (by omega)
    have g0 := eq_true (show (0 : Int) ≤ node - 1 by omega)
    have g1 := eq_true (show node - 1 < ((12 : Nat) : Int) by omega)
    have hg : (d.map U32)[(node - 1).toNat]? = some (U32 (getN d node)) := by
      unfold getN
      rw [if_pos hn, List.getElem?_map, List.getD_eq_getElem?_getD, List.getElem?_eq_getElem (by omega)]; rfl
    (repeat (first | refine Stp.s ?_ | refine inBlock_exit' (by decide) ?_ | ((first | refine vc_region fun K KP hK hKP => ?_ | refine Stg.s ?_ | refine guardD_ret0 ?_ | refine exV_intro _ rfl ?_); (try simp only [go_sem, loadL_a, h1, hw, g0, g1, hg]); try ((first | refine hK _ _ ?_ | refine hKP _ _ _ ?_ | refine hKP _ _ (fun _ => ?_)); clear hK hKP K KP))))
    (simp only [postV, resV, oneOf, List.getD_cons_succ, List.getD_cons_zero, and_true, true_and])
    exact Ends.le rfl hle
theorem lbCells (l : Lb) (hl : l.Ok) : l.cs.length = 17 := by unfold Lb.cs; simp [hl.d]
theorem lbDeps (l : Lb) (hl : l.Ok) : (l.cs.drop 5).take 12 = l.deps.map U32 := by
  unfold Lb.cs
  show (l.deps.map U32).take 12 = _
  rw [List.take_of_length_le (by simp [hl.d])]
theorem lbLoad (l : Lb) (hl : l.Ok) (K : V → Prop) : loadL Tryz.prog 39 l.cs 0 K = K l.v := by
  rw [loadL_a kd39, ce39, List.drop_zero, List.take_of_length_le (by rw [lbCells l hl]; exact Nat.le_refl _)]
  simp [lbCells l hl, Lb.v]
theorem lbLoadD (l : Lb) (hl : l.Ok) (K : V → Prop) : loadL Tryz.prog 27 l.cs 5 K = K (vecV l.deps) := by
  rw [loadL_a kd27, ce27, lbDeps l hl]
  simp [lbCells l hl, vecV]
theorem lb0 (l : Lb) : l.cs[0]? = some (U64 l.time) := rfl
theorem lb1 (l : Lb) : l.cs[1]? = some (I64 l.node) := rfl
theorem lb2 (l : Lb) : l.cs[2]? = some (U32 l.n) := rfl
theorem lb3 (l : Lb) : l.cs[3]? = some (I64 l.cart) := rfl
theorem lb4 (l : Lb) : l.cs[4]? = some (I64 l.seller) := rfl
theorem vcells_lb (l : Lb) : l.v.cells = l.cs := rfl
theorem dot_pure (l : Lb) (hl : l.Ok) : HPure Tryz.prog 38 [l.v] (.agg [I64 l.node, U32 l.n]) := by
  (refine HPure.of en38 fun σ => ?_); (refine HCalls.of_vc Tryz.func38 rfl ?_; rw [Tryz.ntmps38, Tryz.results38]; simp only [List.length_cons, List.length_nil, Nat.reduceAdd, Nat.reduceSub, List.replicate, List.cons_append, List.nil_append])
  (repeat (first | refine Stp.s ?_ | refine inBlock_exit' (by decide) ?_ | ((first | refine vc_region fun K KP hK hKP => ?_ | refine Stg.s ?_ | refine guardD_ret0 ?_ | refine exV_intro _ rfl ?_); (try simp only [go_sem, loadL_a, Lb.v]); try ((first | refine hK _ _ ?_ | refine hKP _ _ _ ?_ | refine hKP _ _ (fun _ => ?_)); clear hK hKP K KP))))
  intro b1 hb1 b2 hb2
  have h1 := Store.set_same σ b1 (.cells l.cs)
  have hle := Store.le_set hb1 (Store.le_refl σ) (k := .cells l.cs)
  generalize σ.set b1 _ = σ1 at *
  have h12 := fun k => Store.keep (k := k) hb2 h1
  have hle2 := fun k => Store.le_set (k := k) hb2 hle
  ((try simp only [go_sem, loadL_a, h12, lb1, lb2]); refine hK _ _ ?_; clear hK hKP K KP; repeat (first | refine Stp.s ?_ | refine inBlock_exit' (by decide) ?_ | ((first | refine vc_region fun K KP hK hKP => ?_ | refine Stg.s ?_ | refine guardD_ret0 ?_ | refine exV_intro _ rfl ?_); (try simp only [go_sem, loadL_a, h12, lb1, lb2]); try ((first | refine hK _ _ ?_ | refine hKP _ _ _ ?_ | refine hKP _ _ (fun _ => ?_)); clear hK hKP K KP))))
  (simp only [postV, resV, oneOf, List.getD_cons_succ, List.getD_cons_zero, and_true, true_and])
  simp only [go_sem, loadL_a]
  exact Ends.le rfl (hle2 _)
theorem counts_pure (d : List Nat) (hd : d.length = 12) : HPure Tryz.prog 147 [vecV d] (BV (countsB d)) := by
  (refine HPure.of en147 fun σ => ?_); (refine HCalls.of_vc Tryz.func147 rfl ?_; rw [Tryz.ntmps147, Tryz.results147]; simp only [List.length_cons, List.length_nil, Nat.reduceAdd, Nat.reduceSub, List.replicate, List.cons_append, List.nil_append])
  (repeat (first | refine Stp.s ?_ | refine inBlock_exit' (by decide) ?_ | ((first | refine vc_region fun K KP hK hKP => ?_ | refine Stg.s ?_ | refine guardD_ret0 ?_ | refine exV_intro _ rfl ?_); (try simp only [go_sem, loadL_a, vecV]); try ((first | refine hK _ _ ?_ | refine hKP _ _ _ ?_ | refine hKP _ _ (fun _ => ?_)); clear hK hKP K KP))))
  intro b1 hb1
  have h1 := Store.set_same σ b1 (.cells (d.map U32))
  have hle := Store.le_set hb1 (Store.le_refl σ) (k := .cells (d.map U32))
  have tk : List.take 12 (d.map U32) = d.map U32 := List.take_of_length_le (by simp [hd])
  have hln : (d.map U32).length = 12 := by simp [hd]
  generalize σ.set b1 _ = σ1 at *
  ((try simp only [go_sem, loadL_a, h1, tk, hln]); refine hK _ _ ?_; clear hK hKP K KP; repeat (first | refine Stp.s ?_ | refine inBlock_exit' (by decide) ?_ | ((first | refine vc_region fun K KP hK hKP => ?_ | refine Stg.s ?_ | refine guardD_ret0 ?_ | refine exV_intro _ rfl ?_); (try simp only [go_sem, loadL_a, h1, tk, hln]); try ((first | refine hK _ _ ?_ | refine hKP _ _ _ ?_ | refine hKP _ _ (fun _ => ?_)); clear hK hKP K KP))))
  refine vc_loop (loopV (fun (i : Nat) => [vecV d, .ptr b1 0, BV false, .top, .top, vecV d, I64 i, .top, .top, .top, .top, .top]) (fun i τ => i ≤ 12 ∧ τ = σ1 ∧ (d.take i).all (fun n => decide (n ≤ 1048576)) = true) (fun i _ => 12 - i) 0 (by repeat (first | exact LeEnv.nil | refine LeEnv.same ?_ | refine LeEnv.top ?_)) ⟨by omega, rfl, rfl⟩ ?_)
  rintro i τ ⟨hi, rfl, hall⟩
  (repeat (first | refine Stp.s ?_ | refine inBlock_exit' (by decide) ?_ | ((first | refine vc_region fun K KP hK hKP => ?_ | refine Stg.s ?_ | refine guardD_ret0 ?_ | refine exV_intro _ rfl ?_); (try simp only [go_sem, loadL_a]); try ((first | refine hK _ _ ?_ | refine hKP _ _ _ ?_ | refine hKP _ _ (fun _ => ?_)); clear hK hKP K KP))))
  refine vc_cond rfl (fun hc => ?_) (fun hc => ?_)
  · have hlt : i < 12 := by simp at hc; omega
    have htk := List.take_succ_eq_append_getElem (show i < d.length by omega)
    have hx : (d.map U32)[i]? = some (U32 (d[i])) := by rw [List.getElem?_map, List.getElem?_eq_getElem (by omega)]; rfl
    have hmem := List.getElem_mem (show i < d.length by omega)
    generalize d[i] = x at *
    have g0 := eq_true (show (0 : Int) ≤ (i : Int) by omega)
    have g1 := eq_true (show (i : Int) < ((12 : Nat) : Int) by omega)
    (repeat (first | refine Stp.s ?_ | refine inBlock_exit' (by decide) ?_ | ((first | refine vc_region fun K KP hK hKP => ?_ | refine Stg.s ?_ | refine guardD_ret0 ?_ | refine exV_intro _ rfl ?_); (try simp only [go_sem, loadL_a, vecV, indexV_arr, g0, g1, Int.toNat_natCast, hx]); try ((first | refine hK _ _ ?_ | refine hKP _ _ _ ?_ | refine hKP _ _ (fun _ => ?_)); clear hK hKP K KP))))
    refine vc_cond rfl (fun hq => ?_) (fun hq => ?_)
    · (repeat (first | refine Stp.s ?_ | refine inBlock_exit' (by decide) ?_ | ((first | refine vc_region fun K KP hK hKP => ?_ | refine Stg.s ?_ | refine guardD_ret0 ?_ | refine exV_intro _ rfl ?_); (try simp only [go_sem, loadL_a]); try ((first | refine hK _ _ ?_ | refine hKP _ _ _ ?_ | refine hKP _ _ (fun _ => ?_)); clear hK hKP K KP))))
      (simp only [postV, resV, oneOf, List.getD_cons_succ, List.getD_cons_zero, and_true, true_and])
      refine Ends.le (congrArg BV (Eq.symm ?_)) hle
      unfold countsB
      rw [List.all_eq_false]
      exact ⟨x, hmem, by simp at hq ⊢; omega⟩
    · (repeat (first | refine Stp.s ?_ | refine inBlock_exit' (by decide) ?_ | ((first | refine vc_region fun K KP hK hKP => ?_ | refine Stg.s ?_ | refine guardD_ret0 ?_ | refine exV_intro _ rfl ?_); (try simp only [go_sem, loadL_a, i64_nsucc (show i < 1000000 by omega)]); try ((first | refine hK _ _ ?_ | refine hKP _ _ _ ?_ | refine hKP _ _ (fun _ => ?_)); clear hK hKP K KP))))
      refine ⟨i + 1, _, (by repeat (first | exact LeEnv.nil | refine LeEnv.same ?_ | refine LeEnv.top ?_)), Store.le_refl _, ⟨by omega, rfl, ?_⟩, by omega⟩
      rw [htk, List.all_append, hall]
      simp at hq ⊢; omega
  · (repeat (first | refine Stp.s ?_ | refine inBlock_exit' (by decide) ?_ | ((first | refine vc_region fun K KP hK hKP => ?_ | refine Stg.s ?_ | refine guardD_ret0 ?_ | refine exV_intro _ rfl ?_); (try simp only [go_sem, loadL_a]); try ((first | refine hK _ _ ?_ | refine hKP _ _ _ ?_ | refine hKP _ _ (fun _ => ?_)); clear hK hKP K KP))))
    (simp only [postV, resV, oneOf, List.getD_cons_succ, List.getD_cons_zero, and_true, true_and])
    have : i = 12 := by simp at hc; omega
    subst this
    rw [List.take_of_length_le (by omega)] at hall
    exact Ends.le (congrArg BV (Eq.symm hall)) hle
theorem lright_pure (l : Lb) (hl : l.Ok) : HPure Tryz.prog 90 [l.v] (BV l.right) := by
  (refine HPure.of en90 fun σ => ?_); (refine HCalls.of_vc Tryz.func90 rfl ?_; rw [Tryz.ntmps90, Tryz.results90]; simp only [List.length_cons, List.length_nil, Nat.reduceAdd, Nat.reduceSub, List.replicate, List.cons_append, List.nil_append])
  (repeat (first | refine Stp.s ?_ | refine inBlock_exit' (by decide) ?_ | ((first | refine vc_region fun K KP hK hKP => ?_ | refine Stg.s ?_ | refine guardD_ret0 ?_ | refine exV_intro _ rfl ?_); (try simp only [go_sem, loadL_a, Lb.v]); try ((first | refine hK _ _ ?_ | refine hKP _ _ _ ?_ | refine hKP _ _ (fun _ => ?_)); clear hK hKP K KP))))
  intro b1 hb1
  have h1 := Store.set_same σ b1 (.cells l.cs)
  have hle := Store.le_set hb1 (Store.le_refl σ) (k := .cells l.cs)
  generalize σ.set b1 _ = σ1 at *
  ((try simp only [go_sem, loadL_a, h1, lb0, lb3, lb4]); refine hK _ _ ?_; clear hK hKP K KP; repeat (first | refine Stp.s ?_ | refine inBlock_exit' (by decide) ?_ | ((first | refine vc_region fun K KP hK hKP => ?_ | refine Stg.s ?_ | refine guardD_ret0 ?_ | refine exV_intro _ rfl ?_); (try simp only [go_sem, loadL_a, h1, lb0, lb3, lb4]); try ((first | refine hK _ _ ?_ | refine hKP _ _ _ ?_ | refine hKP _ _ (fun _ => ?_)); clear hK hKP K KP))))
  refine vc_cond rfl (fun hc => ?_) (fun hc => ?_)
  · (repeat (first | refine Stp.s ?_ | refine inBlock_exit' (by decide) ?_ | ((first | refine vc_region fun K KP hK hKP => ?_ | refine Stg.s ?_ | refine guardD_ret0 ?_ | refine exV_intro _ rfl ?_); (try simp only [go_sem, loadL_a]); try ((first | refine hK _ _ ?_ | refine hKP _ _ _ ?_ | refine hKP _ _ (fun _ => ?_)); clear hK hKP K KP))))
    (simp only [postV, resV, oneOf, List.getD_cons_succ, List.getD_cons_zero, and_true, true_and])
    refine Ends.le (congrArg BV (Eq.symm ?_)) hle
    unfold Lb.right
    simp only [Bool.or_eq_true, decide_eq_true_eq] at hc
    rw [Bool.eq_false_iff]
    intro h
    simp only [Bool.and_eq_true, decide_eq_true_eq] at h
    omega
  · (repeat (first | refine Stp.s ?_ | refine inBlock_exit' (by decide) ?_ | ((first | refine vc_region fun K KP hK hKP => ?_ | refine Stg.s ?_ | refine guardD_ret0 ?_ | refine exV_intro _ rfl ?_); (try simp only [go_sem, loadL_a]); try ((first | refine hK _ _ ?_ | refine hKP _ _ _ ?_ | refine hKP _ _ (fun _ => ?_)); clear hK hKP K KP))))
    ((repeat first | refine Stp.s ?_ | refine inBlock_exit' (by decide) ?_); refine vc_draw mixed [ ] [0, 1, 2, 3, 4, 5, 6, 7, 8, 9, 10, 11, 12, 13, 14, 15, 16, 17, 18, 19 ] [ 0, 5, 7, 10, 16 ] [] (fun _ => True) (by kernel_rfl) (by kernel_rfl) (by kernel_rfl) trivial fun K KP hK hKP => ?_; simp only [go_sem, h1, lbLoad l hl, lbLoadD l hl, lb1, lb2]; try (refine hK _ _ ?_; clear hK hKP K KP))
    ((try simp only [go_sem, loadL_a]); first | refine exV_intro _ (callV_pure (dot_pure l hl) ⟨rfl, rfl⟩) ?_ | refine exV_intro _ (fun _ => callV_pure (dot_pure l hl) ⟨rfl, rfl⟩) ?_ | refine exV_intro _ (fun _ _ => callV_pure (dot_pure l hl) ⟨rfl, rfl⟩) ?_)
    ((try simp only [go_sem, loadL_a]); (try ((first | refine hK _ _ ?_ | refine hKP _ _ _ ?_ | refine hKP _ _ (fun _ => ?_)); clear hK hKP K KP)); repeat (first | refine Stp.s ?_ | refine inBlock_exit' (by decide) ?_ | ((first | refine vc_region fun K KP hK hKP => ?_ | refine Stg.s ?_ | refine guardD_ret0 ?_ | refine exV_intro _ rfl ?_); (try simp only [go_sem, loadL_a]); try ((first | refine hK _ _ ?_ | refine hKP _ _ _ ?_ | refine hKP _ _ (fun _ => ?_)); clear hK hKP K KP))))
    ((try simp only [go_sem, loadL_a]); first | refine exV_intro _ (callV_pure (cright_pure l.node l.n) ⟨rfl, rfl⟩) ?_ | refine exV_intro _ (fun _ => callV_pure (cright_pure l.node l.n) ⟨rfl, rfl⟩) ?_ | refine exV_intro _ (fun _ _ => callV_pure (cright_pure l.node l.n) ⟨rfl, rfl⟩) ?_)
    ((try simp only [go_sem, h1, lbLoadD l hl, lb1, lb2]); (try ((first | refine hK _ _ ?_ | refine hKP _ _ _ ?_ | refine hKP _ _ (fun _ => ?_)); clear hK hKP K KP)); repeat (first | refine Stp.s ?_ | refine inBlock_exit' (by decide) ?_ | ((first | refine vc_region fun K KP hK hKP => ?_ | refine Stg.s ?_ | refine guardD_ret0 ?_ | refine exV_intro _ rfl ?_); (try simp only [go_sem, h1, lbLoadD l hl, lb1, lb2]); try ((first | refine hK _ _ ?_ | refine hKP _ _ _ ?_ | refine hKP _ _ (fun _ => ?_)); clear hK hKP K KP))))
    ((try simp only [go_sem, loadL_a]); first | refine guardD_q0 (fun _ => callV_pure (cget_pure l.deps hl.d l.node) ⟨rfl, rfl⟩) ?_ | refine guardD_q0 (fun _ _ => callV_pure (cget_pure l.deps hl.d l.node) ⟨rfl, rfl⟩) ?_)
    ((try simp only [go_sem, h1, lbLoadD l hl, lb1, lb2]); (try ((first | refine hK _ _ ?_ | refine hKP _ _ _ ?_ | refine hKP _ _ (fun _ => ?_)); clear hK hKP K KP)); repeat (first | refine Stp.s ?_ | refine inBlock_exit' (by decide) ?_ | ((first | refine vc_region fun K KP hK hKP => ?_ | refine Stg.s ?_ | refine guardD_ret0 ?_ | refine exV_intro _ rfl ?_); (try simp only [go_sem, h1, lbLoadD l hl, lb1, lb2]); try ((first | refine hK _ _ ?_ | refine hKP _ _ _ ?_ | refine hKP _ _ (fun _ => ?_)); clear hK hKP K KP))))
    ((try simp only [go_sem, loadL_a]); first | refine guardD_q0 (fun _ => callV_pure (counts_pure l.deps hl.d) ⟨rfl, rfl⟩) ?_ | refine guardD_q0 (fun _ _ => callV_pure (counts_pure l.deps hl.d) ⟨rfl, rfl⟩) ?_)
    ((try simp only [go_sem, h1, lbLoadD l hl, lb1, lb2]); (try ((first | refine hK _ _ ?_ | refine hKP _ _ _ ?_ | refine hKP _ _ (fun _ => ?_)); clear hK hKP K KP)); repeat (first | refine Stp.s ?_ | refine inBlock_exit' (by decide) ?_ | ((first | refine vc_region fun K KP hK hKP => ?_ | refine Stg.s ?_ | refine guardD_ret0 ?_ | refine exV_intro _ rfl ?_); (try simp only [go_sem, h1, lbLoadD l hl, lb1, lb2]); try ((first | refine hK _ _ ?_ | refine hKP _ _ _ ?_ | refine hKP _ _ (fun _ => ?_)); clear hK hKP K KP))))
    (simp only [postV, resV, oneOf, List.getD_cons_succ, List.getD_cons_zero, and_true, true_and])
    refine Ends.le (congrArg BV ?_) hle
    simp only [Bool.or_eq_false_iff, decide_eq_false_iff_not] at hc
    obtain ⟨⟨⟨⟨⟨q1, q2⟩, q3⟩, q4⟩, q5⟩, q6⟩ := hc
    unfold Lb.right
    rw [decide_eq_true (show 1 ≤ l.time by omega), decide_eq_true (show l.time ≤ 1099511627776 by omega), decide_eq_true (show 1 ≤ l.cart by omega), decide_eq_true (show l.cart ≤ 12 by omega), decide_eq_true (show 0 ≤ l.seller by omega), decide_eq_true (show l.seller ≤ 12 by omega)]
    simp only [Bool.true_and]
    cases hd : dotB l.node l.n with
    | false => rfl
    | true =>
      have hn : 1 ≤ l.n ∧ l.n ≤ 1048576 := by unfold dotB at hd; simp only [Bool.and_eq_true, decide_eq_true_eq] at hd; omega
      have hw : IntKind.u32.wrap ((l.n : Int) - 1) = (l.n : Int) - 1 := by
        show ((l.n : Int) - 1) % 4294967296 = _
        omega
      rw [hw]
      simp only [Bool.true_and]
      congr 1
      rw [Bool.eq_iff_iff, beq_iff_eq, decide_eq_true_eq]
      omega
end Go.Proofs.YtociliegljoldaaGreat
