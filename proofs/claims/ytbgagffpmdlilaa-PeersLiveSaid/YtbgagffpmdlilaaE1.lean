/- The document's subscriptions: what they are. -/
import Derived.Test.YtbgagffpmdlilaaP13
namespace Go.Proofs.Ytbgagffpmdlilaa
set_option linter.unusedSimpArgs false
set_option linter.unusedVariables false
open Go.Proofs
attribute [local irreducible] vc vcOps vcDraw vcK vcKP vcDK vcDB HWp HCalls postV Ex.then Ex.inBlock stepD callV appendV guardC guardD exV effV opV loadV storeV indexAddrV indexV sliceV
set_option maxRecDepth 10000
set_option maxHeartbeats 4000000

/-- The document's memory of subscriptions. -/
def reV (s : Subs) (k : Nat) : V := if k < 13 then I64 (if k = 0 then 0 else (s (k - 1)).1) else BV (if (k - 13) / 13 = 0 then false else decide ((((k - 13) % 13 : Nat) : Int) ∈ (s ((k - 13) / 13 - 1)).2))
def reT (s : Subs) : List V := (List.range 182).map (reV s)
def reC (n : Int) (s : Subs) : List V := I64 n :: reT s
theorem reT_len (s : Subs) : (reT s).length = 182 := by simp [reT]
theorem reC_len (n : Int) (s : Subs) : (reC n s).length = 183 := by unfold reC; rw [List.length_cons, reT_len]
theorem reT_at (s : Subs) (k : Nat) (h : k < 182) : (reT s)[k]? = some (reV s k) := by
  unfold reT; rw [List.getElem?_map, List.getElem?_range h]; rfl
theorem reT_congr {xs : List V} {s : Subs} (hl : xs.length = 182) (h : ∀ k, k < 182 → xs[k]? = some (reV s k)) : xs = reT s := by
  refine List.ext_getElem? fun k => ?_
  by_cases hk : k < 182
  · rw [h k hk, reT_at s k hk]
  · rw [List.getElem?_eq_none (by omega), List.getElem?_eq_none (by rw [reT_len]; omega)]
theorem reC_st (n : Int) (s : Subs) (i : Nat) (h : i < 12) : (reC n s)[1 + (i + 1)]? = some (I64 (s i).1) := by
  rw [show 1 + (i + 1) = (i + 1) + 1 by omega]; unfold reC; rw [List.getElem?_cons_succ, reT_at _ _ (by omega)]
  unfold reV; rw [if_pos (by omega), if_neg (by omega)]; rfl
theorem reC_pe (n : Int) (s : Subs) (i : Nat) (h : i < 12) (m : Nat) (hm : m < 13) : (reC n s)[14 + (i + 1) * 13 + m]? = some (BV (decide ((m : Int) ∈ (s i).2))) := by
  rw [show 14 + (i + 1) * 13 + m = (13 + (i + 1) * 13 + m) + 1 by omega]; unfold reC; rw [List.getElem?_cons_succ, reT_at _ _ (by omega)]
  unfold reV
  have e1 : (13 + (i + 1) * 13 + m - 13) / 13 = i + 1 := by omega
  have e2 : (13 + (i + 1) * 13 + m - 13) % 13 = m := by omega
  rw [if_neg (by omega), e1, e2, if_neg (by omega)]; rfl
theorem reC_setSt (n : Int) (s : Subs) (i : Nat) (h : i < 12) (x : Int) : (reC n s).set (1 + (i + 1)) (I64 x) = reC n (setSt s i x) := by
  rw [show 1 + (i + 1) = (i + 1) + 1 by omega]; unfold reC; rw [List.set_cons_succ]
  congr 1
  refine reT_congr (by simp [reT_len]) fun k hk => ?_
  rw [List.getElem?_set, reT_len, reT_at s k hk]
  by_cases e : i + 1 = k
  · subst e
    rw [if_pos rfl, if_pos hk]; unfold reV setSt; rw [if_pos (by omega), if_neg (by omega), if_pos (by omega)]
  · rw [if_neg e]
    have : reV s k = reV (setSt s i x) k := by
      unfold reV setSt
      split
      · split
        · rfl
        · rw [if_neg (by omega)]
      · split
        · rfl
        · split <;> rfl
    rw [this]
theorem reC_setB (n : Int) (s : Subs) (i : Nat) (h : i < 12) (m : Nat) (hm : m < 13) (v : Bool) (l : List Int) (hv : decide ((m : Int) ∈ l) = v) (hl : ∀ j : Nat, j < 13 → j ≠ m → ((j : Int) ∈ l ↔ (j : Int) ∈ (s i).2)) : (reC n s).set (14 + (i + 1) * 13 + m) (BV v) = reC n (setPe s i l) := by
  rw [show 14 + (i + 1) * 13 + m = (13 + (i + 1) * 13 + m) + 1 by omega]; unfold reC; rw [List.set_cons_succ]
  congr 1
  refine reT_congr (by simp [reT_len]) fun k hk => ?_
  rw [List.getElem?_set, reT_len, reT_at s k hk]
  have e1 : (13 + (i + 1) * 13 + m - 13) / 13 = i + 1 := by omega
  have e2 : (13 + (i + 1) * 13 + m - 13) % 13 = m := by omega
  by_cases e : 13 + (i + 1) * 13 + m = k
  · subst e
    rw [if_pos rfl, if_pos hk]; unfold reV setPe; rw [if_neg (by omega), e1, e2, if_neg (by omega), if_pos (by omega)]
    simp only
    rw [hv]
  · rw [if_neg e]
    have : reV s k = reV (setPe s i l) k := by
      unfold reV setPe
      split
      · split
        · rfl
        · split <;> rfl
      · split
        · rfl
        · split
          · rename_i h1 h2 h3
            have hj := hl ((k - 13) % 13) (Nat.mod_lt _ (by decide)) (by omega)
            simp only
            rw [h3]
            congr 1
            rw [Bool.eq_iff_iff, decide_eq_true_eq, decide_eq_true_eq]
            exact hj.symm
          · rfl
    rw [this]
section
variable (b : Nat) (σ : Store) (n : Int) (s : Subs) (h : σ b = some (.cells (reC n s)))
include h
theorem eState (x : Int) : HQuiet Try.prog 45 [.ptr b 0, I64 x] σ (I64 (stOf s x)) := by
  refine HQuiet.of ?_; (refine HCalls.of_vc Try.func45 rfl ?_; rw [Try.ntmps45, Try.results45]; simp only [List.length_cons, List.length_nil, Nat.reduceAdd, Nat.reduceSub, List.replicate, List.cons_append, List.nil_append])
  (repeat (first | refine Stp.s ?_ | refine inBlock_exit' (by decide) ?_ | ((first | refine vc_region fun K KP hK hKP => ?_ | refine Stg.s ?_ | refine guardD_ret0 ?_ | refine exV_intro _ rfl ?_); (try simp only [go_sem, loadL_a]); try ((first | refine hK _ _ ?_ | refine hKP _ _ _ ?_ | refine hKP _ _ (fun _ => ?_)); clear hK hKP K KP))))
  by_cases hx : nodeB x = true
  · have hx2 := nodeB_iff.1 hx
    have e : (1 : Nat) + x.toNat = 1 + ((x - 1).toNat + 1) := by omega
    have hst := reC_st n s _ (nodeB_idx hx)
    rw [← e] at hst
    refine vc_cond rfl (fun hq => ?_) (fun _ => ?_)
    · exfalso; simp at hq; omega
    have g0 := eq_true (show 0 ≤ x by omega)
    have g1 := eq_true (show x < 13 by omega)
    (repeat (first | refine Stp.s ?_ | refine inBlock_exit' (by decide) ?_ | ((first | refine vc_region fun K KP hK hKP => ?_ | refine Stg.s ?_ | refine guardD_ret0 ?_ | refine exV_intro _ rfl ?_); (try simp only [go_sem, loadL_a, h, hst, g0, g1]); try ((first | refine hK _ _ ?_ | refine hKP _ _ _ ?_ | refine hKP _ _ (fun _ => ?_)); clear hK hKP K KP))))
    refine ⟨by omega, ?_⟩
    ((try simp only [go_sem, loadL_a]); (try ((first | refine hK _ _ ?_ | refine hKP _ _ _ ?_ | refine hKP _ _ (fun _ => ?_)); clear hK hKP K KP)); repeat (first | refine Stp.s ?_ | refine inBlock_exit' (by decide) ?_ | ((first | refine vc_region fun K KP hK hKP => ?_ | refine Stg.s ?_ | refine guardD_ret0 ?_ | refine exV_intro _ rfl ?_); (try simp only [go_sem, loadL_a]); try ((first | refine hK _ _ ?_ | refine hKP _ _ _ ?_ | refine hKP _ _ (fun _ => ?_)); clear hK hKP K KP))))
    (simp only [postV, resV, oneOf, List.getD_cons_succ, List.getD_cons_zero, and_true, true_and])
    exact Ends.le (by unfold stOf; rw [if_pos hx]) (Store.le_refl _)
  · refine vc_cond rfl (fun _ => ?_) (fun hq => ?_)
    · (repeat (first | refine Stp.s ?_ | refine inBlock_exit' (by decide) ?_ | ((first | refine vc_region fun K KP hK hKP => ?_ | refine Stg.s ?_ | refine guardD_ret0 ?_ | refine exV_intro _ rfl ?_); (try simp only [go_sem, loadL_a]); try ((first | refine hK _ _ ?_ | refine hKP _ _ _ ?_ | refine hKP _ _ (fun _ => ?_)); clear hK hKP K KP))))
      (simp only [postV, resV, oneOf, List.getD_cons_succ, List.getD_cons_zero, and_true, true_and])
      exact Ends.le (by unfold stOf; rw [if_neg hx]) (Store.le_refl _)
    · exfalso
      exact hx (nodeB_iff.2 (by simp at hq; omega))
theorem eOther (x : Int) : HQuiet Try.prog 162 [.ptr b 0, I64 x] σ (BV (nodeB x && x != n)) := by
  refine HQuiet.of ?_; (refine HCalls.of_vc Try.func162 rfl ?_; rw [Try.ntmps162, Try.results162]; simp only [List.length_cons, List.length_nil, Nat.reduceAdd, Nat.reduceSub, List.replicate, List.cons_append, List.nil_append])
  have h0 : (reC n s)[0]? = some (I64 n) := rfl
  (repeat (first | refine Stp.s ?_ | refine inBlock_exit' (by decide) ?_ | ((first | refine vc_region fun K KP hK hKP => ?_ | refine Stg.s ?_ | refine guardD_ret0 ?_ | refine exV_intro _ rfl ?_); (try simp only [go_sem, loadL_a, h, h0]); try ((first | refine hK _ _ ?_ | refine hKP _ _ _ ?_ | refine hKP _ _ (fun _ => ?_)); clear hK hKP K KP))))
  (simp only [postV, resV, oneOf, List.getD_cons_succ, List.getD_cons_zero, and_true, true_and])
  refine Ends.le (congrArg BV ?_) (Store.le_refl _)
  congr 1
  unfold nodeB
  rw [Bool.eq_iff_iff]
  simp
  omega
variable (hg : ∀ i, Good21 n (s i))
include hg
theorem eFound (x : Int) : HCalls Try.prog 118 [.ptr b 0, I64 x] σ (Ends (I64 (pFoundR s x).1) (σ.set b (.cells (reC n (pFoundR s x).2)))) := by
  (refine HCalls.of_vc Try.func118 rfl ?_; rw [Try.ntmps118, Try.results118]; simp only [List.length_cons, List.length_nil, Nat.reduceAdd, Nat.reduceSub, List.replicate, List.cons_append, List.nil_append])
  (repeat (first | refine Stp.s ?_ | refine inBlock_exit' (by decide) ?_ | ((first | refine vc_region fun K KP hK hKP => ?_ | refine Stg.s ?_ | refine guardD_ret0 ?_ | refine exV_intro _ rfl ?_); (try simp only [go_sem, loadL_a]); try ((first | refine hK _ _ ?_ | refine hKP _ _ _ ?_ | refine hKP _ _ (fun _ => ?_)); clear hK hKP K KP))))
  have hid : σ.set b (.cells (reC n s)) = σ := Store.set_id h
  by_cases hx : nodeB x = true
  · have hx2 := nodeB_iff.1 hx
    have e : (1 : Nat) + x.toNat = 1 + ((x - 1).toNat + 1) := by omega
    have hst := reC_st n s _ (nodeB_idx hx)
    have hset := reC_setSt n s _ (nodeB_idx hx) 2
    have hln := reC_len n s
    have hgd := (hg (x - 1).toNat).st
    rw [← e] at hst hset
    refine vc_cond rfl (fun hq => ?_) (fun _ => ?_)
    · exfalso; simp at hq; omega
    have g0 := eq_true (show 0 ≤ x by omega)
    have g1 := eq_true (show x < ((13 : Nat) : Int) by omega)
    have g2 := eq_true (show 1 + x.toNat ≤ 182 by omega)
    (repeat (first | refine Stp.s ?_ | refine inBlock_exit' (by decide) ?_ | ((first | refine vc_region fun K KP hK hKP => ?_ | refine Stg.s ?_ | refine guardD_ret0 ?_ | refine exV_intro _ rfl ?_); (try simp only [go_sem, loadL_a, h, hst, g0, g1]); try ((first | refine hK _ _ ?_ | refine hKP _ _ _ ?_ | refine hKP _ _ (fun _ => ?_)); clear hK hKP K KP))))
    unfold pFoundR
    rw [if_pos hx]
    generalize (s (x - 1).toNat).1 = v at *
    refine vc_cond rfl (fun hq => ?_) (fun hq => ?_)
    · have hq : decide (0 < v) = true := hq
      rw [decide_eq_true_eq] at hq
      rw [if_neg (by omega)]
      (repeat (first | refine Stp.s ?_ | refine inBlock_exit' (by decide) ?_ | ((first | refine vc_region fun K KP hK hKP => ?_ | refine Stg.s ?_ | refine guardD_ret0 ?_ | refine exV_intro _ rfl ?_); (try simp only [go_sem, loadL_a]); try ((first | refine hK _ _ ?_ | refine hKP _ _ _ ?_ | refine hKP _ _ (fun _ => ?_)); clear hK hKP K KP))))
      (simp only [postV, resV, oneOf, List.getD_cons_succ, List.getD_cons_zero, and_true, true_and])
      rw [hid]
      exact Ends.le rfl (Store.le_refl _)
    · have hq : decide (0 < v) = false := hq
      rw [decide_eq_false_iff_not] at hq
      rw [if_pos (by omega)]
      (repeat (first | refine Stp.s ?_ | refine inBlock_exit' (by decide) ?_ | ((first | refine vc_region fun K KP hK hKP => ?_ | refine Stg.s ?_ | refine guardD_ret0 ?_ | refine exV_intro _ rfl ?_); (try simp only [go_sem, loadL_a, h, hst, g0, g1, g2, hln, hset]); try ((first | refine hK _ _ ?_ | refine hKP _ _ _ ?_ | refine hKP _ _ (fun _ => ?_)); clear hK hKP K KP))))
      (simp only [postV, resV, oneOf, List.getD_cons_succ, List.getD_cons_zero, and_true, true_and])
      exact Ends.le rfl (Store.le_refl _)
  · refine vc_cond rfl (fun _ => ?_) (fun hq => ?_)
    · (repeat (first | refine Stp.s ?_ | refine inBlock_exit' (by decide) ?_ | ((first | refine vc_region fun K KP hK hKP => ?_ | refine Stg.s ?_ | refine guardD_ret0 ?_ | refine exV_intro _ rfl ?_); (try simp only [go_sem, loadL_a]); try ((first | refine hK _ _ ?_ | refine hKP _ _ _ ?_ | refine hKP _ _ (fun _ => ?_)); clear hK hKP K KP))))
      (simp only [postV, resV, oneOf, List.getD_cons_succ, List.getD_cons_zero, and_true, true_and])
      unfold pFoundR
      rw [if_neg hx, hid]
      exact Ends.le rfl (Store.le_refl _)
    · exfalso
      exact hx (nodeB_iff.2 (by simp at hq; omega))
theorem eJoin (x f : Int) : HCalls Try.prog 119 [.ptr b 0, I64 x, I64 f] σ (Ends (I64 (pJoinR n s x f).1) (σ.set b (.cells (reC n (pJoinR n s x f).2)))) := by
  (refine HCalls.of_vc Try.func119 rfl ?_; rw [Try.ntmps119, Try.results119]; simp only [List.length_cons, List.length_nil, Nat.reduceAdd, Nat.reduceSub, List.replicate, List.cons_append, List.nil_append])
  (repeat (first | refine Stp.s ?_ | refine inBlock_exit' (by decide) ?_ | ((first | refine vc_region fun K KP hK hKP => ?_ | refine Stg.s ?_ | refine guardD_ret0 ?_ | refine exV_intro _ rfl ?_); (try simp only [go_sem, loadL_a]); try ((first | refine hK _ _ ?_ | refine hKP _ _ _ ?_ | refine hKP _ _ (fun _ => ?_)); clear hK hKP K KP))))
  have hid : σ.set b (.cells (reC n s)) = σ := Store.set_id h
  by_cases hx : nodeB x = true
  · have hx2 := nodeB_iff.1 hx
    have hi := nodeB_idx hx
    have e : (1 : Nat) + x.toNat = 1 + ((x - 1).toNat + 1) := by omega
    have hst := reC_st n s _ hi
    have hset := reC_setSt n s _ hi 1
    have hln := reC_len n s
    have hgd := (hg (x - 1).toNat).st
    have hnil := (hg (x - 1).toNat).ln.1
    rw [← e] at hst hset
    refine vc_cond rfl (fun hq => ?_) (fun _ => ?_)
    · exfalso; simp at hq; omega
    have g0 := eq_true (show 0 ≤ x by omega)
    have g1 := eq_true (show x < ((13 : Nat) : Int) by omega)
    have g2 := eq_true (show 1 + x.toNat ≤ 182 by omega)
    (repeat (first | refine Stp.s ?_ | refine inBlock_exit' (by decide) ?_ | ((first | refine vc_region fun K KP hK hKP => ?_ | refine Stg.s ?_ | refine guardD_ret0 ?_ | refine exV_intro _ rfl ?_); (try simp only [go_sem, loadL_a]); try ((first | refine hK _ _ ?_ | refine hKP _ _ _ ?_ | refine hKP _ _ (fun _ => ?_)); clear hK hKP K KP))))
    ((try simp only [go_sem, loadL_a]); refine callV_quiet en162 (eOther b σ n s h f) ?_)
    ((try simp only [go_sem, loadL_a]); (try ((first | refine hK _ _ ?_ | refine hKP _ _ _ ?_ | refine hKP _ _ (fun _ => ?_)); clear hK hKP K KP)); repeat (first | refine Stp.s ?_ | refine inBlock_exit' (by decide) ?_ | ((first | refine vc_region fun K KP hK hKP => ?_ | refine Stg.s ?_ | refine guardD_ret0 ?_ | refine exV_intro _ rfl ?_); (try simp only [go_sem, loadL_a]); try ((first | refine hK _ _ ?_ | refine hKP _ _ _ ?_ | refine hKP _ _ (fun _ => ?_)); clear hK hKP K KP))))
    unfold pJoinR
    rw [if_pos hx]
    refine vc_cond rfl (fun hq => ?_) (fun hq => ?_)
    · have hq : (!(nodeB f && f != n)) = true := hq
      rw [if_neg (by rw [Bool.not_eq_true'] at hq; rw [hq]; decide)]
      (repeat (first | refine Stp.s ?_ | refine inBlock_exit' (by decide) ?_ | ((first | refine vc_region fun K KP hK hKP => ?_ | refine Stg.s ?_ | refine guardD_ret0 ?_ | refine exV_intro _ rfl ?_); (try simp only [go_sem, loadL_a]); try ((first | refine hK _ _ ?_ | refine hKP _ _ _ ?_ | refine hKP _ _ (fun _ => ?_)); clear hK hKP K KP))))
      (simp only [postV, resV, oneOf, List.getD_cons_succ, List.getD_cons_zero, and_true, true_and])
      rw [hid]
      exact Ends.le rfl (Store.le_refl _)
    have hq : (!(nodeB f && f != n)) = false := hq
    rw [Bool.not_eq_false'] at hq
    rw [if_pos hq]
    have hf := nodeB_iff.1 (by rw [Bool.and_eq_true] at hq; exact hq.1)
    (repeat (first | refine Stp.s ?_ | refine inBlock_exit' (by decide) ?_ | ((first | refine vc_region fun K KP hK hKP => ?_ | refine Stg.s ?_ | refine guardD_ret0 ?_ | refine exV_intro _ rfl ?_); (try simp only [go_sem, loadL_a, h, hst, g0, g1]); try ((first | refine hK _ _ ?_ | refine hKP _ _ _ ?_ | refine hKP _ _ (fun _ => ?_)); clear hK hKP K KP))))
    refine vc_cond rfl (fun hr => ?_) (fun hr => ?_)
    · have hr : decide (0 < (s (x - 1).toNat).1) = true := hr
      rw [decide_eq_true_eq] at hr
      rw [if_neg (by omega)]
      (repeat (first | refine Stp.s ?_ | refine inBlock_exit' (by decide) ?_ | ((first | refine vc_region fun K KP hK hKP => ?_ | refine Stg.s ?_ | refine guardD_ret0 ?_ | refine exV_intro _ rfl ?_); (try simp only [go_sem, loadL_a]); try ((first | refine hK _ _ ?_ | refine hKP _ _ _ ?_ | refine hKP _ _ (fun _ => ?_)); clear hK hKP K KP))))
      (simp only [postV, resV, oneOf, List.getD_cons_succ, List.getD_cons_zero, and_true, true_and])
      rw [hid]
      exact Ends.le rfl (Store.le_refl _)
    · have hr : decide (0 < (s (x - 1).toNat).1) = false := hr
      rw [decide_eq_false_iff_not] at hr
      have hz : (s (x - 1).toNat).1 = 0 := by omega
      rw [if_pos hz]
      have hl0 := hnil hz
      have hln2 := reC_len n (setSt s (x - 1).toNat 1)
      have hset2 := reC_setB n (setSt s (x - 1).toNat 1) _ hi f.toNat (by omega) true [f] (by rw [decide_eq_true_eq, show ((f.toNat : Nat) : Int) = f by omega]; simp) (fun j _ hj => by
        unfold setSt; rw [if_pos rfl, hl0]; simp; omega)
      have e2 : (14 : Nat) + x.toNat * 13 + f.toNat = 14 + ((x - 1).toNat + 1) * 13 + f.toNat := by omega
      rw [← e2] at hset2
      have hfin : setPe (setSt s (x - 1).toNat 1) (x - 1).toNat [f] = setSu s (x - 1).toNat 1 [f] := by
        funext j; unfold setPe setSt setSu; split <;> rfl
      rw [hfin] at hset2
      have k0 := eq_true (show 0 ≤ f by omega)
      have k1 := eq_true (show f < ((13 : Nat) : Int) by omega)
      have k2 := eq_true (show 14 + x.toNat * 13 + f.toNat ≤ 182 by omega)
      have hself : ∀ c, (σ.set b c) b = some c := fun c => Store.set_same _ _ _
      (repeat (first | refine Stp.s ?_ | refine inBlock_exit' (by decide) ?_ | ((first | refine vc_region fun K KP hK hKP => ?_ | refine Stg.s ?_ | refine guardD_ret0 ?_ | refine exV_intro _ rfl ?_); (try simp only [go_sem, loadL_a, h, hself, Store.set_set, hst, g0, g1, g2, k0, k1, k2, hln, hln2, hset, hset2]); try ((first | refine hK _ _ ?_ | refine hKP _ _ _ ?_ | refine hKP _ _ (fun _ => ?_)); clear hK hKP K KP))))
      (simp only [postV, resV, oneOf, List.getD_cons_succ, List.getD_cons_zero, and_true, true_and])
      exact Ends.le rfl (Store.le_refl _)
  · refine vc_cond rfl (fun _ => ?_) (fun hq => ?_)
    · (repeat (first | refine Stp.s ?_ | refine inBlock_exit' (by decide) ?_ | ((first | refine vc_region fun K KP hK hKP => ?_ | refine Stg.s ?_ | refine guardD_ret0 ?_ | refine exV_intro _ rfl ?_); (try simp only [go_sem, loadL_a]); try ((first | refine hK _ _ ?_ | refine hKP _ _ _ ?_ | refine hKP _ _ (fun _ => ?_)); clear hK hKP K KP))))
      (simp only [postV, resV, oneOf, List.getD_cons_succ, List.getD_cons_zero, and_true, true_and])
      unfold pJoinR
      rw [if_neg hx, hid]
      exact Ends.le rfl (Store.le_refl _)
    · exfalso
      exact hx (nodeB_iff.2 (by simp at hq; omega))
end
end Go.Proofs.Ytbgagffpmdlilaa
