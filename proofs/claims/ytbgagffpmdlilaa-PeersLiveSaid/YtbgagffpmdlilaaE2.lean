/- The document's subscriptions: asked, leaving, end. -/
import Derived.Test.YtbgagffpmdlilaaE1
namespace Go.Proofs.Ytbgagffpmdlilaa
set_option linter.unusedSimpArgs false
set_option linter.unusedVariables false
open Go.Proofs
attribute [local irreducible] vc vcOps vcDraw vcK vcKP vcDK vcDB HWp HCalls postV Ex.then Ex.inBlock stepD callV appendV guardC guardD exV effV opV loadV storeV indexAddrV indexV sliceV
set_option maxRecDepth 10000
set_option maxHeartbeats 4000000

theorem mem_insS {f x : Int} {l : List Int} : x ∈ insS f l ↔ (1 ≤ x ∧ x ≤ 12) ∧ (x ∈ l ∨ x = f) := by
  unfold insS
  rw [List.mem_filter, mem_nums]
  simp only [Bool.or_eq_true, decide_eq_true_eq, beq_iff_eq]
theorem mem_remS {f x : Int} {l : List Int} : x ∈ remS f l ↔ x ∈ l ∧ x ≠ f := by
  unfold remS
  rw [List.mem_filter]
  simp only [bne_iff_ne, ne_eq]
section
variable (b : Nat) (σ : Store) (n : Int) (s : Subs) (h : σ b = some (.cells (reC n s))) (hg : ∀ i, Good21 n (s i))
include h hg
theorem eAsked (x f : Int) : HCalls Try.prog 120 [.ptr b 0, I64 x, I64 f] σ (Ends (BV (pAskedR n s x f).1) (σ.set b (.cells (reC n (pAskedR n s x f).2)))) := by
  (refine HCalls.of_vc Try.func120 rfl ?_; rw [Try.ntmps120, Try.results120]; simp only [List.length_cons, List.length_nil, Nat.reduceAdd, Nat.reduceSub, List.replicate, List.cons_append, List.nil_append])
  (repeat (first | refine Stp.s ?_ | refine inBlock_exit' (by decide) ?_ | ((first | refine vc_region fun K KP hK hKP => ?_ | refine Stg.s ?_ | refine guardD_ret0 ?_ | refine exV_intro _ rfl ?_); (try simp only [go_sem, loadL_a]); try ((first | refine hK _ _ ?_ | refine hKP _ _ _ ?_ | refine hKP _ _ (fun _ => ?_)); clear hK hKP K KP))))
  have hid : σ.set b (.cells (reC n s)) = σ := Store.set_id h
  ((try simp only [go_sem, loadL_a]); refine callV_quiet en45 (eState b σ n s h x) ?_)
  ((try simp only [go_sem, loadL_a]); (try ((first | refine hK _ _ ?_ | refine hKP _ _ _ ?_ | refine hKP _ _ (fun _ => ?_)); clear hK hKP K KP)); repeat (first | refine Stp.s ?_ | refine inBlock_exit' (by decide) ?_ | ((first | refine vc_region fun K KP hK hKP => ?_ | refine Stg.s ?_ | refine guardD_ret0 ?_ | refine exV_intro _ rfl ?_); (try simp only [go_sem, loadL_a]); try ((first | refine hK _ _ ?_ | refine hKP _ _ _ ?_ | refine hKP _ _ (fun _ => ?_)); clear hK hKP K KP))))
  by_cases hx : nodeB x = true
  rotate_left
  · have hst : stOf s x = 0 := by unfold stOf; rw [if_neg hx]
    rw [hst]
    have h02 : ((0 : Int) != 2) = true := rfl
    ((try simp only [go_sem, loadL_a, h02]); (try ((first | refine hK _ _ ?_ | refine hKP _ _ _ ?_ | refine hKP _ _ (fun _ => ?_)); clear hK hKP K KP)); repeat (first | refine Stp.s ?_ | refine inBlock_exit' (by decide) ?_ | ((first | refine vc_region fun K KP hK hKP => ?_ | refine Stg.s ?_ | refine guardD_ret0 ?_ | refine exV_intro _ rfl ?_); (try simp only [go_sem, loadL_a, h02]); try ((first | refine hK _ _ ?_ | refine hKP _ _ _ ?_ | refine hKP _ _ (fun _ => ?_)); clear hK hKP K KP))))
    refine vc_cond rfl (fun _ => ?_) (fun hq => by cases hq)
    (repeat (first | refine Stp.s ?_ | refine inBlock_exit' (by decide) ?_ | ((first | refine vc_region fun K KP hK hKP => ?_ | refine Stg.s ?_ | refine guardD_ret0 ?_ | refine exV_intro _ rfl ?_); (try simp only [go_sem, loadL_a]); try ((first | refine hK _ _ ?_ | refine hKP _ _ _ ?_ | refine hKP _ _ (fun _ => ?_)); clear hK hKP K KP))))
    (simp only [postV, resV, oneOf, List.getD_cons_succ, List.getD_cons_zero, and_true, true_and])
    unfold pAskedR
    rw [Bool.eq_false_iff.2 hx, Bool.false_and, if_neg (by decide), hid]
    exact Ends.le rfl (Store.le_refl _)
  have hst : stOf s x = (s (x - 1).toNat).1 := by unfold stOf; rw [if_pos hx]
  rw [hst]
  have hx2 := nodeB_iff.1 hx
  have hi := nodeB_idx hx
  have hR : pAskedR n s x f = if ((s (x - 1).toNat).1 == 2 && ((nodeB f && f != n) && !decide (f ∈ (s (x - 1).toNat).2))) = true then (true, setPe s (x - 1).toNat (insS f (s (x - 1).toNat).2)) else (false, s) := by unfold pAskedR; rw [hx, Bool.true_and]
  refine guardC_q0 (fun _ => callV_quiet en162 (eOther b σ n s h f) ⟨rfl, rfl⟩) ?_
  have hln := reC_len n s
  have g0 := eq_true (show 0 ≤ x by omega)
  have g1 := eq_true (show x < ((13 : Nat) : Int) by omega)
  by_cases hc : ((s (x - 1).toNat).1 == 2 && (nodeB f && f != n)) = true
  rotate_left
  · have hcf := Bool.eq_false_iff.2 hc
    have hcc : ((s (x - 1).toNat).1 != 2 || !(nodeB f && f != n)) = true := by
      simp only [bne] at hcf ⊢
      generalize ((s (x - 1).toNat).1 == 2) = p1 at *
      generalize (nodeB f && !(f == n)) = p2 at *
      cases p1 <;> cases p2 <;> simp_all
    ((try simp only [go_sem, loadL_a, hcc]); (try ((first | refine hK _ _ ?_ | refine hKP _ _ _ ?_ | refine hKP _ _ (fun _ => ?_)); clear hK hKP K KP)); repeat (first | refine Stp.s ?_ | refine inBlock_exit' (by decide) ?_ | ((first | refine vc_region fun K KP hK hKP => ?_ | refine Stg.s ?_ | refine guardD_ret0 ?_ | refine exV_intro _ rfl ?_); (try simp only [go_sem, loadL_a, hcc]); try ((first | refine hK _ _ ?_ | refine hKP _ _ _ ?_ | refine hKP _ _ (fun _ => ?_)); clear hK hKP K KP))))
    refine vc_cond rfl (fun _ => ?_) (fun hq => by cases hq)
    (repeat (first | refine Stp.s ?_ | refine inBlock_exit' (by decide) ?_ | ((first | refine vc_region fun K KP hK hKP => ?_ | refine Stg.s ?_ | refine guardD_ret0 ?_ | refine exV_intro _ rfl ?_); (try simp only [go_sem, loadL_a]); try ((first | refine hK _ _ ?_ | refine hKP _ _ _ ?_ | refine hKP _ _ (fun _ => ?_)); clear hK hKP K KP))))
    (simp only [postV, resV, oneOf, List.getD_cons_succ, List.getD_cons_zero, and_true, true_and])
    rw [hR, if_neg (by
      intro q
      apply hc
      rw [← Bool.and_assoc, Bool.and_eq_true] at q
      exact q.1), hid]
    exact Ends.le rfl (Store.le_refl _)
  · rw [Bool.and_eq_true] at hc
    have hf := nodeB_iff.1 (Bool.and_eq_true .. ▸ hc.2).1
    have hpe := reC_pe n s _ hi f.toNat (by omega)
    have e2 : (14 : Nat) + x.toNat * 13 + f.toNat = 14 + ((x - 1).toNat + 1) * 13 + f.toNat := by omega
    rw [← e2, show ((f.toNat : Nat) : Int) = f by omega] at hpe
    have k0 := eq_true (show 0 ≤ f by omega)
    have k1 := eq_true (show f < ((13 : Nat) : Int) by omega)
    have k2 := eq_true (show 14 + x.toNat * 13 + f.toNat ≤ 182 by omega)
    have hv : ((s (x - 1).toNat).1 != 2) = false := by simp only [bne]; rw [hc.1]; rfl
    ((try simp only [go_sem, loadL_a, h, hpe, hc.1, hc.2, hv, g0, g1, k0, k1]); (try ((first | refine hK _ _ ?_ | refine hKP _ _ _ ?_ | refine hKP _ _ (fun _ => ?_)); clear hK hKP K KP)); repeat (first | refine Stp.s ?_ | refine inBlock_exit' (by decide) ?_ | ((first | refine vc_region fun K KP hK hKP => ?_ | refine Stg.s ?_ | refine guardD_ret0 ?_ | refine exV_intro _ rfl ?_); (try simp only [go_sem, loadL_a, h, hpe, hc.1, hc.2, hv, g0, g1, k0, k1]); try ((first | refine hK _ _ ?_ | refine hKP _ _ _ ?_ | refine hKP _ _ (fun _ => ?_)); clear hK hKP K KP))))
    have hgl := (hg (x - 1).toNat).pe.b
    refine vc_cond rfl (fun hq => ?_) (fun hq => ?_)
    · have hq : decide (f ∈ (s (x - 1).toNat).2) = true := hq
      (repeat (first | refine Stp.s ?_ | refine inBlock_exit' (by decide) ?_ | ((first | refine vc_region fun K KP hK hKP => ?_ | refine Stg.s ?_ | refine guardD_ret0 ?_ | refine exV_intro _ rfl ?_); (try simp only [go_sem, loadL_a]); try ((first | refine hK _ _ ?_ | refine hKP _ _ _ ?_ | refine hKP _ _ (fun _ => ?_)); clear hK hKP K KP))))
      (simp only [postV, resV, oneOf, List.getD_cons_succ, List.getD_cons_zero, and_true, true_and])
      rw [hR, hq, if_neg (by simp), hid]
      exact Ends.le rfl (Store.le_refl _)
    · have hq : decide (f ∈ (s (x - 1).toNat).2) = false := hq
      have hset := reC_setB n s _ hi f.toNat (by omega) true (insS f (s (x - 1).toNat).2) (by rw [decide_eq_true_eq, mem_insS]; omega) (fun j hj hne => by
        rw [mem_insS]
        exact ⟨fun q => by rcases q.2 with q | q; exact q; omega, fun q => ⟨hgl _ q, .inl q⟩⟩)
      rw [← e2] at hset
      (repeat (first | refine Stp.s ?_ | refine inBlock_exit' (by decide) ?_ | ((first | refine vc_region fun K KP hK hKP => ?_ | refine Stg.s ?_ | refine guardD_ret0 ?_ | refine exV_intro _ rfl ?_); (try simp only [go_sem, loadL_a, h, g0, g1, k0, k1, k2, hln, hset]); try ((first | refine hK _ _ ?_ | refine hKP _ _ _ ?_ | refine hKP _ _ (fun _ => ?_)); clear hK hKP K KP))))
      (simp only [postV, resV, oneOf, List.getD_cons_succ, List.getD_cons_zero, and_true, true_and])
      rw [hR, hq, hc.1, hc.2]
      exact Ends.le rfl (Store.le_refl _)
theorem eLeaving (x f : Int) : HCalls Try.prog 123 [.ptr b 0, I64 x, I64 f] σ (Ends (BV (pLeavingR s x f).1) (σ.set b (.cells (reC n (pLeavingR s x f).2)))) := by
  (refine HCalls.of_vc Try.func123 rfl ?_; rw [Try.ntmps123, Try.results123]; simp only [List.length_cons, List.length_nil, Nat.reduceAdd, Nat.reduceSub, List.replicate, List.cons_append, List.nil_append])
  (repeat (first | refine Stp.s ?_ | refine inBlock_exit' (by decide) ?_ | ((first | refine vc_region fun K KP hK hKP => ?_ | refine Stg.s ?_ | refine guardD_ret0 ?_ | refine exV_intro _ rfl ?_); (try simp only [go_sem, loadL_a]); try ((first | refine hK _ _ ?_ | refine hKP _ _ _ ?_ | refine hKP _ _ (fun _ => ?_)); clear hK hKP K KP))))
  have hid : σ.set b (.cells (reC n s)) = σ := Store.set_id h
  ((try simp only [go_sem, loadL_a]); refine callV_quiet en45 (eState b σ n s h x) ?_)
  ((try simp only [go_sem, loadL_a]); (try ((first | refine hK _ _ ?_ | refine hKP _ _ _ ?_ | refine hKP _ _ (fun _ => ?_)); clear hK hKP K KP)); repeat (first | refine Stp.s ?_ | refine inBlock_exit' (by decide) ?_ | ((first | refine vc_region fun K KP hK hKP => ?_ | refine Stg.s ?_ | refine guardD_ret0 ?_ | refine exV_intro _ rfl ?_); (try simp only [go_sem, loadL_a]); try ((first | refine hK _ _ ?_ | refine hKP _ _ _ ?_ | refine hKP _ _ (fun _ => ?_)); clear hK hKP K KP))))
  by_cases hx : nodeB x = true
  rotate_left
  · have hst : stOf s x = 0 := by unfold stOf; rw [if_neg hx]
    rw [hst]
    have h02 : ((0 : Int) != 2) = true := rfl
    ((try simp only [go_sem, loadL_a, h02]); (try ((first | refine hK _ _ ?_ | refine hKP _ _ _ ?_ | refine hKP _ _ (fun _ => ?_)); clear hK hKP K KP)); repeat (first | refine Stp.s ?_ | refine inBlock_exit' (by decide) ?_ | ((first | refine vc_region fun K KP hK hKP => ?_ | refine Stg.s ?_ | refine guardD_ret0 ?_ | refine exV_intro _ rfl ?_); (try simp only [go_sem, loadL_a, h02]); try ((first | refine hK _ _ ?_ | refine hKP _ _ _ ?_ | refine hKP _ _ (fun _ => ?_)); clear hK hKP K KP))))
    refine vc_cond rfl (fun _ => ?_) (fun hq => by cases hq)
    (repeat (first | refine Stp.s ?_ | refine inBlock_exit' (by decide) ?_ | ((first | refine vc_region fun K KP hK hKP => ?_ | refine Stg.s ?_ | refine guardD_ret0 ?_ | refine exV_intro _ rfl ?_); (try simp only [go_sem, loadL_a]); try ((first | refine hK _ _ ?_ | refine hKP _ _ _ ?_ | refine hKP _ _ (fun _ => ?_)); clear hK hKP K KP))))
    (simp only [postV, resV, oneOf, List.getD_cons_succ, List.getD_cons_zero, and_true, true_and])
    unfold pLeavingR
    rw [Bool.eq_false_iff.2 hx, Bool.false_and, if_neg (by decide), hid]
    exact Ends.le rfl (Store.le_refl _)
  have hst : stOf s x = (s (x - 1).toNat).1 := by unfold stOf; rw [if_pos hx]
  rw [hst]
  have hx2 := nodeB_iff.1 hx
  have hi := nodeB_idx hx
  have hR : pLeavingR s x f = if ((s (x - 1).toNat).1 == 2 && decide (f ∈ (s (x - 1).toNat).2)) = true then (true, setPe s (x - 1).toNat (remS f (s (x - 1).toNat).2)) else (false, s) := by unfold pLeavingR; rw [hx, Bool.true_and]
  have hln := reC_len n s
  have g0 := eq_true (show 0 ≤ x by omega)
  have g1 := eq_true (show x < ((13 : Nat) : Int) by omega)
  have hgl := (hg (x - 1).toNat).pe.b
  by_cases hc : (s (x - 1).toNat).1 = 2 ∧ (1 ≤ f ∧ f ≤ 12)
  rotate_left
  · have hcc : (((s (x - 1).toNat).1 != 2 || decide (f < 1)) || decide (12 < f)) = true := by
      simp only [Bool.or_eq_true, bne_iff_ne, ne_eq, decide_eq_true_eq]; omega
    ((try simp only [go_sem, loadL_a, hcc]); (try ((first | refine hK _ _ ?_ | refine hKP _ _ _ ?_ | refine hKP _ _ (fun _ => ?_)); clear hK hKP K KP)); repeat (first | refine Stp.s ?_ | refine inBlock_exit' (by decide) ?_ | ((first | refine vc_region fun K KP hK hKP => ?_ | refine Stg.s ?_ | refine guardD_ret0 ?_ | refine exV_intro _ rfl ?_); (try simp only [go_sem, loadL_a, hcc]); try ((first | refine hK _ _ ?_ | refine hKP _ _ _ ?_ | refine hKP _ _ (fun _ => ?_)); clear hK hKP K KP))))
    refine vc_cond rfl (fun _ => ?_) (fun hq => by cases hq)
    (repeat (first | refine Stp.s ?_ | refine inBlock_exit' (by decide) ?_ | ((first | refine vc_region fun K KP hK hKP => ?_ | refine Stg.s ?_ | refine guardD_ret0 ?_ | refine exV_intro _ rfl ?_); (try simp only [go_sem, loadL_a]); try ((first | refine hK _ _ ?_ | refine hKP _ _ _ ?_ | refine hKP _ _ (fun _ => ?_)); clear hK hKP K KP))))
    (simp only [postV, resV, oneOf, List.getD_cons_succ, List.getD_cons_zero, and_true, true_and])
    rw [hR, if_neg (by
      intro q
      rw [Bool.and_eq_true, beq_iff_eq, decide_eq_true_eq] at q
      exact hc ⟨q.1, hgl _ q.2⟩), hid]
    exact Ends.le rfl (Store.le_refl _)
  · obtain ⟨hc, hf⟩ := hc
    have hpe := reC_pe n s _ hi f.toNat (by omega)
    have e2 : (14 : Nat) + x.toNat * 13 + f.toNat = 14 + ((x - 1).toNat + 1) * 13 + f.toNat := by omega
    rw [← e2, show ((f.toNat : Nat) : Int) = f by omega] at hpe
    have k0 := eq_true (show 0 ≤ f by omega)
    have k1 := eq_true (show f < ((13 : Nat) : Int) by omega)
    have k2 := eq_true (show 14 + x.toNat * 13 + f.toNat ≤ 182 by omega)
    have hcc : (((s (x - 1).toNat).1 != 2 || decide (f < 1)) || decide (12 < f)) = false := by
      rw [hc, decide_eq_false (by omega), decide_eq_false (by omega)]; rfl
    ((try simp only [go_sem, loadL_a, h, hpe, hcc, g0, g1, k0, k1]); (try ((first | refine hK _ _ ?_ | refine hKP _ _ _ ?_ | refine hKP _ _ (fun _ => ?_)); clear hK hKP K KP)); repeat (first | refine Stp.s ?_ | refine inBlock_exit' (by decide) ?_ | ((first | refine vc_region fun K KP hK hKP => ?_ | refine Stg.s ?_ | refine guardD_ret0 ?_ | refine exV_intro _ rfl ?_); (try simp only [go_sem, loadL_a, h, hpe, hcc, g0, g1, k0, k1]); try ((first | refine hK _ _ ?_ | refine hKP _ _ _ ?_ | refine hKP _ _ (fun _ => ?_)); clear hK hKP K KP))))
    refine vc_cond rfl (fun hq => ?_) (fun hq => ?_)
    · have hq : (!decide (f ∈ (s (x - 1).toNat).2)) = true := hq
      rw [Bool.not_eq_true'] at hq
      (repeat (first | refine Stp.s ?_ | refine inBlock_exit' (by decide) ?_ | ((first | refine vc_region fun K KP hK hKP => ?_ | refine Stg.s ?_ | refine guardD_ret0 ?_ | refine exV_intro _ rfl ?_); (try simp only [go_sem, loadL_a]); try ((first | refine hK _ _ ?_ | refine hKP _ _ _ ?_ | refine hKP _ _ (fun _ => ?_)); clear hK hKP K KP))))
      (simp only [postV, resV, oneOf, List.getD_cons_succ, List.getD_cons_zero, and_true, true_and])
      rw [hR, hq, Bool.and_false, if_neg (by decide), hid]
      exact Ends.le rfl (Store.le_refl _)
    · have hq : (!decide (f ∈ (s (x - 1).toNat).2)) = false := hq
      rw [Bool.not_eq_false'] at hq
      have hset := reC_setB n s _ hi f.toNat (by omega) false (remS f (s (x - 1).toNat).2) (by rw [decide_eq_false_iff_not, mem_remS]; omega) (fun j hj hne => by
        rw [mem_remS]
        exact ⟨fun q => q.1, fun q => ⟨q, by omega⟩⟩)
      rw [← e2] at hset
      (repeat (first | refine Stp.s ?_ | refine inBlock_exit' (by decide) ?_ | ((first | refine vc_region fun K KP hK hKP => ?_ | refine Stg.s ?_ | refine guardD_ret0 ?_ | refine exV_intro _ rfl ?_); (try simp only [go_sem, loadL_a, h, g0, g1, k0, k1, k2, hln, hset]); try ((first | refine hK _ _ ?_ | refine hKP _ _ _ ?_ | refine hKP _ _ (fun _ => ?_)); clear hK hKP K KP))))
      (simp only [postV, resV, oneOf, List.getD_cons_succ, List.getD_cons_zero, and_true, true_and])
      rw [hR, hq, hc]
      exact Ends.le rfl (Store.le_refl _)
end
end Go.Proofs.Ytbgagffpmdlilaa
