/- The document's subscriptions: end, joined, left, leave. -/
import Derived.Test.YtbgagffpmdlilaaE3
namespace Go.Proofs.Ytbgagffpmdlilaa
set_option linter.unusedSimpArgs false
set_option linter.unusedVariables false
open Go.Proofs
attribute [local irreducible] vc vcOps vcDraw vcK vcKP vcDK vcDB HWp HCalls postV Ex.then Ex.inBlock stepD callV appendV guardC guardD exV effV opV loadV storeV indexAddrV indexV sliceV
set_option maxRecDepth 10000
set_option maxHeartbeats 4000000

def cutL (k : Nat) (l : List Int) : List Int := l.filter fun y => decide ((k : Int) ≤ y)
theorem mem_cutL {k : Nat} {l : List Int} {x : Int} : x ∈ cutL k l ↔ x ∈ l ∧ (k : Int) ≤ x := by
  unfold cutL; rw [List.mem_filter, decide_eq_true_eq]
theorem setPe_twice (s : Subs) (i : Nat) (l m : List Int) : setPe (setPe s i l) i m = setPe s i m := by
  funext j; unfold setPe; split <;> rfl
theorem reC_wipe (n : Int) (s : Subs) (i : Nat) (h : i < 12) (l : List Int) : ∀ (m k : Nat), k + m ≤ 13 → setL (reC n (setPe s i (cutL k l))) (14 + (i + 1) * 13 + k) (List.replicate m (BV false)) = reC n (setPe s i (cutL (k + m) l))
  | 0, k, _ => rfl
  | m + 1, k, hk => by
    rw [List.replicate_succ, setL, reC_setB n (setPe s i (cutL k l)) i h k (by omega) false (cutL (k + 1) l) (by rw [decide_eq_false_iff_not, mem_cutL]; omega) (fun j hj hne => by
      unfold setPe; rw [if_pos rfl]
      rw [mem_cutL, mem_cutL]
      exact ⟨fun q => ⟨q.1, by omega⟩, fun q => ⟨q.1, by omega⟩⟩), setPe_twice]
    have := reC_wipe n s i h l m (k + 1) (by omega)
    rw [show 14 + (i + 1) * 13 + (k + 1) = 14 + (i + 1) * 13 + k + 1 by omega, show k + 1 + m = k + (m + 1) by omega] at this
    exact this
theorem reC_none (n : Int) (s : Subs) (i : Nat) (h : i < 12) (hs : Srt (s i).2) (v : Int) (B : Nat) (hB : B = 14 + (i + 1) * 13) : setL (reC n (setSt s i v)) B (List.replicate 13 (BV false)) = reC n (setSu s i v []) := by
  have := reC_wipe n (setSt s i v) i h (s i).2 13 0 (by omega)
  have e0 : setPe (setSt s i v) i (cutL 0 (s i).2) = setSt s i v := by
    have : cutL 0 (s i).2 = (s i).2 := List.filter_eq_self.2 fun y hy => by have := hs.b y hy; rw [decide_eq_true_eq]; omega
    funext j; unfold setPe setSt; split
    · rename_i e; rw [this, e]
    · rfl
  have e1 : setPe (setSt s i v) i (cutL (0 + 13) (s i).2) = setSu s i v [] := by
    have : cutL (0 + 13) (s i).2 = [] := List.filter_eq_nil_iff.2 fun y hy => by have := hs.b y hy; rw [decide_eq_true_eq]; omega
    rw [this]
    funext j; unfold setPe setSt setSu; split <;> rfl
  rw [e0, e1] at this
  rw [hB]; exact this
def endR (s : Subs) (i : Nat) (v : Int) : Subs := if v = 0 then setSu s i 0 [] else setSt s i v
section
variable (b : Nat) (σ : Store) (n : Int) (s : Subs) (h : σ b = some (.cells (reC n s))) (hg : ∀ i, Good21 n (s i))
include h hg
theorem eEnd (x v : Int) (hx : nodeB x = true) : HCalls Try.prog 164 [.ptr b 0, I64 x, I64 v] σ (Ends (I64 0) (σ.set b (.cells (reC n (endR s (x - 1).toNat v))))) := by
  (refine HCalls.of_vc Try.func164 rfl ?_; rw [Try.ntmps164, Try.results164]; simp only [List.length_cons, List.length_nil, Nat.reduceAdd, Nat.reduceSub, List.replicate, List.cons_append, List.nil_append])
  have hx2 := nodeB_iff.1 hx
  have hi := nodeB_idx hx
  have e : (1 : Nat) + x.toNat = 1 + ((x - 1).toNat + 1) := by omega
  have hset := reC_setSt n s _ hi v
  have hln := reC_len n s
  have hln2 := reC_len n (setSt s (x - 1).toNat v)
  rw [← e] at hset
  have g0 := eq_true (show 0 ≤ x by omega)
  have g1 := eq_true (show x < ((13 : Nat) : Int) by omega)
  have g2 := eq_true (show 1 + x.toNat ≤ 182 by omega)
  have g3 := eq_true (show 14 + x.toNat * 13 + 13 ≤ 183 by omega)
  have hself : ∀ c, (σ.set b c) b = some c := fun c => Store.set_same _ _ _
  (repeat (first | refine Stp.s ?_ | refine inBlock_exit' (by decide) ?_ | ((first | refine vc_region fun K KP hK hKP => ?_ | refine Stg.s ?_ | refine guardD_ret0 ?_ | refine exV_intro _ rfl ?_); (try simp only [go_sem, loadL_a, h, hset, hln, g0, g1, g2]); try ((first | refine hK _ _ ?_ | refine hKP _ _ _ ?_ | refine hKP _ _ (fun _ => ?_)); clear hK hKP K KP))))
  refine vc_cond rfl (fun hq => ?_) (fun hq => ?_)
  · have hq : v = 0 := by simpa using hq
    (repeat (first | refine Stp.s ?_ | refine inBlock_exit' (by decide) ?_ | ((first | refine vc_region fun K KP hK hKP => ?_ | refine Stg.s ?_ | refine guardD_ret0 ?_ | refine exV_intro _ rfl ?_); (try simp only [go_sem, loadL_a, hself, Store.set_set, g0, g1, hln2, g3]); try ((first | refine hK _ _ ?_ | refine hKP _ _ _ ?_ | refine hKP _ _ (fun _ => ?_)); clear hK hKP K KP))))
    (simp only [postV, resV, oneOf, List.getD_cons_succ, List.getD_cons_zero, and_true, true_and])
    have hz := reC_none n s (x - 1).toNat hi (hg _).pe v (14 + x.toNat * 13) (by omega)
    have hE : endR s (x - 1).toNat v = setSu s (x - 1).toNat v [] := by unfold endR; rw [if_pos hq, hq]
    rw [hE, ← hz]
    exact Ends.le rfl (Store.le_refl _)
  · have hq : v ≠ 0 := by simpa using hq
    (repeat (first | refine Stp.s ?_ | refine inBlock_exit' (by decide) ?_ | ((first | refine vc_region fun K KP hK hKP => ?_ | refine Stg.s ?_ | refine guardD_ret0 ?_ | refine exV_intro _ rfl ?_); (try simp only [go_sem, loadL_a]); try ((first | refine hK _ _ ?_ | refine hKP _ _ _ ?_ | refine hKP _ _ (fun _ => ?_)); clear hK hKP K KP))))
    (simp only [postV, resV, oneOf, List.getD_cons_succ, List.getD_cons_zero, and_true, true_and])
    unfold endR
    rw [if_neg hq]
    exact Ends.le rfl (Store.le_refl _)
theorem eJoined (x f : Int) (y : Bool) : HCalls Try.prog 121 [.ptr b 0, I64 x, I64 f, BV y] σ (Ends (I64 (pJoinedR s x f y).1) (σ.set b (.cells (reC n (pJoinedR s x f y).2)))) := by
  (refine HCalls.of_vc Try.func121 rfl ?_; rw [Try.ntmps121, Try.results121]; simp only [List.length_cons, List.length_nil, Nat.reduceAdd, Nat.reduceSub, List.replicate, List.cons_append, List.nil_append])
  have hid : σ.set b (.cells (reC n s)) = σ := Store.set_id h
  (repeat (first | refine Stp.s ?_ | refine inBlock_exit' (by decide) ?_ | ((first | refine vc_region fun K KP hK hKP => ?_ | refine Stg.s ?_ | refine guardD_ret0 ?_ | refine exV_intro _ rfl ?_); (try simp only [go_sem, loadL_a]); try ((first | refine hK _ _ ?_ | refine hKP _ _ _ ?_ | refine hKP _ _ (fun _ => ?_)); clear hK hKP K KP))))
  ((try simp only [go_sem, loadL_a]); refine callV_quiet en163 (eSole b σ n s h hg x 1 f (by decide)) ?_)
  ((try simp only [go_sem, loadL_a]); (try ((first | refine hK _ _ ?_ | refine hKP _ _ _ ?_ | refine hKP _ _ (fun _ => ?_)); clear hK hKP K KP)); repeat (first | refine Stp.s ?_ | refine inBlock_exit' (by decide) ?_ | ((first | refine vc_region fun K KP hK hKP => ?_ | refine Stg.s ?_ | refine guardD_ret0 ?_ | refine exV_intro _ rfl ?_); (try simp only [go_sem, loadL_a]); try ((first | refine hK _ _ ?_ | refine hKP _ _ _ ?_ | refine hKP _ _ (fun _ => ?_)); clear hK hKP K KP))))
  unfold pJoinedR
  refine vc_cond rfl (fun hq => ?_) (fun hq => ?_)
  · have hq : (!isS s x 1 f) = true := hq
    rw [Bool.not_eq_true'] at hq
    rw [hq, if_neg (by decide)]
    (repeat (first | refine Stp.s ?_ | refine inBlock_exit' (by decide) ?_ | ((first | refine vc_region fun K KP hK hKP => ?_ | refine Stg.s ?_ | refine guardD_ret0 ?_ | refine exV_intro _ rfl ?_); (try simp only [go_sem, loadL_a]); try ((first | refine hK _ _ ?_ | refine hKP _ _ _ ?_ | refine hKP _ _ (fun _ => ?_)); clear hK hKP K KP))))
    (simp only [postV, resV, oneOf, List.getD_cons_succ, List.getD_cons_zero, and_true, true_and])
    rw [hid]
    exact Ends.le rfl (Store.le_refl _)
  · have hq : (!isS s x 1 f) = false := hq
    rw [Bool.not_eq_false'] at hq
    have hx : nodeB x = true := by unfold isS at hq; rw [Bool.and_eq_true] at hq; exact hq.1
    rw [if_pos hq]
    cases y with
    | true =>
      (repeat (first | refine Stp.s ?_ | refine inBlock_exit' (by decide) ?_ | ((first | refine vc_region fun K KP hK hKP => ?_ | refine Stg.s ?_ | refine guardD_ret0 ?_ | refine exV_intro _ rfl ?_); (try simp only [go_sem, loadL_a]); try ((first | refine hK _ _ ?_ | refine hKP _ _ _ ?_ | refine hKP _ _ (fun _ => ?_)); clear hK hKP K KP))))
      refine vc_cond rfl (fun _ => ?_) (fun hc => by cases hc)
      (repeat (first | refine Stp.s ?_ | refine inBlock_exit' (by decide) ?_ | ((first | refine vc_region fun K KP hK hKP => ?_ | refine Stg.s ?_ | refine guardD_ret0 ?_ | refine exV_intro _ rfl ?_); (try simp only [go_sem, loadL_a]); try ((first | refine hK _ _ ?_ | refine hKP _ _ _ ?_ | refine hKP _ _ (fun _ => ?_)); clear hK hKP K KP))))
      refine callV_ends en164 (eEnd b σ n s h hg x 2 hx) ?_
      ((try simp only [go_sem, loadL_a]); (try ((first | refine hK _ _ ?_ | refine hKP _ _ _ ?_ | refine hKP _ _ (fun _ => ?_)); clear hK hKP K KP)); repeat (first | refine Stp.s ?_ | refine inBlock_exit' (by decide) ?_ | ((first | refine vc_region fun K KP hK hKP => ?_ | refine Stg.s ?_ | refine guardD_ret0 ?_ | refine exV_intro _ rfl ?_); (try simp only [go_sem, loadL_a]); try ((first | refine hK _ _ ?_ | refine hKP _ _ _ ?_ | refine hKP _ _ (fun _ => ?_)); clear hK hKP K KP))))
      (simp only [postV, resV, oneOf, List.getD_cons_succ, List.getD_cons_zero, and_true, true_and])
      exact Ends.le rfl (Store.le_refl _)
    | false =>
      (repeat (first | refine Stp.s ?_ | refine inBlock_exit' (by decide) ?_ | ((first | refine vc_region fun K KP hK hKP => ?_ | refine Stg.s ?_ | refine guardD_ret0 ?_ | refine exV_intro _ rfl ?_); (try simp only [go_sem, loadL_a]); try ((first | refine hK _ _ ?_ | refine hKP _ _ _ ?_ | refine hKP _ _ (fun _ => ?_)); clear hK hKP K KP))))
      refine vc_cond rfl (fun hc => by cases hc) (fun _ => ?_)
      (repeat (first | refine Stp.s ?_ | refine inBlock_exit' (by decide) ?_ | ((first | refine vc_region fun K KP hK hKP => ?_ | refine Stg.s ?_ | refine guardD_ret0 ?_ | refine exV_intro _ rfl ?_); (try simp only [go_sem, loadL_a]); try ((first | refine hK _ _ ?_ | refine hKP _ _ _ ?_ | refine hKP _ _ (fun _ => ?_)); clear hK hKP K KP))))
      refine callV_ends en164 (eEnd b σ n s h hg x 0 hx) ?_
      ((try simp only [go_sem, loadL_a]); (try ((first | refine hK _ _ ?_ | refine hKP _ _ _ ?_ | refine hKP _ _ (fun _ => ?_)); clear hK hKP K KP)); repeat (first | refine Stp.s ?_ | refine inBlock_exit' (by decide) ?_ | ((first | refine vc_region fun K KP hK hKP => ?_ | refine Stg.s ?_ | refine guardD_ret0 ?_ | refine exV_intro _ rfl ?_); (try simp only [go_sem, loadL_a]); try ((first | refine hK _ _ ?_ | refine hKP _ _ _ ?_ | refine hKP _ _ (fun _ => ?_)); clear hK hKP K KP))))
      (simp only [postV, resV, oneOf, List.getD_cons_succ, List.getD_cons_zero, and_true, true_and])
      exact Ends.le rfl (Store.le_refl _)
theorem eLeft (x f : Int) (y : Bool) : HCalls Try.prog 124 [.ptr b 0, I64 x, I64 f, BV y] σ (Ends (I64 (pLeftR s x f y).1) (σ.set b (.cells (reC n (pLeftR s x f y).2)))) := by
  (refine HCalls.of_vc Try.func124 rfl ?_; rw [Try.ntmps124, Try.results124]; simp only [List.length_cons, List.length_nil, Nat.reduceAdd, Nat.reduceSub, List.replicate, List.cons_append, List.nil_append])
  have hid : σ.set b (.cells (reC n s)) = σ := Store.set_id h
  (repeat (first | refine Stp.s ?_ | refine inBlock_exit' (by decide) ?_ | ((first | refine vc_region fun K KP hK hKP => ?_ | refine Stg.s ?_ | refine guardD_ret0 ?_ | refine exV_intro _ rfl ?_); (try simp only [go_sem, loadL_a]); try ((first | refine hK _ _ ?_ | refine hKP _ _ _ ?_ | refine hKP _ _ (fun _ => ?_)); clear hK hKP K KP))))
  ((try simp only [go_sem, loadL_a]); refine callV_quiet en163 (eSole b σ n s h hg x 3 f (by decide)) ?_)
  ((try simp only [go_sem, loadL_a]); (try ((first | refine hK _ _ ?_ | refine hKP _ _ _ ?_ | refine hKP _ _ (fun _ => ?_)); clear hK hKP K KP)); repeat (first | refine Stp.s ?_ | refine inBlock_exit' (by decide) ?_ | ((first | refine vc_region fun K KP hK hKP => ?_ | refine Stg.s ?_ | refine guardD_ret0 ?_ | refine exV_intro _ rfl ?_); (try simp only [go_sem, loadL_a]); try ((first | refine hK _ _ ?_ | refine hKP _ _ _ ?_ | refine hKP _ _ (fun _ => ?_)); clear hK hKP K KP))))
  unfold pLeftR
  refine vc_cond rfl (fun hq => ?_) (fun hq => ?_)
  · have hq : (!isS s x 3 f) = true := hq
    rw [Bool.not_eq_true'] at hq
    rw [hq, if_neg (by decide)]
    (repeat (first | refine Stp.s ?_ | refine inBlock_exit' (by decide) ?_ | ((first | refine vc_region fun K KP hK hKP => ?_ | refine Stg.s ?_ | refine guardD_ret0 ?_ | refine exV_intro _ rfl ?_); (try simp only [go_sem, loadL_a]); try ((first | refine hK _ _ ?_ | refine hKP _ _ _ ?_ | refine hKP _ _ (fun _ => ?_)); clear hK hKP K KP))))
    (simp only [postV, resV, oneOf, List.getD_cons_succ, List.getD_cons_zero, and_true, true_and])
    rw [hid]
    exact Ends.le rfl (Store.le_refl _)
  · have hq : (!isS s x 3 f) = false := hq
    rw [Bool.not_eq_false'] at hq
    have hx : nodeB x = true := by unfold isS at hq; rw [Bool.and_eq_true] at hq; exact hq.1
    rw [if_pos hq]
    cases y with
    | true =>
      (repeat (first | refine Stp.s ?_ | refine inBlock_exit' (by decide) ?_ | ((first | refine vc_region fun K KP hK hKP => ?_ | refine Stg.s ?_ | refine guardD_ret0 ?_ | refine exV_intro _ rfl ?_); (try simp only [go_sem, loadL_a]); try ((first | refine hK _ _ ?_ | refine hKP _ _ _ ?_ | refine hKP _ _ (fun _ => ?_)); clear hK hKP K KP))))
      refine vc_cond rfl (fun _ => ?_) (fun hc => by cases hc)
      (repeat (first | refine Stp.s ?_ | refine inBlock_exit' (by decide) ?_ | ((first | refine vc_region fun K KP hK hKP => ?_ | refine Stg.s ?_ | refine guardD_ret0 ?_ | refine exV_intro _ rfl ?_); (try simp only [go_sem, loadL_a]); try ((first | refine hK _ _ ?_ | refine hKP _ _ _ ?_ | refine hKP _ _ (fun _ => ?_)); clear hK hKP K KP))))
      refine callV_ends en164 (eEnd b σ n s h hg x 0 hx) ?_
      ((try simp only [go_sem, loadL_a]); (try ((first | refine hK _ _ ?_ | refine hKP _ _ _ ?_ | refine hKP _ _ (fun _ => ?_)); clear hK hKP K KP)); repeat (first | refine Stp.s ?_ | refine inBlock_exit' (by decide) ?_ | ((first | refine vc_region fun K KP hK hKP => ?_ | refine Stg.s ?_ | refine guardD_ret0 ?_ | refine exV_intro _ rfl ?_); (try simp only [go_sem, loadL_a]); try ((first | refine hK _ _ ?_ | refine hKP _ _ _ ?_ | refine hKP _ _ (fun _ => ?_)); clear hK hKP K KP))))
      (simp only [postV, resV, oneOf, List.getD_cons_succ, List.getD_cons_zero, and_true, true_and])
      exact Ends.le rfl (Store.le_refl _)
    | false =>
      (repeat (first | refine Stp.s ?_ | refine inBlock_exit' (by decide) ?_ | ((first | refine vc_region fun K KP hK hKP => ?_ | refine Stg.s ?_ | refine guardD_ret0 ?_ | refine exV_intro _ rfl ?_); (try simp only [go_sem, loadL_a]); try ((first | refine hK _ _ ?_ | refine hKP _ _ _ ?_ | refine hKP _ _ (fun _ => ?_)); clear hK hKP K KP))))
      refine vc_cond rfl (fun hc => by cases hc) (fun _ => ?_)
      (repeat (first | refine Stp.s ?_ | refine inBlock_exit' (by decide) ?_ | ((first | refine vc_region fun K KP hK hKP => ?_ | refine Stg.s ?_ | refine guardD_ret0 ?_ | refine exV_intro _ rfl ?_); (try simp only [go_sem, loadL_a]); try ((first | refine hK _ _ ?_ | refine hKP _ _ _ ?_ | refine hKP _ _ (fun _ => ?_)); clear hK hKP K KP))))
      refine callV_ends en164 (eEnd b σ n s h hg x 2 hx) ?_
      ((try simp only [go_sem, loadL_a]); (try ((first | refine hK _ _ ?_ | refine hKP _ _ _ ?_ | refine hKP _ _ (fun _ => ?_)); clear hK hKP K KP)); repeat (first | refine Stp.s ?_ | refine inBlock_exit' (by decide) ?_ | ((first | refine vc_region fun K KP hK hKP => ?_ | refine Stg.s ?_ | refine guardD_ret0 ?_ | refine exV_intro _ rfl ?_); (try simp only [go_sem, loadL_a]); try ((first | refine hK _ _ ?_ | refine hKP _ _ _ ?_ | refine hKP _ _ (fun _ => ?_)); clear hK hKP K KP))))
      (simp only [postV, resV, oneOf, List.getD_cons_succ, List.getD_cons_zero, and_true, true_and])
      exact Ends.le rfl (Store.le_refl _)
theorem eLeave (x : Int) : HCalls Try.prog 122 [.ptr b 0, I64 x] σ (Ends (.tup [I64 (pLeaveR s x).1, I64 (pLeaveR s x).2.1]) (σ.set b (.cells (reC n (pLeaveR s x).2.2)))) := by
  (refine HCalls.of_vc Try.func122 rfl ?_; rw [Try.ntmps122, Try.results122]; simp only [List.length_cons, List.length_nil, Nat.reduceAdd, Nat.reduceSub, List.replicate, List.cons_append, List.nil_append])
  have hid : σ.set b (.cells (reC n s)) = σ := Store.set_id h
  (repeat (first | refine Stp.s ?_ | refine inBlock_exit' (by decide) ?_ | ((first | refine vc_region fun K KP hK hKP => ?_ | refine Stg.s ?_ | refine guardD_ret0 ?_ | refine exV_intro _ rfl ?_); (try simp only [go_sem, loadL_a]); try ((first | refine hK _ _ ?_ | refine hKP _ _ _ ?_ | refine hKP _ _ (fun _ => ?_)); clear hK hKP K KP))))
  by_cases hx : nodeB x = true
  rotate_left
  · refine vc_cond rfl (fun _ => ?_) (fun hq => ?_)
    · (repeat (first | refine Stp.s ?_ | refine inBlock_exit' (by decide) ?_ | ((first | refine vc_region fun K KP hK hKP => ?_ | refine Stg.s ?_ | refine guardD_ret0 ?_ | refine exV_intro _ rfl ?_); (try simp only [go_sem, loadL_a]); try ((first | refine hK _ _ ?_ | refine hKP _ _ _ ?_ | refine hKP _ _ (fun _ => ?_)); clear hK hKP K KP))))
      (simp only [postV, resV, oneOf, List.getD_cons_succ, List.getD_cons_zero, and_true, true_and])
      unfold pLeaveR
      rw [if_neg hx, hid]
      exact Ends.le rfl (Store.le_refl _)
    · exfalso
      exact hx (nodeB_iff.2 (by simp at hq; omega))
  have hx2 := nodeB_iff.1 hx
  have hi := nodeB_idx hx
  have e : (1 : Nat) + x.toNat = 1 + ((x - 1).toNat + 1) := by omega
  have hst := reC_st n s _ hi
  have hset := reC_setSt n s _ hi 3
  have hln := reC_len n s
  rw [← e] at hst hset
  have g0 := eq_true (show 0 ≤ x by omega)
  have g1 := eq_true (show x < ((13 : Nat) : Int) by omega)
  have g2 := eq_true (show 1 + x.toNat ≤ 182 by omega)
  refine vc_cond rfl (fun hq => ?_) (fun _ => ?_)
  · exfalso; simp at hq; omega
  (repeat (first | refine Stp.s ?_ | refine inBlock_exit' (by decide) ?_ | ((first | refine vc_region fun K KP hK hKP => ?_ | refine Stg.s ?_ | refine guardD_ret0 ?_ | refine exV_intro _ rfl ?_); (try simp only [go_sem, loadL_a]); try ((first | refine hK _ _ ?_ | refine hKP _ _ _ ?_ | refine hKP _ _ (fun _ => ?_)); clear hK hKP K KP))))
  ((try simp only [go_sem, loadL_a]); refine callV_quiet en44 (eOf b σ n s h hg x) ?_)
  have hp : peOf s x = (s (x - 1).toNat).2 := by unfold peOf; rw [if_pos hx]
  rw [hp]
  ((try simp only [go_sem, loadL_a, h, hst, g0, g1]); (try ((first | refine hK _ _ ?_ | refine hKP _ _ _ ?_ | refine hKP _ _ (fun _ => ?_)); clear hK hKP K KP)); repeat (first | refine Stp.s ?_ | refine inBlock_exit' (by decide) ?_ | ((first | refine vc_region fun K KP hK hKP => ?_ | refine Stg.s ?_ | refine guardD_ret0 ?_ | refine exV_intro _ rfl ?_); (try simp only [go_sem, loadL_a, h, hst, g0, g1]); try ((first | refine hK _ _ ?_ | refine hKP _ _ _ ?_ | refine hKP _ _ (fun _ => ?_)); clear hK hKP K KP))))
  unfold pLeaveR
  rw [if_pos hx]
  generalize hv : (s (x - 1).toNat).1 = v at *
  generalize hL : (s (x - 1).toNat).2 = L at *
  refine vc_cond rfl (fun hq => ?_) (fun hq => ?_)
  · have hq : v = 0 := by simpa using hq
    rw [if_pos hq]
    (repeat (first | refine Stp.s ?_ | refine inBlock_exit' (by decide) ?_ | ((first | refine vc_region fun K KP hK hKP => ?_ | refine Stg.s ?_ | refine guardD_ret0 ?_ | refine exV_intro _ rfl ?_); (try simp only [go_sem, loadL_a]); try ((first | refine hK _ _ ?_ | refine hKP _ _ _ ?_ | refine hKP _ _ (fun _ => ?_)); clear hK hKP K KP))))
    (simp only [postV, resV, oneOf, List.getD_cons_succ, List.getD_cons_zero, and_true, true_and])
    rw [hid]
    exact Ends.le rfl (Store.le_refl _)
  have hq : v ≠ 0 := by simpa using hq
  rw [if_neg hq]
  (repeat (first | refine Stp.s ?_ | refine inBlock_exit' (by decide) ?_ | ((first | refine vc_region fun K KP hK hKP => ?_ | refine Stg.s ?_ | refine guardD_ret0 ?_ | refine exV_intro _ rfl ?_); (try simp only [go_sem, loadL_a, h, hst, g0, g1]); try ((first | refine hK _ _ ?_ | refine hKP _ _ _ ?_ | refine hKP _ _ (fun _ => ?_)); clear hK hKP K KP))))
  refine vc_cond rfl (fun hr => ?_) (fun hr => ?_)
  · have hr : v ≠ 2 := by simpa using hr
    rw [if_pos hr]
    (repeat (first | refine Stp.s ?_ | refine inBlock_exit' (by decide) ?_ | ((first | refine vc_region fun K KP hK hKP => ?_ | refine Stg.s ?_ | refine guardD_ret0 ?_ | refine exV_intro _ rfl ?_); (try simp only [go_sem, loadL_a]); try ((first | refine hK _ _ ?_ | refine hKP _ _ _ ?_ | refine hKP _ _ (fun _ => ?_)); clear hK hKP K KP))))
    (simp only [postV, resV, oneOf, List.getD_cons_succ, List.getD_cons_zero, and_true, true_and])
    rw [hid]
    exact Ends.le rfl (Store.le_refl _)
  have hr : v = 2 := by simpa using hr
  rw [if_neg (by omega)]
  (repeat (first | refine Stp.s ?_ | refine inBlock_exit' (by decide) ?_ | ((first | refine vc_region fun K KP hK hKP => ?_ | refine Stg.s ?_ | refine guardD_ret0 ?_ | refine exV_intro _ rfl ?_); (try simp only [go_sem, loadL_a, List.length_map]); try ((first | refine hK _ _ ?_ | refine hKP _ _ _ ?_ | refine hKP _ _ (fun _ => ?_)); clear hK hKP K KP))))
  refine vc_cond rfl (fun ht => ?_) (fun ht => ?_)
  · have ht : L.length ≠ 1 := by
      have ht : ((L.length : Int) != 1) = true := ht
      simp at ht; omega
    rw [if_pos ht]
    (repeat (first | refine Stp.s ?_ | refine inBlock_exit' (by decide) ?_ | ((first | refine vc_region fun K KP hK hKP => ?_ | refine Stg.s ?_ | refine guardD_ret0 ?_ | refine exV_intro _ rfl ?_); (try simp only [go_sem, loadL_a]); try ((first | refine hK _ _ ?_ | refine hKP _ _ _ ?_ | refine hKP _ _ (fun _ => ?_)); clear hK hKP K KP))))
    (simp only [postV, resV, oneOf, List.getD_cons_succ, List.getD_cons_zero, and_true, true_and])
    rw [hid]
    exact Ends.le rfl (Store.le_refl _)
  have ht : L.length = 1 := by
    have ht : ((L.length : Int) != 1) = false := ht
    simp at ht; omega
  rw [if_neg (by omega)]
  obtain ⟨a, rfl⟩ := List.length_eq_one_iff.1 ht
  (repeat (first | refine Stp.s ?_ | refine inBlock_exit' (by decide) ?_ | ((first | refine vc_region fun K KP hK hKP => ?_ | refine Stg.s ?_ | refine guardD_ret0 ?_ | refine exV_intro _ rfl ?_); (try simp only [go_sem, loadL_a, h, hset, hln, g0, g1, g2]); try ((first | refine hK _ _ ?_ | refine hKP _ _ _ ?_ | refine hKP _ _ (fun _ => ?_)); clear hK hKP K KP))))
  refine ⟨Int.le_refl _, by decide, ?_⟩
  show K _ _
  ((try simp only [go_sem, loadL_a]); (try ((first | refine hK _ _ ?_ | refine hKP _ _ _ ?_ | refine hKP _ _ (fun _ => ?_)); clear hK hKP K KP)); repeat (first | refine Stp.s ?_ | refine inBlock_exit' (by decide) ?_ | ((first | refine vc_region fun K KP hK hKP => ?_ | refine Stg.s ?_ | refine guardD_ret0 ?_ | refine exV_intro _ rfl ?_); (try simp only [go_sem, loadL_a]); try ((first | refine hK _ _ ?_ | refine hKP _ _ _ ?_ | refine hKP _ _ (fun _ => ?_)); clear hK hKP K KP))))
  (simp only [postV, resV, oneOf, List.getD_cons_succ, List.getD_cons_zero, and_true, true_and])
  exact Ends.le rfl (Store.le_refl _)
end
end Go.Proofs.Ytbgagffpmdlilaa
