/- The document's subscriptions: a seller's peers. -/
import Derived.Test.YtbgagffpmdlilaaE2
namespace Go.Proofs.Ytbgagffpmdlilaa
set_option linter.unusedSimpArgs false
set_option linter.unusedVariables false
open Go.Proofs
attribute [local irreducible] vc vcOps vcDraw vcK vcKP vcDK vcDB HWp HCalls postV Ex.then Ex.inBlock stepD callV appendV guardC guardD exV effV opV loadV storeV indexAddrV indexV sliceV
set_option maxRecDepth 10000
set_option maxHeartbeats 4000000

section
variable (b : Nat) (σ : Store) (n : Int) (s : Subs) (h : σ b = some (.cells (reC n s))) (hg : ∀ i, Good21 n (s i))
include h hg
theorem eOf_bld (x : Int) : HCalls Try.prog 44 [.ptr b 0, I64 x] σ fun r σ' => ∃ y τ, r = .ret y ∧ τ.le σ' ∧ Bld 1 σ τ y ((peOf s x).map I64) (peOf s x).length := by
  (refine HCalls.of_vc Try.func44 rfl ?_; rw [Try.ntmps44, Try.results44]; simp only [List.length_cons, List.length_nil, Nat.reduceAdd, Nat.reduceSub, List.replicate, List.cons_append, List.nil_append])
  (repeat (first | refine Stp.s ?_ | refine inBlock_exit' (by decide) ?_ | ((first | refine vc_region fun K KP hK hKP => ?_ | refine Stg.s ?_ | refine guardD_ret0 ?_ | refine exV_intro _ rfl ?_); (try simp only [go_sem, loadL_a]); try ((first | refine hK _ _ ?_ | refine hKP _ _ _ ?_ | refine hKP _ _ (fun _ => ?_)); clear hK hKP K KP))))
  have hfl : ∀ (i : Nat), (((nums.take i).filter fun y => decide (y ∈ peOf s x))).length ≤ 12 := fun i => by
    refine Nat.le_trans (List.length_filter_le _ _) ?_
    rw [List.length_take]; exact Nat.le_trans (Nat.min_le_right _ _) (by decide)
  refine vc_loop (loopV (fun (a : Nat × V) => [.ptr b 0, I64 x, .top, .top, nilS, a.2, I64 ((a.1 + 1 : Nat) : Int), .top, .top, .top, .top, .top, .top, .top, .top, .top, .top, .top, .top, .top, .top, .top, .top, .top, .top, .top, .top, .top, .top, .top, .top, .top]) (fun a τ => a.1 ≤ 12 ∧ Bld 1 σ τ a.2 (((nums.take a.1).filter fun y => decide (y ∈ peOf s x)).map I64) ((nums.take a.1).filter fun y => decide (y ∈ peOf s x)).length) (fun a _ => 12 - a.1) (0, nilS) (by repeat (first | exact LeEnv.nil | refine LeEnv.same ?_ | refine LeEnv.top ?_)) ⟨by show 0 ≤ 12; omega, Bld.nil 1 σ⟩ ?_)
  rintro ⟨i, y⟩ τ ⟨hi, hB⟩
  simp only at hi hB
  have h1 := hB.base _ _ h
  (repeat (first | refine Stp.s ?_ | refine inBlock_exit' (by decide) ?_ | ((first | refine vc_region fun K KP hK hKP => ?_ | refine Stg.s ?_ | refine guardD_ret0 ?_ | refine exV_intro _ rfl ?_); (try simp only [go_sem, loadL_a]); try ((first | refine hK _ _ ?_ | refine hKP _ _ _ ?_ | refine hKP _ _ (fun _ => ?_)); clear hK hKP K KP))))
  refine vc_cond rfl (fun hq => ?_) (fun hq => ?_)
  · have hi12 : i < 12 := by simp at hq; omega
    have hnt := nums_take i hi12
    have hw : IntKind.i64.wrap (((i + 1 : Nat) : Int) + 1) = ((i + 1 + 1 : Nat) : Int) := i64_nsucc (by omega)
    have hcast : ((i + 1 : Nat) : Int) = (i : Int) + 1 := by omega
    have hno : decide (((i + 1 : Nat) : Int) ∈ peOf s x) = false → (nums.take (i + 1)).filter (fun y => decide (y ∈ peOf s x)) = (nums.take i).filter (fun y => decide (y ∈ peOf s x)) := fun q => by
      rw [hnt, List.filter_append, List.filter_cons, ← hcast, q]; simp
    have hyes : decide (((i + 1 : Nat) : Int) ∈ peOf s x) = true → (nums.take (i + 1)).filter (fun y => decide (y ∈ peOf s x)) = (nums.take i).filter (fun y => decide (y ∈ peOf s x)) ++ [((i + 1 : Nat) : Int)] := fun q => by
      rw [hnt, List.filter_append, List.filter_cons, ← hcast, q]; simp
    by_cases hx : nodeB x = true
    rotate_left
    · have hp : peOf s x = [] := by unfold peOf; rw [if_neg hx]
      have hcf : (decide (0 < x) && decide (x < 13)) = false := by
        rw [Bool.eq_false_iff]; intro q; apply hx; rw [nodeB_iff]; simp at q; omega
      (repeat (first | refine Stp.s ?_ | refine inBlock_exit' (by decide) ?_ | ((first | refine vc_region fun K KP hK hKP => ?_ | refine Stg.s ?_ | refine guardD_ret0 ?_ | refine exV_intro _ rfl ?_); (try simp only [go_sem, loadL_a, hcf]); try ((first | refine hK _ _ ?_ | refine hKP _ _ _ ?_ | refine hKP _ _ (fun _ => ?_)); clear hK hKP K KP))))
      refine vc_cond rfl (fun hq => by cases hq) (fun _ => ?_)
      (repeat (first | refine Stp.s ?_ | refine inBlock_exit' (by decide) ?_ | ((first | refine vc_region fun K KP hK hKP => ?_ | refine Stg.s ?_ | refine guardD_ret0 ?_ | refine exV_intro _ rfl ?_); (try simp only [go_sem, loadL_a, hw]); try ((first | refine hK _ _ ?_ | refine hKP _ _ _ ?_ | refine hKP _ _ (fun _ => ?_)); clear hK hKP K KP))))
      refine ⟨(i + 1, y), τ, (by repeat (first | exact LeEnv.nil | refine LeEnv.same ?_ | refine LeEnv.top ?_)), Store.le_refl _, ⟨by show i + 1 ≤ 12; omega, ?_⟩, by show 12 - (i + 1) < 12 - i; omega⟩
      show Bld 1 σ τ y _ _
      rw [hno (by rw [hp]; simp)]
      exact hB
    · have hx2 := nodeB_iff.1 hx
      have hp : peOf s x = (s (x - 1).toNat).2 := by unfold peOf; rw [if_pos hx]
      have hpe := reC_pe n s _ (nodeB_idx hx) (i + 1) (by omega)
      have e2 : (14 : Nat) + x.toNat * 13 + (i + 1) = 14 + ((x - 1).toNat + 1) * 13 + (i + 1) := by omega
      rw [← e2, ← hp] at hpe
      have hct : (decide (0 < x) && decide (x < 13)) = true := by simp; omega
      have g0 := eq_true (show 0 ≤ x by omega)
      have g1 := eq_true (show x < ((13 : Nat) : Int) by omega)
      have k0 := eq_true (show (0 : Int) ≤ ((i + 1 : Nat) : Int) by omega)
      have k1 := eq_true (show ((i + 1 : Nat) : Int) < ((13 : Nat) : Int) by omega)
      (repeat (first | refine Stp.s ?_ | refine inBlock_exit' (by decide) ?_ | ((first | refine vc_region fun K KP hK hKP => ?_ | refine Stg.s ?_ | refine guardD_ret0 ?_ | refine exV_intro _ rfl ?_); (try simp only [go_sem, loadL_a, hct, h1, hpe, g0, g1, k0, k1, Int.toNat_natCast]); try ((first | refine hK _ _ ?_ | refine hKP _ _ _ ?_ | refine hKP _ _ (fun _ => ?_)); clear hK hKP K KP))))
      refine vc_cond rfl (fun hm => ?_) (fun hm => ?_)
      · have hm : decide (((i + 1 : Nat) : Int) ∈ peOf s x) = true := hm
        (repeat (first | refine Stp.s ?_ | refine inBlock_exit' (by decide) ?_ | ((first | refine vc_region fun K KP hK hKP => ?_ | refine Stg.s ?_ | refine guardD_ret0 ?_ | refine exV_intro _ rfl ?_); (try simp only [go_sem, loadL_a]); try ((first | refine hK _ _ ?_ | refine hKP _ _ _ ?_ | refine hKP _ _ (fun _ => ?_)); clear hK hKP K KP))))
        intro b8 hb8
        refine append_int hB (Store.le_set hb8 (Store.le_refl _)) (row_lit (Store.set_same _ _ _) rfl rfl) (news := [I64 ((i + 1 : Nat) : Int)]) (m := 1) rfl (by simp [V.one]) (by have := hfl i; omega) ?_
        intro y' τ' σ' hB' hle' _
        ((try simp only [go_sem, loadL_a, hw]); refine hK _ _ ?_; clear hK hKP K KP; repeat (first | refine Stp.s ?_ | refine inBlock_exit' (by decide) ?_ | ((first | refine vc_region fun K KP hK hKP => ?_ | refine Stg.s ?_ | refine guardD_ret0 ?_ | refine exV_intro _ rfl ?_); (try simp only [go_sem, loadL_a, hw]); try ((first | refine hK _ _ ?_ | refine hKP _ _ _ ?_ | refine hKP _ _ (fun _ => ?_)); clear hK hKP K KP))))
        refine ⟨(i + 1, y'), τ', (by repeat (first | exact LeEnv.nil | refine LeEnv.same ?_ | refine LeEnv.top ?_)), hle', ⟨by show i + 1 ≤ 12; omega, ?_⟩, by show 12 - (i + 1) < 12 - i; omega⟩
        show Bld 1 σ τ' y' _ _
        rw [hyes hm, List.map_append, List.length_append]
        exact hB'
      · have hm : decide (((i + 1 : Nat) : Int) ∈ peOf s x) = false := hm
        (repeat (first | refine Stp.s ?_ | refine inBlock_exit' (by decide) ?_ | ((first | refine vc_region fun K KP hK hKP => ?_ | refine Stg.s ?_ | refine guardD_ret0 ?_ | refine exV_intro _ rfl ?_); (try simp only [go_sem, loadL_a, hw]); try ((first | refine hK _ _ ?_ | refine hKP _ _ _ ?_ | refine hKP _ _ (fun _ => ?_)); clear hK hKP K KP))))
        refine ⟨(i + 1, y), τ, (by repeat (first | exact LeEnv.nil | refine LeEnv.same ?_ | refine LeEnv.top ?_)), Store.le_refl _, ⟨by show i + 1 ≤ 12; omega, ?_⟩, by show 12 - (i + 1) < 12 - i; omega⟩
        show Bld 1 σ τ y _ _
        rw [hno hm]
        exact hB
  · have hi12 : i = 12 := by simp at hq; omega
    subst hi12
    (repeat (first | refine Stp.s ?_ | refine inBlock_exit' (by decide) ?_ | ((first | refine vc_region fun K KP hK hKP => ?_ | refine Stg.s ?_ | refine guardD_ret0 ?_ | refine exV_intro _ rfl ?_); (try simp only [go_sem, loadL_a]); try ((first | refine hK _ _ ?_ | refine hKP _ _ _ ?_ | refine hKP _ _ (fun _ => ?_)); clear hK hKP K KP))))
    (simp only [postV, resV, oneOf, List.getD_cons_succ, List.getD_cons_zero, and_true, true_and])
    have hall : (nums.take 12).filter (fun y => decide (y ∈ peOf s x)) = peOf s x := by
      rw [show nums.take 12 = nums from rfl]
      unfold peOf
      split
      · exact (Srt.eq (hg _).pe).symm
      · rfl
    rw [hall] at hB
    exact ⟨_, _, rfl, Store.le_refl _, hB⟩
theorem eOf (x : Int) : HQuiet Try.prog 44 [.ptr b 0, I64 x] σ (ints (peOf s x)) :=
  (eOf_bld b σ n s h hg x).weaken (fun r σ' q => by obtain ⟨y, τ, e, hle, hB⟩ := q; cases e; exact ⟨_, _, Weakens.trans (Weakens.le hle) hB.ints, rfl, rfl⟩) (fun r σ' q => by obtain ⟨_, _, e, _⟩ := q; cases e)
theorem eSole (x st f : Int) (h0 : st ≠ 0) : HQuiet Try.prog 163 [.ptr b 0, I64 x, I64 st, I64 f] σ (BV (isS s x st f)) := by
  refine HQuiet.of ?_; (refine HCalls.of_vc Try.func163 rfl ?_; rw [Try.ntmps163, Try.results163]; simp only [List.length_cons, List.length_nil, Nat.reduceAdd, Nat.reduceSub, List.replicate, List.cons_append, List.nil_append])
  (repeat (first | refine Stp.s ?_ | refine inBlock_exit' (by decide) ?_ | ((first | refine vc_region fun K KP hK hKP => ?_ | refine Stg.s ?_ | refine guardD_ret0 ?_ | refine exV_intro _ rfl ?_); (try simp only [go_sem, loadL_a]); try ((first | refine hK _ _ ?_ | refine hKP _ _ _ ?_ | refine hKP _ _ (fun _ => ?_)); clear hK hKP K KP))))
  ((try simp only [go_sem, loadL_a]); refine callV_quiet en44 (eOf b σ n s h hg x) ?_)
  ((try simp only [go_sem, loadL_a]); (try ((first | refine hK _ _ ?_ | refine hKP _ _ _ ?_ | refine hKP _ _ (fun _ => ?_)); clear hK hKP K KP)); repeat (first | refine Stp.s ?_ | refine inBlock_exit' (by decide) ?_ | ((first | refine vc_region fun K KP hK hKP => ?_ | refine Stg.s ?_ | refine guardD_ret0 ?_ | refine exV_intro _ rfl ?_); (try simp only [go_sem, loadL_a]); try ((first | refine hK _ _ ?_ | refine hKP _ _ _ ?_ | refine hKP _ _ (fun _ => ?_)); clear hK hKP K KP))))
  ((try simp only [go_sem, loadL_a]); refine callV_quiet en45 (eState b σ n s h x) ?_)
  ((try simp only [go_sem, loadL_a, List.length_map]); (try ((first | refine hK _ _ ?_ | refine hKP _ _ _ ?_ | refine hKP _ _ (fun _ => ?_)); clear hK hKP K KP)); repeat (first | refine Stp.s ?_ | refine inBlock_exit' (by decide) ?_ | ((first | refine vc_region fun K KP hK hKP => ?_ | refine Stg.s ?_ | refine guardD_ret0 ?_ | refine exV_intro _ rfl ?_); (try simp only [go_sem, loadL_a, List.length_map]); try ((first | refine hK _ _ ?_ | refine hKP _ _ _ ?_ | refine hKP _ _ (fun _ => ?_)); clear hK hKP K KP))))
  generalize hL : peOf s x = L at *
  have hone : ∀ {z : Bool}, (z && ((L.length : Int) == 1)) = true → L.length = 1 := fun h => by
    simp only [Bool.and_eq_true, beq_iff_eq] at h; omega
  refine guardC_q0 (x := .ro [I64 (L.getD 0 0)]) (fun hc => ?_) ?_
  · have := hone hc
    obtain ⟨a, rfl⟩ := List.length_eq_one_iff.1 this
    exact ⟨Int.le_refl _, by simp, rfl, rfl⟩
  ((try simp only [go_sem, loadL_a]); (try ((first | refine hK _ _ ?_ | refine hKP _ _ _ ?_ | refine hKP _ _ (fun _ => ?_)); clear hK hKP K KP)); repeat (first | refine Stp.s ?_ | refine inBlock_exit' (by decide) ?_ | ((first | refine vc_region fun K KP hK hKP => ?_ | refine Stg.s ?_ | refine guardD_ret0 ?_ | refine exV_intro _ rfl ?_); (try simp only [go_sem, loadL_a]); try ((first | refine hK _ _ ?_ | refine hKP _ _ _ ?_ | refine hKP _ _ (fun _ => ?_)); clear hK hKP K KP))))
  (simp only [postV, resV, oneOf, List.getD_cons_succ, List.getD_cons_zero, and_true, true_and])
  refine Ends.le (congrArg BV ?_) (Store.le_refl _)
  have hR : isS s x st f = (stOf s x == st && (L == [f])) := by
    unfold isS
    subst hL
    unfold stOf peOf
    by_cases hx : nodeB x = true
    · rw [if_pos hx, if_pos hx, hx, Bool.true_and]
    · rw [if_neg hx, if_neg hx, Bool.eq_false_iff.2 hx, Bool.false_and]
      rw [show ((0 : Int) == st) = false from by rw [beq_eq_false_iff_ne]; exact fun e => h0 e.symm, Bool.false_and]
  rw [hR, Bool.and_assoc]
  congr 1
  match L with
  | [] => rfl
  | [a] => rw [Bool.eq_iff_iff]; simp
  | a :: c :: l =>
    rw [Bool.eq_iff_iff]
    simp only [List.length_cons, Bool.and_eq_true, beq_iff_eq]
    exact ⟨fun h => by omega, fun h => by simp at h⟩
end
end Go.Proofs.Ytbgagffpmdlilaa
