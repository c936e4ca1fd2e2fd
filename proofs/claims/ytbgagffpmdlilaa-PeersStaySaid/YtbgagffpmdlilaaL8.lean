/- truglaw21.PeersStay returns true for every input and leaves its arguments as they were: no condition. -/
import Derived.Test.YtbgagffpmdlilaaLb
import Derived.Test.YtbgagffpmdlilaaP10
namespace Go.Proofs.Ytbgagffpmdlilaa
set_option linter.unusedSimpArgs false
set_option linter.unusedVariables false
open Go.Proofs Go.ChangeShapes Go.WideShapes Go.ChangeAt Go.RowKit
attribute [local irreducible] vc vcOps vcDraw vcK vcKP vcDK vcDB HWp HCalls postV Ex.then Ex.inBlock stepD callV appendV guardC guardD exV effV opV loadV storeV indexAddrV indexV sliceV
set_option maxRecDepth 100000
set_option maxHeartbeats 4000000

def sA1 (i : Nat) : Subs := setSt Sub0 i 2
def sA2 (i : Nat) : Subs := setPe (sA1 i) i [2]
def sB1 (i : Nat) : Subs := setSu Sub0 i 1 [1]
def sB2 (i : Nat) : Subs := setSt (sB1 i) i 2
theorem vA2 (i : Nat) : sA2 i i = (2, [2]) := by unfold sA2 setPe sA1 setSt; rw [if_pos rfl, if_pos rfl]
theorem vB2 (i : Nat) : sB2 i i = (2, [1]) := by unfold sB2 setSt sB1 setSu; rw [if_pos rfl, if_pos rfl]
theorem st_at (s : Subs) (i : Nat) (v : Int) : setSt s i v i = (v, (s i).2) := by unfold setSt; rw [if_pos rfl]
theorem pe_at (s : Subs) (i : Nat) (l : List Int) : setPe s i l i = ((s i).1, l) := by unfold setPe; rw [if_pos rfl]
theorem su_at (s : Subs) (i : Nat) (v : Int) (l : List Int) : setSu s i v l i = (v, l) := by unfold setSu; rw [if_pos rfl]
section
variable {x : Int} (hx : nodeB x = true)
include hx
theorem y1 : pFoundR Sub0 x = (0, sA1 (x - 1).toNat) := by unfold pFoundR; rw [if_pos hx]; rfl
theorem y2 : pJoinR 2 Sub0 x 1 = (0, sB1 (x - 1).toNat) := by unfold pJoinR; rw [if_pos hx]; rfl
theorem y3 : pAskedR 1 (sA1 (x - 1).toNat) x 2 = (true, sA2 (x - 1).toNat) := by unfold pAskedR; rw [hx]; unfold sA1; rw [st_at]; rfl
theorem y4 : pJoinedR (sB1 (x - 1).toNat) x 1 true = (0, sB2 (x - 1).toNat) := by unfold pJoinedR isS; rw [hx]; unfold sB1; rw [su_at]; rfl
theorem leave_at {s : Subs} {a : Int} (h : s (x - 1).toNat = (2, [a])) : pLeaveR s x = (a, 0, setSt s (x - 1).toNat 3) := by unfold pLeaveR; rw [if_pos hx, h]; rfl
theorem leaving_busy {s : Subs} {L : List Int} {f : Int} (h : s (x - 1).toNat = (3, L)) : pLeavingR s x f = (false, s) := by unfold pLeavingR; rw [hx, h]; rfl
theorem leaving_at {s : Subs} {f : Int} (h : s (x - 1).toNat = (2, [f])) : pLeavingR s x f = (true, setPe s (x - 1).toNat []) := by unfold pLeavingR remS; rw [hx, h]; simp
theorem left_yes {s : Subs} {f : Int} (h : s (x - 1).toNat = (3, [f])) : pLeftR s x f true = (0, setSu s (x - 1).toNat 0 []) := by unfold pLeftR isS; rw [hx, h]; simp
theorem left_no {s : Subs} {f : Int} (h : s (x - 1).toNat = (3, [f])) : pLeftR s x f false = (0, setSt s (x - 1).toNat 2) := by unfold pLeftR isS; rw [hx, h]; simp
theorem stOf_at {s : Subs} : stOf s x = (s (x - 1).toNat).1 := by unfold stOf; rw [if_pos hx]
end
theorem one_srt : Srt [1] := ⟨by simp, by simp⟩
theorem sA1_srt (i : Nat) : ∀ j, Srt (sA1 i j).2 := fun j => by unfold sA1 setSt Sub0; split <;> exact nil_srt
theorem sA2_srt (i : Nat) : ∀ j, Srt (sA2 i j).2 := fun j => by unfold sA2 setPe; split; exact small_srt; exact sA1_srt i j
theorem setSt_srt {s : Subs} {i : Nat} {v : Int} (h : ∀ j, Srt (s j).2) : ∀ j, Srt (setSt s i v j).2 := fun j => by unfold setSt; split; exact h j; exact h j
theorem setPe_srt {s : Subs} {i : Nat} {l : List Int} (hl : Srt l) (h : ∀ j, Srt (s j).2) : ∀ j, Srt (setPe s i l j).2 := fun j => by unfold setPe; split; exact hl; exact h j
theorem sB1_srt (i : Nat) : ∀ j, Srt (sB1 i j).2 := fun j => by unfold sB1 setSu Sub0; split; exact one_srt; exact nil_srt
theorem peersstay_pure (p q : Bool) (x : Int) : HPure Try.prog 6 [BV p, BV q, I64 x] (BV true) := by
  (refine HPure.of en6 fun σ => ?_); (refine HCalls.of_vc Try.func6 rfl ?_; rw [Try.ntmps6, Try.results6]; simp only [List.length_cons, List.length_nil, Nat.reduceAdd, Nat.reduceSub, List.replicate, List.cons_append, List.nil_append])
  (repeat (first | refine Stp.s ?_ | refine inBlock_exit' (by decide) ?_ | ((first | refine vc_region fun K KP hK hKP => ?_ | refine Stg.s ?_ | refine guardD_ret0 ?_ | refine exV_intro _ rfl ?_); (try simp only [go_sem, loadL_a]); try ((first | refine hK _ _ ?_ | refine hKP _ _ _ ?_ | refine hKP _ _ (fun _ => ?_)); clear hK hKP K KP))))
  refine callV_new en28 (pnew_ok 1 (by decide) σ) (fun b hb => ?_)
  have h0 := Store.set_same σ b (.cells (peC 1 Sub0))
  have hle0 : σ.le (σ.set b (.cells (peC 1 Sub0))) := Store.le_set hb (Store.le_refl σ)
  generalize σ.set b _ = σ1 at *
  ((try simp only [go_sem, loadL_a]); (try ((first | refine hK _ _ ?_ | refine hKP _ _ _ ?_ | refine hKP _ _ (fun _ => ?_)); clear hK hKP K KP)); repeat (first | refine Stp.s ?_ | refine inBlock_exit' (by decide) ?_ | ((first | refine vc_region fun K KP hK hKP => ?_ | refine Stg.s ?_ | refine guardD_ret0 ?_ | refine exV_intro _ rfl ?_); (try simp only [go_sem, loadL_a]); try ((first | refine hK _ _ ?_ | refine hKP _ _ _ ?_ | refine hKP _ _ (fun _ => ?_)); clear hK hKP K KP))))
  refine callV_new en28 (pnew_ok 2 (by decide) σ1) (fun c hc => ?_)
  have hA := Store.keep hc h0 (.cells (peC 2 Sub0))
  have hB := Store.set_same σ1 c (.cells (peC 2 Sub0))
  have hle : σ.le (σ1.set c (.cells (peC 2 Sub0))) := Store.le_set hc hle0
  have hcb : c ≠ b := fun e => by rw [e, h0] at hc; cases hc
  have hcσ : σ c = none := Store.none_of_le hle0 hc
  generalize σ1.set c _ = σ2 at *
  clear h0 hle0 hc
  ((try simp only [go_sem, loadL_a]); (try ((first | refine hK _ _ ?_ | refine hKP _ _ _ ?_ | refine hKP _ _ (fun _ => ?_)); clear hK hKP K KP)); repeat (first | refine Stp.s ?_ | refine inBlock_exit' (by decide) ?_ | ((first | refine vc_region fun K KP hK hKP => ?_ | refine Stg.s ?_ | refine guardD_ret0 ?_ | refine exV_intro _ rfl ?_); (try simp only [go_sem, loadL_a]); try ((first | refine hK _ _ ?_ | refine hKP _ _ _ ?_ | refine hKP _ _ (fun _ => ?_)); clear hK hKP K KP))))
  by_cases hx : nodeB x = true
  rotate_left
  · have hbad : (decide (x < 1) || decide (12 < x)) = true := by
      have : ¬(1 ≤ x ∧ x ≤ 12) := fun h => hx (nodeB_iff.2 h)
      simp; omega
    refine vc_cond rfl (fun _ => ?_) (fun hq => ?_)
    · (repeat (first | refine Stp.s ?_ | refine inBlock_exit' (by decide) ?_ | ((first | refine vc_region fun K KP hK hKP => ?_ | refine Stg.s ?_ | refine guardD_ret0 ?_ | refine exV_intro _ rfl ?_); (try simp only [go_sem, loadL_a]); try ((first | refine hK _ _ ?_ | refine hKP _ _ _ ?_ | refine hKP _ _ (fun _ => ?_)); clear hK hKP K KP))))
      ((try simp only [go_sem, loadL_a]); first | refine guardC_q0 (fun _ => callV_pure (alive21) ⟨rfl, rfl⟩) ?_ | refine callV_pure (alive21) ?_)
      ((try simp only [go_sem, loadL_a]); (try ((first | refine hK _ _ ?_ | refine hKP _ _ _ ?_ | refine hKP _ _ (fun _ => ?_)); clear hK hKP K KP)); repeat (first | refine Stp.s ?_ | refine inBlock_exit' (by decide) ?_ | ((first | refine vc_region fun K KP hK hKP => ?_ | refine Stg.s ?_ | refine guardD_ret0 ?_ | refine exV_intro _ rfl ?_); (try simp only [go_sem, loadL_a]); try ((first | refine hK _ _ ?_ | refine hKP _ _ _ ?_ | refine hKP _ _ (fun _ => ?_)); clear hK hKP K KP))))
      (simp only [postV, resV, oneOf, List.getD_cons_succ, List.getD_cons_zero, and_true, true_and])
      exact Ends.le rfl hle
    · exfalso
      have hq : (decide (x < 1) || decide (12 < x)) = false := hq
      rw [hbad] at hq; cases hq
  have hx2 := nodeB_iff.1 hx
  refine vc_cond rfl (fun hq => ?_) (fun _ => ?_)
  · exfalso; simp at hq; omega
  (repeat (first | refine Stp.s ?_ | refine inBlock_exit' (by decide) ?_ | ((first | refine vc_region fun K KP hK hKP => ?_ | refine Stg.s ?_ | refine guardD_ret0 ?_ | refine exV_intro _ rfl ?_); (try simp only [go_sem, loadL_a]); try ((first | refine hK _ _ ?_ | refine hKP _ _ _ ?_ | refine hKP _ _ (fun _ => ?_)); clear hK hKP K KP))))
  refine callV_ends en33 (pFound b σ2 1 Sub0 hA (by decide) x) ?_
  rw [y1 hx]
  simp only
  have tA := Store.set_same σ2 b (.cells (peC 1 (sA1 (x - 1).toNat)))
  have tB := (Store.set_other σ2 (.cells (peC 1 (sA1 (x - 1).toNat))) hcb).trans hB
  have hle := Store.le_over (k := .cells (peC 1 (sA1 (x - 1).toNat))) hb hle
  clear hA hB
  generalize σ2.set b (.cells (peC 1 (sA1 (x - 1).toNat))) = σ3 at *
  have hA := tA
  have hB := tB
  clear tA tB
  ((try simp only [go_sem, loadL_a, bne_self_eq_false]); (try ((first | refine hK _ _ ?_ | refine hKP _ _ _ ?_ | refine hKP _ _ (fun _ => ?_)); clear hK hKP K KP)); repeat (first | refine Stp.s ?_ | refine inBlock_exit' (by decide) ?_ | ((first | refine vc_region fun K KP hK hKP => ?_ | refine Stg.s ?_ | refine guardD_ret0 ?_ | refine exV_intro _ rfl ?_); (try simp only [go_sem, loadL_a, bne_self_eq_false]); try ((first | refine hK _ _ ?_ | refine hKP _ _ _ ?_ | refine hKP _ _ (fun _ => ?_)); clear hK hKP K KP))))
  refine callV_ends en34 (pJoin c σ3 2 Sub0 hB (by decide) x 1) ?_
  rw [y2 hx]
  simp only
  have tB := Store.set_same σ3 c (.cells (peC 2 (sB1 (x - 1).toNat)))
  have tA := (Store.set_other σ3 (.cells (peC 2 (sB1 (x - 1).toNat))) (Ne.symm hcb)).trans hA
  have hle := Store.le_over (k := .cells (peC 2 (sB1 (x - 1).toNat))) hcσ hle
  clear hA hB
  generalize σ3.set c (.cells (peC 2 (sB1 (x - 1).toNat))) = σ4 at *
  have hA := tA
  have hB := tB
  clear tA tB
  ((try simp only [go_sem, loadL_a, bne_self_eq_false]); (try ((first | refine hK _ _ ?_ | refine hKP _ _ _ ?_ | refine hKP _ _ (fun _ => ?_)); clear hK hKP K KP)); repeat (first | refine Stp.s ?_ | refine inBlock_exit' (by decide) ?_ | ((first | refine vc_region fun K KP hK hKP => ?_ | refine Stg.s ?_ | refine guardD_ret0 ?_ | refine exV_intro _ rfl ?_); (try simp only [go_sem, loadL_a, bne_self_eq_false]); try ((first | refine hK _ _ ?_ | refine hKP _ _ _ ?_ | refine hKP _ _ (fun _ => ?_)); clear hK hKP K KP))))
  refine callV_ends en35 (pAsked b σ4 1 _ hA (by decide) (sA1_srt _) x 2) ?_
  rw [y3 hx]
  simp only
  have tA := Store.set_same σ4 b (.cells (peC 1 (sA2 (x - 1).toNat)))
  have tB := (Store.set_other σ4 (.cells (peC 1 (sA2 (x - 1).toNat))) hcb).trans hB
  have hle := Store.le_over (k := .cells (peC 1 (sA2 (x - 1).toNat))) hb hle
  clear hA hB
  generalize σ4.set b (.cells (peC 1 (sA2 (x - 1).toNat))) = σ5 at *
  have hA := tA
  have hB := tB
  clear tA tB
  ((try simp only [go_sem, loadL_a, bne_self_eq_false]); (try ((first | refine hK _ _ ?_ | refine hKP _ _ _ ?_ | refine hKP _ _ (fun _ => ?_)); clear hK hKP K KP)); repeat (first | refine Stp.s ?_ | refine inBlock_exit' (by decide) ?_ | ((first | refine vc_region fun K KP hK hKP => ?_ | refine Stg.s ?_ | refine guardD_ret0 ?_ | refine exV_intro _ rfl ?_); (try simp only [go_sem, loadL_a, bne_self_eq_false]); try ((first | refine hK _ _ ?_ | refine hKP _ _ _ ?_ | refine hKP _ _ (fun _ => ?_)); clear hK hKP K KP))))
  refine callV_ends en36 (pJoined c σ5 2 _ hB (by decide) x 1 true) ?_
  rw [y4 hx]
  simp only
  have tB := Store.set_same σ5 c (.cells (peC 2 (sB2 (x - 1).toNat)))
  have tA := (Store.set_other σ5 (.cells (peC 2 (sB2 (x - 1).toNat))) (Ne.symm hcb)).trans hA
  have hle := Store.le_over (k := .cells (peC 2 (sB2 (x - 1).toNat))) hcσ hle
  clear hA hB
  generalize σ5.set c (.cells (peC 2 (sB2 (x - 1).toNat))) = σ6 at *
  have hA := tA
  have hB := tB
  clear tA tB
  ((try simp only [go_sem, loadL_a, bne_self_eq_false]); (try ((first | refine hK _ _ ?_ | refine hKP _ _ _ ?_ | refine hKP _ _ (fun _ => ?_)); clear hK hKP K KP)); repeat (first | refine Stp.s ?_ | refine inBlock_exit' (by decide) ?_ | ((first | refine vc_region fun K KP hK hKP => ?_ | refine Stg.s ?_ | refine guardD_ret0 ?_ | refine exV_intro _ rfl ?_); (try simp only [go_sem, loadL_a, bne_self_eq_false]); try ((first | refine hK _ _ ?_ | refine hKP _ _ _ ?_ | refine hKP _ _ (fun _ => ?_)); clear hK hKP K KP))))
  refine vc_cond rfl (fun hq => by cases hq) (fun _ => ?_)
  rcases p with _ | _ <;> rcases q with _ | _
  · (repeat (first | refine Stp.s ?_ | refine inBlock_exit' (by decide) ?_ | ((first | refine vc_region fun K KP hK hKP => ?_ | refine Stg.s ?_ | refine guardD_ret0 ?_ | refine exV_intro _ rfl ?_); (try simp only [go_sem, loadL_a]); try ((first | refine hK _ _ ?_ | refine hKP _ _ _ ?_ | refine hKP _ _ (fun _ => ?_)); clear hK hKP K KP))))
    refine vc_cond rfl (fun hq => by cases hq) (fun _ => ?_)
    (repeat (first | refine Stp.s ?_ | refine inBlock_exit' (by decide) ?_ | ((first | refine vc_region fun K KP hK hKP => ?_ | refine Stg.s ?_ | refine guardD_ret0 ?_ | refine exV_intro _ rfl ?_); (try simp only [go_sem, loadL_a, bne_self_eq_false]); try ((first | refine hK _ _ ?_ | refine hKP _ _ _ ?_ | refine hKP _ _ (fun _ => ?_)); clear hK hKP K KP))))
    refine vc_cond rfl (fun hq => by cases hq) (fun _ => ?_)
    (repeat (first | refine Stp.s ?_ | refine inBlock_exit' (by decide) ?_ | ((first | refine vc_region fun K KP hK hKP => ?_ | refine Stg.s ?_ | refine guardD_ret0 ?_ | refine exV_intro _ rfl ?_); (try simp only [go_sem, loadL_a, bne_self_eq_false]); try ((first | refine hK _ _ ?_ | refine hKP _ _ _ ?_ | refine hKP _ _ (fun _ => ?_)); clear hK hKP K KP))))
    refine vc_cond rfl (fun hq => by cases hq) (fun _ => ?_)
    (repeat (first | refine Stp.s ?_ | refine inBlock_exit' (by decide) ?_ | ((first | refine vc_region fun K KP hK hKP => ?_ | refine Stg.s ?_ | refine guardD_ret0 ?_ | refine exV_intro _ rfl ?_); (try simp only [go_sem, loadL_a, bne_self_eq_false]); try ((first | refine hK _ _ ?_ | refine hKP _ _ _ ?_ | refine hKP _ _ (fun _ => ?_)); clear hK hKP K KP))))
    ((try simp only [go_sem, loadL_a]); refine callV_quiet en31 (pState b σ6 1 _ hA (by decide) x) ?_)
    rw [stOf_at hx, show ((sA2 (x - 1).toNat) (x - 1).toNat).1 = 2 from by simp [st_at, su_at, pe_at, vA2]]
    ((try simp only [go_sem, loadL_a, bne_self_eq_false]); (try ((first | refine hK _ _ ?_ | refine hKP _ _ _ ?_ | refine hKP _ _ (fun _ => ?_)); clear hK hKP K KP)); repeat (first | refine Stp.s ?_ | refine inBlock_exit' (by decide) ?_ | ((first | refine vc_region fun K KP hK hKP => ?_ | refine Stg.s ?_ | refine guardD_ret0 ?_ | refine exV_intro _ rfl ?_); (try simp only [go_sem, loadL_a, bne_self_eq_false]); try ((first | refine hK _ _ ?_ | refine hKP _ _ _ ?_ | refine hKP _ _ (fun _ => ?_)); clear hK hKP K KP))))
    ((try simp only [go_sem, loadL_a]); first | refine callV_pure (num_pure _) ?_ | refine guardC_q0 (fun _ => callV_pure (num_pure _) ⟨rfl, rfl⟩) ?_)
    ((try simp only [go_sem, loadL_a, bne_self_eq_false]); (try ((first | refine hK _ _ ?_ | refine hKP _ _ _ ?_ | refine hKP _ _ (fun _ => ?_)); clear hK hKP K KP)); repeat (first | refine Stp.s ?_ | refine inBlock_exit' (by decide) ?_ | ((first | refine vc_region fun K KP hK hKP => ?_ | refine Stg.s ?_ | refine guardD_ret0 ?_ | refine exV_intro _ rfl ?_); (try simp only [go_sem, loadL_a, bne_self_eq_false]); try ((first | refine hK _ _ ?_ | refine hKP _ _ _ ?_ | refine hKP _ _ (fun _ => ?_)); clear hK hKP K KP))))
    ((try simp only [go_sem, loadL_a]); refine callV_quiet en31 (pState c σ6 2 _ hB (by decide) x) ?_)
    rw [stOf_at hx, show ((sB2 (x - 1).toNat) (x - 1).toNat).1 = 2 from by simp [st_at, su_at, pe_at, vB2]]
    ((try simp only [go_sem, loadL_a, bne_self_eq_false]); (try ((first | refine hK _ _ ?_ | refine hKP _ _ _ ?_ | refine hKP _ _ (fun _ => ?_)); clear hK hKP K KP)); repeat (first | refine Stp.s ?_ | refine inBlock_exit' (by decide) ?_ | ((first | refine vc_region fun K KP hK hKP => ?_ | refine Stg.s ?_ | refine guardD_ret0 ?_ | refine exV_intro _ rfl ?_); (try simp only [go_sem, loadL_a, bne_self_eq_false]); try ((first | refine hK _ _ ?_ | refine hKP _ _ _ ?_ | refine hKP _ _ (fun _ => ?_)); clear hK hKP K KP))))
    ((try simp only [go_sem, loadL_a]); first | refine callV_pure (num_pure _) ?_ | refine guardC_q0 (fun _ => callV_pure (num_pure _) ⟨rfl, rfl⟩) ?_)
    ((try simp only [go_sem, loadL_a, bne_self_eq_false]); (try ((first | refine hK _ _ ?_ | refine hKP _ _ _ ?_ | refine hKP _ _ (fun _ => ?_)); clear hK hKP K KP)); repeat (first | refine Stp.s ?_ | refine inBlock_exit' (by decide) ?_ | ((first | refine vc_region fun K KP hK hKP => ?_ | refine Stg.s ?_ | refine guardD_ret0 ?_ | refine exV_intro _ rfl ?_); (try simp only [go_sem, loadL_a, bne_self_eq_false]); try ((first | refine hK _ _ ?_ | refine hKP _ _ _ ?_ | refine hKP _ _ (fun _ => ?_)); clear hK hKP K KP))))
    ((try simp only [go_sem, loadL_a]); first | refine callV_pure (alive21) ?_ | refine guardC_q0 (fun _ => callV_pure (alive21) ⟨rfl, rfl⟩) ?_)
    ((try simp only [go_sem, loadL_a, bne_self_eq_false]); (try ((first | refine hK _ _ ?_ | refine hKP _ _ _ ?_ | refine hKP _ _ (fun _ => ?_)); clear hK hKP K KP)); repeat (first | refine Stp.s ?_ | refine inBlock_exit' (by decide) ?_ | ((first | refine vc_region fun K KP hK hKP => ?_ | refine Stg.s ?_ | refine guardD_ret0 ?_ | refine exV_intro _ rfl ?_); (try simp only [go_sem, loadL_a, bne_self_eq_false]); try ((first | refine hK _ _ ?_ | refine hKP _ _ _ ?_ | refine hKP _ _ (fun _ => ?_)); clear hK hKP K KP))))
    (simp only [postV, resV, oneOf, List.getD_cons_succ, List.getD_cons_zero, and_true, true_and])
    exact Ends.le rfl hle
  · (repeat (first | refine Stp.s ?_ | refine inBlock_exit' (by decide) ?_ | ((first | refine vc_region fun K KP hK hKP => ?_ | refine Stg.s ?_ | refine guardD_ret0 ?_ | refine exV_intro _ rfl ?_); (try simp only [go_sem, loadL_a]); try ((first | refine hK _ _ ?_ | refine hKP _ _ _ ?_ | refine hKP _ _ (fun _ => ?_)); clear hK hKP K KP))))
    refine vc_cond rfl (fun hq => by cases hq) (fun _ => ?_)
    (repeat (first | refine Stp.s ?_ | refine inBlock_exit' (by decide) ?_ | ((first | refine vc_region fun K KP hK hKP => ?_ | refine Stg.s ?_ | refine guardD_ret0 ?_ | refine exV_intro _ rfl ?_); (try simp only [go_sem, loadL_a, bne_self_eq_false]); try ((first | refine hK _ _ ?_ | refine hKP _ _ _ ?_ | refine hKP _ _ (fun _ => ?_)); clear hK hKP K KP))))
    refine vc_cond rfl (fun _ => ?_) (fun hq => by cases hq)
    (repeat (first | refine Stp.s ?_ | refine inBlock_exit' (by decide) ?_ | ((first | refine vc_region fun K KP hK hKP => ?_ | refine Stg.s ?_ | refine guardD_ret0 ?_ | refine exV_intro _ rfl ?_); (try simp only [go_sem, loadL_a, bne_self_eq_false]); try ((first | refine hK _ _ ?_ | refine hKP _ _ _ ?_ | refine hKP _ _ (fun _ => ?_)); clear hK hKP K KP))))
    refine callV_ends en37 (pLeave c σ6 2 _ hB (by decide) x) ?_
    rw [leave_at hx (vB2 _)]
    simp only
    have tB := Store.set_same σ6 c (.cells (peC 2 (setSt (sB2 (x - 1).toNat) (x - 1).toNat 3)))
    have tA := (Store.set_other σ6 (.cells (peC 2 (setSt (sB2 (x - 1).toNat) (x - 1).toNat 3))) (Ne.symm hcb)).trans hA
    have hle := Store.le_over (k := .cells (peC 2 (setSt (sB2 (x - 1).toNat) (x - 1).toNat 3))) hcσ hle
    clear hA hB
    generalize σ6.set c (.cells (peC 2 (setSt (sB2 (x - 1).toNat) (x - 1).toNat 3))) = σ7 at *
    have hA := tA
    have hB := tB
    clear tA tB
    ((try simp only [go_sem, loadL_a, bne_self_eq_false]); (try ((first | refine hK _ _ ?_ | refine hKP _ _ _ ?_ | refine hKP _ _ (fun _ => ?_)); clear hK hKP K KP)); repeat (first | refine Stp.s ?_ | refine inBlock_exit' (by decide) ?_ | ((first | refine vc_region fun K KP hK hKP => ?_ | refine Stg.s ?_ | refine guardD_ret0 ?_ | refine exV_intro _ rfl ?_); (try simp only [go_sem, loadL_a, bne_self_eq_false]); try ((first | refine hK _ _ ?_ | refine hKP _ _ _ ?_ | refine hKP _ _ (fun _ => ?_)); clear hK hKP K KP))))
    refine vc_cond rfl (fun hq => by cases hq) (fun _ => ?_)
    (repeat (first | refine Stp.s ?_ | refine inBlock_exit' (by decide) ?_ | ((first | refine vc_region fun K KP hK hKP => ?_ | refine Stg.s ?_ | refine guardD_ret0 ?_ | refine exV_intro _ rfl ?_); (try simp only [go_sem, loadL_a, bne_self_eq_false]); try ((first | refine hK _ _ ?_ | refine hKP _ _ _ ?_ | refine hKP _ _ (fun _ => ?_)); clear hK hKP K KP))))
    refine callV_ends en38 (pLeaving b σ7 1 _ hA (by decide) (sA2_srt _) x 2) ?_
    rw [leaving_at hx (vA2 _)]
    simp only
    have tA := Store.set_same σ7 b (.cells (peC 1 (setPe (sA2 (x - 1).toNat) (x - 1).toNat [])))
    have tB := (Store.set_other σ7 (.cells (peC 1 (setPe (sA2 (x - 1).toNat) (x - 1).toNat []))) hcb).trans hB
    have hle := Store.le_over (k := .cells (peC 1 (setPe (sA2 (x - 1).toNat) (x - 1).toNat []))) hb hle
    clear hA hB
    generalize σ7.set b (.cells (peC 1 (setPe (sA2 (x - 1).toNat) (x - 1).toNat []))) = σ8 at *
    have hA := tA
    have hB := tB
    clear tA tB
    ((try simp only [go_sem, loadL_a, bne_self_eq_false]); (try ((first | refine hK _ _ ?_ | refine hKP _ _ _ ?_ | refine hKP _ _ (fun _ => ?_)); clear hK hKP K KP)); repeat (first | refine Stp.s ?_ | refine inBlock_exit' (by decide) ?_ | ((first | refine vc_region fun K KP hK hKP => ?_ | refine Stg.s ?_ | refine guardD_ret0 ?_ | refine exV_intro _ rfl ?_); (try simp only [go_sem, loadL_a, bne_self_eq_false]); try ((first | refine hK _ _ ?_ | refine hKP _ _ _ ?_ | refine hKP _ _ (fun _ => ?_)); clear hK hKP K KP))))
    refine callV_ends en39 (pLeft c σ8 2 _ hB (by decide) x 1 true) ?_
    rw [left_yes hx (by rw [st_at, vB2])]
    simp only
    have tB := Store.set_same σ8 c (.cells (peC 2 (setSu (setSt (sB2 (x - 1).toNat) (x - 1).toNat 3) (x - 1).toNat 0 [])))
    have tA := (Store.set_other σ8 (.cells (peC 2 (setSu (setSt (sB2 (x - 1).toNat) (x - 1).toNat 3) (x - 1).toNat 0 []))) (Ne.symm hcb)).trans hA
    have hle := Store.le_over (k := .cells (peC 2 (setSu (setSt (sB2 (x - 1).toNat) (x - 1).toNat 3) (x - 1).toNat 0 []))) hcσ hle
    clear hA hB
    generalize σ8.set c (.cells (peC 2 (setSu (setSt (sB2 (x - 1).toNat) (x - 1).toNat 3) (x - 1).toNat 0 []))) = σ9 at *
    have hA := tA
    have hB := tB
    clear tA tB
    ((try simp only [go_sem, loadL_a, bne_self_eq_false]); (try ((first | refine hK _ _ ?_ | refine hKP _ _ _ ?_ | refine hKP _ _ (fun _ => ?_)); clear hK hKP K KP)); repeat (first | refine Stp.s ?_ | refine inBlock_exit' (by decide) ?_ | ((first | refine vc_region fun K KP hK hKP => ?_ | refine Stg.s ?_ | refine guardD_ret0 ?_ | refine exV_intro _ rfl ?_); (try simp only [go_sem, loadL_a, bne_self_eq_false]); try ((first | refine hK _ _ ?_ | refine hKP _ _ _ ?_ | refine hKP _ _ (fun _ => ?_)); clear hK hKP K KP))))
    refine vc_cond rfl (fun hq => by cases hq) (fun _ => ?_)
    (repeat (first | refine Stp.s ?_ | refine inBlock_exit' (by decide) ?_ | ((first | refine vc_region fun K KP hK hKP => ?_ | refine Stg.s ?_ | refine guardD_ret0 ?_ | refine exV_intro _ rfl ?_); (try simp only [go_sem, loadL_a, bne_self_eq_false]); try ((first | refine hK _ _ ?_ | refine hKP _ _ _ ?_ | refine hKP _ _ (fun _ => ?_)); clear hK hKP K KP))))
    ((try simp only [go_sem, loadL_a]); refine callV_quiet en31 (pState b σ9 1 _ hA (by decide) x) ?_)
    rw [stOf_at hx, show ((setPe (sA2 (x - 1).toNat) (x - 1).toNat []) (x - 1).toNat).1 = 2 from by simp [st_at, su_at, pe_at, vA2]]
    ((try simp only [go_sem, loadL_a, bne_self_eq_false]); (try ((first | refine hK _ _ ?_ | refine hKP _ _ _ ?_ | refine hKP _ _ (fun _ => ?_)); clear hK hKP K KP)); repeat (first | refine Stp.s ?_ | refine inBlock_exit' (by decide) ?_ | ((first | refine vc_region fun K KP hK hKP => ?_ | refine Stg.s ?_ | refine guardD_ret0 ?_ | refine exV_intro _ rfl ?_); (try simp only [go_sem, loadL_a, bne_self_eq_false]); try ((first | refine hK _ _ ?_ | refine hKP _ _ _ ?_ | refine hKP _ _ (fun _ => ?_)); clear hK hKP K KP))))
    ((try simp only [go_sem, loadL_a]); first | refine callV_pure (num_pure _) ?_ | refine guardC_q0 (fun _ => callV_pure (num_pure _) ⟨rfl, rfl⟩) ?_)
    ((try simp only [go_sem, loadL_a, bne_self_eq_false]); (try ((first | refine hK _ _ ?_ | refine hKP _ _ _ ?_ | refine hKP _ _ (fun _ => ?_)); clear hK hKP K KP)); repeat (first | refine Stp.s ?_ | refine inBlock_exit' (by decide) ?_ | ((first | refine vc_region fun K KP hK hKP => ?_ | refine Stg.s ?_ | refine guardD_ret0 ?_ | refine exV_intro _ rfl ?_); (try simp only [go_sem, loadL_a, bne_self_eq_false]); try ((first | refine hK _ _ ?_ | refine hKP _ _ _ ?_ | refine hKP _ _ (fun _ => ?_)); clear hK hKP K KP))))
    ((try simp only [go_sem, loadL_a]); refine callV_quiet en31 (pState c σ9 2 _ hB (by decide) x) ?_)
    rw [stOf_at hx, show ((setSu (setSt (sB2 (x - 1).toNat) (x - 1).toNat 3) (x - 1).toNat 0 []) (x - 1).toNat).1 = 0 from by simp [st_at, su_at, pe_at, vB2]]
    ((try simp only [go_sem, loadL_a, bne_self_eq_false]); (try ((first | refine hK _ _ ?_ | refine hKP _ _ _ ?_ | refine hKP _ _ (fun _ => ?_)); clear hK hKP K KP)); repeat (first | refine Stp.s ?_ | refine inBlock_exit' (by decide) ?_ | ((first | refine vc_region fun K KP hK hKP => ?_ | refine Stg.s ?_ | refine guardD_ret0 ?_ | refine exV_intro _ rfl ?_); (try simp only [go_sem, loadL_a, bne_self_eq_false]); try ((first | refine hK _ _ ?_ | refine hKP _ _ _ ?_ | refine hKP _ _ (fun _ => ?_)); clear hK hKP K KP))))
    ((try simp only [go_sem, loadL_a]); first | refine callV_pure (num_pure _) ?_ | refine guardC_q0 (fun _ => callV_pure (num_pure _) ⟨rfl, rfl⟩) ?_)
    ((try simp only [go_sem, loadL_a, bne_self_eq_false]); (try ((first | refine hK _ _ ?_ | refine hKP _ _ _ ?_ | refine hKP _ _ (fun _ => ?_)); clear hK hKP K KP)); repeat (first | refine Stp.s ?_ | refine inBlock_exit' (by decide) ?_ | ((first | refine vc_region fun K KP hK hKP => ?_ | refine Stg.s ?_ | refine guardD_ret0 ?_ | refine exV_intro _ rfl ?_); (try simp only [go_sem, loadL_a, bne_self_eq_false]); try ((first | refine hK _ _ ?_ | refine hKP _ _ _ ?_ | refine hKP _ _ (fun _ => ?_)); clear hK hKP K KP))))
    ((try simp only [go_sem, loadL_a]); first | refine callV_pure (alive21) ?_ | refine guardC_q0 (fun _ => callV_pure (alive21) ⟨rfl, rfl⟩) ?_)
    ((try simp only [go_sem, loadL_a, bne_self_eq_false]); (try ((first | refine hK _ _ ?_ | refine hKP _ _ _ ?_ | refine hKP _ _ (fun _ => ?_)); clear hK hKP K KP)); repeat (first | refine Stp.s ?_ | refine inBlock_exit' (by decide) ?_ | ((first | refine vc_region fun K KP hK hKP => ?_ | refine Stg.s ?_ | refine guardD_ret0 ?_ | refine exV_intro _ rfl ?_); (try simp only [go_sem, loadL_a, bne_self_eq_false]); try ((first | refine hK _ _ ?_ | refine hKP _ _ _ ?_ | refine hKP _ _ (fun _ => ?_)); clear hK hKP K KP))))
    (simp only [postV, resV, oneOf, List.getD_cons_succ, List.getD_cons_zero, and_true, true_and])
    exact Ends.le rfl hle
  · (repeat (first | refine Stp.s ?_ | refine inBlock_exit' (by decide) ?_ | ((first | refine vc_region fun K KP hK hKP => ?_ | refine Stg.s ?_ | refine guardD_ret0 ?_ | refine exV_intro _ rfl ?_); (try simp only [go_sem, loadL_a]); try ((first | refine hK _ _ ?_ | refine hKP _ _ _ ?_ | refine hKP _ _ (fun _ => ?_)); clear hK hKP K KP))))
    refine vc_cond rfl (fun _ => ?_) (fun hq => by cases hq)
    (repeat (first | refine Stp.s ?_ | refine inBlock_exit' (by decide) ?_ | ((first | refine vc_region fun K KP hK hKP => ?_ | refine Stg.s ?_ | refine guardD_ret0 ?_ | refine exV_intro _ rfl ?_); (try simp only [go_sem, loadL_a, bne_self_eq_false]); try ((first | refine hK _ _ ?_ | refine hKP _ _ _ ?_ | refine hKP _ _ (fun _ => ?_)); clear hK hKP K KP))))
    refine callV_ends en37 (pLeave b σ6 1 _ hA (by decide) x) ?_
    rw [leave_at hx (vA2 _)]
    simp only
    have tA := Store.set_same σ6 b (.cells (peC 1 (setSt (sA2 (x - 1).toNat) (x - 1).toNat 3)))
    have tB := (Store.set_other σ6 (.cells (peC 1 (setSt (sA2 (x - 1).toNat) (x - 1).toNat 3))) hcb).trans hB
    have hle := Store.le_over (k := .cells (peC 1 (setSt (sA2 (x - 1).toNat) (x - 1).toNat 3))) hb hle
    clear hA hB
    generalize σ6.set b (.cells (peC 1 (setSt (sA2 (x - 1).toNat) (x - 1).toNat 3))) = σ7 at *
    have hA := tA
    have hB := tB
    clear tA tB
    ((try simp only [go_sem, loadL_a, bne_self_eq_false]); (try ((first | refine hK _ _ ?_ | refine hKP _ _ _ ?_ | refine hKP _ _ (fun _ => ?_)); clear hK hKP K KP)); repeat (first | refine Stp.s ?_ | refine inBlock_exit' (by decide) ?_ | ((first | refine vc_region fun K KP hK hKP => ?_ | refine Stg.s ?_ | refine guardD_ret0 ?_ | refine exV_intro _ rfl ?_); (try simp only [go_sem, loadL_a, bne_self_eq_false]); try ((first | refine hK _ _ ?_ | refine hKP _ _ _ ?_ | refine hKP _ _ (fun _ => ?_)); clear hK hKP K KP))))
    refine vc_cond rfl (fun hq => by cases hq) (fun _ => ?_)
    (repeat (first | refine Stp.s ?_ | refine inBlock_exit' (by decide) ?_ | ((first | refine vc_region fun K KP hK hKP => ?_ | refine Stg.s ?_ | refine guardD_ret0 ?_ | refine exV_intro _ rfl ?_); (try simp only [go_sem, loadL_a, bne_self_eq_false]); try ((first | refine hK _ _ ?_ | refine hKP _ _ _ ?_ | refine hKP _ _ (fun _ => ?_)); clear hK hKP K KP))))
    refine vc_cond rfl (fun hq => by cases hq) (fun _ => ?_)
    (repeat (first | refine Stp.s ?_ | refine inBlock_exit' (by decide) ?_ | ((first | refine vc_region fun K KP hK hKP => ?_ | refine Stg.s ?_ | refine guardD_ret0 ?_ | refine exV_intro _ rfl ?_); (try simp only [go_sem, loadL_a, bne_self_eq_false]); try ((first | refine hK _ _ ?_ | refine hKP _ _ _ ?_ | refine hKP _ _ (fun _ => ?_)); clear hK hKP K KP))))
    refine callV_ends en38 (pLeaving c σ7 2 _ hB (by decide) (setSt_srt (sB1_srt _)) x 1) ?_
    rw [leaving_at hx (vB2 _)]
    simp only
    have tB := Store.set_same σ7 c (.cells (peC 2 (setPe (sB2 (x - 1).toNat) (x - 1).toNat [])))
    have tA := (Store.set_other σ7 (.cells (peC 2 (setPe (sB2 (x - 1).toNat) (x - 1).toNat []))) (Ne.symm hcb)).trans hA
    have hle := Store.le_over (k := .cells (peC 2 (setPe (sB2 (x - 1).toNat) (x - 1).toNat []))) hcσ hle
    clear hA hB
    generalize σ7.set c (.cells (peC 2 (setPe (sB2 (x - 1).toNat) (x - 1).toNat []))) = σ8 at *
    have hA := tA
    have hB := tB
    clear tA tB
    ((try simp only [go_sem, loadL_a, bne_self_eq_false]); (try ((first | refine hK _ _ ?_ | refine hKP _ _ _ ?_ | refine hKP _ _ (fun _ => ?_)); clear hK hKP K KP)); repeat (first | refine Stp.s ?_ | refine inBlock_exit' (by decide) ?_ | ((first | refine vc_region fun K KP hK hKP => ?_ | refine Stg.s ?_ | refine guardD_ret0 ?_ | refine exV_intro _ rfl ?_); (try simp only [go_sem, loadL_a, bne_self_eq_false]); try ((first | refine hK _ _ ?_ | refine hKP _ _ _ ?_ | refine hKP _ _ (fun _ => ?_)); clear hK hKP K KP))))
    refine callV_ends en39 (pLeft b σ8 1 _ hA (by decide) x 2 true) ?_
    rw [left_yes hx (by rw [st_at, vA2])]
    simp only
    have tA := Store.set_same σ8 b (.cells (peC 1 (setSu (setSt (sA2 (x - 1).toNat) (x - 1).toNat 3) (x - 1).toNat 0 [])))
    have tB := (Store.set_other σ8 (.cells (peC 1 (setSu (setSt (sA2 (x - 1).toNat) (x - 1).toNat 3) (x - 1).toNat 0 []))) hcb).trans hB
    have hle := Store.le_over (k := .cells (peC 1 (setSu (setSt (sA2 (x - 1).toNat) (x - 1).toNat 3) (x - 1).toNat 0 []))) hb hle
    clear hA hB
    generalize σ8.set b (.cells (peC 1 (setSu (setSt (sA2 (x - 1).toNat) (x - 1).toNat 3) (x - 1).toNat 0 []))) = σ9 at *
    have hA := tA
    have hB := tB
    clear tA tB
    ((try simp only [go_sem, loadL_a, bne_self_eq_false]); (try ((first | refine hK _ _ ?_ | refine hKP _ _ _ ?_ | refine hKP _ _ (fun _ => ?_)); clear hK hKP K KP)); repeat (first | refine Stp.s ?_ | refine inBlock_exit' (by decide) ?_ | ((first | refine vc_region fun K KP hK hKP => ?_ | refine Stg.s ?_ | refine guardD_ret0 ?_ | refine exV_intro _ rfl ?_); (try simp only [go_sem, loadL_a, bne_self_eq_false]); try ((first | refine hK _ _ ?_ | refine hKP _ _ _ ?_ | refine hKP _ _ (fun _ => ?_)); clear hK hKP K KP))))
    refine vc_cond rfl (fun hq => by cases hq) (fun _ => ?_)
    (repeat (first | refine Stp.s ?_ | refine inBlock_exit' (by decide) ?_ | ((first | refine vc_region fun K KP hK hKP => ?_ | refine Stg.s ?_ | refine guardD_ret0 ?_ | refine exV_intro _ rfl ?_); (try simp only [go_sem, loadL_a, bne_self_eq_false]); try ((first | refine hK _ _ ?_ | refine hKP _ _ _ ?_ | refine hKP _ _ (fun _ => ?_)); clear hK hKP K KP))))
    ((try simp only [go_sem, loadL_a]); refine callV_quiet en31 (pState b σ9 1 _ hA (by decide) x) ?_)
    rw [stOf_at hx, show ((setSu (setSt (sA2 (x - 1).toNat) (x - 1).toNat 3) (x - 1).toNat 0 []) (x - 1).toNat).1 = 0 from by simp [st_at, su_at, pe_at, vA2]]
    ((try simp only [go_sem, loadL_a, bne_self_eq_false]); (try ((first | refine hK _ _ ?_ | refine hKP _ _ _ ?_ | refine hKP _ _ (fun _ => ?_)); clear hK hKP K KP)); repeat (first | refine Stp.s ?_ | refine inBlock_exit' (by decide) ?_ | ((first | refine vc_region fun K KP hK hKP => ?_ | refine Stg.s ?_ | refine guardD_ret0 ?_ | refine exV_intro _ rfl ?_); (try simp only [go_sem, loadL_a, bne_self_eq_false]); try ((first | refine hK _ _ ?_ | refine hKP _ _ _ ?_ | refine hKP _ _ (fun _ => ?_)); clear hK hKP K KP))))
    ((try simp only [go_sem, loadL_a]); first | refine callV_pure (num_pure _) ?_ | refine guardC_q0 (fun _ => callV_pure (num_pure _) ⟨rfl, rfl⟩) ?_)
    ((try simp only [go_sem, loadL_a, bne_self_eq_false]); (try ((first | refine hK _ _ ?_ | refine hKP _ _ _ ?_ | refine hKP _ _ (fun _ => ?_)); clear hK hKP K KP)); repeat (first | refine Stp.s ?_ | refine inBlock_exit' (by decide) ?_ | ((first | refine vc_region fun K KP hK hKP => ?_ | refine Stg.s ?_ | refine guardD_ret0 ?_ | refine exV_intro _ rfl ?_); (try simp only [go_sem, loadL_a, bne_self_eq_false]); try ((first | refine hK _ _ ?_ | refine hKP _ _ _ ?_ | refine hKP _ _ (fun _ => ?_)); clear hK hKP K KP))))
    ((try simp only [go_sem, loadL_a]); refine callV_quiet en31 (pState c σ9 2 _ hB (by decide) x) ?_)
    rw [stOf_at hx, show ((setPe (sB2 (x - 1).toNat) (x - 1).toNat []) (x - 1).toNat).1 = 2 from by simp [st_at, su_at, pe_at, vB2]]
    ((try simp only [go_sem, loadL_a, bne_self_eq_false]); (try ((first | refine hK _ _ ?_ | refine hKP _ _ _ ?_ | refine hKP _ _ (fun _ => ?_)); clear hK hKP K KP)); repeat (first | refine Stp.s ?_ | refine inBlock_exit' (by decide) ?_ | ((first | refine vc_region fun K KP hK hKP => ?_ | refine Stg.s ?_ | refine guardD_ret0 ?_ | refine exV_intro _ rfl ?_); (try simp only [go_sem, loadL_a, bne_self_eq_false]); try ((first | refine hK _ _ ?_ | refine hKP _ _ _ ?_ | refine hKP _ _ (fun _ => ?_)); clear hK hKP K KP))))
    ((try simp only [go_sem, loadL_a]); first | refine callV_pure (num_pure _) ?_ | refine guardC_q0 (fun _ => callV_pure (num_pure _) ⟨rfl, rfl⟩) ?_)
    ((try simp only [go_sem, loadL_a, bne_self_eq_false]); (try ((first | refine hK _ _ ?_ | refine hKP _ _ _ ?_ | refine hKP _ _ (fun _ => ?_)); clear hK hKP K KP)); repeat (first | refine Stp.s ?_ | refine inBlock_exit' (by decide) ?_ | ((first | refine vc_region fun K KP hK hKP => ?_ | refine Stg.s ?_ | refine guardD_ret0 ?_ | refine exV_intro _ rfl ?_); (try simp only [go_sem, loadL_a, bne_self_eq_false]); try ((first | refine hK _ _ ?_ | refine hKP _ _ _ ?_ | refine hKP _ _ (fun _ => ?_)); clear hK hKP K KP))))
    ((try simp only [go_sem, loadL_a]); first | refine callV_pure (alive21) ?_ | refine guardC_q0 (fun _ => callV_pure (alive21) ⟨rfl, rfl⟩) ?_)
    ((try simp only [go_sem, loadL_a, bne_self_eq_false]); (try ((first | refine hK _ _ ?_ | refine hKP _ _ _ ?_ | refine hKP _ _ (fun _ => ?_)); clear hK hKP K KP)); repeat (first | refine Stp.s ?_ | refine inBlock_exit' (by decide) ?_ | ((first | refine vc_region fun K KP hK hKP => ?_ | refine Stg.s ?_ | refine guardD_ret0 ?_ | refine exV_intro _ rfl ?_); (try simp only [go_sem, loadL_a, bne_self_eq_false]); try ((first | refine hK _ _ ?_ | refine hKP _ _ _ ?_ | refine hKP _ _ (fun _ => ?_)); clear hK hKP K KP))))
    (simp only [postV, resV, oneOf, List.getD_cons_succ, List.getD_cons_zero, and_true, true_and])
    exact Ends.le rfl hle
  · (repeat (first | refine Stp.s ?_ | refine inBlock_exit' (by decide) ?_ | ((first | refine vc_region fun K KP hK hKP => ?_ | refine Stg.s ?_ | refine guardD_ret0 ?_ | refine exV_intro _ rfl ?_); (try simp only [go_sem, loadL_a]); try ((first | refine hK _ _ ?_ | refine hKP _ _ _ ?_ | refine hKP _ _ (fun _ => ?_)); clear hK hKP K KP))))
    refine vc_cond rfl (fun _ => ?_) (fun hq => by cases hq)
    (repeat (first | refine Stp.s ?_ | refine inBlock_exit' (by decide) ?_ | ((first | refine vc_region fun K KP hK hKP => ?_ | refine Stg.s ?_ | refine guardD_ret0 ?_ | refine exV_intro _ rfl ?_); (try simp only [go_sem, loadL_a, bne_self_eq_false]); try ((first | refine hK _ _ ?_ | refine hKP _ _ _ ?_ | refine hKP _ _ (fun _ => ?_)); clear hK hKP K KP))))
    refine callV_ends en37 (pLeave b σ6 1 _ hA (by decide) x) ?_
    rw [leave_at hx (vA2 _)]
    simp only
    have tA := Store.set_same σ6 b (.cells (peC 1 (setSt (sA2 (x - 1).toNat) (x - 1).toNat 3)))
    have tB := (Store.set_other σ6 (.cells (peC 1 (setSt (sA2 (x - 1).toNat) (x - 1).toNat 3))) hcb).trans hB
    have hle := Store.le_over (k := .cells (peC 1 (setSt (sA2 (x - 1).toNat) (x - 1).toNat 3))) hb hle
    clear hA hB
    generalize σ6.set b (.cells (peC 1 (setSt (sA2 (x - 1).toNat) (x - 1).toNat 3))) = σ7 at *
    have hA := tA
    have hB := tB
    clear tA tB
    ((try simp only [go_sem, loadL_a, bne_self_eq_false]); (try ((first | refine hK _ _ ?_ | refine hKP _ _ _ ?_ | refine hKP _ _ (fun _ => ?_)); clear hK hKP K KP)); repeat (first | refine Stp.s ?_ | refine inBlock_exit' (by decide) ?_ | ((first | refine vc_region fun K KP hK hKP => ?_ | refine Stg.s ?_ | refine guardD_ret0 ?_ | refine exV_intro _ rfl ?_); (try simp only [go_sem, loadL_a, bne_self_eq_false]); try ((first | refine hK _ _ ?_ | refine hKP _ _ _ ?_ | refine hKP _ _ (fun _ => ?_)); clear hK hKP K KP))))
    refine vc_cond rfl (fun hq => by cases hq) (fun _ => ?_)
    (repeat (first | refine Stp.s ?_ | refine inBlock_exit' (by decide) ?_ | ((first | refine vc_region fun K KP hK hKP => ?_ | refine Stg.s ?_ | refine guardD_ret0 ?_ | refine exV_intro _ rfl ?_); (try simp only [go_sem, loadL_a, bne_self_eq_false]); try ((first | refine hK _ _ ?_ | refine hKP _ _ _ ?_ | refine hKP _ _ (fun _ => ?_)); clear hK hKP K KP))))
    refine vc_cond rfl (fun _ => ?_) (fun hq => by cases hq)
    (repeat (first | refine Stp.s ?_ | refine inBlock_exit' (by decide) ?_ | ((first | refine vc_region fun K KP hK hKP => ?_ | refine Stg.s ?_ | refine guardD_ret0 ?_ | refine exV_intro _ rfl ?_); (try simp only [go_sem, loadL_a, bne_self_eq_false]); try ((first | refine hK _ _ ?_ | refine hKP _ _ _ ?_ | refine hKP _ _ (fun _ => ?_)); clear hK hKP K KP))))
    refine callV_ends en37 (pLeave c σ7 2 _ hB (by decide) x) ?_
    rw [leave_at hx (vB2 _)]
    simp only
    have tB := Store.set_same σ7 c (.cells (peC 2 (setSt (sB2 (x - 1).toNat) (x - 1).toNat 3)))
    have tA := (Store.set_other σ7 (.cells (peC 2 (setSt (sB2 (x - 1).toNat) (x - 1).toNat 3))) (Ne.symm hcb)).trans hA
    have hle := Store.le_over (k := .cells (peC 2 (setSt (sB2 (x - 1).toNat) (x - 1).toNat 3))) hcσ hle
    clear hA hB
    generalize σ7.set c (.cells (peC 2 (setSt (sB2 (x - 1).toNat) (x - 1).toNat 3))) = σ8 at *
    have hA := tA
    have hB := tB
    clear tA tB
    ((try simp only [go_sem, loadL_a, bne_self_eq_false]); (try ((first | refine hK _ _ ?_ | refine hKP _ _ _ ?_ | refine hKP _ _ (fun _ => ?_)); clear hK hKP K KP)); repeat (first | refine Stp.s ?_ | refine inBlock_exit' (by decide) ?_ | ((first | refine vc_region fun K KP hK hKP => ?_ | refine Stg.s ?_ | refine guardD_ret0 ?_ | refine exV_intro _ rfl ?_); (try simp only [go_sem, loadL_a, bne_self_eq_false]); try ((first | refine hK _ _ ?_ | refine hKP _ _ _ ?_ | refine hKP _ _ (fun _ => ?_)); clear hK hKP K KP))))
    refine vc_cond rfl (fun hq => by cases hq) (fun _ => ?_)
    (repeat (first | refine Stp.s ?_ | refine inBlock_exit' (by decide) ?_ | ((first | refine vc_region fun K KP hK hKP => ?_ | refine Stg.s ?_ | refine guardD_ret0 ?_ | refine exV_intro _ rfl ?_); (try simp only [go_sem, loadL_a, bne_self_eq_false]); try ((first | refine hK _ _ ?_ | refine hKP _ _ _ ?_ | refine hKP _ _ (fun _ => ?_)); clear hK hKP K KP))))
    refine callV_ends en38 (pLeaving c σ8 2 _ hB (by decide) (setSt_srt (setSt_srt (sB1_srt _))) x 1) ?_
    rw [leaving_busy hx (L := [1]) (by rw [st_at, vB2])]
    simp only
    have tB := Store.set_same σ8 c (.cells (peC 2 (setSt (sB2 (x - 1).toNat) (x - 1).toNat 3)))
    have tA := (Store.set_other σ8 (.cells (peC 2 (setSt (sB2 (x - 1).toNat) (x - 1).toNat 3))) (Ne.symm hcb)).trans hA
    have hle := Store.le_over (k := .cells (peC 2 (setSt (sB2 (x - 1).toNat) (x - 1).toNat 3))) hcσ hle
    clear hA hB
    generalize σ8.set c (.cells (peC 2 (setSt (sB2 (x - 1).toNat) (x - 1).toNat 3))) = σ9 at *
    have hA := tA
    have hB := tB
    clear tA tB
    ((try simp only [go_sem, loadL_a, bne_self_eq_false]); (try ((first | refine hK _ _ ?_ | refine hKP _ _ _ ?_ | refine hKP _ _ (fun _ => ?_)); clear hK hKP K KP)); repeat (first | refine Stp.s ?_ | refine inBlock_exit' (by decide) ?_ | ((first | refine vc_region fun K KP hK hKP => ?_ | refine Stg.s ?_ | refine guardD_ret0 ?_ | refine exV_intro _ rfl ?_); (try simp only [go_sem, loadL_a, bne_self_eq_false]); try ((first | refine hK _ _ ?_ | refine hKP _ _ _ ?_ | refine hKP _ _ (fun _ => ?_)); clear hK hKP K KP))))
    refine callV_ends en38 (pLeaving b σ9 1 _ hA (by decide) (setSt_srt (sA2_srt _)) x 2) ?_
    rw [leaving_busy hx (L := [2]) (by rw [st_at, vA2])]
    simp only
    have tA := Store.set_same σ9 b (.cells (peC 1 (setSt (sA2 (x - 1).toNat) (x - 1).toNat 3)))
    have tB := (Store.set_other σ9 (.cells (peC 1 (setSt (sA2 (x - 1).toNat) (x - 1).toNat 3))) hcb).trans hB
    have hle := Store.le_over (k := .cells (peC 1 (setSt (sA2 (x - 1).toNat) (x - 1).toNat 3))) hb hle
    clear hA hB
    generalize σ9.set b (.cells (peC 1 (setSt (sA2 (x - 1).toNat) (x - 1).toNat 3))) = σ10 at *
    have hA := tA
    have hB := tB
    clear tA tB
    ((try simp only [go_sem, loadL_a, bne_self_eq_false]); (try ((first | refine hK _ _ ?_ | refine hKP _ _ _ ?_ | refine hKP _ _ (fun _ => ?_)); clear hK hKP K KP)); repeat (first | refine Stp.s ?_ | refine inBlock_exit' (by decide) ?_ | ((first | refine vc_region fun K KP hK hKP => ?_ | refine Stg.s ?_ | refine guardD_ret0 ?_ | refine exV_intro _ rfl ?_); (try simp only [go_sem, loadL_a, bne_self_eq_false]); try ((first | refine hK _ _ ?_ | refine hKP _ _ _ ?_ | refine hKP _ _ (fun _ => ?_)); clear hK hKP K KP))))
    refine callV_ends en39 (pLeft b σ10 1 _ hA (by decide) x 2 false) ?_
    rw [left_no hx (by rw [st_at, vA2])]
    simp only
    have tA := Store.set_same σ10 b (.cells (peC 1 (setSt (setSt (sA2 (x - 1).toNat) (x - 1).toNat 3) (x - 1).toNat 2)))
    have tB := (Store.set_other σ10 (.cells (peC 1 (setSt (setSt (sA2 (x - 1).toNat) (x - 1).toNat 3) (x - 1).toNat 2))) hcb).trans hB
    have hle := Store.le_over (k := .cells (peC 1 (setSt (setSt (sA2 (x - 1).toNat) (x - 1).toNat 3) (x - 1).toNat 2))) hb hle
    clear hA hB
    generalize σ10.set b (.cells (peC 1 (setSt (setSt (sA2 (x - 1).toNat) (x - 1).toNat 3) (x - 1).toNat 2))) = σ11 at *
    have hA := tA
    have hB := tB
    clear tA tB
    ((try simp only [go_sem, loadL_a, bne_self_eq_false]); (try ((first | refine hK _ _ ?_ | refine hKP _ _ _ ?_ | refine hKP _ _ (fun _ => ?_)); clear hK hKP K KP)); repeat (first | refine Stp.s ?_ | refine inBlock_exit' (by decide) ?_ | ((first | refine vc_region fun K KP hK hKP => ?_ | refine Stg.s ?_ | refine guardD_ret0 ?_ | refine exV_intro _ rfl ?_); (try simp only [go_sem, loadL_a, bne_self_eq_false]); try ((first | refine hK _ _ ?_ | refine hKP _ _ _ ?_ | refine hKP _ _ (fun _ => ?_)); clear hK hKP K KP))))
    refine callV_ends en39 (pLeft c σ11 2 _ hB (by decide) x 1 false) ?_
    rw [left_no hx (by rw [st_at, vB2])]
    simp only
    have tB := Store.set_same σ11 c (.cells (peC 2 (setSt (setSt (sB2 (x - 1).toNat) (x - 1).toNat 3) (x - 1).toNat 2)))
    have tA := (Store.set_other σ11 (.cells (peC 2 (setSt (setSt (sB2 (x - 1).toNat) (x - 1).toNat 3) (x - 1).toNat 2))) (Ne.symm hcb)).trans hA
    have hle := Store.le_over (k := .cells (peC 2 (setSt (setSt (sB2 (x - 1).toNat) (x - 1).toNat 3) (x - 1).toNat 2))) hcσ hle
    clear hA hB
    generalize σ11.set c (.cells (peC 2 (setSt (setSt (sB2 (x - 1).toNat) (x - 1).toNat 3) (x - 1).toNat 2))) = σ12 at *
    have hA := tA
    have hB := tB
    clear tA tB
    ((try simp only [go_sem, loadL_a, bne_self_eq_false]); (try ((first | refine hK _ _ ?_ | refine hKP _ _ _ ?_ | refine hKP _ _ (fun _ => ?_)); clear hK hKP K KP)); repeat (first | refine Stp.s ?_ | refine inBlock_exit' (by decide) ?_ | ((first | refine vc_region fun K KP hK hKP => ?_ | refine Stg.s ?_ | refine guardD_ret0 ?_ | refine exV_intro _ rfl ?_); (try simp only [go_sem, loadL_a, bne_self_eq_false]); try ((first | refine hK _ _ ?_ | refine hKP _ _ _ ?_ | refine hKP _ _ (fun _ => ?_)); clear hK hKP K KP))))
    refine vc_cond rfl (fun hq => by cases hq) (fun _ => ?_)
    (repeat (first | refine Stp.s ?_ | refine inBlock_exit' (by decide) ?_ | ((first | refine vc_region fun K KP hK hKP => ?_ | refine Stg.s ?_ | refine guardD_ret0 ?_ | refine exV_intro _ rfl ?_); (try simp only [go_sem, loadL_a, bne_self_eq_false]); try ((first | refine hK _ _ ?_ | refine hKP _ _ _ ?_ | refine hKP _ _ (fun _ => ?_)); clear hK hKP K KP))))
    ((try simp only [go_sem, loadL_a]); refine callV_quiet en31 (pState b σ12 1 _ hA (by decide) x) ?_)
    rw [stOf_at hx, show ((setSt (setSt (sA2 (x - 1).toNat) (x - 1).toNat 3) (x - 1).toNat 2) (x - 1).toNat).1 = 2 from by simp [st_at, su_at, pe_at, vA2]]
    ((try simp only [go_sem, loadL_a, bne_self_eq_false]); (try ((first | refine hK _ _ ?_ | refine hKP _ _ _ ?_ | refine hKP _ _ (fun _ => ?_)); clear hK hKP K KP)); repeat (first | refine Stp.s ?_ | refine inBlock_exit' (by decide) ?_ | ((first | refine vc_region fun K KP hK hKP => ?_ | refine Stg.s ?_ | refine guardD_ret0 ?_ | refine exV_intro _ rfl ?_); (try simp only [go_sem, loadL_a, bne_self_eq_false]); try ((first | refine hK _ _ ?_ | refine hKP _ _ _ ?_ | refine hKP _ _ (fun _ => ?_)); clear hK hKP K KP))))
    ((try simp only [go_sem, loadL_a]); first | refine callV_pure (num_pure _) ?_ | refine guardC_q0 (fun _ => callV_pure (num_pure _) ⟨rfl, rfl⟩) ?_)
    ((try simp only [go_sem, loadL_a, bne_self_eq_false]); (try ((first | refine hK _ _ ?_ | refine hKP _ _ _ ?_ | refine hKP _ _ (fun _ => ?_)); clear hK hKP K KP)); repeat (first | refine Stp.s ?_ | refine inBlock_exit' (by decide) ?_ | ((first | refine vc_region fun K KP hK hKP => ?_ | refine Stg.s ?_ | refine guardD_ret0 ?_ | refine exV_intro _ rfl ?_); (try simp only [go_sem, loadL_a, bne_self_eq_false]); try ((first | refine hK _ _ ?_ | refine hKP _ _ _ ?_ | refine hKP _ _ (fun _ => ?_)); clear hK hKP K KP))))
    ((try simp only [go_sem, loadL_a]); refine callV_quiet en31 (pState c σ12 2 _ hB (by decide) x) ?_)
    rw [stOf_at hx, show ((setSt (setSt (sB2 (x - 1).toNat) (x - 1).toNat 3) (x - 1).toNat 2) (x - 1).toNat).1 = 2 from by simp [st_at, su_at, pe_at, vB2]]
    ((try simp only [go_sem, loadL_a, bne_self_eq_false]); (try ((first | refine hK _ _ ?_ | refine hKP _ _ _ ?_ | refine hKP _ _ (fun _ => ?_)); clear hK hKP K KP)); repeat (first | refine Stp.s ?_ | refine inBlock_exit' (by decide) ?_ | ((first | refine vc_region fun K KP hK hKP => ?_ | refine Stg.s ?_ | refine guardD_ret0 ?_ | refine exV_intro _ rfl ?_); (try simp only [go_sem, loadL_a, bne_self_eq_false]); try ((first | refine hK _ _ ?_ | refine hKP _ _ _ ?_ | refine hKP _ _ (fun _ => ?_)); clear hK hKP K KP))))
    ((try simp only [go_sem, loadL_a]); first | refine callV_pure (num_pure _) ?_ | refine guardC_q0 (fun _ => callV_pure (num_pure _) ⟨rfl, rfl⟩) ?_)
    ((try simp only [go_sem, loadL_a, bne_self_eq_false]); (try ((first | refine hK _ _ ?_ | refine hKP _ _ _ ?_ | refine hKP _ _ (fun _ => ?_)); clear hK hKP K KP)); repeat (first | refine Stp.s ?_ | refine inBlock_exit' (by decide) ?_ | ((first | refine vc_region fun K KP hK hKP => ?_ | refine Stg.s ?_ | refine guardD_ret0 ?_ | refine exV_intro _ rfl ?_); (try simp only [go_sem, loadL_a, bne_self_eq_false]); try ((first | refine hK _ _ ?_ | refine hKP _ _ _ ?_ | refine hKP _ _ (fun _ => ?_)); clear hK hKP K KP))))
    ((try simp only [go_sem, loadL_a]); first | refine callV_pure (alive21) ?_ | refine guardC_q0 (fun _ => callV_pure (alive21) ⟨rfl, rfl⟩) ?_)
    ((try simp only [go_sem, loadL_a, bne_self_eq_false]); (try ((first | refine hK _ _ ?_ | refine hKP _ _ _ ?_ | refine hKP _ _ (fun _ => ?_)); clear hK hKP K KP)); repeat (first | refine Stp.s ?_ | refine inBlock_exit' (by decide) ?_ | ((first | refine vc_region fun K KP hK hKP => ?_ | refine Stg.s ?_ | refine guardD_ret0 ?_ | refine exV_intro _ rfl ?_); (try simp only [go_sem, loadL_a, bne_self_eq_false]); try ((first | refine hK _ _ ?_ | refine hKP _ _ _ ?_ | refine hKP _ _ (fun _ => ?_)); clear hK hKP K KP))))
    (simp only [postV, resV, oneOf, List.getD_cons_succ, List.getD_cons_zero, and_true, true_and])
    exact Ends.le rfl hle
theorem peersstay_lifted (os : Os) (started : os.Started) (H : Type) (enc : TypeId × Value → H) :
    ReturnsInHanded {} Try.checked os 6 .any (Rows.peersStaySpec.pre6 enc Try.prog Try.f6 Rows.peersStayRow.domain false) (Rows.peersStaySpec.post enc Try.prog Try.f6 false true false false) := by
  refine law_lift (C := Try.checked) (tb := 4) own_knob started (by kernel_rfl) Try.func6 laid_out
    (ChangeSpec.witness6 (enc := enc) (C := Try.checked) false ⟨#[], #[.bool false, .bool false, .int .i64 0], []⟩ 8 (by kernel_rfl) (by kernel_rfl) (by kernel_rfl) (by kernel_rfl))
    rfl rfl Try.underlying4 (by kernel_rfl) (fun ds hd => ?_) ?_
  · rcases ds with _ | ⟨a0, ds⟩
    · cases hd
    rcases ds with _ | ⟨a1, ds⟩
    · cases hd
    rcases ds with _ | ⟨a2, ds⟩
    · cases hd
    rcases ds with _ | ⟨b, ds⟩
    · rfl
    · cases hd
  · intro W base args ds ps hval0 hA0
    have hval : ∀ (j : Nat) t v, Try.f6.params[j]? = some t → args[j]? = some v → Value.okWide Try.prog W .any base t v := hval0
    have hA : DataW.TrodAll enc Try.prog W 0 (fun _ => true) true Try.f6.params.toList args.toList ds ps := hA0
    rw [Try.params6] at hA hval
    obtain ⟨v0, v1, v2, d0, d1, d2, p0, p1, p2, rfl, rfl, rfl, h0, h1, h2⟩ := trodAll_three hA
    obtain ⟨p, rfl⟩ := arg_bool Try.underlying4 (hval 0 4 v0 rfl rfl) h0
    obtain ⟨q, rfl⟩ := arg_bool Try.underlying4 (hval 1 4 v1 rfl rfl) h1
    obtain ⟨x, rfl, hx⟩ := arg_int Try.underlying3 (hval 2 3 v2 rfl rfl) h2
    refine ⟨[BV p, BV q, I64 x], LR.cons (.val _) (LR.cons (.val _) (LR.cons (.val _) (LR.nil _))), ?_⟩
    exact ((peersstay_pure p q x).2 _).mono fun r σ' q => q.1
theorem peersstay_holds : Rows.PeersStaySaid :=
  OpenClaim.holds_of_wide 6 Try.f6 rfl rfl rfl rfl rfl rfl rfl ⟨rfl, rfl, rfl, rfl, rfl⟩ rfl rfl rfl rfl rfl (by kernel_rfl) Try.func6 (by kernel_rfl)
    (of_decide_eq_true (by kernel_rfl)) (by unfold Func.isWrapper; first | (rw [if_pos (by decide +kernel)]; kernel_rfl) | (rw [if_neg (by decide +kernel)]; exact ⟨rfl, rfl⟩))
    (fun os started H enc _ => peersstay_lifted os started H enc)
#print axioms peersstay_holds

end Go.Proofs.Ytbgagffpmdlilaa
