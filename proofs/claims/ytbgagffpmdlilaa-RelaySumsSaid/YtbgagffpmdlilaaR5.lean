/- The document's trees: leaves. -/
import Derived.Test.YtbgagffpmdlilaaR4
namespace Go.Proofs.Ytbgagffpmdlilaa
set_option linter.unusedSimpArgs false
set_option linter.unusedVariables false
open Go.Proofs
attribute [local irreducible] vc vcOps vcDraw vcK vcKP vcDK vcDB HWp HCalls postV Ex.then Ex.inBlock stepD callV appendV guardC guardD exV effV opV loadV storeV indexAddrV indexV sliceV
set_option maxRecDepth 10000
set_option maxHeartbeats 4000000

def Tr.fit (t : Tr) (n : Int) : Bool := decide (0 ≤ t.kind n) && decide (t.kind n ≤ 3) && t.hung n
def Tr.lvs (t : Tr) : V := if nums.all t.fit = true then .tup [I64 t.all, BV true] else .tup [I64 0, BV false]
theorem leaf_eq (t : Tr) (y : Int) : ((((t.next y).map I64).length : Int) != 1 || t.kind ((t.next y).getD 0 0) != 3) = !t.leaf y := by
  unfold Tr.leaf
  split
  · rename_i x hx; rw [hx]; simp; cases h : t.kind x == 3 <;> simp_all
  · rename_i h
    cases hl : t.next y with
    | nil => rfl
    | cons a l => cases l with
      | nil => exact absurd hl (h a)
      | cons b l => simp; left; omega
theorem hung_eq (t : Tr) (y : Int) : ((t.kind y == 1 || t.kind y == 2) && ((((t.next y).map I64).length : Int) != 1 || t.kind ((t.next y).getD 0 0) != 3)) = !t.hung y := by
  rw [leaf_eq]; unfold Tr.hung; rw [Bool.not_not]
theorem one_of {t : Tr} {y : Int} {z : Bool} (h : (z && !((((t.next y).map I64).length : Int) != 1)) = true) : ∃ x, t.next y = [x] := by
  simp only [Bool.and_eq_true, Bool.not_eq_true', bne_eq_false_iff_eq] at h
  have h1 : (t.next y).length = 1 := by have := h.2; simp at this; omega
  exact List.length_eq_one_iff.1 h1
theorem rleaves_pure (t : Tr) (ht : t.Ok) : HPure Try.prog 76 [t.v] t.lvs := by
  (refine HPure.of en76 fun σ => ?_); (refine HCalls.of_vc Try.func76 rfl ?_; rw [Try.ntmps76, Try.results76]; simp only [List.length_cons, List.length_nil, Nat.reduceAdd, Nat.reduceSub, List.replicate, List.cons_append, List.nil_append])
  (repeat (first | refine Stp.s ?_ | refine inBlock_exit' (by decide) ?_ | ((first | refine vc_region fun K KP hK hKP => ?_ | refine Stg.s ?_ | refine guardD_ret0 ?_ | refine exV_intro _ rfl ?_); (try simp only [go_sem, loadL_a]); try ((first | refine hK _ _ ?_ | refine hKP _ _ _ ?_ | refine hKP _ _ (fun _ => ?_)); clear hK hKP K KP))))
  intro b2 hb2
  have hbase : σ.le (σ.set b2 (.cells (t.kinds.map I64 ++ [t.es]))) := Store.le_set hb2 (Store.le_refl _)
  have h2 : (σ.set b2 (.cells (t.kinds.map I64 ++ [t.es]))) b2 = some (.cells (t.kinds.map I64 ++ [t.es])) := Store.set_same _ _ _
  generalize σ.set b2 _ = σ1 at *
  clear hb2
  ((try simp only [go_sem, rtreeLoad t ht]); refine hK _ _ ?_; clear hK hKP K KP; repeat (first | refine Stp.s ?_ | refine inBlock_exit' (by decide) ?_ | ((first | refine vc_region fun K KP hK hKP => ?_ | refine Stg.s ?_ | refine guardD_ret0 ?_ | refine exV_intro _ rfl ?_); (try simp only [go_sem, rtreeLoad t ht]); try ((first | refine hK _ _ ?_ | refine hKP _ _ _ ?_ | refine hKP _ _ (fun _ => ?_)); clear hK hKP K KP))))
  refine vc_loop (loopV (fun (i : Nat) => [t.v, .ptr b2 0, .top, .top, I64 ((nums.take i).filter t.there).length, I64 ((i : Int) + 1), .top, .top, .top, .top, .top, .top, .top, .top, .top, .top, .top, .top, .top, .top, .top, .top, .top, .top, .top, .top, .top, .top, .top, .top, .top, .top, .top, .top, .top, .top, .top, .top, .top, .top, .top, .top, .top, .top, .top, .top, .top, .top]) (fun i τ => i ≤ 12 ∧ τ = σ1 ∧ (nums.take i).all t.fit = true) (fun i _ => 12 - i) 0 (by repeat (first | exact LeEnv.nil | refine LeEnv.same ?_ | refine LeEnv.top ?_)) ⟨by omega, rfl, rfl⟩ ?_)
  rintro i τ ⟨hi, rfl, hall⟩
  (repeat (first | refine Stp.s ?_ | refine inBlock_exit' (by decide) ?_ | ((first | refine vc_region fun K KP hK hKP => ?_ | refine Stg.s ?_ | refine guardD_ret0 ?_ | refine exV_intro _ rfl ?_); (try simp only [go_sem, loadL_a]); try ((first | refine hK _ _ ?_ | refine hKP _ _ _ ?_ | refine hKP _ _ (fun _ => ?_)); clear hK hKP K KP))))
  refine vc_cond rfl (fun hc => ?_) (fun hc => ?_)
  · have hlt : i < 12 := by simp at hc; omega
    have hw : IntKind.i64.wrap ((i : Int) + 1 + 1) = ((i + 1 : Nat) : Int) + 1 := by rw [i64_in (by omega) (by omega)]; omega
    have htk := nums_take i hlt
    (repeat (first | refine Stp.s ?_ | refine inBlock_exit' (by decide) ?_ | ((first | refine vc_region fun K KP hK hKP => ?_ | refine Stg.s ?_ | refine guardD_ret0 ?_ | refine exV_intro _ rfl ?_); (try simp only [go_sem, rtreeLoad t ht, h2]); try ((first | refine hK _ _ ?_ | refine hKP _ _ _ ?_ | refine hKP _ _ (fun _ => ?_)); clear hK hKP K KP))))
    ((try simp only [go_sem, loadL_a]); first | refine callV_pure (rkind_pure t ht _) ?_ | refine guardC_q0 (fun _ => callV_pure (rkind_pure t ht _) ⟨rfl, rfl⟩) ?_)
    ((try simp only [go_sem, rtreeLoad t ht, h2]); (try ((first | refine hK _ _ ?_ | refine hKP _ _ _ ?_ | refine hKP _ _ (fun _ => ?_)); clear hK hKP K KP)); repeat (first | refine Stp.s ?_ | refine inBlock_exit' (by decide) ?_ | ((first | refine vc_region fun K KP hK hKP => ?_ | refine Stg.s ?_ | refine guardD_ret0 ?_ | refine exV_intro _ rfl ?_); (try simp only [go_sem, rtreeLoad t ht, h2]); try ((first | refine hK _ _ ?_ | refine hKP _ _ _ ?_ | refine hKP _ _ (fun _ => ?_)); clear hK hKP K KP))))
    refine vc_cond rfl (fun hk => ?_) (fun hk => ?_)
    · have hf : nums.all t.fit = false := by
        cases e : nums.all t.fit with
        | false => rfl
        | true =>
          rw [List.all_eq_true] at e
          have := e ((i : Int) + 1) (mem_nums.2 (by omega))
          unfold Tr.fit at this
          simp at hk this
          omega
      (repeat (first | refine Stp.s ?_ | refine inBlock_exit' (by decide) ?_ | ((first | refine vc_region fun K KP hK hKP => ?_ | refine Stg.s ?_ | refine guardD_ret0 ?_ | refine exV_intro _ rfl ?_); (try simp only [go_sem, loadL_a]); try ((first | refine hK _ _ ?_ | refine hKP _ _ _ ?_ | refine hKP _ _ (fun _ => ?_)); clear hK hKP K KP))))
      (simp only [postV, resV, oneOf, List.getD_cons_succ, List.getD_cons_zero, and_true, true_and])
      unfold Tr.lvs
      rw [if_neg (by rw [hf]; decide)]
      exact Ends.le rfl hbase
    · have hk03 : 0 ≤ t.kind ((i : Int) + 1) ∧ t.kind ((i : Int) + 1) ≤ 3 := by simp at hk; omega
      have hth : decide (0 < t.kind ((i : Int) + 1)) = t.there ((i : Int) + 1) := by
        unfold Tr.there isKd
        rw [Bool.eq_iff_iff]; simp; omega
      have hcnt : ((nums.take (i + 1)).filter t.there).length = ((nums.take i).filter t.there).length + (if t.there ((i : Int) + 1) = true then 1 else 0) := by
        rw [htk, List.filter_append, List.length_append]
        by_cases e : t.there ((i : Int) + 1) = true
        · rw [if_pos e, List.filter_cons_of_pos e]; rfl
        · rw [if_neg e, List.filter_cons_of_neg e]; rfl
      have hfl := nums_fl t.there i
      have hwc := i64_nsucc (show ((nums.take i).filter t.there).length < 1000000 by omega)
      (repeat (first | refine Stp.s ?_ | refine inBlock_exit' (by decide) ?_ | ((first | refine vc_region fun K KP hK hKP => ?_ | refine Stg.s ?_ | refine guardD_ret0 ?_ | refine exV_intro _ rfl ?_); (try simp only [go_sem, loadL_a]); try ((first | refine hK _ _ ?_ | refine hKP _ _ _ ?_ | refine hKP _ _ (fun _ => ?_)); clear hK hKP K KP))))
      refine vc_cond rfl (fun hp => ?_) (fun hp => ?_)
      · rw [hth] at hp
        rw [if_pos hp] at hcnt
        have hwc2 : IntKind.i64.wrap ((((nums.take i).filter t.there).length : Int) + 1) = (((nums.take (i + 1)).filter t.there).length : Int) := by rw [hwc, hcnt]
        (repeat (first | refine Stp.s ?_ | refine inBlock_exit' (by decide) ?_ | ((first | refine vc_region fun K KP hK hKP => ?_ | refine Stg.s ?_ | refine guardD_ret0 ?_ | refine exV_intro _ rfl ?_); (try simp only [go_sem, hwc2, rtreeLoad t ht, h2]); try ((first | refine hK _ _ ?_ | refine hKP _ _ _ ?_ | refine hKP _ _ (fun _ => ?_)); clear hK hKP K KP))))
        ((try simp only [go_sem, loadL_a]); first | refine callV_pure (rnext_pure t ht _) ?_ | refine guardC_q0 (fun _ => callV_pure (rnext_pure t ht _) ⟨rfl, rfl⟩) ?_)
        ((try simp only [go_sem, rtreeLoad t ht, h2]); (try ((first | refine hK _ _ ?_ | refine hKP _ _ _ ?_ | refine hKP _ _ (fun _ => ?_)); clear hK hKP K KP)); repeat (first | refine Stp.s ?_ | refine inBlock_exit' (by decide) ?_ | ((first | refine vc_region fun K KP hK hKP => ?_ | refine Stg.s ?_ | refine guardD_ret0 ?_ | refine exV_intro _ rfl ?_); (try simp only [go_sem, rtreeLoad t ht, h2]); try ((first | refine hK _ _ ?_ | refine hKP _ _ _ ?_ | refine hKP _ _ (fun _ => ?_)); clear hK hKP K KP))))
        ((repeat first | refine Stp.s ?_ | refine inBlock_exit' (by decide) ?_); refine vc_draw mixed [] [0, 1, 2, 3, 4, 5, 6, 7, 8, 9, 10, 11, 12, 13, 14, 15, 16, 17, 18] [0, 1, 2, 3, 4, 5, 6, 7, 8, 9, 10, 11, 12, 13, 14, 15, 16, 17, 18] [] (fun _ => True) (by kernel_rfl) (by kernel_rfl) (by kernel_rfl) trivial fun K KP hK hKP => ?_; simp only [go_sem, rtreeLoad t ht, h2]; try (refine hK _ _ ?_; clear hK hKP K KP))
        ((try simp only [go_sem, rtreeLoad t ht, h2]); (try ((first | refine hK _ _ ?_ | refine hKP _ _ _ ?_ | refine hKP _ _ (fun _ => ?_)); clear hK hKP K KP)); repeat (first | refine Stp.s ?_ | refine inBlock_exit' (by decide) ?_ | ((first | refine vc_region fun K KP hK hKP => ?_ | refine Stg.s ?_ | refine guardD_ret0 ?_ | refine exV_intro _ rfl ?_); (try simp only [go_sem, rtreeLoad t ht, h2]); try ((first | refine hK _ _ ?_ | refine hKP _ _ _ ?_ | refine hKP _ _ (fun _ => ?_)); clear hK hKP K KP))))
        refine guardD_q0 (x := .ro [I64 ((t.next ((i : Int) + 1)).getD 0 0)]) (fun hr => by obtain ⟨x, hx⟩ := one_of hr; rw [hx]; exact ⟨Int.le_refl 0, by simp, rfl⟩) ?_
        ((try simp only [go_sem, rtreeLoad t ht, h2]); (try ((first | refine hK _ _ ?_ | refine hKP _ _ _ ?_ | refine hKP _ _ (fun _ => ?_)); clear hK hKP K KP)); repeat (first | refine Stp.s ?_ | refine inBlock_exit' (by decide) ?_ | ((first | refine vc_region fun K KP hK hKP => ?_ | refine Stg.s ?_ | refine guardD_ret0 ?_ | refine exV_intro _ rfl ?_); (try simp only [go_sem, rtreeLoad t ht, h2]); try ((first | refine hK _ _ ?_ | refine hKP _ _ _ ?_ | refine hKP _ _ (fun _ => ?_)); clear hK hKP K KP))))
        ((try simp only [go_sem, loadL_a]); first | refine guardD_q0 (fun _ => callV_pure (rkind_pure t ht ((t.next ((i : Int) + 1)).getD 0 0)) ⟨rfl, rfl⟩) ?_ | refine guardD_q0 (fun _ _ => callV_pure (rkind_pure t ht ((t.next ((i : Int) + 1)).getD 0 0)) ⟨rfl, rfl⟩) ?_)
        ((try simp only [go_sem, rtreeLoad t ht, h2]); (try ((first | refine hK _ _ ?_ | refine hKP _ _ _ ?_ | refine hKP _ _ (fun _ => ?_)); clear hK hKP K KP)); repeat (first | refine Stp.s ?_ | refine inBlock_exit' (by decide) ?_ | ((first | refine vc_region fun K KP hK hKP => ?_ | refine Stg.s ?_ | refine guardD_ret0 ?_ | refine exV_intro _ rfl ?_); (try simp only [go_sem, rtreeLoad t ht, h2]); try ((first | refine hK _ _ ?_ | refine hKP _ _ _ ?_ | refine hKP _ _ (fun _ => ?_)); clear hK hKP K KP))))
        refine guardD_q0 (x := BV ((((t.next ((i : Int) + 1)).map I64).length : Int) != 1 || t.kind ((t.next ((i : Int) + 1)).getD 0 0) != 3)) (fun hr => ⟨fun h => by rw [hr, h]; rfl, rfl⟩) ?_
        ((try simp only [go_sem, rtreeLoad t ht, h2, hung_eq]); (try ((first | refine hK _ _ ?_ | refine hKP _ _ _ ?_ | refine hKP _ _ (fun _ => ?_)); clear hK hKP K KP)); repeat (first | refine Stp.s ?_ | refine inBlock_exit' (by decide) ?_ | ((first | refine vc_region fun K KP hK hKP => ?_ | refine Stg.s ?_ | refine guardD_ret0 ?_ | refine exV_intro _ rfl ?_); (try simp only [go_sem, rtreeLoad t ht, h2, hung_eq]); try ((first | refine hK _ _ ?_ | refine hKP _ _ _ ?_ | refine hKP _ _ (fun _ => ?_)); clear hK hKP K KP))))
        refine vc_cond rfl (fun hu => ?_) (fun hu => ?_)
        · have hf : nums.all t.fit = false := by
            cases e : nums.all t.fit with
            | false => rfl
            | true =>
              rw [List.all_eq_true] at e
              have := e ((i : Int) + 1) (mem_nums.2 (by omega))
              unfold Tr.fit at this
              simp at hu this
              rw [hu] at this; simp at this
          (repeat (first | refine Stp.s ?_ | refine inBlock_exit' (by decide) ?_ | ((first | refine vc_region fun K KP hK hKP => ?_ | refine Stg.s ?_ | refine guardD_ret0 ?_ | refine exV_intro _ rfl ?_); (try simp only [go_sem, loadL_a]); try ((first | refine hK _ _ ?_ | refine hKP _ _ _ ?_ | refine hKP _ _ (fun _ => ?_)); clear hK hKP K KP))))
          (simp only [postV, resV, oneOf, List.getD_cons_succ, List.getD_cons_zero, and_true, true_and])
          unfold Tr.lvs
          rw [if_neg (by rw [hf]; decide)]
          exact Ends.le rfl hbase
        · (repeat (first | refine Stp.s ?_ | refine inBlock_exit' (by decide) ?_ | ((first | refine vc_region fun K KP hK hKP => ?_ | refine Stg.s ?_ | refine guardD_ret0 ?_ | refine exV_intro _ rfl ?_); (try simp only [go_sem, loadL_a, hw]); try ((first | refine hK _ _ ?_ | refine hKP _ _ _ ?_ | refine hKP _ _ (fun _ => ?_)); clear hK hKP K KP))))
          refine ⟨i + 1, _, ?_, Store.le_refl _, ⟨by omega, rfl, ?_⟩, by omega⟩
          · exact (by repeat (first | exact LeEnv.nil | refine LeEnv.same ?_ | refine LeEnv.top ?_))
          · rw [htk, List.all_append, hall]
            have hu2 : t.hung ((i : Int) + 1) = true := by simpa using hu
            simp [Tr.fit, hk03, hu2]
      · rw [hth] at hp
        rw [if_neg (by rw [hp]; decide), Nat.add_zero] at hcnt
        (repeat (first | refine Stp.s ?_ | refine inBlock_exit' (by decide) ?_ | ((first | refine vc_region fun K KP hK hKP => ?_ | refine Stg.s ?_ | refine guardD_ret0 ?_ | refine exV_intro _ rfl ?_); (try simp only [go_sem, rtreeLoad t ht, h2]); try ((first | refine hK _ _ ?_ | refine hKP _ _ _ ?_ | refine hKP _ _ (fun _ => ?_)); clear hK hKP K KP))))
        ((try simp only [go_sem, loadL_a]); first | refine callV_pure (rnext_pure t ht _) ?_ | refine guardC_q0 (fun _ => callV_pure (rnext_pure t ht _) ⟨rfl, rfl⟩) ?_)
        ((try simp only [go_sem, rtreeLoad t ht, h2]); (try ((first | refine hK _ _ ?_ | refine hKP _ _ _ ?_ | refine hKP _ _ (fun _ => ?_)); clear hK hKP K KP)); repeat (first | refine Stp.s ?_ | refine inBlock_exit' (by decide) ?_ | ((first | refine vc_region fun K KP hK hKP => ?_ | refine Stg.s ?_ | refine guardD_ret0 ?_ | refine exV_intro _ rfl ?_); (try simp only [go_sem, rtreeLoad t ht, h2]); try ((first | refine hK _ _ ?_ | refine hKP _ _ _ ?_ | refine hKP _ _ (fun _ => ?_)); clear hK hKP K KP))))
        ((repeat first | refine Stp.s ?_ | refine inBlock_exit' (by decide) ?_); refine vc_draw mixed [] [0, 1, 2, 3, 4, 5, 6, 7, 8, 9, 10, 11, 12, 13, 14, 15, 16, 17, 18] [0, 1, 2, 3, 4, 5, 6, 7, 8, 9, 10, 11, 12, 13, 14, 15, 16, 17, 18] [] (fun _ => True) (by kernel_rfl) (by kernel_rfl) (by kernel_rfl) trivial fun K KP hK hKP => ?_; simp only [go_sem, rtreeLoad t ht, h2]; try (refine hK _ _ ?_; clear hK hKP K KP))
        ((try simp only [go_sem, rtreeLoad t ht, h2]); (try ((first | refine hK _ _ ?_ | refine hKP _ _ _ ?_ | refine hKP _ _ (fun _ => ?_)); clear hK hKP K KP)); repeat (first | refine Stp.s ?_ | refine inBlock_exit' (by decide) ?_ | ((first | refine vc_region fun K KP hK hKP => ?_ | refine Stg.s ?_ | refine guardD_ret0 ?_ | refine exV_intro _ rfl ?_); (try simp only [go_sem, rtreeLoad t ht, h2]); try ((first | refine hK _ _ ?_ | refine hKP _ _ _ ?_ | refine hKP _ _ (fun _ => ?_)); clear hK hKP K KP))))
        refine guardD_q0 (x := .ro [I64 ((t.next ((i : Int) + 1)).getD 0 0)]) (fun hr => by obtain ⟨x, hx⟩ := one_of hr; rw [hx]; exact ⟨Int.le_refl 0, by simp, rfl⟩) ?_
        ((try simp only [go_sem, rtreeLoad t ht, h2]); (try ((first | refine hK _ _ ?_ | refine hKP _ _ _ ?_ | refine hKP _ _ (fun _ => ?_)); clear hK hKP K KP)); repeat (first | refine Stp.s ?_ | refine inBlock_exit' (by decide) ?_ | ((first | refine vc_region fun K KP hK hKP => ?_ | refine Stg.s ?_ | refine guardD_ret0 ?_ | refine exV_intro _ rfl ?_); (try simp only [go_sem, rtreeLoad t ht, h2]); try ((first | refine hK _ _ ?_ | refine hKP _ _ _ ?_ | refine hKP _ _ (fun _ => ?_)); clear hK hKP K KP))))
        ((try simp only [go_sem, loadL_a]); first | refine guardD_q0 (fun _ => callV_pure (rkind_pure t ht ((t.next ((i : Int) + 1)).getD 0 0)) ⟨rfl, rfl⟩) ?_ | refine guardD_q0 (fun _ _ => callV_pure (rkind_pure t ht ((t.next ((i : Int) + 1)).getD 0 0)) ⟨rfl, rfl⟩) ?_)
        ((try simp only [go_sem, rtreeLoad t ht, h2]); (try ((first | refine hK _ _ ?_ | refine hKP _ _ _ ?_ | refine hKP _ _ (fun _ => ?_)); clear hK hKP K KP)); repeat (first | refine Stp.s ?_ | refine inBlock_exit' (by decide) ?_ | ((first | refine vc_region fun K KP hK hKP => ?_ | refine Stg.s ?_ | refine guardD_ret0 ?_ | refine exV_intro _ rfl ?_); (try simp only [go_sem, rtreeLoad t ht, h2]); try ((first | refine hK _ _ ?_ | refine hKP _ _ _ ?_ | refine hKP _ _ (fun _ => ?_)); clear hK hKP K KP))))
        refine guardD_q0 (x := BV ((((t.next ((i : Int) + 1)).map I64).length : Int) != 1 || t.kind ((t.next ((i : Int) + 1)).getD 0 0) != 3)) (fun hr => ⟨fun h => by rw [hr, h]; rfl, rfl⟩) ?_
        ((try simp only [go_sem, rtreeLoad t ht, h2, hung_eq]); (try ((first | refine hK _ _ ?_ | refine hKP _ _ _ ?_ | refine hKP _ _ (fun _ => ?_)); clear hK hKP K KP)); repeat (first | refine Stp.s ?_ | refine inBlock_exit' (by decide) ?_ | ((first | refine vc_region fun K KP hK hKP => ?_ | refine Stg.s ?_ | refine guardD_ret0 ?_ | refine exV_intro _ rfl ?_); (try simp only [go_sem, rtreeLoad t ht, h2, hung_eq]); try ((first | refine hK _ _ ?_ | refine hKP _ _ _ ?_ | refine hKP _ _ (fun _ => ?_)); clear hK hKP K KP))))
        refine vc_cond rfl (fun hu => ?_) (fun hu => ?_)
        · have hf : nums.all t.fit = false := by
            cases e : nums.all t.fit with
            | false => rfl
            | true =>
              rw [List.all_eq_true] at e
              have := e ((i : Int) + 1) (mem_nums.2 (by omega))
              unfold Tr.fit at this
              simp at hu this
              rw [hu] at this; simp at this
          (repeat (first | refine Stp.s ?_ | refine inBlock_exit' (by decide) ?_ | ((first | refine vc_region fun K KP hK hKP => ?_ | refine Stg.s ?_ | refine guardD_ret0 ?_ | refine exV_intro _ rfl ?_); (try simp only [go_sem, loadL_a]); try ((first | refine hK _ _ ?_ | refine hKP _ _ _ ?_ | refine hKP _ _ (fun _ => ?_)); clear hK hKP K KP))))
          (simp only [postV, resV, oneOf, List.getD_cons_succ, List.getD_cons_zero, and_true, true_and])
          unfold Tr.lvs
          rw [if_neg (by rw [hf]; decide)]
          exact Ends.le rfl hbase
        · (repeat (first | refine Stp.s ?_ | refine inBlock_exit' (by decide) ?_ | ((first | refine vc_region fun K KP hK hKP => ?_ | refine Stg.s ?_ | refine guardD_ret0 ?_ | refine exV_intro _ rfl ?_); (try simp only [go_sem, loadL_a, hw]); try ((first | refine hK _ _ ?_ | refine hKP _ _ _ ?_ | refine hKP _ _ (fun _ => ?_)); clear hK hKP K KP))))
          refine ⟨i + 1, _, ?_, Store.le_refl _, ⟨by omega, rfl, ?_⟩, by omega⟩
          · rw [hcnt]
            exact (by repeat (first | exact LeEnv.nil | refine LeEnv.same ?_ | refine LeEnv.top ?_))
          · rw [htk, List.all_append, hall]
            have hu2 : t.hung ((i : Int) + 1) = true := by simpa using hu
            simp [Tr.fit, hk03, hu2]
  · (repeat (first | refine Stp.s ?_ | refine inBlock_exit' (by decide) ?_ | ((first | refine vc_region fun K KP hK hKP => ?_ | refine Stg.s ?_ | refine guardD_ret0 ?_ | refine exV_intro _ rfl ?_); (try simp only [go_sem, loadL_a]); try ((first | refine hK _ _ ?_ | refine hKP _ _ _ ?_ | refine hKP _ _ (fun _ => ?_)); clear hK hKP K KP))))
    (simp only [postV, resV, oneOf, List.getD_cons_succ, List.getD_cons_zero, and_true, true_and])
    have hi12 : i = 12 := by simp at hc hi; omega
    subst hi12
    have hall' : nums.all t.fit = true := hall
    unfold Tr.lvs
    rw [if_pos hall']
    exact Ends.le rfl hbase
end Go.Proofs.Ytbgagffpmdlilaa
