/- The document's trees: nodes of a kind. -/
import Derived.Test.YtbgagffpmdlilaaR3
namespace Go.Proofs.Ytbgagffpmdlilaa
set_option linter.unusedSimpArgs false
set_option linter.unusedVariables false
open Go.Proofs
attribute [local irreducible] vc vcOps vcDraw vcK vcKP vcDK vcDB HWp HCalls postV Ex.then Ex.inBlock stepD callV appendV guardC guardD exV effV opV loadV storeV indexAddrV indexV sliceV
set_option maxRecDepth 10000
set_option maxHeartbeats 4000000

theorem rnodes_pure (t : Tr) (ht : t.Ok) (k : Int) : HPure Try.prog 80 [t.v, I64 k] (ints (t.nodes k)) := by
  (refine HPure.of en80 fun σ => ?_); (refine HCalls.of_vc Try.func80 rfl ?_; rw [Try.ntmps80, Try.results80]; simp only [List.length_cons, List.length_nil, Nat.reduceAdd, Nat.reduceSub, List.replicate, List.cons_append, List.nil_append])
  (repeat (first | refine Stp.s ?_ | refine inBlock_exit' (by decide) ?_ | ((first | refine vc_region fun K KP hK hKP => ?_ | refine Stg.s ?_ | refine guardD_ret0 ?_ | refine exV_intro _ rfl ?_); (try simp only [go_sem, loadL_a]); try ((first | refine hK _ _ ?_ | refine hKP _ _ _ ?_ | refine hKP _ _ (fun _ => ?_)); clear hK hKP K KP))))
  intro b2 hb2
  have hbase : σ.le (σ.set b2 (.cells (t.kinds.map I64 ++ [t.es]))) := Store.le_set hb2 (Store.le_refl _)
  have h2 : (σ.set b2 (.cells (t.kinds.map I64 ++ [t.es]))) b2 = some (.cells (t.kinds.map I64 ++ [t.es])) := Store.set_same _ _ _
  generalize σ.set b2 _ = σ1 at *
  clear hb2
  have hkd : (decide ((0 : Int) < k) && decide (k < 4)) = isKd k := by unfold isKd; rw [Bool.eq_iff_iff]; simp; omega
  ((try simp only [go_sem, rtreeLoad t ht]); refine hK _ _ ?_; clear hK hKP K KP; repeat (first | refine Stp.s ?_ | refine inBlock_exit' (by decide) ?_ | ((first | refine vc_region fun K KP hK hKP => ?_ | refine Stg.s ?_ | refine guardD_ret0 ?_ | refine exV_intro _ rfl ?_); (try simp only [go_sem, rtreeLoad t ht]); try ((first | refine hK _ _ ?_ | refine hKP _ _ _ ?_ | refine hKP _ _ (fun _ => ?_)); clear hK hKP K KP))))
  refine vc_loop (loopV (fun (a : Nat × V) => [t.v, I64 k, .ptr b2 0, .top, nilS, a.2, I64 ((a.1 : Int) + 1), .top, .top, .top, .top, .top, .top, .top, .top, .top, .top, .top, .top, .top, .top, .top, .top, .top, .top, .top, .top, .top, .top]) (fun a τ => a.1 ≤ 12 ∧ Bld 1 σ1 τ a.2 (((nums.take a.1).filter fun n => isKd k && (t.kind n == k)).map I64) ((nums.take a.1).filter fun n => isKd k && (t.kind n == k)).length) (fun a _ => 12 - a.1) (0, nilS) (by repeat (first | exact LeEnv.nil | refine LeEnv.same ?_ | refine LeEnv.top ?_)) ⟨by omega, Bld.nil 1 σ1⟩ ?_)
  rintro ⟨i, x⟩ τ ⟨hi, hB⟩
  have hle := hB.base
  (repeat (first | refine Stp.s ?_ | refine inBlock_exit' (by decide) ?_ | ((first | refine vc_region fun K KP hK hKP => ?_ | refine Stg.s ?_ | refine guardD_ret0 ?_ | refine exV_intro _ rfl ?_); (try simp only [go_sem, loadL_a]); try ((first | refine hK _ _ ?_ | refine hKP _ _ _ ?_ | refine hKP _ _ (fun _ => ?_)); clear hK hKP K KP))))
  refine vc_cond rfl (fun hc => ?_) (fun hc => ?_)
  · have hlt : i < 12 := by simp at hc; omega
    have hw : IntKind.i64.wrap ((i : Int) + 1 + 1) = ((i + 1 : Nat) : Int) + 1 := by rw [i64_in (by omega) (by omega)]; omega
    (repeat (first | refine Stp.s ?_ | refine inBlock_exit' (by decide) ?_ | ((first | refine vc_region fun K KP hK hKP => ?_ | refine Stg.s ?_ | refine guardD_ret0 ?_ | refine exV_intro _ rfl ?_); (try simp only [go_sem, rtreeLoad t ht, hle _ _ h2]); try ((first | refine hK _ _ ?_ | refine hKP _ _ _ ?_ | refine hKP _ _ (fun _ => ?_)); clear hK hKP K KP))))
    ((try simp only [go_sem, loadL_a]); first | refine guardC_q0 (fun _ => callV_pure (rkind_pure t ht _) ⟨rfl, rfl⟩) ?_ | refine callV_pure (rkind_pure t ht _) ?_)
    ((try simp only [go_sem, rtreeLoad t ht, hle _ _ h2, hkd]); (try ((first | refine hK _ _ ?_ | refine hKP _ _ _ ?_ | refine hKP _ _ (fun _ => ?_)); clear hK hKP K KP)); repeat (first | refine Stp.s ?_ | refine inBlock_exit' (by decide) ?_ | ((first | refine vc_region fun K KP hK hKP => ?_ | refine Stg.s ?_ | refine guardD_ret0 ?_ | refine exV_intro _ rfl ?_); (try simp only [go_sem, rtreeLoad t ht, hle _ _ h2, hkd]); try ((first | refine hK _ _ ?_ | refine hKP _ _ _ ?_ | refine hKP _ _ (fun _ => ?_)); clear hK hKP K KP))))
    refine vc_cond rfl (fun hadj => ?_) (fun hadj => ?_)
    · (repeat (first | refine Stp.s ?_ | refine inBlock_exit' (by decide) ?_ | ((first | refine vc_region fun K KP hK hKP => ?_ | refine Stg.s ?_ | refine guardD_ret0 ?_ | refine exV_intro _ rfl ?_); (try simp only [go_sem, loadL_a]); try ((first | refine hK _ _ ?_ | refine hKP _ _ _ ?_ | refine hKP _ _ (fun _ => ?_)); clear hK hKP K KP))))
      intro b8 hb8
      refine append_int hB (Store.le_set hb8 (Store.le_refl _)) (row_lit (Store.set_same _ _ _) rfl rfl) (m := 1) rfl (by simp [V.one]) ?_ ?_
      · have := nums_fl (fun n => isKd k && (t.kind n == k)) i; show (List.filter _ (nums.take i)).length + 1 ≤ _; omega
      · intro x' τ' σ' hB' hle' _
        ((try simp only [go_sem, loadL_a, hw]); refine hK _ _ ?_; clear hK hKP K KP; repeat (first | refine Stp.s ?_ | refine inBlock_exit' (by decide) ?_ | ((first | refine vc_region fun K KP hK hKP => ?_ | refine Stg.s ?_ | refine guardD_ret0 ?_ | refine exV_intro _ rfl ?_); (try simp only [go_sem, loadL_a, hw]); try ((first | refine hK _ _ ?_ | refine hKP _ _ _ ?_ | refine hKP _ _ (fun _ => ?_)); clear hK hKP K KP))))
        refine ⟨(i + 1, x'), τ', (by repeat (first | exact LeEnv.nil | refine LeEnv.same ?_ | refine LeEnv.top ?_)), hle', ⟨by simp; omega, ?_⟩, by simp; omega⟩
        show Bld 1 σ1 τ' x' _ _
        rw [nums_take i hlt, List.filter_append, List.filter_cons, hadj]
        simpa using hB'
    · (repeat (first | refine Stp.s ?_ | refine inBlock_exit' (by decide) ?_ | ((first | refine vc_region fun K KP hK hKP => ?_ | refine Stg.s ?_ | refine guardD_ret0 ?_ | refine exV_intro _ rfl ?_); (try simp only [go_sem, loadL_a, hw]); try ((first | refine hK _ _ ?_ | refine hKP _ _ _ ?_ | refine hKP _ _ (fun _ => ?_)); clear hK hKP K KP))))
      refine ⟨(i + 1, x), τ, (by repeat (first | exact LeEnv.nil | refine LeEnv.same ?_ | refine LeEnv.top ?_)), Store.le_refl _, ⟨by simp; omega, ?_⟩, by simp; omega⟩
      show Bld 1 σ1 τ x _ _
      rw [nums_take i hlt, List.filter_append, List.filter_cons, hadj]
      simpa using hB
  · (repeat (first | refine Stp.s ?_ | refine inBlock_exit' (by decide) ?_ | ((first | refine vc_region fun K KP hK hKP => ?_ | refine Stg.s ?_ | refine guardD_ret0 ?_ | refine exV_intro _ rfl ?_); (try simp only [go_sem, loadL_a]); try ((first | refine hK _ _ ?_ | refine hKP _ _ _ ?_ | refine hKP _ _ (fun _ => ?_)); clear hK hKP K KP))))
    (simp only [postV, resV, oneOf, List.getD_cons_succ, List.getD_cons_zero, and_true, true_and])
    have hi12 : i = 12 := by simp at hc hi; omega
    subst hi12
    exact Ends.mk (Weakens.trans (Bld.ints hB) (Weakens.le hbase))
end Go.Proofs.Ytbgagffpmdlilaa
