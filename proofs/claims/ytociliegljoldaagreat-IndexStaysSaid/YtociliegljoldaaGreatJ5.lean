/- The next dot. -/
import Derived.Test.YtociliegljoldaaGreatJ4
namespace Go.Proofs.YtociliegljoldaaGreat
set_option linter.unusedSimpArgs false
set_option linter.unusedVariables false
open Go.Proofs
attribute [local irreducible] vc vcOps vcDraw vcK vcKP vcDK vcDB HWp HCalls postV Ex.then Ex.inBlock stepD callV appendV guardC guardD exV effV opV loadV storeV indexAddrV indexV sliceV
set_option maxRecDepth 10000
set_option maxHeartbeats 4000000

/-- Next: the dot, the fault. -/
def nextN (v : List Nat) (node : Int) : (Int × Nat) × Int := if nodeB node = true then (if 1048576 ≤ getN v node then ((0, 0), 5) else ((node, getN v node + 1), 0)) else ((0, 0), 11)
theorem next_pure2 (v : List Nat) (hv : v.length = 12) (hb : ∀ x ∈ v, x < 4294967296) (node : Int) : HPure Tryz.prog 79 [vecV v, I64 node] (.tup [.agg [I64 (nextN v node).1.1, U32 (nextN v node).1.2], I64 (nextN v node).2]) := by
  (refine HPure.of en79 fun σ => ?_); (refine HCalls.of_vc Tryz.func79 rfl ?_; rw [Tryz.ntmps79, Tryz.results79]; simp only [List.length_cons, List.length_nil, Nat.reduceAdd, Nat.reduceSub, List.replicate, List.cons_append, List.nil_append])
  (repeat (first | refine Stp.s ?_ | refine inBlock_exit' (by decide) ?_ | ((first | refine vc_region fun K KP hK hKP => ?_ | refine Stg.s ?_ | refine guardD_ret0 ?_ | refine exV_intro _ rfl ?_); (try simp only [go_sem, loadL_a, vecV]); try ((first | refine hK _ _ ?_ | refine hKP _ _ _ ?_ | refine hKP _ _ (fun _ => ?_)); clear hK hKP K KP))))
  intro c2 hc2 c4 hc4
  have q2 := Store.keep hc4 (Store.set_same σ c2 (.cells (v.map U32))) (.cells [I64 0, U32 (0 : Nat)])
  have q4 := Store.set_same (σ.set c2 (.cells (v.map U32))) c4 (.cells [I64 0, U32 (0 : Nat)])
  have hle2 := Store.le_set hc2 (Store.le_refl σ) (k := .cells (v.map U32))
  have hle := Store.le_set hc4 hle2 (k := .cells [I64 0, U32 (0 : Nat)])
  have h40 : ∀ c l, σ c = some l → c ≠ c4 := fun c l h e => by rw [e] at h; rw [hle2 _ _ h] at hc4; cases hc4
  have vl := fun K => vecLoad v hv K
  have gp := cget_pure v hv node
  unfold vecV at gp
  have ld : ∀ (a b : Int) (K : V → Prop), loadL Tryz.prog 25 [I64 a, .val (.int .u32 b)] 0 K = K (.agg [I64 a, .val (.int .u32 b)]) := fun a b K => by rw [loadL_a kd25, ce25]; simp
  show K _ ((σ.set c2 (.cells (v.map U32))).set c4 (.cells [I64 0, U32 (0 : Nat)]))
  generalize (σ.set c2 _).set c4 _ = σ1 at *
  ((try simp only [go_sem, loadL_a]); (try ((first | refine hK _ _ ?_ | refine hKP _ _ _ ?_ | refine hKP _ _ (fun _ => ?_)); clear hK hKP K KP)); repeat (first | refine Stp.s ?_ | refine inBlock_exit' (by decide) ?_ | ((first | refine vc_region fun K KP hK hKP => ?_ | refine Stg.s ?_ | refine guardD_ret0 ?_ | refine exV_intro _ rfl ?_); (try simp only [go_sem, loadL_a]); try ((first | refine hK _ _ ?_ | refine hKP _ _ _ ?_ | refine hKP _ _ (fun _ => ?_)); clear hK hKP K KP))))
  ((try simp only [go_sem, loadL_a]); first | refine callV_pure (cnode_pure node) ?_ | refine guardC_q0 (fun _ => callV_pure (cnode_pure node) ⟨rfl, rfl⟩) ?_)
  ((try simp only [go_sem, loadL_a]); (try ((first | refine hK _ _ ?_ | refine hKP _ _ _ ?_ | refine hKP _ _ (fun _ => ?_)); clear hK hKP K KP)); repeat (first | refine Stp.s ?_ | refine inBlock_exit' (by decide) ?_ | ((first | refine vc_region fun K KP hK hKP => ?_ | refine Stg.s ?_ | refine guardD_ret0 ?_ | refine exV_intro _ rfl ?_); (try simp only [go_sem, loadL_a]); try ((first | refine hK _ _ ?_ | refine hKP _ _ _ ?_ | refine hKP _ _ (fun _ => ?_)); clear hK hKP K KP))))
  by_cases hn : nodeB node = true
  · rw [hn]
    (repeat (first | refine Stp.s ?_ | refine inBlock_exit' (by decide) ?_ | ((first | refine vc_region fun K KP hK hKP => ?_ | refine Stg.s ?_ | refine guardD_ret0 ?_ | refine exV_intro _ rfl ?_); (try simp only [go_sem, loadL_a]); try ((first | refine hK _ _ ?_ | refine hKP _ _ _ ?_ | refine hKP _ _ (fun _ => ?_)); clear hK hKP K KP))))
    refine vc_cond rfl (fun hc => absurd hc (by decide)) (fun _ => ?_)
    (repeat (first | refine Stp.s ?_ | refine inBlock_exit' (by decide) ?_ | ((first | refine vc_region fun K KP hK hKP => ?_ | refine Stg.s ?_ | refine guardD_ret0 ?_ | refine exV_intro _ rfl ?_); (try simp only [go_sem, q2, vl, vecV]); try ((first | refine hK _ _ ?_ | refine hKP _ _ _ ?_ | refine hKP _ _ (fun _ => ?_)); clear hK hKP K KP))))
    ((try simp only [go_sem, loadL_a]); first | refine callV_pure (gp) ?_ | refine guardC_q0 (fun _ => callV_pure (gp) ⟨rfl, rfl⟩) ?_)
    ((try simp only [go_sem, q2, vl, vecV]); (try ((first | refine hK _ _ ?_ | refine hKP _ _ _ ?_ | refine hKP _ _ (fun _ => ?_)); clear hK hKP K KP)); repeat (first | refine Stp.s ?_ | refine inBlock_exit' (by decide) ?_ | ((first | refine vc_region fun K KP hK hKP => ?_ | refine Stg.s ?_ | refine guardD_ret0 ?_ | refine exV_intro _ rfl ?_); (try simp only [go_sem, q2, vl, vecV]); try ((first | refine hK _ _ ?_ | refine hKP _ _ _ ?_ | refine hKP _ _ (fun _ => ?_)); clear hK hKP K KP))))
    have hgl : getN v node < 4294967296 := by
      have hgd : ∀ i, v.getD i 0 < 4294967296 := fun i => by
        rw [List.getD_eq_getElem?_getD]
        cases e : v[i]? with
        | none => show 0 < _; omega
        | some y => exact hb y (List.mem_of_getElem? e)
      unfold getN
      first
        | exact hgd _
        | (split <;> first | exact hgd _ | omega)
    by_cases hm : 1048576 ≤ getN v node
    · have hd : decide ((1048576 : Int) ≤ ((getN v node : Nat) : Int)) = true := decide_eq_true (by omega)
      refine vc_cond rfl (fun _ => ?_) (fun hc => by simp at hc; omega)
      (repeat (first | refine Stp.s ?_ | refine inBlock_exit' (by decide) ?_ | ((first | refine vc_region fun K KP hK hKP => ?_ | refine Stg.s ?_ | refine guardD_ret0 ?_ | refine exV_intro _ rfl ?_); (try simp only [go_sem, loadL_a, q4]); try ((first | refine hK _ _ ?_ | refine hKP _ _ _ ?_ | refine hKP _ _ (fun _ => ?_)); clear hK hKP K KP))))
      (simp only [postV, resV, oneOf, List.getD_cons_succ, List.getD_cons_zero, and_true, true_and])
      simp only [go_sem, Store.set_same, ld]
      have hN : nextN v node = ((0, 0), 5) := by unfold nextN; rw [if_pos hn, if_pos hm]
      rw [hN]
      refine Ends.le rfl fun c l hc => ?_
      rw [Store.set_other _ _ (h40 c l hc)]; exact hle _ _ hc
    · have hd : decide ((1048576 : Int) ≤ ((getN v node : Nat) : Int)) = false := decide_eq_false (by omega)
      refine vc_cond rfl (fun hc => by simp at hc; omega) (fun _ => ?_)
      have w1 : IntKind.u32.wrap (((getN v node : Nat) : Int) + 1) = ((getN v node + 1 : Nat) : Int) := by rw [u32_in (by omega) (by omega)]; omega
      (repeat (first | refine Stp.s ?_ | refine inBlock_exit' (by decide) ?_ | ((first | refine vc_region fun K KP hK hKP => ?_ | refine Stg.s ?_ | refine guardD_ret0 ?_ | refine exV_intro _ rfl ?_); (try simp only [go_sem, q2, q4, vl, vecV]); try ((first | refine hK _ _ ?_ | refine hKP _ _ _ ?_ | refine hKP _ _ (fun _ => ?_)); clear hK hKP K KP))))
      ((try simp only [go_sem, loadL_a]); first | refine callV_pure (gp) ?_ | refine guardC_q0 (fun _ => callV_pure (gp) ⟨rfl, rfl⟩) ?_)
      ((try simp only [go_sem, q2, q4, vl, vecV, w1]); (try ((first | refine hK _ _ ?_ | refine hKP _ _ _ ?_ | refine hKP _ _ (fun _ => ?_)); clear hK hKP K KP)); repeat (first | refine Stp.s ?_ | refine inBlock_exit' (by decide) ?_ | ((first | refine vc_region fun K KP hK hKP => ?_ | refine Stg.s ?_ | refine guardD_ret0 ?_ | refine exV_intro _ rfl ?_); (try simp only [go_sem, q2, q4, vl, vecV, w1]); try ((first | refine hK _ _ ?_ | refine hKP _ _ _ ?_ | refine hKP _ _ (fun _ => ?_)); clear hK hKP K KP))))
      (simp only [postV, resV, oneOf, List.getD_cons_succ, List.getD_cons_zero, and_true, true_and])
      simp only [go_sem, Store.set_same, ld]
      have hN : nextN v node = ((node, getN v node + 1), 0) := by unfold nextN; rw [if_pos hn, if_neg hm]
      rw [hN]
      refine Ends.le rfl fun c l hc => ?_
      rw [Store.set_other _ _ (h40 c l hc)]; exact hle _ _ hc
  · rw [Bool.eq_false_iff.2 hn]
    (repeat (first | refine Stp.s ?_ | refine inBlock_exit' (by decide) ?_ | ((first | refine vc_region fun K KP hK hKP => ?_ | refine Stg.s ?_ | refine guardD_ret0 ?_ | refine exV_intro _ rfl ?_); (try simp only [go_sem, loadL_a]); try ((first | refine hK _ _ ?_ | refine hKP _ _ _ ?_ | refine hKP _ _ (fun _ => ?_)); clear hK hKP K KP))))
    refine vc_cond rfl (fun _ => ?_) (fun hc => absurd hc (by decide))
    (repeat (first | refine Stp.s ?_ | refine inBlock_exit' (by decide) ?_ | ((first | refine vc_region fun K KP hK hKP => ?_ | refine Stg.s ?_ | refine guardD_ret0 ?_ | refine exV_intro _ rfl ?_); (try simp only [go_sem, loadL_a, q4]); try ((first | refine hK _ _ ?_ | refine hKP _ _ _ ?_ | refine hKP _ _ (fun _ => ?_)); clear hK hKP K KP))))
    (simp only [postV, resV, oneOf, List.getD_cons_succ, List.getD_cons_zero, and_true, true_and])
    simp only [go_sem, Store.set_same, ld]
    have hN : nextN v node = ((0, 0), 11) := by unfold nextN; rw [if_neg hn]
    rw [hN]
    refine Ends.le rfl fun c l hc => ?_
    rw [Store.set_other _ _ (h40 c l hc)]; exact hle _ _ hc
end Go.Proofs.YtociliegljoldaaGreat
