/- The document's trees: edges, neighbours, nodes. -/
import Derived.Test.YtbgagffpmdlilaaR1
namespace Go.Proofs.Ytbgagffpmdlilaa
set_option linter.unusedSimpArgs false
set_option linter.unusedVariables false
open Go.Proofs
attribute [local irreducible] vc vcOps vcDraw vcK vcKP vcDK vcDB HWp HCalls postV Ex.then Ex.inBlock stepD callV appendV guardC guardD exV effV opV loadV storeV indexAddrV indexV sliceV
set_option maxRecDepth 10000
set_option maxHeartbeats 4000000

theorem redgeLoad (e : Int × Int) (K : V → Prop) : loadL Try.prog 136 [I64 e.1, I64 e.2] 0 K = K (edgeV e) := by
  rw [loadL_a kd136, ce136]; simp
theorem redged_pure (t : Tr) (ht : t.Ok) (a b : Int) : HPure Try.prog 77 [t.v, I64 a, I64 b] (BV (t.adj a b)) := by
  (refine HPure.of en77 fun σ => ?_); (refine HCalls.of_vc Try.func77 rfl ?_; rw [Try.ntmps77, Try.results77]; simp only [List.length_cons, List.length_nil, Nat.reduceAdd, Nat.reduceSub, List.replicate, List.cons_append, List.nil_append])
  (repeat (first | refine Stp.s ?_ | refine inBlock_exit' (by decide) ?_ | ((first | refine vc_region fun K KP hK hKP => ?_ | refine Stg.s ?_ | refine guardD_ret0 ?_ | refine exV_intro _ rfl ?_); (try simp only [go_sem, loadL_a]); try ((first | refine hK _ _ ?_ | refine hKP _ _ _ ?_ | refine hKP _ _ (fun _ => ?_)); clear hK hKP K KP))))
  intro b3 hb3
  have hle3 : σ.le (σ.set b3 (.cells (t.kinds.map I64 ++ [t.es]))) := Store.le_set hb3 (Store.le_refl _)
  have h3 : (σ.set b3 (.cells (t.kinds.map I64 ++ [t.es]))) b3 = some (.cells (t.kinds.map I64 ++ [t.es])) := Store.set_same _ _ _
  generalize σ.set b3 _ = σ1 at *
  ((try simp only [go_sem, rtreeLoad t ht, h3]); refine hK _ _ ?_; clear hK hKP K KP; repeat (first | refine Stp.s ?_ | refine inBlock_exit' (by decide) ?_ | ((first | refine vc_region fun K KP hK hKP => ?_ | refine Stg.s ?_ | refine guardD_ret0 ?_ | refine exV_intro _ rfl ?_); (try simp only [go_sem, rtreeLoad t ht, h3]); try ((first | refine hK _ _ ?_ | refine hKP _ _ _ ?_ | refine hKP _ _ (fun _ => ?_)); clear hK hKP K KP))))
  ((try simp only [go_sem, loadL_a]); first | refine callV_pure (rthere_pure t ht a) ?_ | refine guardC_q0 (fun _ => callV_pure (rthere_pure t ht a) ⟨rfl, rfl⟩) ?_)
  ((try simp only [go_sem, rtreeLoad t ht, h3]); (try ((first | refine hK _ _ ?_ | refine hKP _ _ _ ?_ | refine hKP _ _ (fun _ => ?_)); clear hK hKP K KP)); repeat (first | refine Stp.s ?_ | refine inBlock_exit' (by decide) ?_ | ((first | refine vc_region fun K KP hK hKP => ?_ | refine Stg.s ?_ | refine guardD_ret0 ?_ | refine exV_intro _ rfl ?_); (try simp only [go_sem, rtreeLoad t ht, h3]); try ((first | refine hK _ _ ?_ | refine hKP _ _ _ ?_ | refine hKP _ _ (fun _ => ?_)); clear hK hKP K KP))))
  ((try simp only [go_sem, loadL_a]); first | refine guardC_q0 (fun _ => callV_pure (rthere_pure t ht b) ⟨rfl, rfl⟩) ?_ | refine callV_pure (rthere_pure t ht b) ?_)
  ((try simp only [go_sem, rtreeLoad t ht, h3]); (try ((first | refine hK _ _ ?_ | refine hKP _ _ _ ?_ | refine hKP _ _ (fun _ => ?_)); clear hK hKP K KP)); repeat (first | refine Stp.s ?_ | refine inBlock_exit' (by decide) ?_ | ((first | refine vc_region fun K KP hK hKP => ?_ | refine Stg.s ?_ | refine guardD_ret0 ?_ | refine exV_intro _ rfl ?_); (try simp only [go_sem, rtreeLoad t ht, h3]); try ((first | refine hK _ _ ?_ | refine hKP _ _ _ ?_ | refine hKP _ _ (fun _ => ?_)); clear hK hKP K KP))))
  refine vc_cond rfl (fun hc => ?_) (fun hc => ?_)
  · (repeat (first | refine Stp.s ?_ | refine inBlock_exit' (by decide) ?_ | ((first | refine vc_region fun K KP hK hKP => ?_ | refine Stg.s ?_ | refine guardD_ret0 ?_ | refine exV_intro _ rfl ?_); (try simp only [go_sem, loadL_a]); try ((first | refine hK _ _ ?_ | refine hKP _ _ _ ?_ | refine hKP _ _ (fun _ => ?_)); clear hK hKP K KP))))
    (simp only [postV, resV, oneOf, List.getD_cons_succ, List.getD_cons_zero, and_true, true_and])
    refine Ends.le (congrArg BV ?_) hle3
    unfold Tr.adj
    cases h1 : t.there a <;> cases h2 : t.there b <;> simp [h1, h2] at hc ⊢
    exact fun e => absurd hc.symm e
  · have hc' : t.there a = true ∧ t.there b = true ∧ a ≠ b := by
      cases h1 : t.there a <;> cases h2 : t.there b <;> simp [h1, h2] at hc ⊢
      exact hc
    obtain ⟨hta, htb, hab⟩ := hc'
    have hel := ht.e
    have hes : (t.kinds.map I64 ++ [t.es])[12]? = some (.lst 2 (t.edges.map edgeV)) := treeEs t ht
    (repeat (first | refine Stp.s ?_ | refine inBlock_exit' (by decide) ?_ | ((first | refine vc_region fun K KP hK hKP => ?_ | refine Stg.s ?_ | refine guardD_ret0 ?_ | refine exV_intro _ rfl ?_); (try simp only [go_sem, loadL_a]); try ((first | refine hK _ _ ?_ | refine hKP _ _ _ ?_ | refine hKP _ _ (fun _ => ?_)); clear hK hKP K KP))))
    refine vc_loop (loopV (fun (i : Nat) => [t.v, I64 a, I64 b, .ptr b3 0, .top, .top, BV false, I64 i, .top, .top, .top, .top, .top, .top, .top, .top, .top, .top, .top, .top, .top, .top, .top, .top, .top, .top, .top, .top, .top, .top, .top, .top, .top, .top, .top, .top, .top, .top, .top, .top, .top, .top, .top, .top, .top, .top, .top, .top, .top, .top, .top, .top, .top, .top, .top, .top, .top, .top]) (fun i τ => i ≤ t.edges.length ∧ σ1.le τ ∧ ((t.edges.take i).any fun e => (e == (a, b)) || (e == (b, a))) = false) (fun i _ => t.edges.length - i) 0 ?_ ⟨Nat.zero_le _, Store.le_refl _, rfl⟩ ?_)
    · exact (by repeat (first | exact LeEnv.nil | refine LeEnv.same ?_ | refine LeEnv.top ?_))
    rintro i τ ⟨hi, hle, hno⟩
    (repeat (first | refine Stp.s ?_ | refine inBlock_exit' (by decide) ?_ | ((first | refine vc_region fun K KP hK hKP => ?_ | refine Stg.s ?_ | refine guardD_ret0 ?_ | refine exV_intro _ rfl ?_); (try simp only [go_sem, loadL_a, hle _ _ h3, hes, List.length_map]); try ((first | refine hK _ _ ?_ | refine hKP _ _ _ ?_ | refine hKP _ _ (fun _ => ?_)); clear hK hKP K KP))))
    refine vc_cond rfl (fun hc => ?_) (fun hc => ?_)
    · have hlt : i < t.edges.length := by simpa using hc
      have g0 := le_eq (show (0 : Int) ≤ i by omega)
      have g1 := lt_eq (show (i : Int) < t.edges.length by omega)
      have hx : (t.edges.map edgeV).getD i .top = edgeV t.edges[i] := getD_map edgeV t.edges i hlt
      have htk := List.take_succ_eq_append_getElem hlt
      have hmem := List.getElem_mem hlt
      generalize t.edges[i] = e at *
      (repeat (first | refine Stp.s ?_ | refine inBlock_exit' (by decide) ?_ | ((first | refine vc_region fun K KP hK hKP => ?_ | refine Stg.s ?_ | refine guardD_ret0 ?_ | refine exV_intro _ rfl ?_); (try simp only [go_sem, hle _ _ h3, hes, g0, g1, hx, Int.toNat_natCast, List.length_map, redgeLoad]); try ((first | refine hK _ _ ?_ | refine hKP _ _ _ ?_ | refine hKP _ _ (fun _ => ?_)); clear hK hKP K KP))))
      intro b8 hb8
      have k8 := Store.set_same τ b8 (.cells [I64 e.1, I64 e.2])
      have hle8 : τ.le (τ.set b8 (.cells [I64 e.1, I64 e.2])) := Store.le_set hb8 (Store.le_refl _)
      have hab2 : ((e == (a, b)) || (e == (b, a))) = ((e.1 == a && e.2 == b) || (e.1 == b && e.2 == a)) := by
        obtain ⟨x, y⟩ := e; rfl
      ((try simp only [go_sem, loadL_a, k8]); refine hK _ _ ?_; clear hK hKP K KP; repeat (first | refine Stp.s ?_ | refine inBlock_exit' (by decide) ?_ | ((first | refine vc_region fun K KP hK hKP => ?_ | refine Stg.s ?_ | refine guardD_ret0 ?_ | refine exV_intro _ rfl ?_); (try simp only [go_sem, loadL_a, k8]); try ((first | refine hK _ _ ?_ | refine hKP _ _ _ ?_ | refine hKP _ _ (fun _ => ?_)); clear hK hKP K KP))))
      refine guardC_q0 (x := BV (e.1 == b && e.2 == a)) (fun hc => ⟨fun h => by rw [hc, h]; rfl, rfl, rfl⟩) ?_
      ((try simp only [go_sem, loadL_a, k8]); (try ((first | refine hK _ _ ?_ | refine hKP _ _ _ ?_ | refine hKP _ _ (fun _ => ?_)); clear hK hKP K KP)); repeat (first | refine Stp.s ?_ | refine inBlock_exit' (by decide) ?_ | ((first | refine vc_region fun K KP hK hKP => ?_ | refine Stg.s ?_ | refine guardD_ret0 ?_ | refine exV_intro _ rfl ?_); (try simp only [go_sem, loadL_a, k8]); try ((first | refine hK _ _ ?_ | refine hKP _ _ _ ?_ | refine hKP _ _ (fun _ => ?_)); clear hK hKP K KP))))
      refine vc_cond rfl (fun hq => ?_) (fun hq => ?_)
      · (repeat (first | refine Stp.s ?_ | refine inBlock_exit' (by decide) ?_ | ((first | refine vc_region fun K KP hK hKP => ?_ | refine Stg.s ?_ | refine guardD_ret0 ?_ | refine exV_intro _ rfl ?_); (try simp only [go_sem, loadL_a]); try ((first | refine hK _ _ ?_ | refine hKP _ _ _ ?_ | refine hKP _ _ (fun _ => ?_)); clear hK hKP K KP))))
        (simp only [postV, resV, oneOf, List.getD_cons_succ, List.getD_cons_zero, and_true, true_and])
        refine Ends.le (congrArg BV (Eq.symm ?_)) (Store.le_trans hle3 (Store.le_trans hle hle8))
        have hm : e ∈ t.edges := hmem
        have hed : t.edge a b = true := List.any_eq_true.2 ⟨e, hm, by rw [hab2]; exact hq⟩
        unfold Tr.adj
        rw [hta, htb, hed]
        simp [Ne.symm hab]
      · (repeat (first | refine Stp.s ?_ | refine inBlock_exit' (by decide) ?_ | ((first | refine vc_region fun K KP hK hKP => ?_ | refine Stg.s ?_ | refine guardD_ret0 ?_ | refine exV_intro _ rfl ?_); (try simp only [go_sem, loadL_a, i64_nsucc (show i < 1000000 by omega)]); try ((first | refine hK _ _ ?_ | refine hKP _ _ _ ?_ | refine hKP _ _ (fun _ => ?_)); clear hK hKP K KP))))
        refine ⟨i + 1, _, (by repeat (first | exact LeEnv.nil | refine LeEnv.same ?_ | refine LeEnv.top ?_)), hle8, ⟨hlt, hle, ?_⟩, by omega⟩
        rw [htk, List.any_append, hno]
        simp only [List.any_cons, List.any_nil, Bool.or_false, Bool.false_or]
        rw [hab2]
        exact hq
    · (repeat (first | refine Stp.s ?_ | refine inBlock_exit' (by decide) ?_ | ((first | refine vc_region fun K KP hK hKP => ?_ | refine Stg.s ?_ | refine guardD_ret0 ?_ | refine exV_intro _ rfl ?_); (try simp only [go_sem, loadL_a]); try ((first | refine hK _ _ ?_ | refine hKP _ _ _ ?_ | refine hKP _ _ (fun _ => ?_)); clear hK hKP K KP))))
      (simp only [postV, resV, oneOf, List.getD_cons_succ, List.getD_cons_zero, and_true, true_and])
      refine Ends.le (congrArg BV ?_) (Store.le_trans hle3 hle)
      have hge : t.edges.length ≤ i := by simpa using hc
      rw [List.take_of_length_le hge] at hno
      unfold Tr.adj Tr.edge
      rw [hno]; simp
end Go.Proofs.Ytbgagffpmdlilaa
