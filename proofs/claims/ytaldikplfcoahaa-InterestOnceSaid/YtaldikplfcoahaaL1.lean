/- truglaw19.InterestOnce returns true for every input and leaves its arguments as they were: no condition. -/
import Derived.Test.YtaldikplfcoahaaT18
import Derived.Test.YtaldikplfcoahaaRt
import Derived.Test.YtaldikplfcoahaaRows
namespace Go.Proofs.Ytaldikplfcoahaa
set_option linter.unusedSimpArgs false
set_option linter.unusedVariables false
open Go.Proofs Go.ChangeShapes Go.WideShapes Go.ChangeAt Go.RowKit
attribute [local irreducible] vc vcOps vcDraw vcK vcKP vcDK vcDB HWp HCalls postV Ex.then Ex.inBlock stepD callV appendV guardC guardD exV effV opV loadV storeV indexAddrV indexV sliceV
set_option maxRecDepth 100000
set_option maxHeartbeats 4000000

theorem treeLoadK (t : Tr) (ht : t.kinds.length = 12) (K : V → Prop) : loadL Try.prog 25 (t.kinds.map I64 ++ [t.es]) 0 K = K t.v := by
  rw [loadL_a kd25, ce25, List.drop_zero, List.take_of_length_le (by simp [ht])]
  simp [ht]

theorem once_any (t : Tr) (ht : t.kinds.length = 12) (n cart : Int) (hcart : -9223372036854775808 ≤ cart ∧ cart ≤ 9223372036854775807) : HPure Try.prog 3 [t.v, I64 n, I64 cart] (BV true) := by
  by_cases hg : t.edges.length ≤ 20
  · exact once_pure t ⟨ht, by omega⟩ n cart hcart
  · (refine HPure.of en3 fun σ => ?_); (refine HCalls.of_vc Try.func3 rfl ?_; rw [Try.ntmps3, Try.results3]; simp only [List.length_cons, List.length_nil, Nat.reduceAdd, Nat.reduceSub, List.replicate, List.cons_append, List.nil_append])
    (repeat (first | refine vc_seq ?_ | refine vc_block ?_ | refine then_normal ?_ | refine vc_ret ?_ | refine vc_skip ?_ | refine vc_exit ?_ | refine then_ret ?_ | refine then_exit ?_ | refine inBlock_normal ?_ | refine inBlock_ret ?_ | refine inBlock_exit ?_ | refine vc_goto ?_ | refine then_goto ?_ | refine inBlock_goto ?_ | refine jump_goto ?_ | refine jump_normal ?_ | refine jump_ret ?_ | refine inBlock_exit' (by decide) ?_ | ((first | refine vc_region fun K KP hK hKP => ?_ | refine guardC_ret0 ?_ | refine guardC_yes0 ?_ | refine guardC_no ?_ | refine guardD_no ?_ | refine effV_true ?_ | refine guardD_ret0 ?_); simp only [go_sem, loadL_a, lenV, indexAddrV, loadV, storeV, sliceV, convertV, V.flag, V.strip]; try (refine hK _ _ ?_; clear hK hKP K KP)) | (refine exV_intro _ rfl ?_; (try simp only [go_sem, loadL_a, lenV, indexAddrV, loadV, storeV, sliceV, convertV, V.flag, V.strip]); try (refine hK _ _ ?_; clear hK hKP K KP))))
    intro b3 hb3
    have hle3 : σ.le (σ.set b3 (.cells (t.kinds.map I64 ++ [t.es]))) := Store.le_set hb3 (Store.le_refl _)
    have h3 : (σ.set b3 (.cells (t.kinds.map I64 ++ [t.es]))) b3 = some (.cells (t.kinds.map I64 ++ [t.es])) := Store.set_same _ _ _
    generalize σ.set b3 _ = σ1 at *
    ((try simp only [go_sem, lenV, indexAddrV, loadV, storeV, sliceV, convertV, V.flag, V.strip, treeLoadK t ht, h3]); refine hK _ _ ?_; clear hK hKP K KP; repeat (first | refine vc_seq ?_ | refine vc_block ?_ | refine then_normal ?_ | refine vc_ret ?_ | refine vc_skip ?_ | refine vc_exit ?_ | refine then_ret ?_ | refine then_exit ?_ | refine inBlock_normal ?_ | refine inBlock_ret ?_ | refine inBlock_exit ?_ | refine vc_goto ?_ | refine then_goto ?_ | refine inBlock_goto ?_ | refine jump_goto ?_ | refine jump_normal ?_ | refine jump_ret ?_ | refine inBlock_exit' (by decide) ?_ | ((first | refine vc_region fun K KP hK hKP => ?_ | refine guardC_ret0 ?_ | refine guardC_yes0 ?_ | refine guardC_no ?_ | refine guardD_no ?_ | refine effV_true ?_ | refine guardD_ret0 ?_); simp only [go_sem, lenV, indexAddrV, loadV, storeV, sliceV, convertV, V.flag, V.strip, treeLoadK t ht, h3]; try (refine hK _ _ ?_; clear hK hKP K KP)) | (refine exV_intro _ rfl ?_; (try simp only [go_sem, lenV, indexAddrV, loadV, storeV, sliceV, convertV, V.flag, V.strip, treeLoadK t ht, h3]); try (refine hK _ _ ?_; clear hK hKP K KP))))
    ((try simp only [go_sem, loadL_a, lenV, indexAddrV, loadV, storeV, sliceV, convertV, V.flag, V.strip]); refine callV_pure (great_pure t ht) ?_)
    rw [decide_eq_true (show 20 < t.edges.length by omega)]
    ((try simp only [go_sem, lenV, indexAddrV, loadV, storeV, sliceV, convertV, V.flag, V.strip, treeLoadK t ht, h3]); (try (refine hK _ _ ?_; clear hK hKP K KP)); repeat (first | refine vc_seq ?_ | refine vc_block ?_ | refine then_normal ?_ | refine vc_ret ?_ | refine vc_skip ?_ | refine vc_exit ?_ | refine then_ret ?_ | refine then_exit ?_ | refine inBlock_normal ?_ | refine inBlock_ret ?_ | refine inBlock_exit ?_ | refine vc_goto ?_ | refine then_goto ?_ | refine inBlock_goto ?_ | refine jump_goto ?_ | refine jump_normal ?_ | refine jump_ret ?_ | refine inBlock_exit' (by decide) ?_ | ((first | refine vc_region fun K KP hK hKP => ?_ | refine guardC_ret0 ?_ | refine guardC_yes0 ?_ | refine guardC_no ?_ | refine guardD_no ?_ | refine effV_true ?_ | refine guardD_ret0 ?_); simp only [go_sem, lenV, indexAddrV, loadV, storeV, sliceV, convertV, V.flag, V.strip, treeLoadK t ht, h3]; try (refine hK _ _ ?_; clear hK hKP K KP)) | (refine exV_intro _ rfl ?_; (try simp only [go_sem, lenV, indexAddrV, loadV, storeV, sliceV, convertV, V.flag, V.strip, treeLoadK t ht, h3]); try (refine hK _ _ ?_; clear hK hKP K KP))))
    refine vc_cond rfl (fun hc => ?_) (fun hc => absurd hc (by decide))
    (repeat (first | refine vc_seq ?_ | refine vc_block ?_ | refine then_normal ?_ | refine vc_ret ?_ | refine vc_skip ?_ | refine vc_exit ?_ | refine then_ret ?_ | refine then_exit ?_ | refine inBlock_normal ?_ | refine inBlock_ret ?_ | refine inBlock_exit ?_ | refine vc_goto ?_ | refine then_goto ?_ | refine inBlock_goto ?_ | refine jump_goto ?_ | refine jump_normal ?_ | refine jump_ret ?_ | refine inBlock_exit' (by decide) ?_ | ((first | refine vc_region fun K KP hK hKP => ?_ | refine guardC_ret0 ?_ | refine guardC_yes0 ?_ | refine guardC_no ?_ | refine guardD_no ?_ | refine effV_true ?_ | refine guardD_ret0 ?_); simp only [go_sem, loadL_a, lenV, indexAddrV, loadV, storeV, sliceV, convertV, V.flag, V.strip]; try (refine hK _ _ ?_; clear hK hKP K KP)) | (refine exV_intro _ rfl ?_; (try simp only [go_sem, loadL_a, lenV, indexAddrV, loadV, storeV, sliceV, convertV, V.flag, V.strip]); try (refine hK _ _ ?_; clear hK hKP K KP))))
    ((try simp only [go_sem, loadL_a, lenV, indexAddrV, loadV, storeV, sliceV, convertV, V.flag, V.strip]); refine callV_pure (alive19) ?_)
    ((try simp only [go_sem, loadL_a, lenV, indexAddrV, loadV, storeV, sliceV, convertV, V.flag, V.strip]); (try (refine hK _ _ ?_; clear hK hKP K KP)); repeat (first | refine vc_seq ?_ | refine vc_block ?_ | refine then_normal ?_ | refine vc_ret ?_ | refine vc_skip ?_ | refine vc_exit ?_ | refine then_ret ?_ | refine then_exit ?_ | refine inBlock_normal ?_ | refine inBlock_ret ?_ | refine inBlock_exit ?_ | refine vc_goto ?_ | refine then_goto ?_ | refine inBlock_goto ?_ | refine jump_goto ?_ | refine jump_normal ?_ | refine jump_ret ?_ | refine inBlock_exit' (by decide) ?_ | ((first | refine vc_region fun K KP hK hKP => ?_ | refine guardC_ret0 ?_ | refine guardC_yes0 ?_ | refine guardC_no ?_ | refine guardD_no ?_ | refine effV_true ?_ | refine guardD_ret0 ?_); simp only [go_sem, loadL_a, lenV, indexAddrV, loadV, storeV, sliceV, convertV, V.flag, V.strip]; try (refine hK _ _ ?_; clear hK hKP K KP)) | (refine exV_intro _ rfl ?_; (try simp only [go_sem, loadL_a, lenV, indexAddrV, loadV, storeV, sliceV, convertV, V.flag, V.strip]); try (refine hK _ _ ?_; clear hK hKP K KP))))
    (simp only [postV, resV, oneOf, List.getD_cons_succ, List.getD_cons_zero, and_true, true_and])
    exact Ends.le rfl hle3

theorem own_knob : ownKnob Try.prog.godebug = none := by kernel_rfl
theorem laid_out : laidOutB Try.prog = true := by kernel_rfl

theorem once_lifted (os : Os) (started : os.Started) (H : Type) (enc : TypeId × Value → H) :
    ReturnsInHanded {} Try.checked os 3 .any (Rows.interestOnceSpec.pre6 enc Try.prog Try.f3 Rows.interestOnceRow.domain false) (Rows.interestOnceSpec.post enc Try.prog Try.f3 false true false false) := by
  refine law_lift (C := Try.checked) (tb := 4) own_knob started (by kernel_rfl) Try.func3 laid_out
    (ChangeSpec.witness6 (enc := enc) (C := Try.checked) false ⟨#[], #[.agg #[.int .i64 0, .int .i64 0, .int .i64 0, .int .i64 0, .int .i64 0, .int .i64 0, .int .i64 0, .int .i64 0, .int .i64 0, .int .i64 0, .int .i64 0, .int .i64 0, .slice none 0 0], .int .i64 0, .int .i64 0], []⟩ 8 (by kernel_rfl) (by kernel_rfl) (by kernel_rfl) (by kernel_rfl))
    rfl rfl Try.underlying4 (by kernel_rfl) (fun ds hd => ?_) ?_
  · cases ds with
    | nil => cases hd
    | cons a ds => cases ds with
      | nil => cases hd
      | cons b ds => cases ds with
        | nil => cases hd
        | cons c ds => cases ds with
          | nil => rfl
          | cons d ds => cases hd
  · intro W base args ds ps hval0 hA0
    have hval : ∀ (j : Nat) t v, Try.f3.params[j]? = some t → args[j]? = some v → Value.okWide Try.prog W .any base t v := hval0
    have hA : DataW.TrodAll enc Try.prog W 0 (fun _ => true) true Try.f3.params.toList args.toList ds ps := hA0
    rw [Try.params3] at hA hval
    obtain ⟨v0, v1, v2, d0, d1, d2, p0, p1, p2, rfl, rfl, rfl, h0, h1, h2⟩ := trodAll_three hA
    obtain ⟨vs, rfl, r0⟩ := arg_agg (.inl ⟨_, Try.underlying25⟩) (hval 0 25 v0 rfl rfl) h0
    obtain ⟨n, rfl, _⟩ := arg_int Try.underlying3 (hval 1 3 v1 rfl rfl) h1
    obtain ⟨cart, rfl, hcart⟩ := arg_int Try.underlying3 (hval 2 3 v2 rfl rfl) h2
    obtain ⟨t, ht, hl⟩ := rd_tree r0
    refine ⟨[t.v, I64 n, I64 cart], LR.cons (VR.mk_agg hl) (LR.cons (.val _) (LR.cons (.val _) (LR.nil _))), ?_⟩
    exact ((once_any t ht n cart hcart).2 _).mono fun r σ' q => q.1

theorem once_holds : Rows.InterestOnceSaid :=
  OpenClaim.holds_of_wide 3 Try.f3 rfl rfl rfl rfl rfl rfl rfl ⟨rfl, rfl, rfl, rfl, rfl⟩ rfl rfl rfl rfl rfl (by kernel_rfl) Try.func3 (by kernel_rfl)
    (of_decide_eq_true (by kernel_rfl)) (by unfold Func.isWrapper; first | (rw [if_pos (by decide +kernel)]; kernel_rfl) | (rw [if_neg (by decide +kernel)]; exact ⟨rfl, rfl⟩))
    (fun os started H enc _ => once_lifted os started H enc)
#print axioms once_holds
end Go.Proofs.Ytaldikplfcoahaa
