/- An index made; index.Load. -/
import Derived.Test.YtociliegljoldaaGreatJ7
import Derived.Test.YtociliegljoldaaGreatWR
namespace Go.Proofs.YtociliegljoldaaGreat
set_option linter.unusedSimpArgs false
set_option linter.unusedVariables false
open Go.Proofs
attribute [local irreducible] vc vcOps vcDraw vcK vcKP vcDK vcDB HWp HCalls postV Ex.then Ex.inBlock stepD callV appendV guardC guardD exV effV opV loadV storeV indexAddrV indexV sliceV
set_option maxRecDepth 10000
set_option maxHeartbeats 4000000

theorem bytesEq_pure (a b : List UInt8) : HPure Tryz.prog 123 [.lst 1 (a.map byteV), .lst 1 (b.map byteV)] (BV (a == b)) := by
  (refine HPure.of en123 fun σ => ?_); (refine HCalls.of_vc Tryz.func123 rfl ?_; rw [Tryz.ntmps123, Tryz.results123]; simp only [List.length_cons, List.length_nil, Nat.reduceAdd, Nat.reduceSub, List.replicate, List.cons_append, List.nil_append])
  (repeat (first | refine Stp.s ?_ | refine inBlock_exit' (by decide) ?_ | ((first | refine vc_region fun K KP hK hKP => ?_ | refine Stg.s ?_ | refine guardD_ret0 ?_ | refine exV_intro _ rfl ?_); (try simp only [go_sem, loadL_a]); try ((first | refine hK _ _ ?_ | refine hKP _ _ _ ?_ | refine hKP _ _ (fun _ => ?_)); clear hK hKP K KP))))
  refine ⟨a, rfl, ⟨_, rfl, Tryz.underlying5⟩, ?_⟩
  ((try simp only [go_sem, loadL_a]); (try ((first | refine hK _ _ ?_ | refine hKP _ _ _ ?_ | refine hKP _ _ (fun _ => ?_)); clear hK hKP K KP)); repeat (first | refine Stp.s ?_ | refine inBlock_exit' (by decide) ?_ | ((first | refine vc_region fun K KP hK hKP => ?_ | refine Stg.s ?_ | refine guardD_ret0 ?_ | refine exV_intro _ rfl ?_); (try simp only [go_sem, loadL_a]); try ((first | refine hK _ _ ?_ | refine hKP _ _ _ ?_ | refine hKP _ _ (fun _ => ?_)); clear hK hKP K KP))))
  refine ⟨b, rfl, ⟨_, rfl, Tryz.underlying5⟩, ?_⟩
  ((try simp only [go_sem, loadL_a, bin_seq]); (try ((first | refine hK _ _ ?_ | refine hKP _ _ _ ?_ | refine hKP _ _ (fun _ => ?_)); clear hK hKP K KP)); repeat (first | refine Stp.s ?_ | refine inBlock_exit' (by decide) ?_ | ((first | refine vc_region fun K KP hK hKP => ?_ | refine Stg.s ?_ | refine guardD_ret0 ?_ | refine exV_intro _ rfl ?_); (try simp only [go_sem, loadL_a, bin_seq]); try ((first | refine hK _ _ ?_ | refine hKP _ _ _ ?_ | refine hKP _ _ (fun _ => ?_)); clear hK hKP K KP))))
  (simp only [postV, resV, oneOf, List.getD_cons_succ, List.getD_cons_zero, and_true, true_and])
  exact Ends.le rfl (Store.le_refl _)
def cartB (n : Int) : Bool := decide (1 ≤ n) && decide (n ≤ 12)
theorem isCart_pure (n : Int) : HPure Tryz.prog 96 [I64 n] (BV (cartB n)) := by
  (refine HPure.of en96 fun σ => ?_); (refine HCalls.of_vc Tryz.func96 rfl ?_; rw [Tryz.ntmps96, Tryz.results96]; simp only [List.length_cons, List.length_nil, Nat.reduceAdd, Nat.reduceSub, List.replicate, List.cons_append, List.nil_append])
  (repeat (first | refine Stp.s ?_ | refine inBlock_exit' (by decide) ?_ | ((first | refine vc_region fun K KP hK hKP => ?_ | refine Stg.s ?_ | refine guardD_ret0 ?_ | refine exV_intro _ rfl ?_); (try simp only [go_sem, loadL_a]); try ((first | refine hK _ _ ?_ | refine hKP _ _ _ ?_ | refine hKP _ _ (fun _ => ?_)); clear hK hKP K KP))))
  (simp only [postV, resV, oneOf, List.getD_cons_succ, List.getD_cons_zero, and_true, true_and])
  exact Ends.le (by unfold cartB; cases decide (1 ≤ n) <;> simp) (Store.le_refl _)
theorem iNew_ok (n : Int) (hn : cartB n = true) (σ : Store) : HCalls Tryz.prog 43 [I64 n] σ (EndsNew (fun b => .tup [.ptr b 0, I64 0]) (.cells (ixC (ix0 n) nilS)) σ) := by
  (refine HCalls.of_vc Tryz.func43 rfl ?_; rw [Tryz.ntmps43, Tryz.results43]; simp only [List.length_cons, List.length_nil, Nat.reduceAdd, Nat.reduceSub, List.replicate, List.cons_append, List.nil_append])
  (repeat (first | refine Stp.s ?_ | refine inBlock_exit' (by decide) ?_ | ((first | refine vc_region fun K KP hK hKP => ?_ | refine Stg.s ?_ | refine guardD_ret0 ?_ | refine exV_intro _ rfl ?_); (try simp only [go_sem, loadL_a]); try ((first | refine hK _ _ ?_ | refine hKP _ _ _ ?_ | refine hKP _ _ (fun _ => ?_)); clear hK hKP K KP))))
  ((try simp only [go_sem, loadL_a]); first | refine callV_pure (isCart_pure n) ?_ | refine guardC_q0 (fun _ => callV_pure (isCart_pure n) ⟨rfl, rfl⟩) ?_)
  rw [hn]
  ((try simp only [go_sem, loadL_a]); (try ((first | refine hK _ _ ?_ | refine hKP _ _ _ ?_ | refine hKP _ _ (fun _ => ?_)); clear hK hKP K KP)); repeat (first | refine Stp.s ?_ | refine inBlock_exit' (by decide) ?_ | ((first | refine vc_region fun K KP hK hKP => ?_ | refine Stg.s ?_ | refine guardD_ret0 ?_ | refine exV_intro _ rfl ?_); (try simp only [go_sem, loadL_a]); try ((first | refine hK _ _ ?_ | refine hKP _ _ _ ?_ | refine hKP _ _ (fun _ => ?_)); clear hK hKP K KP))))
  refine vc_cond rfl (fun hc => by cases hc) (fun _ => ?_)
  (repeat (first | refine Stp.s ?_ | refine inBlock_exit' (by decide) ?_ | ((first | refine vc_region fun K KP hK hKP => ?_ | refine Stg.s ?_ | refine guardD_ret0 ?_ | refine exV_intro _ rfl ?_); (try simp only [go_sem, loadL_a]); try ((first | refine hK _ _ ?_ | refine hKP _ _ _ ?_ | refine hKP _ _ (fun _ => ?_)); clear hK hKP K KP))))
  intro c hc
  ((try simp only [go_sem, loadL_a]); refine hK _ _ ?_; clear hK hKP K KP; repeat (first | refine Stp.s ?_ | refine inBlock_exit' (by decide) ?_ | ((first | refine vc_region fun K KP hK hKP => ?_ | refine Stg.s ?_ | refine guardD_ret0 ?_ | refine exV_intro _ rfl ?_); (try simp only [go_sem, loadL_a]); try ((first | refine hK _ _ ?_ | refine hKP _ _ _ ?_ | refine hKP _ _ (fun _ => ?_)); clear hK hKP K KP))))
  (simp only [postV, resV, oneOf, List.getD_cons_succ, List.getD_cons_zero, and_true, true_and])
  refine ⟨c, _, hc, rfl, ?_⟩
  have h1 : (σ.set c (.cells (I64 n :: (zeroN.map U32 ++ [nilS, nilS])))) c = some (.cells (I64 n :: (zeroN.map U32 ++ [nilS, nilS]))) := Store.set_same _ _ _
  have := Weakens.cell (x := .tup [.ptr c 0, I64 0]) h1 h1 (j := 14) (y := nilS) rfl (nils_vr)
  rw [Store.set_set] at this
  exact this
theorem iNew_no (n : Int) (hn : ¬cartB n = true) : HPure Tryz.prog 43 [I64 n] (.tup [nilP, I64 13]) := by
  (refine HPure.of en43 fun σ => ?_); (refine HCalls.of_vc Tryz.func43 rfl ?_; rw [Tryz.ntmps43, Tryz.results43]; simp only [List.length_cons, List.length_nil, Nat.reduceAdd, Nat.reduceSub, List.replicate, List.cons_append, List.nil_append])
  (repeat (first | refine Stp.s ?_ | refine inBlock_exit' (by decide) ?_ | ((first | refine vc_region fun K KP hK hKP => ?_ | refine Stg.s ?_ | refine guardD_ret0 ?_ | refine exV_intro _ rfl ?_); (try simp only [go_sem, loadL_a]); try ((first | refine hK _ _ ?_ | refine hKP _ _ _ ?_ | refine hKP _ _ (fun _ => ?_)); clear hK hKP K KP))))
  ((try simp only [go_sem, loadL_a]); first | refine callV_pure (isCart_pure n) ?_ | refine guardC_q0 (fun _ => callV_pure (isCart_pure n) ⟨rfl, rfl⟩) ?_)
  rw [Bool.eq_false_iff.2 hn]
  ((try simp only [go_sem, loadL_a]); (try ((first | refine hK _ _ ?_ | refine hKP _ _ _ ?_ | refine hKP _ _ (fun _ => ?_)); clear hK hKP K KP)); repeat (first | refine Stp.s ?_ | refine inBlock_exit' (by decide) ?_ | ((first | refine vc_region fun K KP hK hKP => ?_ | refine Stg.s ?_ | refine guardD_ret0 ?_ | refine exV_intro _ rfl ?_); (try simp only [go_sem, loadL_a]); try ((first | refine hK _ _ ?_ | refine hKP _ _ _ ?_ | refine hKP _ _ (fun _ => ?_)); clear hK hKP K KP))))
  refine vc_cond rfl (fun _ => ?_) (fun hc => by cases hc)
  (repeat (first | refine Stp.s ?_ | refine inBlock_exit' (by decide) ?_ | ((first | refine vc_region fun K KP hK hKP => ?_ | refine Stg.s ?_ | refine guardD_ret0 ?_ | refine exV_intro _ rfl ?_); (try simp only [go_sem, loadL_a]); try ((first | refine hK _ _ ?_ | refine hKP _ _ _ ?_ | refine hKP _ _ (fun _ => ?_)); clear hK hKP K KP))))
  (simp only [postV, resV, oneOf, List.getD_cons_succ, List.getD_cons_zero, and_true, true_and])
  exact Ends.le rfl (Store.le_refl _)
theorem pVs_err : ∀ {n : Nat} {vs : List Nat} {bs r : List UInt8} {e : Int}, pVs n vs bs = .error (e, r) → e ≠ 0
  | 0, vs, bs, r, e, h => by
    unfold pVs at h
    split at h
    · cases h
    · cases h; decide
  | n + 1, vs, bs, r, e, h => by
    unfold pVs at h
    cases hp : pSm 4294967295 bs with
    | error a => rw [hp] at h; cases h; exact pSm_err hp
    | ok a => rw [hp] at h; exact pVs_err h
theorem pVec_err {bs r : List UInt8} {e : Int} (h : pVec bs = .error (e, r)) : e ≠ 0 := by
  unfold pVec at h
  cases hp : pSm 12 bs with
  | error a => rw [hp] at h; cases h; exact pSm_err hp
  | ok a => rw [hp] at h; exact pVs_err h
theorem pLab_err {bs r : List UInt8} {e : Int} (h : pLab bs = .error (e, r)) : e ≠ 0 := by
  unfold pLab at h
  cases h1 : decN bs with
  | error a => rw [h1] at h; cases h; exact decF_err _ _ _ _ _ h1
  | ok a1 =>
    rw [h1] at h; simp only at h
    cases h2 : pSm 12 a1.2 with
    | error a => rw [h2] at h; cases h; exact pSm_err h2
    | ok a2 =>
      rw [h2] at h; simp only at h
      cases h3 : pSm 1048576 a2.2 with
      | error a => rw [h3] at h; cases h; exact pSm_err h3
      | ok a3 =>
        rw [h3] at h; simp only at h
        cases h4 : pSm 12 a3.2 with
        | error a => rw [h4] at h; cases h; exact pSm_err h4
        | ok a4 =>
          rw [h4] at h; simp only at h
          cases h5 : pSm 12 a4.2 with
          | error a => rw [h5] at h; cases h; exact pSm_err h5
          | ok a5 =>
            rw [h5] at h; simp only at h
            cases h6 : pVec a5.2 with
            | error a => rw [h6] at h; cases h; exact pVec_err h6
            | ok a6 =>
              rw [h6] at h; simp only at h
              split at h
              · cases h
              · cases h; decide
theorem pEnts_err : ∀ {n : Nat} {x : Ix} {bs r : List UInt8} {e : Int}, pEnts n x bs = .error (e, r) → e ≠ 0
  | 0, x, bs, r, e, h => by unfold pEnts at h; cases h
  | n + 1, x, bs, r, e, h => by
    unfold pEnts at h
    cases h1 : pSm 12 bs with
    | error a => rw [h1] at h; cases h; exact pSm_err h1
    | ok a1 =>
      rw [h1] at h; simp only at h
      cases h2 : pSm 1048576 a1.2 with
      | error a => rw [h2] at h; cases h; exact pSm_err h2
      | ok a2 =>
        rw [h2] at h; simp only at h
        cases h3 : pSm 12 a2.2 with
        | error a => rw [h3] at h; cases h; exact pSm_err h3
        | ok a3 =>
          rw [h3] at h; simp only at h
          split at h
          · exact pEnts_err h
          · cases h; decide
theorem pEnts_len : ∀ {n : Nat} {x y : Ix} {bs r : List UInt8}, pEnts n x bs = .ok (y, r) → r.length ≤ bs.length
  | 0, x, y, bs, r, h => by unfold pEnts at h; cases h; exact Nat.le_refl _
  | n + 1, x, y, bs, r, h => by
    unfold pEnts at h
    cases h1 : pSm 12 bs with
    | error a => rw [h1] at h; cases h
    | ok a1 =>
      rw [h1] at h; simp only at h
      cases h2 : pSm 1048576 a1.2 with
      | error a => rw [h2] at h; cases h
      | ok a2 =>
        rw [h2] at h; simp only at h
        cases h3 : pSm 12 a2.2 with
        | error a => rw [h3] at h; cases h
        | ok a3 =>
          rw [h3] at h; simp only at h
          have e1 := (pSm_inv (r := a1.2) (n := a1.1) h1).2
          have e2 := (pSm_inv (r := a2.2) (n := a2.1) h2).2
          have e3 := (pSm_inv (r := a3.2) (n := a3.1) h3).2
          split at h
          · have := pEnts_len h
            rw [e1, e2, e3]; simp only [List.length_append]; omega
          · cases h
theorem pLabs_err : ∀ {n : Nat} {x : Ix} {bs r : List UInt8} {e : Int}, pLabs n x bs = .error (e, r) → e ≠ 0
  | 0, x, bs, r, e, h => by unfold pLabs at h; cases h
  | n + 1, x, bs, r, e, h => by
    unfold pLabs at h
    cases h1 : pLab bs with
    | error a => rw [h1] at h; cases h; exact pLab_err h1
    | ok a1 =>
      rw [h1] at h; simp only at h
      split at h
      · split at h
        · exact pLabs_err h
        · cases h; decide
      · cases h; decide
theorem pLabs_len : ∀ {n : Nat} {x y : Ix} {bs r : List UInt8}, pLabs n x bs = .ok (y, r) → r.length ≤ bs.length
  | 0, x, y, bs, r, h => by unfold pLabs at h; cases h; exact Nat.le_refl _
  | n + 1, x, y, bs, r, h => by
    unfold pLabs at h
    cases h1 : pLab bs with
    | error a => rw [h1] at h; cases h
    | ok a1 =>
      rw [h1] at h; simp only at h
      have := (pLab_inv (l := a1.1) (r := a1.2) h1).2.2
      split at h
      · split at h
        · have := pLabs_len h; omega
        · cases h
      · cases h
theorem pIx_err {bs r : List UInt8} {e : Int} (h : pIx bs = .error (e, r)) : e ≠ 0 := by
  unfold pIx at h
  cases h1 : pSm 12 bs with
  | error a => rw [h1] at h; cases h; exact pSm_err h1
  | ok a1 =>
    rw [h1] at h; simp only at h
    cases h2 : pSm 400 a1.2 with
    | error a => rw [h2] at h; cases h; exact pSm_err h2
    | ok a2 =>
      rw [h2] at h; simp only at h
      cases h3 : pEnts a2.1 (ix0 a1.1) a2.2 with
      | error a => rw [h3] at h; cases h; exact pEnts_err h3
      | ok a3 =>
        rw [h3] at h; simp only at h
        cases h4 : pSm 400 a3.2 with
        | error a => rw [h4] at h; cases h; exact pSm_err h4
        | ok a4 => rw [h4] at h; exact pLabs_err h
theorem pIx_len {bs r : List UInt8} {x : Ix} (h : pIx bs = .ok (x, r)) : r.length ≤ bs.length := by
  unfold pIx at h
  cases h1 : pSm 12 bs with
  | error a => rw [h1] at h; cases h
  | ok a1 =>
    rw [h1] at h; simp only at h
    cases h2 : pSm 400 a1.2 with
    | error a => rw [h2] at h; cases h
    | ok a2 =>
      rw [h2] at h; simp only at h
      cases h3 : pEnts a2.1 (ix0 a1.1) a2.2 with
      | error a => rw [h3] at h; cases h
      | ok a3 =>
        rw [h3] at h; simp only at h
        cases h4 : pSm 400 a3.2 with
        | error a => rw [h4] at h; cases h
        | ok a4 =>
          rw [h4] at h; simp only at h
          have e1 := (pSm_inv (r := a1.2) (n := a1.1) h1).2
          have e2 := (pSm_inv (r := a2.2) (n := a2.1) h2).2
          have e4 := (pSm_inv (r := a4.2) (n := a4.1) h4).2
          have e3 := pEnts_len (r := a3.2) h3
          have := pLabs_len h
          rw [e4] at e3
          rw [e1, e2]; simp only [List.length_append] at e3 ⊢; omega
end Go.Proofs.YtociliegljoldaaGreat
