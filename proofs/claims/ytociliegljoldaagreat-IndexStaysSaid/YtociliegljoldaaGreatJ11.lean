/- What must come of fixed calls. -/
import Derived.Test.YtociliegljoldaaGreatJ10
namespace Go.Proofs.YtociliegljoldaaGreat
set_option linter.unusedSimpArgs false
set_option linter.unusedVariables false
open Go.Proofs
attribute [local irreducible] vc vcOps vcDraw vcK vcKP vcDK vcDB HWp HCalls postV Ex.then Ex.inBlock stepD callV appendV guardC guardD exV effV opV loadV storeV indexAddrV indexV sliceV
set_option maxRecDepth 10000
set_option maxHeartbeats 4000000

theorem ok1 : (ix0 1).Ok := ⟨rfl, by decide, by decide⟩
theorem ok_x1 : x1.Ok := ⟨rfl, by decide, by decide⟩
theorem ok_x2 : x2.Ok := ⟨rfl, by decide, by decide⟩
theorem new_IxR {σ : Store} {b : Nat} (n : Int) : IxR (σ.set b (.cells (ixC (ix0 n) nilS))) b (ix0 n) none := ⟨nilS, Store.set_same _ _ _, .inl ⟨rfl, rfl, rfl, rfl⟩, by simp⟩
theorem IxR.set {σ : Store} {b c : Nat} {x : Ix} {ob : Option Nat} {k : Blk} (h : IxR σ b x ob) (hc : σ c = none) : IxR (σ.set c k) b x ob := h.le (Store.le_set hc (Store.le_refl _))
theorem WStep.frame {σ τ τ' : Store} {b : Nat} {o o' : Option Nat} (hs : WStep τ τ' b o o') (hle : σ.le τ) (hb : σ b = none) (ho : ∀ c, o = some c → σ c = none) : σ.le τ' ∧ ∀ c, o' = some c → σ c = none :=
  ⟨fun c l hc => hs.keep c l (hle c l hc) (fun e => by rw [e, hb] at hc; cases hc) (fun e => by rw [ho c e.symm] at hc; cases hc), fun c e => by
    rcases hs.new c e with q | q
    · exact ho c q
    · exact Store.none_of_le hle q⟩
theorem alive10 : HPure Tryz.prog 44 [] (BV true) := by
  (refine HPure.of en44 fun σ => ?_); (refine HCalls.of_vc Tryz.func44 rfl ?_; rw [Tryz.ntmps44, Tryz.results44]; simp only [List.length_cons, List.length_nil, Nat.reduceAdd, Nat.reduceSub, List.replicate, List.cons_append, List.nil_append])
  (repeat (first | refine Stp.s ?_ | refine inBlock_exit' (by decide) ?_ | ((first | refine vc_region fun K KP hK hKP => ?_ | refine Stg.s ?_ | refine guardD_ret0 ?_ | refine exV_intro _ rfl ?_); (try simp only [go_sem, loadL_a]); try ((first | refine hK _ _ ?_ | refine hKP _ _ _ ?_ | refine hKP _ _ (fun _ => ?_)); clear hK hKP K KP))))
  refine callV_new en43 (iNew_ok 1 (by decide) σ) (fun b hb => ?_)
  have hx := new_IxR (σ := σ) (b := b) 1
  have hle := Store.le_set hb (Store.le_refl σ) (k := .cells (ixC (ix0 1) nilS))
  generalize σ.set b _ = σ1 at *
  ((try simp only [go_sem, loadL_a]); (try ((first | refine hK _ _ ?_ | refine hKP _ _ _ ?_ | refine hKP _ _ (fun _ => ?_)); clear hK hKP K KP)); repeat (first | refine Stp.s ?_ | refine inBlock_exit' (by decide) ?_ | ((first | refine vc_region fun K KP hK hKP => ?_ | refine Stg.s ?_ | refine guardD_ret0 ?_ | refine exV_intro _ rfl ?_); (try simp only [go_sem, loadL_a]); try ((first | refine hK _ _ ?_ | refine hKP _ _ _ ?_ | refine hKP _ _ (fun _ => ?_)); clear hK hKP K KP))))
  ((try simp only [go_sem, loadL_a]); first | refine callV_pure (iNew_no 13 (by decide)) ?_ | refine guardC_q0 (fun _ => callV_pure (iNew_no 13 (by decide)) ⟨rfl, rfl⟩) ?_)
  ((try simp only [go_sem, loadL_a]); (try ((first | refine hK _ _ ?_ | refine hKP _ _ _ ?_ | refine hKP _ _ (fun _ => ?_)); clear hK hKP K KP)); repeat (first | refine Stp.s ?_ | refine inBlock_exit' (by decide) ?_ | ((first | refine vc_region fun K KP hK hKP => ?_ | refine Stg.s ?_ | refine guardD_ret0 ?_ | refine exV_intro _ rfl ?_); (try simp only [go_sem, loadL_a]); try ((first | refine hK _ _ ?_ | refine hKP _ _ _ ?_ | refine hKP _ _ (fun _ => ?_)); clear hK hKP K KP))))
  intro b5 hb5
  have hx := hx.set (k := .cells lB.1.cs) hb5
  have h5 := Store.set_same σ1 b5 (.cells lB.1.cs)
  have hle := Store.le_trans hle (Store.le_set hb5 (Store.le_refl _) (k := .cells lB.1.cs))
  show K _ (σ1.set b5 (.cells lB.1.cs))
  generalize σ1.set b5 _ = σ2 at *
  ((try simp only [go_sem, loadL_a]); (try ((first | refine hK _ _ ?_ | refine hKP _ _ _ ?_ | refine hKP _ _ (fun _ => ?_)); clear hK hKP K KP)); repeat (first | refine Stp.s ?_ | refine inBlock_exit' (by decide) ?_ | ((first | refine vc_region fun K KP hK hKP => ?_ | refine Stg.s ?_ | refine guardD_ret0 ?_ | refine exV_intro _ rfl ?_); (try simp only [go_sem, loadL_a]); try ((first | refine hK _ _ ?_ | refine hKP _ _ _ ?_ | refine hKP _ _ (fun _ => ?_)); clear hK hKP K KP))))
  intro b6 hb6
  have hx := hx.set (k := .cells lA.1.cs) hb6
  have h6 := Store.set_same σ2 b6 (.cells lA.1.cs)
  have h5 := Store.keep hb6 h5 (.cells lA.1.cs)
  have hle := Store.le_trans hle (Store.le_set hb6 (Store.le_refl _) (k := .cells lA.1.cs))
  show K _ (σ2.set b6 (.cells lA.1.cs))
  generalize σ2.set b6 _ = σ3 at *
  ((try simp only [go_sem, h5, lbLoad lB.1 lB.2.ok]); (try ((first | refine hK _ _ ?_ | refine hKP _ _ _ ?_ | refine hKP _ _ (fun _ => ?_)); clear hK hKP K KP)); repeat (first | refine Stp.s ?_ | refine inBlock_exit' (by decide) ?_ | ((first | refine vc_region fun K KP hK hKP => ?_ | refine Stg.s ?_ | refine guardD_ret0 ?_ | refine exV_intro _ rfl ?_); (try simp only [go_sem, h5, lbLoad lB.1 lB.2.ok]); try ((first | refine hK _ _ ?_ | refine hKP _ _ _ ?_ | refine hKP _ _ (fun _ => ?_)); clear hK hKP K KP))))
  have n6b : b6 ≠ b := fun e => by obtain ⟨xl, q, _⟩ := hx; have := Store.set_same σ2 b6 (.cells lA.1.cs); rw [e] at h6; rw [h6] at q; cases q
  refine callV_of en45 (iAdd hx good1 (by decide) lB) (fun y σ4 q => ?_) (fun y σ4 q => by cases q.1)
  rw [add1] at q
  obtain ⟨e, o4, hx4, hs4⟩ := q
  cases e
  have h64 := hs4.keep b6 _ h6 n6b (by simp)
  have n6o : o4 ≠ some b6 := fun e => by rcases hs4.new b6 e with q | q; cases q; rw [h6] at q; cases q
  obtain ⟨hle4, ho4⟩ := hs4.frame hle hb (by simp)
  clear hx h5 h6 hs4
  ((try simp only [go_sem, loadL_a]); (try ((first | refine hK _ _ ?_ | refine hKP _ _ _ ?_ | refine hKP _ _ (fun _ => ?_)); clear hK hKP K KP)); repeat (first | refine Stp.s ?_ | refine inBlock_exit' (by decide) ?_ | ((first | refine vc_region fun K KP hK hKP => ?_ | refine Stg.s ?_ | refine guardD_ret0 ?_ | refine exV_intro _ rfl ?_); (try simp only [go_sem, loadL_a]); try ((first | refine hK _ _ ?_ | refine hKP _ _ _ ?_ | refine hKP _ _ (fun _ => ?_)); clear hK hKP K KP))))
  ((try simp only [go_sem, loadL_a]); refine callV_quiet en51 ((iWaits hx4 ok_x1)) ?_)
  ((try simp only [go_sem, labsV, h64, lbLoad lA.1 lA.2.ok]); (try ((first | refine hK _ _ ?_ | refine hKP _ _ _ ?_ | refine hKP _ _ (fun _ => ?_)); clear hK hKP K KP)); repeat (first | refine Stp.s ?_ | refine inBlock_exit' (by decide) ?_ | ((first | refine vc_region fun K KP hK hKP => ?_ | refine Stg.s ?_ | refine guardD_ret0 ?_ | refine exV_intro _ rfl ?_); (try simp only [go_sem, labsV, h64, lbLoad lA.1 lA.2.ok]); try ((first | refine hK _ _ ?_ | refine hKP _ _ _ ?_ | refine hKP _ _ (fun _ => ?_)); clear hK hKP K KP))))
  refine callV_of en45 (iAdd hx4 good_x1 (by decide) lA) (fun y σ5 q => ?_) (fun y σ5 q => by cases q.1)
  rw [add2] at q
  obtain ⟨e, o5, hx5, hs5⟩ := q
  cases e
  have h65 := hs5.keep b6 _ h64 n6b (fun e => n6o e.symm)
  have n6o : o5 ≠ some b6 := fun e => by
    rcases hs5.new b6 e with q | q
    · exact n6o q
    · rw [h64] at q; cases q
  obtain ⟨hle5, ho5⟩ := hs5.frame hle4 hb ho4
  clear hx4 h64 hs5 hle4 ho4
  ((try simp only [go_sem, h65, lbLoad lA.1 lA.2.ok]); (try ((first | refine hK _ _ ?_ | refine hKP _ _ _ ?_ | refine hKP _ _ (fun _ => ?_)); clear hK hKP K KP)); repeat (first | refine Stp.s ?_ | refine inBlock_exit' (by decide) ?_ | ((first | refine vc_region fun K KP hK hKP => ?_ | refine Stg.s ?_ | refine guardD_ret0 ?_ | refine exV_intro _ rfl ?_); (try simp only [go_sem, h65, lbLoad lA.1 lA.2.ok]); try ((first | refine hK _ _ ?_ | refine hKP _ _ _ ?_ | refine hKP _ _ (fun _ => ?_)); clear hK hKP K KP))))
  refine callV_of en45 (iAdd hx5 good_x2 (by decide) lA) (fun y σ6 q => ?_) (fun y σ6 q => by cases q.1)
  rw [add3] at q
  obtain ⟨e, o6, hx6, hs6⟩ := q
  cases e
  obtain ⟨hle6, ho6⟩ := hs6.frame hle5 hb ho5
  clear hx5 h65 hs6 hle5 ho5
  ((try simp only [go_sem, loadL_a]); (try ((first | refine hK _ _ ?_ | refine hKP _ _ _ ?_ | refine hKP _ _ (fun _ => ?_)); clear hK hKP K KP)); repeat (first | refine Stp.s ?_ | refine inBlock_exit' (by decide) ?_ | ((first | refine vc_region fun K KP hK hKP => ?_ | refine Stg.s ?_ | refine guardD_ret0 ?_ | refine exV_intro _ rfl ?_); (try simp only [go_sem, loadL_a]); try ((first | refine hK _ _ ?_ | refine hKP _ _ _ ?_ | refine hKP _ _ (fun _ => ?_)); clear hK hKP K KP))))
  ((try simp only [go_sem, loadL_a]); refine callV_quiet en49 ((iEntries hx6 ok_x2)) ?_)
  ((try simp only [go_sem, loadL_a]); (try ((first | refine hK _ _ ?_ | refine hKP _ _ _ ?_ | refine hKP _ _ (fun _ => ?_)); clear hK hKP K KP)); repeat (first | refine Stp.s ?_ | refine inBlock_exit' (by decide) ?_ | ((first | refine vc_region fun K KP hK hKP => ?_ | refine Stg.s ?_ | refine guardD_ret0 ?_ | refine exV_intro _ rfl ?_); (try simp only [go_sem, loadL_a]); try ((first | refine hK _ _ ?_ | refine hKP _ _ _ ?_ | refine hKP _ _ (fun _ => ?_)); clear hK hKP K KP))))
  ((try simp only [go_sem, loadL_a]); refine callV_quiet en52 ((iSave hx6 ok_x2 good_x2)) ?_)
  rw [ixB2]
  ((try simp only [go_sem, loadL_a]); (try ((first | refine hK _ _ ?_ | refine hKP _ _ _ ?_ | refine hKP _ _ (fun _ => ?_)); clear hK hKP K KP)); repeat (first | refine Stp.s ?_ | refine inBlock_exit' (by decide) ?_ | ((first | refine vc_region fun K KP hK hKP => ?_ | refine Stg.s ?_ | refine guardD_ret0 ?_ | refine exV_intro _ rfl ?_); (try simp only [go_sem, loadL_a]); try ((first | refine hK _ _ ?_ | refine hKP _ _ _ ?_ | refine hKP _ _ (fun _ => ?_)); clear hK hKP K KP))))
  refine callV_of en57 (iLoadF bs2 (by decide) few2 σ6) (fun y σ7 q => ?_) (fun y σ7 q => ?_)
  rotate_left
  · rcases q.2 with ⟨_, _, _, _, _, e, _⟩ | ⟨e, _⟩ <;> cases e
  obtain ⟨hle7, q⟩ := q
  rcases q with ⟨x, c, oc, hpx, hbx, e, hxc, hc6, hoc, hgc, hszc⟩ | ⟨_, hno⟩
  rotate_left
  · exact absurd ixB2 (hno x2 pIx2)
  cases e
  rw [pIx2] at hpx
  cases hpx
  have hx7 := hx6.le hle7
  have hleS := Store.le_trans hle6 hle7
  ((try simp only [go_sem, loadL_a]); (try ((first | refine hK _ _ ?_ | refine hKP _ _ _ ?_ | refine hKP _ _ (fun _ => ?_)); clear hK hKP K KP)); repeat (first | refine Stp.s ?_ | refine inBlock_exit' (by decide) ?_ | ((first | refine vc_region fun K KP hK hKP => ?_ | refine Stg.s ?_ | refine guardD_ret0 ?_ | refine exV_intro _ rfl ?_); (try simp only [go_sem, loadL_a]); try ((first | refine hK _ _ ?_ | refine hKP _ _ _ ?_ | refine hKP _ _ (fun _ => ?_)); clear hK hKP K KP))))
  ((try simp only [go_sem, loadL_a]); refine callV_quiet en55 ((iVector hx7 ok_x2)) ?_)
  ((try simp only [go_sem, loadL_a]); (try ((first | refine hK _ _ ?_ | refine hKP _ _ _ ?_ | refine hKP _ _ (fun _ => ?_)); clear hK hKP K KP)); repeat (first | refine Stp.s ?_ | refine inBlock_exit' (by decide) ?_ | ((first | refine vc_region fun K KP hK hKP => ?_ | refine Stg.s ?_ | refine guardD_ret0 ?_ | refine exV_intro _ rfl ?_); (try simp only [go_sem, loadL_a]); try ((first | refine hK _ _ ?_ | refine hKP _ _ _ ?_ | refine hKP _ _ (fun _ => ?_)); clear hK hKP K KP))))
  have hsel := iSellers hx7 ok_x2 good_x2 zeroN v2 rfl rfl
  rw [sel2] at hsel
  ((try simp only [go_sem, loadL_a]); refine callV_quiet en53 (hsel) ?_)
  have hdot := iDots hx7 ok_x2 good_x2 3 zeroN v2 rfl rfl (dsort_small _ (by decide))
  have hdl := dots2
  generalize srtD (dotI 3 zeroN v2 x2.l) = D at hdot hdl
  have hvec := iVector hx7 ok_x2
  have hvecc := iVector hxc ok_x2
  have hcart := iCart hx7 ok_x2
  have hv2 : vecV x2.v = .agg [V.val (.int .u32 2), V.val (.int .u32 0), V.val (.int .u32 0), V.val (.int .u32 0), V.val (.int .u32 0), V.val (.int .u32 0), V.val (.int .u32 0), V.val (.int .u32 0), V.val (.int .u32 0), V.val (.int .u32 0), V.val (.int .u32 0), V.val (.int .u32 0)] := rfl
  rw [hv2] at hvec hvecc
  have c1 : ((((x1.w.map labV).length : Nat) : Int) == 1) = true := by rw [List.length_map]; rfl
  have c2 : ((((x2.l.map entV).length : Nat) : Int) == 2) = true := by rw [List.length_map]; rfl
  have c3 : (x2.l.map entV).getD (0 : Int).toNat .top = entV ⟨1, 1, 2⟩ := rfl
  have c4 : ((((([2, 3] : List Int).map I64).length : Nat) : Int) == 2) = true := rfl
  have c5 : (([2, 3] : List Int).map I64).getD (1 : Int).toNat .top = I64 3 := rfl
  have c6 : ((0 : Int) < (((x2.l.map entV).length : Nat) : Int)) = True := eq_true (by decide)
  have c7 : ((1 : Int) < ((((([2, 3] : List Int).map I64).length : Nat) : Int))) = True := eq_true (by decide)
  ((try simp only [go_sem, loadL_a, c1, c2, c3, c4, c5, c6, c7, entC, beq_self_eq_true, Int.le_refl, Bool.and_self]); (try ((first | refine hK _ _ ?_ | refine hKP _ _ _ ?_ | refine hKP _ _ (fun _ => ?_)); clear hK hKP K KP)); repeat (first | refine Stp.s ?_ | refine inBlock_exit' (by decide) ?_ | ((first | refine vc_region fun K KP hK hKP => ?_ | refine Stg.s ?_ | refine guardD_ret0 ?_ | refine exV_intro _ rfl ?_); (try simp only [go_sem, loadL_a, c1, c2, c3, c4, c5, c6, c7, entC, beq_self_eq_true, Int.le_refl, Bool.and_self]); try ((first | refine hK _ _ ?_ | refine hKP _ _ _ ?_ | refine hKP _ _ (fun _ => ?_)); clear hK hKP K KP))))
  ((try simp only [go_sem, loadL_a]); refine callV_quiet en55 (hvec) ?_)
  ((try simp only [go_sem, loadL_a, c1, c2, c3, c4, c5, c6, c7, entC, beq_self_eq_true, Int.le_refl, Bool.and_self]); (try ((first | refine hK _ _ ?_ | refine hKP _ _ _ ?_ | refine hKP _ _ (fun _ => ?_)); clear hK hKP K KP)); repeat (first | refine Stp.s ?_ | refine inBlock_exit' (by decide) ?_ | ((first | refine vc_region fun K KP hK hKP => ?_ | refine Stg.s ?_ | refine guardD_ret0 ?_ | refine exV_intro _ rfl ?_); (try simp only [go_sem, loadL_a, c1, c2, c3, c4, c5, c6, c7, entC, beq_self_eq_true, Int.le_refl, Bool.and_self]); try ((first | refine hK _ _ ?_ | refine hKP _ _ _ ?_ | refine hKP _ _ (fun _ => ?_)); clear hK hKP K KP))))
  ((try simp only [go_sem, loadL_a]); refine callV_quiet en55 (hvecc) ?_)
  ((try simp only [go_sem, loadL_a, c1, c2, c3, c4, c5, c6, c7, entC, beq_self_eq_true, Int.le_refl, Bool.and_self]); (try ((first | refine hK _ _ ?_ | refine hKP _ _ _ ?_ | refine hKP _ _ (fun _ => ?_)); clear hK hKP K KP)); repeat (first | refine Stp.s ?_ | refine inBlock_exit' (by decide) ?_ | ((first | refine vc_region fun K KP hK hKP => ?_ | refine Stg.s ?_ | refine guardD_ret0 ?_ | refine exV_intro _ rfl ?_); (try simp only [go_sem, loadL_a, c1, c2, c3, c4, c5, c6, c7, entC, beq_self_eq_true, Int.le_refl, Bool.and_self]); try ((first | refine hK _ _ ?_ | refine hKP _ _ _ ?_ | refine hKP _ _ (fun _ => ?_)); clear hK hKP K KP))))
  ((try simp only [go_sem, loadL_a]); refine callV_quiet en55 (hvec) ?_)
  have d1 : (((2 : Nat) : Int) == 2) = true := rfl
  have d2 : ((0 : Int) ≤ 1) = True := eq_true (by decide)
  have d3 : ((1 : Int) < ((2 : Nat) : Int)) = True := eq_true (by decide)
  have d4 : [I64 2, I64 3].getD (Int.toNat 1) .top = I64 3 := rfl
  have d5 : (x2.cart == 1) = true := rfl
  have d6 : ((((D.map fun d => V.agg (encD d)).length : Nat) : Int) == 1) = true := by rw [List.length_map, hdl]; rfl
  ((try simp only [go_sem, loadL_a, c1, c2, c3, c4, c5, c6, c7, d1, d2, d3, d4, entC, beq_self_eq_true, Int.le_refl, Bool.and_self]); (try ((first | refine hK _ _ ?_ | refine hKP _ _ _ ?_ | refine hKP _ _ (fun _ => ?_)); clear hK hKP K KP)); repeat (first | refine Stp.s ?_ | refine inBlock_exit' (by decide) ?_ | ((first | refine vc_region fun K KP hK hKP => ?_ | refine Stg.s ?_ | refine guardD_ret0 ?_ | refine exV_intro _ rfl ?_); (try simp only [go_sem, loadL_a, c1, c2, c3, c4, c5, c6, c7, d1, d2, d3, d4, entC, beq_self_eq_true, Int.le_refl, Bool.and_self]); try ((first | refine hK _ _ ?_ | refine hKP _ _ _ ?_ | refine hKP _ _ (fun _ => ?_)); clear hK hKP K KP))))
  ((try simp only [go_sem, loadL_a]); refine callV_quiet en50 (hcart) ?_)
  ((try simp only [go_sem, loadL_a, d1, d2, d3, d4, d5, d6, entC, beq_self_eq_true, Int.le_refl, Bool.and_self]); (try ((first | refine hK _ _ ?_ | refine hKP _ _ _ ?_ | refine hKP _ _ (fun _ => ?_)); clear hK hKP K KP)); repeat (first | refine Stp.s ?_ | refine inBlock_exit' (by decide) ?_ | ((first | refine vc_region fun K KP hK hKP => ?_ | refine Stg.s ?_ | refine guardD_ret0 ?_ | refine exV_intro _ rfl ?_); (try simp only [go_sem, loadL_a, d1, d2, d3, d4, d5, d6, entC, beq_self_eq_true, Int.le_refl, Bool.and_self]); try ((first | refine hK _ _ ?_ | refine hKP _ _ _ ?_ | refine hKP _ _ (fun _ => ?_)); clear hK hKP K KP))))
  ((try simp only [go_sem, loadL_a]); refine callV_quiet en55 (hvec) ?_)
  ((try simp only [go_sem, loadL_a, d1, d2, d3, d4, d5, d6, entC, beq_self_eq_true, Int.le_refl, Bool.and_self]); (try ((first | refine hK _ _ ?_ | refine hKP _ _ _ ?_ | refine hKP _ _ (fun _ => ?_)); clear hK hKP K KP)); repeat (first | refine Stp.s ?_ | refine inBlock_exit' (by decide) ?_ | ((first | refine vc_region fun K KP hK hKP => ?_ | refine Stg.s ?_ | refine guardD_ret0 ?_ | refine exV_intro _ rfl ?_); (try simp only [go_sem, loadL_a, d1, d2, d3, d4, d5, d6, entC, beq_self_eq_true, Int.le_refl, Bool.and_self]); try ((first | refine hK _ _ ?_ | refine hKP _ _ _ ?_ | refine hKP _ _ (fun _ => ?_)); clear hK hKP K KP))))
  ((try simp only [go_sem, loadL_a]); refine callV_quiet en54 (hdot) ?_)
  ((try simp only [go_sem, loadL_a, d1, d2, d3, d4, d5, d6, entC, beq_self_eq_true, Int.le_refl, Bool.and_self]); (try ((first | refine hK _ _ ?_ | refine hKP _ _ _ ?_ | refine hKP _ _ (fun _ => ?_)); clear hK hKP K KP)); repeat (first | refine Stp.s ?_ | refine inBlock_exit' (by decide) ?_ | ((first | refine vc_region fun K KP hK hKP => ?_ | refine Stg.s ?_ | refine guardD_ret0 ?_ | refine exV_intro _ rfl ?_); (try simp only [go_sem, loadL_a, d1, d2, d3, d4, d5, d6, entC, beq_self_eq_true, Int.le_refl, Bool.and_self]); try ((first | refine hK _ _ ?_ | refine hKP _ _ _ ?_ | refine hKP _ _ (fun _ => ?_)); clear hK hKP K KP))))
  (simp only [postV, resV, oneOf, List.getD_cons_succ, List.getD_cons_zero, and_true, true_and])
  exact Ends.le rfl hleS
end Go.Proofs.YtociliegljoldaaGreat
