/- Dots: how they stand to each other; few of them sorted. -/
import Derived.Test.YtociliegljoldaaGreatI9
namespace Go.Proofs.YtociliegljoldaaGreat
set_option linter.unusedSimpArgs false
set_option linter.unusedVariables false
open Go.Proofs
attribute [local irreducible] vc vcOps vcDraw vcK vcKP vcDK vcDB HWp HCalls postV Ex.then Ex.inBlock stepD callV appendV guardC guardD exV effV opV loadV storeV indexAddrV indexV sliceV
set_option maxRecDepth 10000
set_option maxHeartbeats 4000000

def cmpI (a b : Int) : Int := if a < b then -1 else if b < a then 1 else 0
theorem cmpInt_pure (a b : Int) : HPure Tryz.prog 119 [I64 a, I64 b] (I64 (cmpI a b)) := by
  (refine HPure.of en119 fun σ => ?_); (refine HCalls.of_vc Tryz.func119 rfl ?_; rw [Tryz.ntmps119, Tryz.results119]; simp only [List.length_cons, List.length_nil, Nat.reduceAdd, Nat.reduceSub, List.replicate, List.cons_append, List.nil_append])
  (repeat (first | refine Stp.s ?_ | refine inBlock_exit' (by decide) ?_ | ((first | refine vc_region fun K KP hK hKP => ?_ | refine Stg.s ?_ | refine guardD_ret0 ?_ | refine exV_intro _ rfl ?_); (try simp only [go_sem, loadL_a]); try ((first | refine hK _ _ ?_ | refine hKP _ _ _ ?_ | refine hKP _ _ (fun _ => ?_)); clear hK hKP K KP))))
  ((try simp only [go_sem, loadL_a]); first | refine callV_pure (isNaN_pure _) ?_ | refine guardC_q0 (fun _ => callV_pure (isNaN_pure _) ⟨rfl, rfl⟩) ?_)
  ((try simp only [go_sem, loadL_a]); (try ((first | refine hK _ _ ?_ | refine hKP _ _ _ ?_ | refine hKP _ _ (fun _ => ?_)); clear hK hKP K KP)); repeat (first | refine Stp.s ?_ | refine inBlock_exit' (by decide) ?_ | ((first | refine vc_region fun K KP hK hKP => ?_ | refine Stg.s ?_ | refine guardD_ret0 ?_ | refine exV_intro _ rfl ?_); (try simp only [go_sem, loadL_a]); try ((first | refine hK _ _ ?_ | refine hKP _ _ _ ?_ | refine hKP _ _ (fun _ => ?_)); clear hK hKP K KP))))
  ((try simp only [go_sem, loadL_a]); first | refine callV_pure (isNaN_pure _) ?_ | refine guardC_q0 (fun _ => callV_pure (isNaN_pure _) ⟨rfl, rfl⟩) ?_)
  ((try simp only [go_sem, loadL_a]); (try ((first | refine hK _ _ ?_ | refine hKP _ _ _ ?_ | refine hKP _ _ (fun _ => ?_)); clear hK hKP K KP)); repeat (first | refine Stp.s ?_ | refine inBlock_exit' (by decide) ?_ | ((first | refine vc_region fun K KP hK hKP => ?_ | refine Stg.s ?_ | refine guardD_ret0 ?_ | refine exV_intro _ rfl ?_); (try simp only [go_sem, loadL_a]); try ((first | refine hK _ _ ?_ | refine hKP _ _ _ ?_ | refine hKP _ _ (fun _ => ?_)); clear hK hKP K KP))))
  refine vc_cond rfl (fun hc => absurd hc (by decide)) (fun _ => ?_)
  (repeat (first | refine Stp.s ?_ | refine inBlock_exit' (by decide) ?_ | ((first | refine vc_region fun K KP hK hKP => ?_ | refine Stg.s ?_ | refine guardD_ret0 ?_ | refine exV_intro _ rfl ?_); (try simp only [go_sem, loadL_a]); try ((first | refine hK _ _ ?_ | refine hKP _ _ _ ?_ | refine hKP _ _ (fun _ => ?_)); clear hK hKP K KP))))
  refine vc_cond rfl (fun hc => absurd hc (by decide)) (fun _ => ?_)
  (repeat (first | refine Stp.s ?_ | refine inBlock_exit' (by decide) ?_ | ((first | refine vc_region fun K KP hK hKP => ?_ | refine Stg.s ?_ | refine guardD_ret0 ?_ | refine exV_intro _ rfl ?_); (try simp only [go_sem, loadL_a]); try ((first | refine hK _ _ ?_ | refine hKP _ _ _ ?_ | refine hKP _ _ (fun _ => ?_)); clear hK hKP K KP))))
  refine vc_cond rfl (fun hc => ?_) (fun hc => ?_)
  · (repeat (first | refine Stp.s ?_ | refine inBlock_exit' (by decide) ?_ | ((first | refine vc_region fun K KP hK hKP => ?_ | refine Stg.s ?_ | refine guardD_ret0 ?_ | refine exV_intro _ rfl ?_); (try simp only [go_sem, loadL_a]); try ((first | refine hK _ _ ?_ | refine hKP _ _ _ ?_ | refine hKP _ _ (fun _ => ?_)); clear hK hKP K KP))))
    (simp only [postV, resV, oneOf, List.getD_cons_succ, List.getD_cons_zero, and_true, true_and])
    refine Ends.le ?_ (Store.le_refl _)
    unfold cmpI; rw [if_pos (by simpa using hc)]
  · (repeat (first | refine Stp.s ?_ | refine inBlock_exit' (by decide) ?_ | ((first | refine vc_region fun K KP hK hKP => ?_ | refine Stg.s ?_ | refine guardD_ret0 ?_ | refine exV_intro _ rfl ?_); (try simp only [go_sem, loadL_a]); try ((first | refine hK _ _ ?_ | refine hKP _ _ _ ?_ | refine hKP _ _ (fun _ => ?_)); clear hK hKP K KP))))
    have hc := of_decide_eq_false hc
    refine vc_cond rfl (fun hd => ?_) (fun hd => ?_)
    · (repeat (first | refine Stp.s ?_ | refine inBlock_exit' (by decide) ?_ | ((first | refine vc_region fun K KP hK hKP => ?_ | refine Stg.s ?_ | refine guardD_ret0 ?_ | refine exV_intro _ rfl ?_); (try simp only [go_sem, loadL_a]); try ((first | refine hK _ _ ?_ | refine hKP _ _ _ ?_ | refine hKP _ _ (fun _ => ?_)); clear hK hKP K KP))))
      (simp only [postV, resV, oneOf, List.getD_cons_succ, List.getD_cons_zero, and_true, true_and])
      refine Ends.le ?_ (Store.le_refl _)
      unfold cmpI; rw [if_neg hc, if_pos (by simpa using hd)]
    · (repeat (first | refine Stp.s ?_ | refine inBlock_exit' (by decide) ?_ | ((first | refine vc_region fun K KP hK hKP => ?_ | refine Stg.s ?_ | refine guardD_ret0 ?_ | refine exV_intro _ rfl ?_); (try simp only [go_sem, loadL_a]); try ((first | refine hK _ _ ?_ | refine hKP _ _ _ ?_ | refine hKP _ _ (fun _ => ?_)); clear hK hKP K KP))))
      (simp only [postV, resV, oneOf, List.getD_cons_succ, List.getD_cons_zero, and_true, true_and])
      refine Ends.le ?_ (Store.le_refl _)
      unfold cmpI; rw [if_neg hc, if_neg (by simpa using hd)]
theorem isNaN32_pure (n : Int) : HPure Tryz.prog 175 [.val (.int .u32 n)] (BV false) := by
  (refine HPure.of en175 fun σ => ?_); (refine HCalls.of_vc Tryz.func175 rfl ?_; rw [Tryz.ntmps175, Tryz.results175]; simp only [List.length_cons, List.length_nil, Nat.reduceAdd, Nat.reduceSub, List.replicate, List.cons_append, List.nil_append])
  (repeat (first | refine Stp.s ?_ | refine inBlock_exit' (by decide) ?_ | ((first | refine vc_region fun K KP hK hKP => ?_ | refine Stg.s ?_ | refine guardD_ret0 ?_ | refine exV_intro _ rfl ?_); (try simp only [go_sem, loadL_a]); try ((first | refine hK _ _ ?_ | refine hKP _ _ _ ?_ | refine hKP _ _ (fun _ => ?_)); clear hK hKP K KP))))
  (simp only [postV, resV, oneOf, List.getD_cons_succ, List.getD_cons_zero, and_true, true_and])
  exact Ends.le (by simp) (Store.le_refl _)
theorem cmp32_pure (a b : Int) : HPure Tryz.prog 120 [.val (.int .u32 a), .val (.int .u32 b)] (I64 (cmpI a b)) := by
  (refine HPure.of en120 fun σ => ?_); (refine HCalls.of_vc Tryz.func120 rfl ?_; rw [Tryz.ntmps120, Tryz.results120]; simp only [List.length_cons, List.length_nil, Nat.reduceAdd, Nat.reduceSub, List.replicate, List.cons_append, List.nil_append])
  (repeat (first | refine Stp.s ?_ | refine inBlock_exit' (by decide) ?_ | ((first | refine vc_region fun K KP hK hKP => ?_ | refine Stg.s ?_ | refine guardD_ret0 ?_ | refine exV_intro _ rfl ?_); (try simp only [go_sem, loadL_a]); try ((first | refine hK _ _ ?_ | refine hKP _ _ _ ?_ | refine hKP _ _ (fun _ => ?_)); clear hK hKP K KP))))
  ((try simp only [go_sem, loadL_a]); first | refine callV_pure (isNaN32_pure _) ?_ | refine guardC_q0 (fun _ => callV_pure (isNaN32_pure _) ⟨rfl, rfl⟩) ?_)
  ((try simp only [go_sem, loadL_a]); (try ((first | refine hK _ _ ?_ | refine hKP _ _ _ ?_ | refine hKP _ _ (fun _ => ?_)); clear hK hKP K KP)); repeat (first | refine Stp.s ?_ | refine inBlock_exit' (by decide) ?_ | ((first | refine vc_region fun K KP hK hKP => ?_ | refine Stg.s ?_ | refine guardD_ret0 ?_ | refine exV_intro _ rfl ?_); (try simp only [go_sem, loadL_a]); try ((first | refine hK _ _ ?_ | refine hKP _ _ _ ?_ | refine hKP _ _ (fun _ => ?_)); clear hK hKP K KP))))
  ((try simp only [go_sem, loadL_a]); first | refine callV_pure (isNaN32_pure _) ?_ | refine guardC_q0 (fun _ => callV_pure (isNaN32_pure _) ⟨rfl, rfl⟩) ?_)
  ((try simp only [go_sem, loadL_a]); (try ((first | refine hK _ _ ?_ | refine hKP _ _ _ ?_ | refine hKP _ _ (fun _ => ?_)); clear hK hKP K KP)); repeat (first | refine Stp.s ?_ | refine inBlock_exit' (by decide) ?_ | ((first | refine vc_region fun K KP hK hKP => ?_ | refine Stg.s ?_ | refine guardD_ret0 ?_ | refine exV_intro _ rfl ?_); (try simp only [go_sem, loadL_a]); try ((first | refine hK _ _ ?_ | refine hKP _ _ _ ?_ | refine hKP _ _ (fun _ => ?_)); clear hK hKP K KP))))
  refine vc_cond rfl (fun hc => absurd hc (by decide)) (fun _ => ?_)
  (repeat (first | refine Stp.s ?_ | refine inBlock_exit' (by decide) ?_ | ((first | refine vc_region fun K KP hK hKP => ?_ | refine Stg.s ?_ | refine guardD_ret0 ?_ | refine exV_intro _ rfl ?_); (try simp only [go_sem, loadL_a]); try ((first | refine hK _ _ ?_ | refine hKP _ _ _ ?_ | refine hKP _ _ (fun _ => ?_)); clear hK hKP K KP))))
  refine vc_cond rfl (fun hc => absurd hc (by decide)) (fun _ => ?_)
  (repeat (first | refine Stp.s ?_ | refine inBlock_exit' (by decide) ?_ | ((first | refine vc_region fun K KP hK hKP => ?_ | refine Stg.s ?_ | refine guardD_ret0 ?_ | refine exV_intro _ rfl ?_); (try simp only [go_sem, loadL_a]); try ((first | refine hK _ _ ?_ | refine hKP _ _ _ ?_ | refine hKP _ _ (fun _ => ?_)); clear hK hKP K KP))))
  refine vc_cond rfl (fun hc => ?_) (fun hc => ?_)
  · (repeat (first | refine Stp.s ?_ | refine inBlock_exit' (by decide) ?_ | ((first | refine vc_region fun K KP hK hKP => ?_ | refine Stg.s ?_ | refine guardD_ret0 ?_ | refine exV_intro _ rfl ?_); (try simp only [go_sem, loadL_a]); try ((first | refine hK _ _ ?_ | refine hKP _ _ _ ?_ | refine hKP _ _ (fun _ => ?_)); clear hK hKP K KP))))
    (simp only [postV, resV, oneOf, List.getD_cons_succ, List.getD_cons_zero, and_true, true_and])
    refine Ends.le ?_ (Store.le_refl _)
    unfold cmpI; rw [if_pos (by simpa using hc)]
  · (repeat (first | refine Stp.s ?_ | refine inBlock_exit' (by decide) ?_ | ((first | refine vc_region fun K KP hK hKP => ?_ | refine Stg.s ?_ | refine guardD_ret0 ?_ | refine exV_intro _ rfl ?_); (try simp only [go_sem, loadL_a]); try ((first | refine hK _ _ ?_ | refine hKP _ _ _ ?_ | refine hKP _ _ (fun _ => ?_)); clear hK hKP K KP))))
    have hc := of_decide_eq_false hc
    refine vc_cond rfl (fun hd => ?_) (fun hd => ?_)
    · (repeat (first | refine Stp.s ?_ | refine inBlock_exit' (by decide) ?_ | ((first | refine vc_region fun K KP hK hKP => ?_ | refine Stg.s ?_ | refine guardD_ret0 ?_ | refine exV_intro _ rfl ?_); (try simp only [go_sem, loadL_a]); try ((first | refine hK _ _ ?_ | refine hKP _ _ _ ?_ | refine hKP _ _ (fun _ => ?_)); clear hK hKP K KP))))
      (simp only [postV, resV, oneOf, List.getD_cons_succ, List.getD_cons_zero, and_true, true_and])
      refine Ends.le ?_ (Store.le_refl _)
      unfold cmpI; rw [if_neg hc, if_pos (by simpa using hd)]
    · (repeat (first | refine Stp.s ?_ | refine inBlock_exit' (by decide) ?_ | ((first | refine vc_region fun K KP hK hKP => ?_ | refine Stg.s ?_ | refine guardD_ret0 ?_ | refine exV_intro _ rfl ?_); (try simp only [go_sem, loadL_a]); try ((first | refine hK _ _ ?_ | refine hKP _ _ _ ?_ | refine hKP _ _ (fun _ => ?_)); clear hK hKP K KP))))
      (simp only [postV, resV, oneOf, List.getD_cons_succ, List.getD_cons_zero, and_true, true_and])
      refine Ends.le ?_ (Store.le_refl _)
      unfold cmpI; rw [if_neg hc, if_neg (by simpa using hd)]
theorem or2_pure (a b : Int) : HPure Tryz.prog 118 [.lst 1 [I64 a, I64 b]] (I64 (if a ≠ 0 then a else b)) := by
  (refine HPure.of en118 fun σ => ?_); (refine HCalls.of_vc Tryz.func118 rfl ?_; rw [Tryz.ntmps118, Tryz.results118]; simp only [List.length_cons, List.length_nil, Nat.reduceAdd, Nat.reduceSub, List.replicate, List.cons_append, List.nil_append])
  (repeat (first | refine Stp.s ?_ | refine inBlock_exit' (by decide) ?_ | ((first | refine vc_region fun K KP hK hKP => ?_ | refine Stg.s ?_ | refine guardD_ret0 ?_ | refine exV_intro _ rfl ?_); (try simp only [go_sem, loadL_a]); try ((first | refine hK _ _ ?_ | refine hKP _ _ _ ?_ | refine hKP _ _ (fun _ => ?_)); clear hK hKP K KP))))
  refine vc_loop (loopV (fun (i : Nat) => [.lst 1 [I64 a, I64 b], .top, .top, I64 0, .top, .top, .lst 1 [I64 a, I64 b], I64 (2 : Nat), I64 i, .top, .top, .top, .top, .top, .top, .top, .top, .top]) (fun i τ => i ≤ 2 ∧ τ = σ ∧ (i ≠ 0 → a = 0) ∧ (i = 2 → b = 0)) (fun i _ => 2 - i) 0 (by repeat (first | exact LeEnv.nil | refine LeEnv.same ?_ | refine LeEnv.top ?_)) ⟨by omega, rfl, fun h => absurd rfl h, fun h => by cases h⟩ ?_)
  rintro i τ ⟨hi, rfl, ha, hb⟩
  have w1 := i64_up (show i ≤ 10000000 by omega)
  (repeat (first | refine Stp.s ?_ | refine inBlock_exit' (by decide) ?_ | ((first | refine vc_region fun K KP hK hKP => ?_ | refine Stg.s ?_ | refine guardD_ret0 ?_ | refine exV_intro _ rfl ?_); (try simp only [go_sem, loadL_a]); try ((first | refine hK _ _ ?_ | refine hKP _ _ _ ?_ | refine hKP _ _ (fun _ => ?_)); clear hK hKP K KP))))
  refine vc_cond rfl (fun hq => ?_) (fun hq => ?_)
  · have hlt : i < 2 := by simp at hq; omega
    have g0 := eq_true (show (0 : Int) ≤ (i : Int) by omega)
    have g1 := eq_true (show (i : Int) < ((2 : Nat) : Int) by omega)
    obtain ⟨y, hy, hyy⟩ : ∃ y, [I64 a, I64 b].getD i .top = I64 y ∧ (y ≠ 0 → (if a ≠ 0 then a else b) = y) ∧ (y = 0 → (i + 1 ≠ 0 → a = 0) ∧ (i + 1 = 2 → b = 0)) := by
      obtain rfl | rfl : i = 0 ∨ i = 1 := by omega
      · exact ⟨a, rfl, fun h => if_pos h, fun h => ⟨fun _ => h, fun q => by omega⟩⟩
      · refine ⟨b, rfl, fun h => if_neg (by rw [ha (by decide)]; simp), fun h => ⟨fun _ => ha (by decide), fun _ => h⟩⟩
    (repeat (first | refine Stp.s ?_ | refine inBlock_exit' (by decide) ?_ | ((first | refine vc_region fun K KP hK hKP => ?_ | refine Stg.s ?_ | refine guardD_ret0 ?_ | refine exV_intro _ rfl ?_); (try simp only [go_sem, loadL_a, g0, g1, hy, Int.toNat_natCast]); try ((first | refine hK _ _ ?_ | refine hKP _ _ _ ?_ | refine hKP _ _ (fun _ => ?_)); clear hK hKP K KP))))
    refine vc_cond rfl (fun hq => ?_) (fun hq => ?_)
    · (repeat (first | refine Stp.s ?_ | refine inBlock_exit' (by decide) ?_ | ((first | refine vc_region fun K KP hK hKP => ?_ | refine Stg.s ?_ | refine guardD_ret0 ?_ | refine exV_intro _ rfl ?_); (try simp only [go_sem, loadL_a]); try ((first | refine hK _ _ ?_ | refine hKP _ _ _ ?_ | refine hKP _ _ (fun _ => ?_)); clear hK hKP K KP))))
      (simp only [postV, resV, oneOf, List.getD_cons_succ, List.getD_cons_zero, and_true, true_and])
      refine Ends.le ?_ (Store.le_refl _)
      rw [hyy.1 (by simpa using hq)]
    · have hy0 : y = 0 := by simpa using hq
      (repeat (first | refine Stp.s ?_ | refine inBlock_exit' (by decide) ?_ | ((first | refine vc_region fun K KP hK hKP => ?_ | refine Stg.s ?_ | refine guardD_ret0 ?_ | refine exV_intro _ rfl ?_); (try simp only [go_sem, loadL_a, w1]); try ((first | refine hK _ _ ?_ | refine hKP _ _ _ ?_ | refine hKP _ _ (fun _ => ?_)); clear hK hKP K KP))))
      exact ⟨i + 1, _, (by repeat (first | exact LeEnv.nil | refine LeEnv.same ?_ | refine LeEnv.top ?_)), Store.le_refl _, ⟨hlt, rfl, (hyy.2 hy0).1, (hyy.2 hy0).2⟩, by show 2 - (i + 1) < 2 - i; omega⟩
  · have hi2 : i = 2 := by simp at hq; omega
    subst hi2
    (repeat (first | refine Stp.s ?_ | refine inBlock_exit' (by decide) ?_ | ((first | refine vc_region fun K KP hK hKP => ?_ | refine Stg.s ?_ | refine guardD_ret0 ?_ | refine exV_intro _ rfl ?_); (try simp only [go_sem, loadL_a]); try ((first | refine hK _ _ ?_ | refine hKP _ _ _ ?_ | refine hKP _ _ (fun _ => ?_)); clear hK hKP K KP))))
    (simp only [postV, resV, oneOf, List.getD_cons_succ, List.getD_cons_zero, and_true, true_and])
    refine Ends.le ?_ (Store.le_refl _)
    rw [ha (by decide), hb rfl]; rfl
/-- Dots that may be entries' ones. -/
structure Dt where
  node : Int
  n : Nat
  hn : 0 ≤ node
  hb : n < 4294967296
instance : Inhabited Dt := ⟨⟨0, 0, by decide, by decide⟩⟩
def encD (d : Dt) : List V := [I64 d.node, U32 d.n]
def keyD (d : Dt) : Nat := d.node.toNat * 4294967296 + d.n
def cvD (a b : Dt) : Int := if cmpI a.node b.node ≠ 0 then cmpI a.node b.node else cmpI a.n b.n
theorem eltD : Elt 2 encD := ⟨fun _ => rfl, fun d c hc => by simp only [encD, List.mem_cons, List.not_mem_nil, or_false] at hc; rcases hc with rfl | rfl <;> rfl⟩
theorem cmpD_pure (a b : Dt) : HPure Tryz.prog 117 [.agg (encD a), .agg (encD b)] (I64 (cvD a b)) := by
  (refine HPure.of en117 fun σ => ?_); (refine HCalls.of_vc Tryz.func117 rfl ?_; rw [Tryz.ntmps117, Tryz.results117]; simp only [List.length_cons, List.length_nil, Nat.reduceAdd, Nat.reduceSub, List.replicate, List.cons_append, List.nil_append])
  (repeat (first | refine Stp.s ?_ | refine inBlock_exit' (by decide) ?_ | ((first | refine vc_region fun K KP hK hKP => ?_ | refine Stg.s ?_ | refine guardD_ret0 ?_ | refine exV_intro _ rfl ?_); (try simp only [go_sem, loadL_a, encD]); try ((first | refine hK _ _ ?_ | refine hKP _ _ _ ?_ | refine hKP _ _ (fun _ => ?_)); clear hK hKP K KP))))
  intro c2 hc2 c3 hc3
  have q2 := Store.keep hc3 (Store.set_same σ c2 (.cells [I64 a.node, U32 a.n])) (.cells [I64 b.node, U32 b.n])
  have q3 := Store.set_same (σ.set c2 (.cells [I64 a.node, U32 a.n])) c3 (.cells [I64 b.node, U32 b.n])
  have hle := Store.le_set hc3 (Store.le_set hc2 (Store.le_refl σ) (k := .cells [I64 a.node, U32 a.n])) (k := .cells [I64 b.node, U32 b.n])
  generalize (σ.set c2 _).set c3 _ = σ1 at *
  ((try simp only [go_sem, loadL_a]); (try ((first | refine hK _ _ ?_ | refine hKP _ _ _ ?_ | refine hKP _ _ (fun _ => ?_)); clear hK hKP K KP)); repeat (first | refine Stp.s ?_ | refine inBlock_exit' (by decide) ?_ | ((first | refine vc_region fun K KP hK hKP => ?_ | refine Stg.s ?_ | refine guardD_ret0 ?_ | refine exV_intro _ rfl ?_); (try simp only [go_sem, loadL_a]); try ((first | refine hK _ _ ?_ | refine hKP _ _ _ ?_ | refine hKP _ _ (fun _ => ?_)); clear hK hKP K KP))))
  ((repeat first | refine Stp.s ?_ | refine inBlock_exit' (by decide) ?_); refine vc_draw mixed [ 10, 11 ] [0, 1, 2, 3, 4, 5, 6, 7, 8, 9, 10, 11, 12 ] [ 1, 3, 6, 8 ] [] (fun _ => True) (by kernel_rfl) (by kernel_rfl) (by kernel_rfl) trivial fun K KP hK hKP => ?_; simp only [go_sem, loadL_a, q2, q3]; try (refine hK _ _ ?_; clear hK hKP K KP))
  ((try simp only [go_sem, loadL_a, q2, q3]); (try ((first | refine hK _ _ ?_ | refine hKP _ _ _ ?_ | refine hKP _ _ (fun _ => ?_)); clear hK hKP K KP)); repeat (first | refine Stp.s ?_ | refine inBlock_exit' (by decide) ?_ | ((first | refine vc_region fun K KP hK hKP => ?_ | refine Stg.s ?_ | refine guardD_ret0 ?_ | refine exV_intro _ rfl ?_); (try simp only [go_sem, loadL_a, q2, q3]); try ((first | refine hK _ _ ?_ | refine hKP _ _ _ ?_ | refine hKP _ _ (fun _ => ?_)); clear hK hKP K KP))))
  ((try simp only [go_sem, loadL_a]); first | refine exV_intro _ (callV_pure (cmpInt_pure _ _) ⟨rfl, rfl⟩) ?_ | refine exV_intro _ (fun _ => callV_pure (cmpInt_pure _ _) ⟨rfl, rfl⟩) ?_ | refine exV_intro _ (fun _ _ => callV_pure (cmpInt_pure _ _) ⟨rfl, rfl⟩) ?_)
  ((try simp only [go_sem, loadL_a, q2, q3]); (try ((first | refine hK _ _ ?_ | refine hKP _ _ _ ?_ | refine hKP _ _ (fun _ => ?_)); clear hK hKP K KP)); repeat (first | refine Stp.s ?_ | refine inBlock_exit' (by decide) ?_ | ((first | refine vc_region fun K KP hK hKP => ?_ | refine Stg.s ?_ | refine guardD_ret0 ?_ | refine exV_intro _ rfl ?_); (try simp only [go_sem, loadL_a, q2, q3]); try ((first | refine hK _ _ ?_ | refine hKP _ _ _ ?_ | refine hKP _ _ (fun _ => ?_)); clear hK hKP K KP))))
  ((try simp only [go_sem, loadL_a]); first | refine exV_intro _ (callV_pure (cmp32_pure _ _) ⟨rfl, rfl⟩) ?_ | refine exV_intro _ (fun _ => callV_pure (cmp32_pure _ _) ⟨rfl, rfl⟩) ?_ | refine exV_intro _ (fun _ _ => callV_pure (cmp32_pure _ _) ⟨rfl, rfl⟩) ?_)
  ((try simp only [go_sem, loadL_a, q2, q3]); (try ((first | refine hK _ _ ?_ | refine hKP _ _ _ ?_ | refine hKP _ _ (fun _ => ?_)); clear hK hKP K KP)); repeat (first | refine Stp.s ?_ | refine inBlock_exit' (by decide) ?_ | ((first | refine vc_region fun K KP hK hKP => ?_ | refine Stg.s ?_ | refine guardD_ret0 ?_ | refine exV_intro _ rfl ?_); (try simp only [go_sem, loadL_a, q2, q3]); try ((first | refine hK _ _ ?_ | refine hKP _ _ _ ?_ | refine hKP _ _ (fun _ => ?_)); clear hK hKP K KP))))
  intro c hc
  refine effV_true ?_
  have hB : Bld 1 σ1 (σ1.set c (.cells [I64 (cmpI a.node b.node), I64 (cmpI a.n b.n)])) (.sl c 0 2 2) [I64 (cmpI a.node b.node), I64 (cmpI a.n b.n)] 2 := .inr ⟨c, 2, [], rfl, hc, rfl, rfl, by simp, Nat.le_refl _, by decide⟩
  have hle2 := Store.le_set hc hle (k := .cells [I64 (cmpI a.node b.node), I64 (cmpI a.n b.n)])
  refine callV_borrow (or2_pure (cmpI a.node b.node) (cmpI a.n b.n)) (fun I w vs hs hv => ?_) ?_
  · rcases vs with _ | ⟨v, _ | ⟨v', vs⟩⟩
    · have := hv.len; simp at this
    · exact LR.cons ((Bld.weakens hB (Store.le_refl _) rfl rfl (fun x hx => by simp only [List.mem_cons, List.not_mem_nil, or_false] at hx; rcases hx with rfl | rfl <;> rfl)).heap hs hv.head) (LR.nil _)
    · have := hv.len; simp at this
  · ((try simp only [go_sem, loadL_a]); (try ((first | refine hK _ _ ?_ | refine hKP _ _ _ ?_ | refine hKP _ _ (fun _ => ?_)); clear hK hKP K KP)); repeat (first | refine Stp.s ?_ | refine inBlock_exit' (by decide) ?_ | ((first | refine vc_region fun K KP hK hKP => ?_ | refine Stg.s ?_ | refine guardD_ret0 ?_ | refine exV_intro _ rfl ?_); (try simp only [go_sem, loadL_a]); try ((first | refine hK _ _ ?_ | refine hKP _ _ _ ?_ | refine hKP _ _ (fun _ => ?_)); clear hK hKP K KP))))
    (simp only [postV, resV, oneOf, List.getD_cons_succ, List.getD_cons_zero, and_true, true_and])
    refine Ends.le ?_ hle2
    rfl
theorem cmpI_lt (a b : Int) : cmpI a b < 0 ↔ a < b := by 
  unfold cmpI
  by_cases h : a < b
  · rw [if_pos h]; exact ⟨fun _ => h, fun _ => by decide⟩
  · rw [if_neg h]
    refine ⟨fun q => ?_, fun q => absurd q h⟩
    split at q
    · exact absurd q (by decide)
    · exact absurd q (by decide)
theorem cmpI_z (a b : Int) : cmpI a b = 0 ↔ a = b := by
  unfold cmpI
  split
  · simp; omega
  · split
    · simp; omega
    · simp; omega
theorem cmprD : Cmpr Tryz.prog 117 [] [] encD keyD cvD := ⟨fun a b => cmpD_pure a b, fun a b => by
  have h1 := a.hn
  have h2 := b.hn
  have h3 := a.hb
  have h4 := b.hb
  unfold cvD keyD
  by_cases e : a.node = b.node
  · have : cmpI a.node b.node = 0 := (cmpI_z _ _).2 e
    rw [if_neg (by simp [this]), cmpI_lt]; omega
  · have : cmpI a.node b.node ≠ 0 := fun q => e ((cmpI_z _ _).1 q)
    rw [if_pos this, cmpI_lt]; omega⟩
section
variable {α : Type} [Inhabited α] {enc : α → List V} {key : α → Nat} {cv : α → α → Int} {g : FuncId} {ps qs : List V}
theorem sdot_load (hE : Elt 2 enc) {m : List α} {spare : List V} {i : Nat} (hi : i < m.length) (K : V → Prop) : loadL Tryz.prog 25 (m.flatMap enc ++ spare) (i * 2) K = K (.agg (enc (at0 m i))) := by
  rw [loadL_a kd25, ce25, rowE_at hE spare m i hi]
  exact propext ⟨fun h => h.2, fun h => ⟨rowE_room hE m spare i hi, h⟩⟩
theorem sdot_len2 (hE : Elt 2 enc) {m : List α} {spare : List V} : (m.flatMap enc ++ spare).length = m.length * 2 + spare.length := by rw [List.length_append, rowE_len hE]
/-- slices.insertionSortCmpFunc at elements of type trug/clock.Dot: sdot_ins. -/
theorem sdot_ins (hE : Elt 2 enc) (hC : Cmpr Tryz.prog g ps qs enc key cv) (b cap a e : Nat) (m0 : List α) (spare : List V) (σ : Store) (hb : σ b = some (rowE enc m0 spare)) (hae : a ≤ e) (he : e ≤ m0.length) (hn : m0.length ≤ 1000000) :
    HCalls Tryz.prog 220 [.sl b 0 m0.length cap, I64 a, I64 e, .fn (.func g) ps qs] σ (fun r σ' => ∃ m', r = .ret (oneOf []) ∧ WP a e m0 m' ∧ Srtd key a e m' ∧ σ' = σ.set b (rowE enc m' spare)) := by
  (refine HCalls.of_vc Tryz.func220 rfl ?_; rw [Tryz.ntmps220, Tryz.results220]; simp only [List.length_cons, List.length_nil, Nat.reduceAdd, Nat.reduceSub, List.replicate, List.cons_append, List.nil_append])
  have hw1 := i64_up (show a ≤ 10000000 by omega)
  (repeat (first | refine Stp.s ?_ | refine inBlock_exit' (by decide) ?_ | ((first | refine vc_region fun K KP hK hKP => ?_ | refine Stg.s ?_ | refine guardD_ret0 ?_ | refine exV_intro _ rfl ?_); (try simp only [go_sem, loadL_a, hw1]); try ((first | refine hK _ _ ?_ | refine hKP _ _ _ ?_ | refine hKP _ _ (fun _ => ?_)); clear hK hKP K KP))))
  refine vc_loop (loopV (fun (p : Nat × List α) => [.sl b 0 m0.length cap, I64 a, I64 e, .fn (.func g) ps qs, .top, .top, .top, .top, I64 p.1, .top, .top, .top, .top, .top, .top, .top, .top, .top, .top, .top, .top, .top, .top, .top, .top, .top, .top, .top, .top, .top, .top, .top, .top, .top, .top, .top, .top, .top, .top, .top, .top, .top, .top, .top, .top, .top, .top, .top, .top, .top, .top, .top, .top]) (fun p τ => a < p.1 ∧ p.1 ≤ e + 1 ∧ WP a e m0 p.2 ∧ Srtd key a (min p.1 e) p.2 ∧ τ = σ.set b (rowE enc p.2 spare)) (fun p _ => e + 1 - p.1) (a + 1, m0) (by repeat (first | exact LeEnv.nil | refine LeEnv.same ?_ | refine LeEnv.top ?_)) ⟨by show a < a + 1; omega, by show a + 1 ≤ e + 1; omega, WP.refl _ _ _, fun p q h1 h2 h3 => by have h3 : q < min (a + 1) e := h3; omega, (Store.set_id hb).symm⟩ ?_)
  rintro ⟨i, m⟩ τ ⟨hi1, hi2, hw, hs, rfl⟩
  simp only at hi1 hi2 hw hs
  have hml := hw.len
  (repeat (first | refine Stp.s ?_ | refine inBlock_exit' (by decide) ?_ | ((first | refine vc_region fun K KP hK hKP => ?_ | refine Stg.s ?_ | refine guardD_ret0 ?_ | refine exV_intro _ rfl ?_); (try simp only [go_sem, loadL_a]); try ((first | refine hK _ _ ?_ | refine hKP _ _ _ ?_ | refine hKP _ _ (fun _ => ?_)); clear hK hKP K KP))))
  refine vc_cond rfl (fun hc => ?_) (fun hc => ?_)
  · have hlt : i < e := by simp at hc; omega
    rw [Nat.min_eq_left (by omega)] at hs
    (repeat (first | refine Stp.s ?_ | refine inBlock_exit' (by decide) ?_ | ((first | refine vc_region fun K KP hK hKP => ?_ | refine Stg.s ?_ | refine guardD_ret0 ?_ | refine exV_intro _ rfl ?_); (try simp only [go_sem, loadL_a]); try ((first | refine hK _ _ ?_ | refine hKP _ _ _ ?_ | refine hKP _ _ (fun _ => ?_)); clear hK hKP K KP))))
    refine vc_loop (loopV (fun (p : Nat × List α) => [.sl b 0 m0.length cap, I64 a, I64 e, .fn (.func g) ps qs, .top, .top, .top, .top, I64 i, I64 p.1, .top, .top, .top, .top, .top, .top, .top, .top, .top, .top, .top, .top, .top, .top, .top, .top, .top, .top, .top, .top, .top, .top, .top, .top, .top, .top, .top, .top, .top, .top, .top, .top, .top, .top, .top, .top, .top, .top, .top, .top, .top, .top, .top]) (fun p τ => a ≤ p.1 ∧ p.1 ≤ i ∧ WP a e m0 p.2 ∧ OrdW key a p.2 i p.1 ∧ τ = σ.set b (rowE enc p.2 spare)) (fun p _ => p.1) (i, m) (by repeat (first | exact LeEnv.nil | refine LeEnv.same ?_ | refine LeEnv.top ?_)) ⟨by show a ≤ i; omega, Nat.le_refl _, hw, OrdW.start key hs, rfl⟩ ?_)
    clear hw hs hml
    rintro ⟨j, m⟩ τ ⟨hj1, hj2, hw, ho, rfl⟩
    simp only at hj1 hj2 hw ho
    have hml := hw.len
    have hbb := Store.set_same σ b (rowE enc m spare)
    (repeat (first | refine Stp.s ?_ | refine inBlock_exit' (by decide) ?_ | ((first | refine vc_region fun K KP hK hKP => ?_ | refine Stg.s ?_ | refine guardD_ret0 ?_ | refine exV_intro _ rfl ?_); (try simp only [go_sem, loadL_a]); try ((first | refine hK _ _ ?_ | refine hKP _ _ _ ?_ | refine hKP _ _ (fun _ => ?_)); clear hK hKP K KP))))
    rcases Nat.lt_or_ge a j with hj | hj
    · obtain ⟨k, rfl⟩ : ∃ k, j = k + 1 := ⟨j - 1, by omega⟩
      have hj3 : decide ((a : Int) < ((k + 1 : Nat) : Int)) = true := decide_eq_true (by omega)
      have g1 := eq_true (show (0 : Int) ≤ ((k + 1 : Nat) : Int) by omega)
      have g2 := eq_true (show ((k + 1 : Nat) : Int) < m0.length by omega)
      have w2 := i64_dn (show k ≤ 10000000 by omega)
      have g3 := eq_true (show (0 : Int) ≤ (k : Int) by omega)
      have g4 := eq_true (show (k : Int) < m0.length by omega)
      have r1 := sdot_load hE (spare := spare) (show k + 1 < m.length by omega)
      have r2 := sdot_load hE (spare := spare) (show k < m.length by omega)
      ((repeat first | refine Stp.s ?_ | refine inBlock_exit' (by decide) ?_); refine vc_draw mixed [ ] [0, 1, 2, 3, 4, 5, 6, 7, 8, 9, 10, 11, 12, 13, 14, 15, 16 ] [ 8, 13, 14 ] [] (fun _ => True) (by kernel_rfl) (by kernel_rfl) (by kernel_rfl) trivial fun K KP hK hKP => ?_; simp only [go_sem, hj3, g1, g2, w2, g3, g4, Int.toNat_natCast]; try (refine hK _ _ ?_; clear hK hKP K KP))
      ((try simp only [go_sem, hj3, g1, g2, w2, g3, g4, Int.toNat_natCast, hbb, r1, r2]); (try ((first | refine hK _ _ ?_ | refine hKP _ _ _ ?_ | refine hKP _ _ (fun _ => ?_)); clear hK hKP K KP)); repeat (first | refine Stp.s ?_ | refine inBlock_exit' (by decide) ?_ | ((first | refine vc_region fun K KP hK hKP => ?_ | refine Stg.s ?_ | refine guardD_ret0 ?_ | refine exV_intro _ rfl ?_); (try simp only [go_sem, hj3, g1, g2, w2, g3, g4, Int.toNat_natCast, hbb, r1, r2]); try ((first | refine hK _ _ ?_ | refine hKP _ _ _ ?_ | refine hKP _ _ (fun _ => ?_)); clear hK hKP K KP))))
      ((try simp only [go_sem, loadL_a]); first | refine guardD_q0 (fun _ => callV_pure (hC.call _ _) ⟨rfl, rfl⟩) ?_ | refine guardD_q0 (fun _ _ => callV_pure (hC.call _ _) ⟨rfl, rfl⟩) ?_)
      ((try simp only [go_sem, hj3, g1, g2, w2, g3, g4, Int.toNat_natCast, hbb, r1, r2]); (try ((first | refine hK _ _ ?_ | refine hKP _ _ _ ?_ | refine hKP _ _ (fun _ => ?_)); clear hK hKP K KP)); repeat (first | refine Stp.s ?_ | refine inBlock_exit' (by decide) ?_ | ((first | refine vc_region fun K KP hK hKP => ?_ | refine Stg.s ?_ | refine guardD_ret0 ?_ | refine exV_intro _ rfl ?_); (try simp only [go_sem, hj3, g1, g2, w2, g3, g4, Int.toNat_natCast, hbb, r1, r2]); try ((first | refine hK _ _ ?_ | refine hKP _ _ _ ?_ | refine hKP _ _ (fun _ => ?_)); clear hK hKP K KP))))
      refine vc_cond rfl (fun hq => ?_) (fun hq => ?_)
      · have hlt2 : ky key m (k + 1) < ky key m k := (hC.lt _ _).1 (by simpa using hq)
        (repeat (first | refine Stp.s ?_ | refine inBlock_exit' (by decide) ?_ | ((first | refine vc_region fun K KP hK hKP => ?_ | refine Stg.s ?_ | refine guardD_ret0 ?_ | refine exV_intro _ rfl ?_); (try simp only [go_sem, loadL_a]); try ((first | refine hK _ _ ?_ | refine hKP _ _ _ ?_ | refine hKP _ _ (fun _ => ?_)); clear hK hKP K KP))))
        ((repeat first | refine Stp.s ?_ | refine inBlock_exit' (by decide) ?_); refine vc_draw mixed [ 15, 17 ] [0, 1, 2, 3, 4, 5, 6, 7, 8, 9, 10, 11, 12, 13, 14, 15, 16, 17 ] [ 9, 13 ] [] (fun _ => True) (by kernel_rfl) (by kernel_rfl) (by kernel_rfl) trivial fun K KP hK hKP => ?_; simp only [go_sem, hj3, g1, g2, w2, g3, g4, Int.toNat_natCast]; try (refine hK _ _ ?_; clear hK hKP K KP))
        ((try simp only [go_sem, hj3, g1, g2, w2, g3, g4, Int.toNat_natCast, hbb, r1, r2]); (try ((first | refine hK _ _ ?_ | refine hKP _ _ _ ?_ | refine hKP _ _ (fun _ => ?_)); clear hK hKP K KP)); repeat (first | refine Stp.s ?_ | refine inBlock_exit' (by decide) ?_ | ((first | refine vc_region fun K KP hK hKP => ?_ | refine Stg.s ?_ | refine guardD_ret0 ?_ | refine exV_intro _ rfl ?_); (try simp only [go_sem, hj3, g1, g2, w2, g3, g4, Int.toNat_natCast, hbb, r1, r2]); try ((first | refine hK _ _ ?_ | refine hKP _ _ _ ?_ | refine hKP _ _ (fun _ => ?_)); clear hK hKP K KP))))
        refine ⟨hE.len _, hE.one _, rowE_room1 hE m spare _ _ (by omega), effV_true ⟨hE.len _, hE.one _, rowE_room2 hE m spare _ _ _ _ (by omega), ?_⟩⟩
        rw [rowE_swp hE spare m _ _ (by omega) (by omega)]
        ((try simp only [go_sem, w2, Store.set_set]); (try ((first | refine hK _ _ ?_ | refine hKP _ _ _ ?_ | refine hKP _ _ (fun _ => ?_)); clear hK hKP K KP)); repeat (first | refine Stp.s ?_ | refine inBlock_exit' (by decide) ?_ | ((first | refine vc_region fun K KP hK hKP => ?_ | refine Stg.s ?_ | refine guardD_ret0 ?_ | refine exV_intro _ rfl ?_); (try simp only [go_sem, w2, Store.set_set]); try ((first | refine hK _ _ ?_ | refine hKP _ _ _ ?_ | refine hKP _ _ (fun _ => ?_)); clear hK hKP K KP))))
        exact ⟨(k, swp m (k + 1) k), _, (by repeat (first | exact LeEnv.nil | refine LeEnv.same ?_ | refine LeEnv.top ?_)), Store.le_refl _, ⟨by show a ≤ k; omega, by show k ≤ i; omega, hw.trans (WP.swap (by omega) (by omega) (by omega)), ho.swap key (by omega) (by omega) (by omega) hlt2, rfl⟩, Nat.lt_succ_self k⟩
      · have hle2 : ky key m k ≤ ky key m (k + 1) := by
          have : ¬ ky key m (k + 1) < ky key m k := fun h => by rw [decide_eq_true ((hC.lt _ _).2 h)] at hq; cases hq
          omega
        (repeat (first | refine Stp.s ?_ | refine inBlock_exit' (by decide) ?_ | ((first | refine vc_region fun K KP hK hKP => ?_ | refine Stg.s ?_ | refine guardD_ret0 ?_ | refine exV_intro _ rfl ?_); (try simp only [go_sem, loadL_a, i64_up (show i ≤ 10000000 by omega)]); try ((first | refine hK _ _ ?_ | refine hKP _ _ _ ?_ | refine hKP _ _ (fun _ => ?_)); clear hK hKP K KP))))
        have hf := ho.done key (by omega) hj2 hle2
        exact ⟨(i + 1, m), _, (by repeat (first | exact LeEnv.nil | refine LeEnv.same ?_ | refine LeEnv.top ?_)), Store.le_refl _, ⟨by show a < i + 1; omega, by show i + 1 ≤ e + 1; omega, hw, by rw [Nat.min_eq_left (by omega)]; exact hf, rfl⟩, by show e + 1 - (i + 1) < e + 1 - i; omega⟩
    · have hj0 : j = a := by omega
      subst hj0
      have hj3 : decide ((j : Int) < (j : Int)) = false := decide_eq_false (by omega)
      ((repeat first | refine Stp.s ?_ | refine inBlock_exit' (by decide) ?_); refine vc_draw mixed [ ] [0, 1, 2, 3, 4, 5, 6, 7, 8, 9, 10, 11, 12, 13, 14, 15, 16 ] [ 8, 13, 14 ] [] (fun _ => True) (by kernel_rfl) (by kernel_rfl) (by kernel_rfl) trivial fun K KP hK hKP => ?_; simp only [go_sem, hj3]; try (refine hK _ _ ?_; clear hK hKP K KP))
      ((try simp only [go_sem, loadL_a, hj3]); (try ((first | refine hK _ _ ?_ | refine hKP _ _ _ ?_ | refine hKP _ _ (fun _ => ?_)); clear hK hKP K KP)); repeat (first | refine Stp.s ?_ | refine inBlock_exit' (by decide) ?_ | ((first | refine vc_region fun K KP hK hKP => ?_ | refine Stg.s ?_ | refine guardD_ret0 ?_ | refine exV_intro _ rfl ?_); (try simp only [go_sem, loadL_a, hj3]); try ((first | refine hK _ _ ?_ | refine hKP _ _ _ ?_ | refine hKP _ _ (fun _ => ?_)); clear hK hKP K KP))))
      refine vc_cond rfl (fun hc => by cases hc) (fun hc => ?_)
      (repeat (first | refine Stp.s ?_ | refine inBlock_exit' (by decide) ?_ | ((first | refine vc_region fun K KP hK hKP => ?_ | refine Stg.s ?_ | refine guardD_ret0 ?_ | refine exV_intro _ rfl ?_); (try simp only [go_sem, loadL_a, i64_up (show i ≤ 10000000 by omega)]); try ((first | refine hK _ _ ?_ | refine hKP _ _ _ ?_ | refine hKP _ _ (fun _ => ?_)); clear hK hKP K KP))))
      have hf := ho.first
      exact ⟨(i + 1, m), _, (by repeat (first | exact LeEnv.nil | refine LeEnv.same ?_ | refine LeEnv.top ?_)), Store.le_refl _, ⟨by show j < i + 1; omega, by show i + 1 ≤ e + 1; omega, hw, by rw [Nat.min_eq_left (by omega)]; exact hf, rfl⟩, by show e + 1 - (i + 1) < e + 1 - i; omega⟩
  · (repeat (first | refine Stp.s ?_ | refine inBlock_exit' (by decide) ?_ | ((first | refine vc_region fun K KP hK hKP => ?_ | refine Stg.s ?_ | refine guardD_ret0 ?_ | refine exV_intro _ rfl ?_); (try simp only [go_sem, loadL_a]); try ((first | refine hK _ _ ?_ | refine hKP _ _ _ ?_ | refine hKP _ _ (fun _ => ?_)); clear hK hKP K KP))))
    (simp only [postV, resV, oneOf, List.getD_cons_succ, List.getD_cons_zero, and_true, true_and])
    rw [Nat.min_eq_right (by simp at hc; omega)] at hs
    exact ⟨m, hw, hs, rfl⟩
end

/-- That dots are sorted, n of them. -/
def DSort (n : Nat) : Prop := ∀ (b cap : Nat) (m0 : List Dt) (spare : List V) (σ : Store), σ b = some (rowE encD m0 spare) → m0.length = n →
  HCalls Tryz.prog 116 [.sl b 0 m0.length cap, .fn (.func 117) [] []] σ (fun r σ' => ∃ m', r = .ret (oneOf []) ∧ m'.Perm m0 ∧ Srtd keyD 0 m0.length m' ∧ σ' = σ.set b (rowE encD m' spare))
theorem pdqD (b cap : Nat) (m0 : List Dt) (spare : List V) (σ : Store) (hb : σ b = some (rowE encD m0 spare)) (hn : m0.length ≤ 12) (v : Int) :
    HCalls Tryz.prog 173 [.sl b 0 m0.length cap, I64 0, I64 m0.length, I64 v, .fn (.func 117) [] []] σ (fun r σ' => ∃ m', r = .ret (oneOf []) ∧ m'.Perm m0 ∧ Srtd keyD 0 m0.length m' ∧ σ' = σ.set b (rowE encD m' spare)) := by
  (refine HCalls.of_vc Tryz.func173 rfl ?_; rw [Tryz.ntmps173, Tryz.results173]; simp only [List.length_cons, List.length_nil, Nat.reduceAdd, Nat.reduceSub, List.replicate, List.cons_append, List.nil_append])
  (repeat (first | refine Stp.s ?_ | refine inBlock_exit' (by decide) ?_ | ((first | refine vc_region fun K KP hK hKP => ?_ | refine Stg.s ?_ | refine guardD_ret0 ?_ | refine exV_intro _ rfl ?_); (try simp only [go_sem, loadL_a]); try ((first | refine hK _ _ ?_ | refine hKP _ _ _ ?_ | refine hKP _ _ (fun _ => ?_)); clear hK hKP K KP))))
  refine vc_loop (loop_once ?_)
  have hw : IntKind.i64.wrap ((m0.length : Int) - 0) = m0.length := by rw [i64_in (by omega) (by omega)]; omega
  (repeat (first | refine Stp.s ?_ | refine inBlock_exit' (by decide) ?_ | ((first | refine vc_region fun K KP hK hKP => ?_ | refine Stg.s ?_ | refine guardD_ret0 ?_ | refine exV_intro _ rfl ?_); (try simp only [go_sem, loadL_a, hw]); try ((first | refine hK _ _ ?_ | refine hKP _ _ _ ?_ | refine hKP _ _ (fun _ => ?_)); clear hK hKP K KP))))
  refine vc_cond rfl (fun _ => ?_) (fun hc => absurd hc (by simp; omega))
  have hs := sdot_ins eltD cmprD b cap 0 m0.length m0 spare σ hb (Nat.zero_le _) (Nat.le_refl _) (by omega)
  (repeat (first | refine Stp.s ?_ | refine inBlock_exit' (by decide) ?_ | ((first | refine vc_region fun K KP hK hKP => ?_ | refine Stg.s ?_ | refine guardD_ret0 ?_ | refine exV_intro _ rfl ?_); (try simp only [go_sem, loadL_a]); try ((first | refine hK _ _ ?_ | refine hKP _ _ _ ?_ | refine hKP _ _ (fun _ => ?_)); clear hK hKP K KP))))
  refine callV_of en220 hs (fun x σ' q => ?_) (fun x σ' q => by obtain ⟨_, e, _⟩ := q; cases e)
  obtain ⟨m', e1, hw', hs', rfl⟩ := q
  cases e1
  ((try simp only [go_sem, loadL_a]); (try ((first | refine hK _ _ ?_ | refine hKP _ _ _ ?_ | refine hKP _ _ (fun _ => ?_)); clear hK hKP K KP)); repeat (first | refine Stp.s ?_ | refine inBlock_exit' (by decide) ?_ | ((first | refine vc_region fun K KP hK hKP => ?_ | refine Stg.s ?_ | refine guardD_ret0 ?_ | refine exV_intro _ rfl ?_); (try simp only [go_sem, loadL_a]); try ((first | refine hK _ _ ?_ | refine hKP _ _ _ ?_ | refine hKP _ _ (fun _ => ?_)); clear hK hKP K KP))))
  (simp only [postV, resV, oneOf, List.getD_cons_succ, List.getD_cons_zero, and_true, true_and])
  exact ⟨m', hw'.perm, hs', rfl⟩
theorem dsort_small (n : Nat) (hn : n ≤ 12) : DSort n := fun b cap m0 spare σ hb hm => by
  subst hm
  (refine HCalls.of_vc Tryz.func116 rfl ?_; rw [Tryz.ntmps116, Tryz.results116]; simp only [List.length_cons, List.length_nil, Nat.reduceAdd, Nat.reduceSub, List.replicate, List.cons_append, List.nil_append])
  have wu : IntKind.u64.wrap (m0.length : Int) = ((m0.length : Nat) : Int) := u64_in (by omega) (by omega)
  (repeat (first | refine Stp.s ?_ | refine inBlock_exit' (by decide) ?_ | ((first | refine vc_region fun K KP hK hKP => ?_ | refine Stg.s ?_ | refine guardD_ret0 ?_ | refine exV_intro _ rfl ?_); (try simp only [go_sem, loadL_a, wu]); try ((first | refine hK _ _ ?_ | refine hKP _ _ _ ?_ | refine hKP _ _ (fun _ => ?_)); clear hK hKP K KP))))
  refine callV_of en158 (len m0.length hn σ) (fun x σ' ⟨v, e, es⟩ => ?_) (fun x σ' ⟨v, e, es⟩ => by cases e)
  cases e; rw [es]; clear es
  ((try simp only [go_sem, loadL_a]); (try ((first | refine hK _ _ ?_ | refine hKP _ _ _ ?_ | refine hKP _ _ (fun _ => ?_)); clear hK hKP K KP)); repeat (first | refine Stp.s ?_ | refine inBlock_exit' (by decide) ?_ | ((first | refine vc_region fun K KP hK hKP => ?_ | refine Stg.s ?_ | refine guardD_ret0 ?_ | refine exV_intro _ rfl ?_); (try simp only [go_sem, loadL_a]); try ((first | refine hK _ _ ?_ | refine hKP _ _ _ ?_ | refine hKP _ _ (fun _ => ?_)); clear hK hKP K KP))))
  refine callV_of en173 (pdqD b cap m0 spare σ hb hn v) (fun x σ' q => ?_) (fun x σ' q => by obtain ⟨_, e, _⟩ := q; cases e)
  obtain ⟨m', e1, hw', hs', rfl⟩ := q
  cases e1
  ((try simp only [go_sem, loadL_a]); (try ((first | refine hK _ _ ?_ | refine hKP _ _ _ ?_ | refine hKP _ _ (fun _ => ?_)); clear hK hKP K KP)); repeat (first | refine Stp.s ?_ | refine inBlock_exit' (by decide) ?_ | ((first | refine vc_region fun K KP hK hKP => ?_ | refine Stg.s ?_ | refine guardD_ret0 ?_ | refine exV_intro _ rfl ?_); (try simp only [go_sem, loadL_a]); try ((first | refine hK _ _ ?_ | refine hKP _ _ _ ?_ | refine hKP _ _ (fun _ => ?_)); clear hK hKP K KP))))
  (simp only [postV, resV, oneOf, List.getD_cons_succ, List.getD_cons_zero, and_true, true_and])
  exact ⟨m', hw', hs', rfl⟩
theorem insD_nil (σ : Store) (g : V) : HQuiet Tryz.prog 220 [nilS, I64 0, I64 0, g] σ unitV := by
  refine HQuiet.of ?_; (refine HCalls.of_vc Tryz.func220 rfl ?_; rw [Tryz.ntmps220, Tryz.results220]; simp only [List.length_cons, List.length_nil, Nat.reduceAdd, Nat.reduceSub, List.replicate, List.cons_append, List.nil_append])
  have w1 : IntKind.i64.wrap ((0 : Int) + 1) = 1 := by decide
  (repeat (first | refine Stp.s ?_ | refine inBlock_exit' (by decide) ?_ | ((first | refine vc_region fun K KP hK hKP => ?_ | refine Stg.s ?_ | refine guardD_ret0 ?_ | refine exV_intro _ rfl ?_); (try simp only [go_sem, loadL_a, w1]); try ((first | refine hK _ _ ?_ | refine hKP _ _ _ ?_ | refine hKP _ _ (fun _ => ?_)); clear hK hKP K KP))))
  refine vc_loop (loop_once ?_)
  (repeat (first | refine Stp.s ?_ | refine inBlock_exit' (by decide) ?_ | ((first | refine vc_region fun K KP hK hKP => ?_ | refine Stg.s ?_ | refine guardD_ret0 ?_ | refine exV_intro _ rfl ?_); (try simp only [go_sem, loadL_a]); try ((first | refine hK _ _ ?_ | refine hKP _ _ _ ?_ | refine hKP _ _ (fun _ => ?_)); clear hK hKP K KP))))
  refine vc_cond rfl (fun hc => absurd hc (by decide)) (fun _ => ?_)
  (repeat (first | refine Stp.s ?_ | refine inBlock_exit' (by decide) ?_ | ((first | refine vc_region fun K KP hK hKP => ?_ | refine Stg.s ?_ | refine guardD_ret0 ?_ | refine exV_intro _ rfl ?_); (try simp only [go_sem, loadL_a]); try ((first | refine hK _ _ ?_ | refine hKP _ _ _ ?_ | refine hKP _ _ (fun _ => ?_)); clear hK hKP K KP))))
  (simp only [postV, resV, oneOf, List.getD_cons_succ, List.getD_cons_zero, and_true, true_and])
  exact Ends.le rfl (Store.le_refl _)
theorem pdqD_nil (σ : Store) (v : Int) (g : V) : HQuiet Tryz.prog 173 [nilS, I64 0, I64 0, I64 v, g] σ unitV := by
  refine HQuiet.of ?_; (refine HCalls.of_vc Tryz.func173 rfl ?_; rw [Tryz.ntmps173, Tryz.results173]; simp only [List.length_cons, List.length_nil, Nat.reduceAdd, Nat.reduceSub, List.replicate, List.cons_append, List.nil_append])
  (repeat (first | refine Stp.s ?_ | refine inBlock_exit' (by decide) ?_ | ((first | refine vc_region fun K KP hK hKP => ?_ | refine Stg.s ?_ | refine guardD_ret0 ?_ | refine exV_intro _ rfl ?_); (try simp only [go_sem, loadL_a]); try ((first | refine hK _ _ ?_ | refine hKP _ _ _ ?_ | refine hKP _ _ (fun _ => ?_)); clear hK hKP K KP))))
  refine vc_loop (loop_once ?_)
  have hw : IntKind.i64.wrap ((0 : Int) - 0) = 0 := by decide
  (repeat (first | refine Stp.s ?_ | refine inBlock_exit' (by decide) ?_ | ((first | refine vc_region fun K KP hK hKP => ?_ | refine Stg.s ?_ | refine guardD_ret0 ?_ | refine exV_intro _ rfl ?_); (try simp only [go_sem, loadL_a, hw]); try ((first | refine hK _ _ ?_ | refine hKP _ _ _ ?_ | refine hKP _ _ (fun _ => ?_)); clear hK hKP K KP))))
  refine vc_cond rfl (fun _ => ?_) (fun hc => absurd hc (by decide))
  (repeat (first | refine Stp.s ?_ | refine inBlock_exit' (by decide) ?_ | ((first | refine vc_region fun K KP hK hKP => ?_ | refine Stg.s ?_ | refine guardD_ret0 ?_ | refine exV_intro _ rfl ?_); (try simp only [go_sem, loadL_a]); try ((first | refine hK _ _ ?_ | refine hKP _ _ _ ?_ | refine hKP _ _ (fun _ => ?_)); clear hK hKP K KP))))
  ((try simp only [go_sem, loadL_a]); refine callV_quiet en220 ((insD_nil _ _)) ?_)
  ((try simp only [go_sem, loadL_a]); (try ((first | refine hK _ _ ?_ | refine hKP _ _ _ ?_ | refine hKP _ _ (fun _ => ?_)); clear hK hKP K KP)); repeat (first | refine Stp.s ?_ | refine inBlock_exit' (by decide) ?_ | ((first | refine vc_region fun K KP hK hKP => ?_ | refine Stg.s ?_ | refine guardD_ret0 ?_ | refine exV_intro _ rfl ?_); (try simp only [go_sem, loadL_a]); try ((first | refine hK _ _ ?_ | refine hKP _ _ _ ?_ | refine hKP _ _ (fun _ => ?_)); clear hK hKP K KP))))
  (simp only [postV, resV, oneOf, List.getD_cons_succ, List.getD_cons_zero, and_true, true_and])
  exact Ends.le rfl (Store.le_refl _)
theorem sortD_nil (σ : Store) (g : V) : HQuiet Tryz.prog 116 [nilS, g] σ unitV := by
  refine HQuiet.of ?_; (refine HCalls.of_vc Tryz.func116 rfl ?_; rw [Tryz.ntmps116, Tryz.results116]; simp only [List.length_cons, List.length_nil, Nat.reduceAdd, Nat.reduceSub, List.replicate, List.cons_append, List.nil_append])
  have hw : IntKind.u64.wrap ((0 : Nat) : Int) = ((0 : Nat) : Int) := by decide
  (repeat (first | refine Stp.s ?_ | refine inBlock_exit' (by decide) ?_ | ((first | refine vc_region fun K KP hK hKP => ?_ | refine Stg.s ?_ | refine guardD_ret0 ?_ | refine exV_intro _ rfl ?_); (try simp only [go_sem, loadL_a, hw]); try ((first | refine hK _ _ ?_ | refine hKP _ _ _ ?_ | refine hKP _ _ (fun _ => ?_)); clear hK hKP K KP))))
  refine callV_of en158 (len 0 (by decide) σ) (fun x σ' ⟨v, e, es⟩ => ?_) (fun x σ' ⟨v, e, es⟩ => by cases e)
  cases e; rw [es]; clear es
  ((try simp only [go_sem, loadL_a]); (try ((first | refine hK _ _ ?_ | refine hKP _ _ _ ?_ | refine hKP _ _ (fun _ => ?_)); clear hK hKP K KP)); repeat (first | refine Stp.s ?_ | refine inBlock_exit' (by decide) ?_ | ((first | refine vc_region fun K KP hK hKP => ?_ | refine Stg.s ?_ | refine guardD_ret0 ?_ | refine exV_intro _ rfl ?_); (try simp only [go_sem, loadL_a]); try ((first | refine hK _ _ ?_ | refine hKP _ _ _ ?_ | refine hKP _ _ (fun _ => ?_)); clear hK hKP K KP))))
  ((try simp only [go_sem, loadL_a]); refine callV_quiet en173 ((pdqD_nil _ v _)) ?_)
  ((try simp only [go_sem, loadL_a]); (try ((first | refine hK _ _ ?_ | refine hKP _ _ _ ?_ | refine hKP _ _ (fun _ => ?_)); clear hK hKP K KP)); repeat (first | refine Stp.s ?_ | refine inBlock_exit' (by decide) ?_ | ((first | refine vc_region fun K KP hK hKP => ?_ | refine Stg.s ?_ | refine guardD_ret0 ?_ | refine exV_intro _ rfl ?_); (try simp only [go_sem, loadL_a]); try ((first | refine hK _ _ ?_ | refine hKP _ _ _ ?_ | refine hKP _ _ (fun _ => ?_)); clear hK hKP K KP))))
  (simp only [postV, resV, oneOf, List.getD_cons_succ, List.getD_cons_zero, and_true, true_and])
  exact Ends.le rfl (Store.le_refl _)
end Go.Proofs.YtociliegljoldaaGreat
