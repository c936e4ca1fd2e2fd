/- Subscriptions: new ones; the node; sellers; as bytes. -/
import Derived.Test.YtbgagffpmdlilaaP5
namespace Go.Proofs.Ytbgagffpmdlilaa
set_option linter.unusedSimpArgs false
set_option linter.unusedVariables false
open Go.Proofs
attribute [local irreducible] vc vcOps vcDraw vcK vcKP vcDK vcDB HWp HCalls postV Ex.then Ex.inBlock stepD callV appendV guardC guardD exV effV opV loadV storeV indexAddrV indexV sliceV
set_option maxRecDepth 10000
set_option maxHeartbeats 4000000

def Sub0 : Subs := fun _ => (0, [])
theorem sub0_new {n : Int} {σ : Store} {c : Nat} {cs : List V} (hcs : cs = [I64 n, I64 0, nilS, I64 0, nilS, I64 0, nilS, I64 0, nilS, I64 0, nilS, I64 0, nilS, I64 0, nilS, I64 0, nilS, I64 0, nilS, I64 0, nilS, I64 0, nilS, I64 0, nilS]) {y : V} : Weakens y (σ.set c (.cells cs)) y (σ.set c (.cells (peC n Sub0))) := by
  subst hcs
  have := Weakens.blk (x := y) (cs' := peC n Sub0) (Store.set_same σ c (.cells [I64 n, I64 0, nilS, I64 0, nilS, I64 0, nilS, I64 0, nilS, I64 0, nilS, I64 0, nilS, I64 0, nilS, I64 0, nilS, I64 0, nilS, I64 0, nilS, I64 0, nilS, I64 0, nilS])) (lr_nils (by rw [peC_len]; rfl) fun j x y hx hy => by
    have hj : j < 25 := by have := (List.getElem?_eq_some_iff.1 hy).1; rwa [peC_len] at this
    have e : peC n Sub0 = [I64 n, I64 0, ints [], I64 0, ints [], I64 0, ints [], I64 0, ints [], I64 0, ints [], I64 0, ints [], I64 0, ints [], I64 0, ints [], I64 0, ints [], I64 0, ints [], I64 0, ints [], I64 0, ints []] := rfl
    rw [e] at hy
    match j, hj with
    | 0, _ | 1, _ | 3, _ | 5, _ | 7, _ | 9, _ | 11, _ | 13, _ | 15, _ | 17, _ | 19, _ | 21, _ | 23, _ => simp at hx hy; subst hx hy; exact .inl rfl
    | 2, _ | 4, _ | 6, _ | 8, _ | 10, _ | 12, _ | 14, _ | 16, _ | 18, _ | 20, _ | 22, _ | 24, _ => simp at hx hy; subst hx hy; exact .inr ⟨rfl, 1, rfl⟩)
  rw [Store.set_set] at this
  exact this
theorem pnew_ok (n : Int) (hn : nodeB n = true) (σ : Store) : HCalls Try.prog 28 [I64 n] σ (EndsNew (fun b => .tup [.ptr b 0, I64 0]) (.cells (peC n Sub0)) σ) := by
  (refine HCalls.of_vc Try.func28 rfl ?_; rw [Try.ntmps28, Try.results28]; simp only [List.length_cons, List.length_nil, Nat.reduceAdd, Nat.reduceSub, List.replicate, List.cons_append, List.nil_append])
  (repeat (first | refine Stp.s ?_ | refine inBlock_exit' (by decide) ?_ | ((first | refine vc_region fun K KP hK hKP => ?_ | refine Stg.s ?_ | refine guardD_ret0 ?_ | refine exV_intro _ rfl ?_); (try simp only [go_sem, loadL_a]); try ((first | refine hK _ _ ?_ | refine hKP _ _ _ ?_ | refine hKP _ _ (fun _ => ?_)); clear hK hKP K KP))))
  ((try simp only [go_sem, loadL_a]); first | refine callV_pure (pnode_pure n) ?_ | refine guardC_q0 (fun _ => callV_pure (pnode_pure n) ⟨rfl, rfl⟩) ?_)
  rw [hn]
  ((try simp only [go_sem, loadL_a]); (try ((first | refine hK _ _ ?_ | refine hKP _ _ _ ?_ | refine hKP _ _ (fun _ => ?_)); clear hK hKP K KP)); repeat (first | refine Stp.s ?_ | refine inBlock_exit' (by decide) ?_ | ((first | refine vc_region fun K KP hK hKP => ?_ | refine Stg.s ?_ | refine guardD_ret0 ?_ | refine exV_intro _ rfl ?_); (try simp only [go_sem, loadL_a]); try ((first | refine hK _ _ ?_ | refine hKP _ _ _ ?_ | refine hKP _ _ (fun _ => ?_)); clear hK hKP K KP))))
  refine vc_cond rfl (fun hc => by cases hc) (fun _ => ?_)
  (repeat (first | refine Stp.s ?_ | refine inBlock_exit' (by decide) ?_ | ((first | refine vc_region fun K KP hK hKP => ?_ | refine Stg.s ?_ | refine guardD_ret0 ?_ | refine exV_intro _ rfl ?_); (try simp only [go_sem, loadL_a]); try ((first | refine hK _ _ ?_ | refine hKP _ _ _ ?_ | refine hKP _ _ (fun _ => ?_)); clear hK hKP K KP))))
  intro c hc
  ((try simp only [go_sem, loadL_a]); refine hK _ _ ?_; clear hK hKP K KP; repeat (first | refine Stp.s ?_ | refine inBlock_exit' (by decide) ?_ | ((first | refine vc_region fun K KP hK hKP => ?_ | refine Stg.s ?_ | refine guardD_ret0 ?_ | refine exV_intro _ rfl ?_); (try simp only [go_sem, loadL_a]); try ((first | refine hK _ _ ?_ | refine hKP _ _ _ ?_ | refine hKP _ _ (fun _ => ?_)); clear hK hKP K KP))))
  (simp only [postV, resV, oneOf, List.getD_cons_succ, List.getD_cons_zero, and_true, true_and])
  exact ⟨c, _, hc, rfl, sub0_new rfl⟩
theorem pnew_no (n : Int) (hn : ¬nodeB n = true) : HPure Try.prog 28 [I64 n] (.tup [nilP, I64 11]) := by
  (refine HPure.of en28 fun σ => ?_); (refine HCalls.of_vc Try.func28 rfl ?_; rw [Try.ntmps28, Try.results28]; simp only [List.length_cons, List.length_nil, Nat.reduceAdd, Nat.reduceSub, List.replicate, List.cons_append, List.nil_append])
  (repeat (first | refine Stp.s ?_ | refine inBlock_exit' (by decide) ?_ | ((first | refine vc_region fun K KP hK hKP => ?_ | refine Stg.s ?_ | refine guardD_ret0 ?_ | refine exV_intro _ rfl ?_); (try simp only [go_sem, loadL_a]); try ((first | refine hK _ _ ?_ | refine hKP _ _ _ ?_ | refine hKP _ _ (fun _ => ?_)); clear hK hKP K KP))))
  ((try simp only [go_sem, loadL_a]); first | refine callV_pure (pnode_pure n) ?_ | refine guardC_q0 (fun _ => callV_pure (pnode_pure n) ⟨rfl, rfl⟩) ?_)
  rw [Bool.eq_false_iff.2 hn]
  ((try simp only [go_sem, loadL_a]); (try ((first | refine hK _ _ ?_ | refine hKP _ _ _ ?_ | refine hKP _ _ (fun _ => ?_)); clear hK hKP K KP)); repeat (first | refine Stp.s ?_ | refine inBlock_exit' (by decide) ?_ | ((first | refine vc_region fun K KP hK hKP => ?_ | refine Stg.s ?_ | refine guardD_ret0 ?_ | refine exV_intro _ rfl ?_); (try simp only [go_sem, loadL_a]); try ((first | refine hK _ _ ?_ | refine hKP _ _ _ ?_ | refine hKP _ _ (fun _ => ?_)); clear hK hKP K KP))))
  refine vc_cond rfl (fun _ => ?_) (fun hc => by cases hc)
  (repeat (first | refine Stp.s ?_ | refine inBlock_exit' (by decide) ?_ | ((first | refine vc_region fun K KP hK hKP => ?_ | refine Stg.s ?_ | refine guardD_ret0 ?_ | refine exV_intro _ rfl ?_); (try simp only [go_sem, loadL_a]); try ((first | refine hK _ _ ?_ | refine hKP _ _ _ ?_ | refine hKP _ _ (fun _ => ?_)); clear hK hKP K KP))))
  (simp only [postV, resV, oneOf, List.getD_cons_succ, List.getD_cons_zero, and_true, true_and])
  exact Ends.le rfl (Store.le_refl _)
section
variable (b : Nat) (σ : Store) (n : Int) (s : Subs) (h : σ b = some (.cells (peC n s))) (hn : 0 < n)
include h
theorem pNode : HQuiet Try.prog 48 [.ptr b 0] σ (I64 n) := by
  refine HQuiet.of ?_; (refine HCalls.of_vc Try.func48 rfl ?_; rw [Try.ntmps48, Try.results48]; simp only [List.length_cons, List.length_nil, Nat.reduceAdd, Nat.reduceSub, List.replicate, List.cons_append, List.nil_append])
  have h0 : (peC n s)[0]? = some (I64 n) := rfl
  (repeat (first | refine Stp.s ?_ | refine inBlock_exit' (by decide) ?_ | ((first | refine vc_region fun K KP hK hKP => ?_ | refine Stg.s ?_ | refine guardD_ret0 ?_ | refine exV_intro _ rfl ?_); (try simp only [go_sem, loadL_a]); try ((first | refine hK _ _ ?_ | refine hKP _ _ _ ?_ | refine hKP _ _ (fun _ => ?_)); clear hK hKP K KP))))
  refine vc_cond rfl (fun hc => absurd hc (by decide)) (fun _ => ?_)
  (repeat (first | refine Stp.s ?_ | refine inBlock_exit' (by decide) ?_ | ((first | refine vc_region fun K KP hK hKP => ?_ | refine Stg.s ?_ | refine guardD_ret0 ?_ | refine exV_intro _ rfl ?_); (try simp only [go_sem, loadL_a, h, h0]); try ((first | refine hK _ _ ?_ | refine hKP _ _ _ ?_ | refine hKP _ _ (fun _ => ?_)); clear hK hKP K KP))))
  (simp only [postV, resV, oneOf, List.getD_cons_succ, List.getD_cons_zero, and_true, true_and])
  exact Ends.le rfl (Store.le_refl _)
include hn
def sellersOf (s : Subs) : List Int := nums.filter fun x => stOf s x != 0
theorem pSellers : HQuiet Try.prog 47 [.ptr b 0] σ (ints (sellersOf s)) := by
  refine HQuiet.of ?_; (refine HCalls.of_vc Try.func47 rfl ?_; rw [Try.ntmps47, Try.results47]; simp only [List.length_cons, List.length_nil, Nat.reduceAdd, Nat.reduceSub, List.replicate, List.cons_append, List.nil_append])
  (repeat (first | refine Stp.s ?_ | refine inBlock_exit' (by decide) ?_ | ((first | refine vc_region fun K KP hK hKP => ?_ | refine Stg.s ?_ | refine guardD_ret0 ?_ | refine exV_intro _ rfl ?_); (try simp only [go_sem, loadL_a]); try ((first | refine hK _ _ ?_ | refine hKP _ _ _ ?_ | refine hKP _ _ (fun _ => ?_)); clear hK hKP K KP))))
  refine vc_loop (loopV (fun (a : Nat × V) => [.ptr b 0, .top, nilS, a.2, .top, I64 a.1, .top, .top, .top, .top, .top, .top, .top, .top, .top, .top, .top, .top, .top, .top]) (fun a τ => a.1 ≤ 12 ∧ Bld 1 σ τ a.2 (((nums.take a.1).filter fun x => stOf s x != 0).map I64) ((nums.take a.1).filter fun x => stOf s x != 0).length) (fun a _ => 12 - a.1) (0, nilS) (by repeat (first | exact LeEnv.nil | refine LeEnv.same ?_ | refine LeEnv.top ?_)) ⟨by omega, Bld.nil 1 σ⟩ ?_)
  rintro ⟨i, x⟩ τ ⟨hi, hB⟩
  have hbt := hB.base _ _ h
  (repeat (first | refine Stp.s ?_ | refine inBlock_exit' (by decide) ?_ | ((first | refine vc_region fun K KP hK hKP => ?_ | refine Stg.s ?_ | refine guardD_ret0 ?_ | refine exV_intro _ rfl ?_); (try simp only [go_sem, loadL_a]); try ((first | refine hK _ _ ?_ | refine hKP _ _ _ ?_ | refine hKP _ _ (fun _ => ?_)); clear hK hKP K KP))))
  refine vc_cond rfl (fun hc => ?_) (fun hc => ?_)
  · have hlt : i < 12 := by simp at hc; omega
    have hw : IntKind.i64.wrap ((i : Int) + 1) = (i : Int) + 1 := i64_in (by omega) (by omega)
    have hnx := i64_nsucc (show i < 1000000 by omega)
    have htk := nums_take i hlt
    (repeat (first | refine Stp.s ?_ | refine inBlock_exit' (by decide) ?_ | ((first | refine vc_region fun K KP hK hKP => ?_ | refine Stg.s ?_ | refine guardD_ret0 ?_ | refine exV_intro _ rfl ?_); (try simp only [go_sem, loadL_a, hw]); try ((first | refine hK _ _ ?_ | refine hKP _ _ _ ?_ | refine hKP _ _ (fun _ => ?_)); clear hK hKP K KP))))
    ((try simp only [go_sem, loadL_a]); refine callV_quiet en31 (pState b τ n s hbt hn ((i : Int) + 1)) ?_)
    ((try simp only [go_sem, loadL_a]); (try ((first | refine hK _ _ ?_ | refine hKP _ _ _ ?_ | refine hKP _ _ (fun _ => ?_)); clear hK hKP K KP)); repeat (first | refine Stp.s ?_ | refine inBlock_exit' (by decide) ?_ | ((first | refine vc_region fun K KP hK hKP => ?_ | refine Stg.s ?_ | refine guardD_ret0 ?_ | refine exV_intro _ rfl ?_); (try simp only [go_sem, loadL_a]); try ((first | refine hK _ _ ?_ | refine hKP _ _ _ ?_ | refine hKP _ _ (fun _ => ?_)); clear hK hKP K KP))))
    refine vc_cond rfl (fun hq => ?_) (fun hq => ?_)
    · (repeat (first | refine Stp.s ?_ | refine inBlock_exit' (by decide) ?_ | ((first | refine vc_region fun K KP hK hKP => ?_ | refine Stg.s ?_ | refine guardD_ret0 ?_ | refine exV_intro _ rfl ?_); (try simp only [go_sem, loadL_a, hw]); try ((first | refine hK _ _ ?_ | refine hKP _ _ _ ?_ | refine hKP _ _ (fun _ => ?_)); clear hK hKP K KP))))
      intro c hc
      refine append_int hB (Store.le_set hc (Store.le_refl _)) (row_lit (Store.set_same _ _ _) rfl rfl) (m := 1) rfl (by simp [V.one]) ?_ ?_
      · have := nums_fl (fun x => stOf s x != 0) i; show (List.filter _ (nums.take i)).length + 1 ≤ _; omega
      · intro x' τ' σ' hB' hle' _
        ((try simp only [go_sem, loadL_a, i64_nsucc (show i < 1000000 by omega)]); refine hK _ _ ?_; clear hK hKP K KP; repeat (first | refine Stp.s ?_ | refine inBlock_exit' (by decide) ?_ | ((first | refine vc_region fun K KP hK hKP => ?_ | refine Stg.s ?_ | refine guardD_ret0 ?_ | refine exV_intro _ rfl ?_); (try simp only [go_sem, loadL_a, i64_nsucc (show i < 1000000 by omega)]); try ((first | refine hK _ _ ?_ | refine hKP _ _ _ ?_ | refine hKP _ _ (fun _ => ?_)); clear hK hKP K KP))))
        refine ⟨(i + 1, x'), τ', (by repeat (first | exact LeEnv.nil | refine LeEnv.same ?_ | refine LeEnv.top ?_)), hle', ⟨by show i + 1 ≤ 12; omega, ?_⟩, by show 12 - (i + 1) < 12 - i; omega⟩
        show Bld 1 σ τ' x' _ _
        rw [htk, List.filter_append, List.filter_cons, hq]
        simpa using hB'
    · (repeat (first | refine Stp.s ?_ | refine inBlock_exit' (by decide) ?_ | ((first | refine vc_region fun K KP hK hKP => ?_ | refine Stg.s ?_ | refine guardD_ret0 ?_ | refine exV_intro _ rfl ?_); (try simp only [go_sem, loadL_a, i64_nsucc (show i < 1000000 by omega)]); try ((first | refine hK _ _ ?_ | refine hKP _ _ _ ?_ | refine hKP _ _ (fun _ => ?_)); clear hK hKP K KP))))
      refine ⟨(i + 1, x), τ, (by repeat (first | exact LeEnv.nil | refine LeEnv.same ?_ | refine LeEnv.top ?_)), Store.le_refl _, ⟨by show i + 1 ≤ 12; omega, ?_⟩, by show 12 - (i + 1) < 12 - i; omega⟩
      show Bld 1 σ τ x _ _
      rw [htk, List.filter_append, List.filter_cons, hq]
      simpa using hB
  · (repeat (first | refine Stp.s ?_ | refine inBlock_exit' (by decide) ?_ | ((first | refine vc_region fun K KP hK hKP => ?_ | refine Stg.s ?_ | refine guardD_ret0 ?_ | refine exV_intro _ rfl ?_); (try simp only [go_sem, loadL_a]); try ((first | refine hK _ _ ?_ | refine hKP _ _ _ ?_ | refine hKP _ _ (fun _ => ?_)); clear hK hKP K KP))))
    (simp only [postV, resV, oneOf, List.getD_cons_succ, List.getD_cons_zero, and_true, true_and])
    have hi12 : i = 12 := by simp at hc hi; omega
    subst hi12
    exact Ends.mk (Bld.ints hB)
end
end Go.Proofs.Ytbgagffpmdlilaa
