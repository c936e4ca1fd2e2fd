/- Subscriptions: join, joined, leave, left. -/
import Derived.Test.YtbgagffpmdlilaaP2
namespace Go.Proofs.Ytbgagffpmdlilaa
set_option linter.unusedSimpArgs false
set_option linter.unusedVariables false
open Go.Proofs
attribute [local irreducible] vc vcOps vcDraw vcK vcKP vcDK vcDB HWp HCalls postV Ex.then Ex.inBlock stepD callV appendV guardC guardD exV effV opV loadV storeV indexAddrV indexV sliceV
set_option maxRecDepth 10000
set_option maxHeartbeats 4000000

theorem sIs (b off : Nat) (σ : Store) (cs : List V) (u : Int) (L : List Int) (h : σ b = some (.cells cs)) (h0 : cs[off]? = some (I64 u)) (h1 : cs[off + 1]? = some (ints L)) (st p : Int) : HQuiet Try.prog 112 [.ptr b off, I64 st, I64 p] σ (BV (u == st && (L == [p]))) := by
  refine HQuiet.of ?_; (refine HCalls.of_vc Try.func112 rfl ?_; rw [Try.ntmps112, Try.results112]; simp only [List.length_cons, List.length_nil, Nat.reduceAdd, Nat.reduceSub, List.replicate, List.cons_append, List.nil_append])
  (repeat (first | refine Stp.s ?_ | refine inBlock_exit' (by decide) ?_ | ((first | refine vc_region fun K KP hK hKP => ?_ | refine Stg.s ?_ | refine guardD_ret0 ?_ | refine exV_intro _ rfl ?_); (try simp only [go_sem, loadL_a, h, h0, h1, List.length_map]); try ((first | refine hK _ _ ?_ | refine hKP _ _ _ ?_ | refine hKP _ _ (fun _ => ?_)); clear hK hKP K KP))))
  have hone : ∀ {z : Bool}, (z && ((L.length : Int) == 1)) = true → L.length = 1 := fun h => by
    simp only [Bool.and_eq_true, beq_iff_eq] at h; omega
  refine guardC_q0 (x := .ro [I64 (L.getD 0 0)]) (fun hc => ?_) ?_
  · have := hone hc
    obtain ⟨a, rfl⟩ := List.length_eq_one_iff.1 this
    exact ⟨Int.le_refl _, by simp, rfl, rfl⟩
  ((try simp only [go_sem, loadL_a]); (try ((first | refine hK _ _ ?_ | refine hKP _ _ _ ?_ | refine hKP _ _ (fun _ => ?_)); clear hK hKP K KP)); repeat (first | refine Stp.s ?_ | refine inBlock_exit' (by decide) ?_ | ((first | refine vc_region fun K KP hK hKP => ?_ | refine Stg.s ?_ | refine guardD_ret0 ?_ | refine exV_intro _ rfl ?_); (try simp only [go_sem, loadL_a]); try ((first | refine hK _ _ ?_ | refine hKP _ _ _ ?_ | refine hKP _ _ (fun _ => ?_)); clear hK hKP K KP))))
  (simp only [postV, resV, oneOf, List.getD_cons_succ, List.getD_cons_zero, and_true, true_and])
  refine Ends.le (congrArg BV ?_) (Store.le_refl _)
  rw [Bool.and_assoc]
  congr 1
  match L with
  | [] => rfl
  | [a] => rw [Bool.eq_iff_iff]; simp
  | a :: c :: l =>
    rw [Bool.eq_iff_iff]
    simp only [List.length_cons, Bool.and_eq_true, beq_iff_eq]
    exact ⟨fun h => by omega, fun h => by simp at h⟩
def isS (s : Subs) (x st f : Int) : Bool := nodeB x && ((s (x - 1).toNat).1 == st && ((s (x - 1).toNat).2 == [f]))
def pJoinedR (s : Subs) (x f : Int) (yes : Bool) : Int × Subs := if isS s x 1 f = true then (if yes = true then (0, setSt s (x - 1).toNat 2) else (0, setSu s (x - 1).toNat 0 [])) else (7, s)
def pLeftR (s : Subs) (x f : Int) (yes : Bool) : Int × Subs := if isS s x 3 f = true then (if yes = true then (0, setSu s (x - 1).toNat 0 []) else (0, setSt s (x - 1).toNat 2)) else (7, s)
def pLeaveR (s : Subs) (x : Int) : Int × Int × Subs :=
  if nodeB x = true then (if (s (x - 1).toNat).1 = 0 then (0, 4, s) else if (s (x - 1).toNat).1 ≠ 2 then (0, 15, s) else if (s (x - 1).toNat).2.length ≠ 1 then (0, 7, s) else ((s (x - 1).toNat).2.getD 0 0, 0, setSt s (x - 1).toNat 3)) else (0, 12, s)
def pJoinR (n : Int) (s : Subs) (x f : Int) : Int × Subs :=
  if nodeB x = true then (if (nodeB f && f != n) = true then (if (s (x - 1).toNat).1 = 0 then (0, setSu s (x - 1).toNat 1 [f]) else (10, s)) else (11, s)) else (12, s)
theorem pe_zero (n : Int) (s : Subs) (i : Nat) (hi : i < 12) {b : Nat} {τ : Store} {y : V} (h : τ b = some (.cells (setL (peC n s) (1 + i * 2) [I64 0, nilS]))) : Weakens y τ y (τ.set b (.cells (peC n (setSu s i 0 [])))) := by
  rw [← pe_set2 n s i hi 0 []]
  have hln := peC_len n s
  refine Weakens.blk h (lr_nils (by simp [setL_length]) fun j x z hx hz => ?_)
  have e : setL (peC n s) (1 + i * 2) [I64 0, nilS] = ((peC n s).set (1 + i * 2) (I64 0)).set (1 + i * 2 + 1) nilS := rfl
  rw [e] at hx
  by_cases hj : 1 + i * 2 + 1 = j
  · subst hj
    rw [List.getElem?_set_self (by rw [List.length_set, hln]; omega)] at hx hz
    cases hx; cases hz
    exact .inr ⟨rfl, 1, rfl⟩
  · rw [List.getElem?_set_ne hj] at hx hz
    rw [hx] at hz; cases hz; exact .inl rfl
/-- A new row in a cell is told as a list. -/
theorem pe_freeze {b j : Nat} {cs : List V} {σ τ : Store} {x y : V} {L : List Int} (hj : j < cs.length) (hB : Bld 1 (σ.set b (.cells (cs.set j x))) τ x (L.map I64) L.length) : Weakens y τ y (σ.set b (.cells (cs.set j (ints L)))) := by
  have h1 := Store.set_same σ b (.cells (cs.set j x))
  have := Weakens.cell (x := y) (hB.base _ _ h1) h1 (by rw [List.getElem?_set_self hj]) (Bld.ints hB)
  rw [Store.set_set, List.set_set] at this
  exact this
section
variable (b : Nat) (σ : Store) (n : Int) (s : Subs) (h : σ b = some (.cells (peC n s))) (hn : 0 < n)
include h hn
theorem pJoined (x f : Int) (yes : Bool) : HCalls Try.prog 36 [.ptr b 0, I64 x, I64 f, BV yes] σ (Ends (I64 (pJoinedR s x f yes).1) (σ.set b (.cells (peC n (pJoinedR s x f yes).2)))) := by
  (refine HCalls.of_vc Try.func36 rfl ?_; rw [Try.ntmps36, Try.results36]; simp only [List.length_cons, List.length_nil, Nat.reduceAdd, Nat.reduceSub, List.replicate, List.cons_append, List.nil_append])
  (repeat (first | refine Stp.s ?_ | refine inBlock_exit' (by decide) ?_ | ((first | refine vc_region fun K KP hK hKP => ?_ | refine Stg.s ?_ | refine guardD_ret0 ?_ | refine exV_intro _ rfl ?_); (try simp only [go_sem, loadL_a]); try ((first | refine hK _ _ ?_ | refine hKP _ _ _ ?_ | refine hKP _ _ (fun _ => ?_)); clear hK hKP K KP))))
  have hid : σ.set b (.cells (peC n s)) = σ := Store.set_id h
  by_cases hx : nodeB x = true
  · have hi := nodeB_idx hx
    have hst := peC_st n s _ hi
    have hpe := peC_pe n s _ hi
    have hln := peC_len n s
    have g3 := eq_true (show 1 + (x - 1).toNat * 2 + 1 ≤ 25 by omega)
    have g4 := eq_true (show 1 + (x - 1).toNat * 2 + 2 ≤ 25 by omega)
    have hse := peC_setSt n s _ hi 2
    ((try simp only [go_sem, loadL_a]); refine callV_quiet en107 (pat_in b σ n s h hn x hx) ?_)
    ((try simp only [go_sem, loadL_a]); (try ((first | refine hK _ _ ?_ | refine hKP _ _ _ ?_ | refine hKP _ _ (fun _ => ?_)); clear hK hKP K KP)); repeat (first | refine Stp.s ?_ | refine inBlock_exit' (by decide) ?_ | ((first | refine vc_region fun K KP hK hKP => ?_ | refine Stg.s ?_ | refine guardD_ret0 ?_ | refine exV_intro _ rfl ?_); (try simp only [go_sem, loadL_a]); try ((first | refine hK _ _ ?_ | refine hKP _ _ _ ?_ | refine hKP _ _ (fun _ => ?_)); clear hK hKP K KP))))
    ((try simp only [go_sem, loadL_a]); refine callV_quiet en111 (pmade b σ n s h) ?_)
    ((try simp only [go_sem, loadL_a]); (try ((first | refine hK _ _ ?_ | refine hKP _ _ _ ?_ | refine hKP _ _ (fun _ => ?_)); clear hK hKP K KP)); repeat (first | refine Stp.s ?_ | refine inBlock_exit' (by decide) ?_ | ((first | refine vc_region fun K KP hK hKP => ?_ | refine Stg.s ?_ | refine guardD_ret0 ?_ | refine exV_intro _ rfl ?_); (try simp only [go_sem, loadL_a]); try ((first | refine hK _ _ ?_ | refine hKP _ _ _ ?_ | refine hKP _ _ (fun _ => ?_)); clear hK hKP K KP))))
    refine vc_cond rfl (fun hc => ?_) (fun _ => ?_)
    · exfalso; simp at hc; omega
    (repeat (first | refine Stp.s ?_ | refine inBlock_exit' (by decide) ?_ | ((first | refine vc_region fun K KP hK hKP => ?_ | refine Stg.s ?_ | refine guardD_ret0 ?_ | refine exV_intro _ rfl ?_); (try simp only [go_sem, loadL_a]); try ((first | refine hK _ _ ?_ | refine hKP _ _ _ ?_ | refine hKP _ _ (fun _ => ?_)); clear hK hKP K KP))))
    ((try simp only [go_sem, loadL_a]); refine callV_quiet en112 (sIs b (offS x) σ (peC n s) _ _ h hst hpe 1 f) ?_)
    ((try simp only [go_sem, loadL_a]); (try ((first | refine hK _ _ ?_ | refine hKP _ _ _ ?_ | refine hKP _ _ (fun _ => ?_)); clear hK hKP K KP)); repeat (first | refine Stp.s ?_ | refine inBlock_exit' (by decide) ?_ | ((first | refine vc_region fun K KP hK hKP => ?_ | refine Stg.s ?_ | refine guardD_ret0 ?_ | refine exV_intro _ rfl ?_); (try simp only [go_sem, loadL_a]); try ((first | refine hK _ _ ?_ | refine hKP _ _ _ ?_ | refine hKP _ _ (fun _ => ?_)); clear hK hKP K KP))))
    unfold pJoinedR isS
    rw [hx, Bool.true_and]
    refine vc_cond rfl (fun hc => ?_) (fun hc => ?_)
    · have hc : ((s (x - 1).toNat).1 == 1 && (s (x - 1).toNat).2 == [f]) = false := by rwa [Bool.not_eq_true'] at hc
      rw [hc, if_neg (by decide), hid]
      (repeat (first | refine Stp.s ?_ | refine inBlock_exit' (by decide) ?_ | ((first | refine vc_region fun K KP hK hKP => ?_ | refine Stg.s ?_ | refine guardD_ret0 ?_ | refine exV_intro _ rfl ?_); (try simp only [go_sem, loadL_a]); try ((first | refine hK _ _ ?_ | refine hKP _ _ _ ?_ | refine hKP _ _ (fun _ => ?_)); clear hK hKP K KP))))
      (simp only [postV, resV, oneOf, List.getD_cons_succ, List.getD_cons_zero, and_true, true_and])
      exact Ends.le rfl (Store.le_refl _)
    · have hc : ((s (x - 1).toNat).1 == 1 && (s (x - 1).toNat).2 == [f]) = true := by rwa [Bool.not_eq_false'] at hc
      rw [hc, if_pos rfl]
      (repeat (first | refine Stp.s ?_ | refine inBlock_exit' (by decide) ?_ | ((first | refine vc_region fun K KP hK hKP => ?_ | refine Stg.s ?_ | refine guardD_ret0 ?_ | refine exV_intro _ rfl ?_); (try simp only [go_sem, loadL_a]); try ((first | refine hK _ _ ?_ | refine hKP _ _ _ ?_ | refine hKP _ _ (fun _ => ?_)); clear hK hKP K KP))))
      refine vc_cond rfl (fun hy => ?_) (fun hy => ?_)
      · have hy : yes = false := by simpa using hy
        rw [hy, if_neg (by decide)]
        (repeat (first | refine Stp.s ?_ | refine inBlock_exit' (by decide) ?_ | ((first | refine vc_region fun K KP hK hKP => ?_ | refine Stg.s ?_ | refine guardD_ret0 ?_ | refine exV_intro _ rfl ?_); (try simp only [go_sem, loadL_a, h, hln, g4, offS]); try ((first | refine hK _ _ ?_ | refine hKP _ _ _ ?_ | refine hKP _ _ (fun _ => ?_)); clear hK hKP K KP))))
        (simp only [postV, resV, oneOf, List.getD_cons_succ, List.getD_cons_zero, and_true, true_and])
        have := pe_zero (y := I64 0) n s _ hi (Store.set_same σ b (.cells (setL (peC n s) (1 + (x - 1).toNat * 2) [I64 0, nilS])))
        rw [Store.set_set] at this
        exact Ends.mk this
      · have hy : yes = true := by simpa using hy
        rw [hy, if_pos rfl]
        (repeat (first | refine Stp.s ?_ | refine inBlock_exit' (by decide) ?_ | ((first | refine vc_region fun K KP hK hKP => ?_ | refine Stg.s ?_ | refine guardD_ret0 ?_ | refine exV_intro _ rfl ?_); (try simp only [go_sem, loadL_a, h, hln, g3, hse, offS]); try ((first | refine hK _ _ ?_ | refine hKP _ _ _ ?_ | refine hKP _ _ (fun _ => ?_)); clear hK hKP K KP))))
        (simp only [postV, resV, oneOf, List.getD_cons_succ, List.getD_cons_zero, and_true, true_and])
        exact Ends.le rfl (Store.le_refl _)
  · refine callV_new en107 (pat_out b σ n s h x fun q => hx q.2) (fun c hc => ?_)
    have hb2 := Store.keep hc h noSub
    have hle := Store.le_set hc (Store.le_refl σ) (k := noSub)
    ((try simp only [go_sem, loadL_a]); (try ((first | refine hK _ _ ?_ | refine hKP _ _ _ ?_ | refine hKP _ _ (fun _ => ?_)); clear hK hKP K KP)); repeat (first | refine Stp.s ?_ | refine inBlock_exit' (by decide) ?_ | ((first | refine vc_region fun K KP hK hKP => ?_ | refine Stg.s ?_ | refine guardD_ret0 ?_ | refine exV_intro _ rfl ?_); (try simp only [go_sem, loadL_a]); try ((first | refine hK _ _ ?_ | refine hKP _ _ _ ?_ | refine hKP _ _ (fun _ => ?_)); clear hK hKP K KP))))
    ((try simp only [go_sem, loadL_a]); refine callV_quiet en111 (pmade b _ n s hb2) ?_)
    ((try simp only [go_sem, loadL_a]); (try ((first | refine hK _ _ ?_ | refine hKP _ _ _ ?_ | refine hKP _ _ (fun _ => ?_)); clear hK hKP K KP)); repeat (first | refine Stp.s ?_ | refine inBlock_exit' (by decide) ?_ | ((first | refine vc_region fun K KP hK hKP => ?_ | refine Stg.s ?_ | refine guardD_ret0 ?_ | refine exV_intro _ rfl ?_); (try simp only [go_sem, loadL_a]); try ((first | refine hK _ _ ?_ | refine hKP _ _ _ ?_ | refine hKP _ _ (fun _ => ?_)); clear hK hKP K KP))))
    refine vc_cond rfl (fun hc => ?_) (fun _ => ?_)
    · exfalso; simp at hc; omega
    (repeat (first | refine Stp.s ?_ | refine inBlock_exit' (by decide) ?_ | ((first | refine vc_region fun K KP hK hKP => ?_ | refine Stg.s ?_ | refine guardD_ret0 ?_ | refine exV_intro _ rfl ?_); (try simp only [go_sem, loadL_a]); try ((first | refine hK _ _ ?_ | refine hKP _ _ _ ?_ | refine hKP _ _ (fun _ => ?_)); clear hK hKP K KP))))
    ((try simp only [go_sem, loadL_a]); refine callV_quiet en112 (sIs c 0 _ [I64 0, ints []] 0 [] noSub0 rfl rfl 1 f) ?_)
    ((try simp only [go_sem, loadL_a]); (try ((first | refine hK _ _ ?_ | refine hKP _ _ _ ?_ | refine hKP _ _ (fun _ => ?_)); clear hK hKP K KP)); repeat (first | refine Stp.s ?_ | refine inBlock_exit' (by decide) ?_ | ((first | refine vc_region fun K KP hK hKP => ?_ | refine Stg.s ?_ | refine guardD_ret0 ?_ | refine exV_intro _ rfl ?_); (try simp only [go_sem, loadL_a]); try ((first | refine hK _ _ ?_ | refine hKP _ _ _ ?_ | refine hKP _ _ (fun _ => ?_)); clear hK hKP K KP))))
    refine vc_cond rfl (fun _ => ?_) (fun hc => by cases hc)
    (repeat (first | refine Stp.s ?_ | refine inBlock_exit' (by decide) ?_ | ((first | refine vc_region fun K KP hK hKP => ?_ | refine Stg.s ?_ | refine guardD_ret0 ?_ | refine exV_intro _ rfl ?_); (try simp only [go_sem, loadL_a]); try ((first | refine hK _ _ ?_ | refine hKP _ _ _ ?_ | refine hKP _ _ (fun _ => ?_)); clear hK hKP K KP))))
    (simp only [postV, resV, oneOf, List.getD_cons_succ, List.getD_cons_zero, and_true, true_and])
    unfold pJoinedR isS
    rw [Bool.eq_false_iff.2 hx, Bool.false_and, if_neg (by decide), hid]
    exact Ends.le rfl hle
theorem pLeft (x f : Int) (yes : Bool) : HCalls Try.prog 39 [.ptr b 0, I64 x, I64 f, BV yes] σ (Ends (I64 (pLeftR s x f yes).1) (σ.set b (.cells (peC n (pLeftR s x f yes).2)))) := by
  (refine HCalls.of_vc Try.func39 rfl ?_; rw [Try.ntmps39, Try.results39]; simp only [List.length_cons, List.length_nil, Nat.reduceAdd, Nat.reduceSub, List.replicate, List.cons_append, List.nil_append])
  (repeat (first | refine Stp.s ?_ | refine inBlock_exit' (by decide) ?_ | ((first | refine vc_region fun K KP hK hKP => ?_ | refine Stg.s ?_ | refine guardD_ret0 ?_ | refine exV_intro _ rfl ?_); (try simp only [go_sem, loadL_a]); try ((first | refine hK _ _ ?_ | refine hKP _ _ _ ?_ | refine hKP _ _ (fun _ => ?_)); clear hK hKP K KP))))
  have hid : σ.set b (.cells (peC n s)) = σ := Store.set_id h
  by_cases hx : nodeB x = true
  · have hi := nodeB_idx hx
    have hst := peC_st n s _ hi
    have hpe := peC_pe n s _ hi
    have hln := peC_len n s
    have g3 := eq_true (show 1 + (x - 1).toNat * 2 + 1 ≤ 25 by omega)
    have g4 := eq_true (show 1 + (x - 1).toNat * 2 + 2 ≤ 25 by omega)
    have hse := peC_setSt n s _ hi 2
    ((try simp only [go_sem, loadL_a]); refine callV_quiet en107 (pat_in b σ n s h hn x hx) ?_)
    ((try simp only [go_sem, loadL_a]); (try ((first | refine hK _ _ ?_ | refine hKP _ _ _ ?_ | refine hKP _ _ (fun _ => ?_)); clear hK hKP K KP)); repeat (first | refine Stp.s ?_ | refine inBlock_exit' (by decide) ?_ | ((first | refine vc_region fun K KP hK hKP => ?_ | refine Stg.s ?_ | refine guardD_ret0 ?_ | refine exV_intro _ rfl ?_); (try simp only [go_sem, loadL_a]); try ((first | refine hK _ _ ?_ | refine hKP _ _ _ ?_ | refine hKP _ _ (fun _ => ?_)); clear hK hKP K KP))))
    ((try simp only [go_sem, loadL_a]); refine callV_quiet en111 (pmade b σ n s h) ?_)
    ((try simp only [go_sem, loadL_a]); (try ((first | refine hK _ _ ?_ | refine hKP _ _ _ ?_ | refine hKP _ _ (fun _ => ?_)); clear hK hKP K KP)); repeat (first | refine Stp.s ?_ | refine inBlock_exit' (by decide) ?_ | ((first | refine vc_region fun K KP hK hKP => ?_ | refine Stg.s ?_ | refine guardD_ret0 ?_ | refine exV_intro _ rfl ?_); (try simp only [go_sem, loadL_a]); try ((first | refine hK _ _ ?_ | refine hKP _ _ _ ?_ | refine hKP _ _ (fun _ => ?_)); clear hK hKP K KP))))
    refine vc_cond rfl (fun hc => ?_) (fun _ => ?_)
    · exfalso; simp at hc; omega
    (repeat (first | refine Stp.s ?_ | refine inBlock_exit' (by decide) ?_ | ((first | refine vc_region fun K KP hK hKP => ?_ | refine Stg.s ?_ | refine guardD_ret0 ?_ | refine exV_intro _ rfl ?_); (try simp only [go_sem, loadL_a]); try ((first | refine hK _ _ ?_ | refine hKP _ _ _ ?_ | refine hKP _ _ (fun _ => ?_)); clear hK hKP K KP))))
    ((try simp only [go_sem, loadL_a]); refine callV_quiet en112 (sIs b (offS x) σ (peC n s) _ _ h hst hpe 3 f) ?_)
    ((try simp only [go_sem, loadL_a]); (try ((first | refine hK _ _ ?_ | refine hKP _ _ _ ?_ | refine hKP _ _ (fun _ => ?_)); clear hK hKP K KP)); repeat (first | refine Stp.s ?_ | refine inBlock_exit' (by decide) ?_ | ((first | refine vc_region fun K KP hK hKP => ?_ | refine Stg.s ?_ | refine guardD_ret0 ?_ | refine exV_intro _ rfl ?_); (try simp only [go_sem, loadL_a]); try ((first | refine hK _ _ ?_ | refine hKP _ _ _ ?_ | refine hKP _ _ (fun _ => ?_)); clear hK hKP K KP))))
    unfold pLeftR isS
    rw [hx, Bool.true_and]
    refine vc_cond rfl (fun hc => ?_) (fun hc => ?_)
    · have hc : ((s (x - 1).toNat).1 == 3 && (s (x - 1).toNat).2 == [f]) = false := by rwa [Bool.not_eq_true'] at hc
      rw [hc, if_neg (by decide), hid]
      (repeat (first | refine Stp.s ?_ | refine inBlock_exit' (by decide) ?_ | ((first | refine vc_region fun K KP hK hKP => ?_ | refine Stg.s ?_ | refine guardD_ret0 ?_ | refine exV_intro _ rfl ?_); (try simp only [go_sem, loadL_a]); try ((first | refine hK _ _ ?_ | refine hKP _ _ _ ?_ | refine hKP _ _ (fun _ => ?_)); clear hK hKP K KP))))
      (simp only [postV, resV, oneOf, List.getD_cons_succ, List.getD_cons_zero, and_true, true_and])
      exact Ends.le rfl (Store.le_refl _)
    · have hc : ((s (x - 1).toNat).1 == 3 && (s (x - 1).toNat).2 == [f]) = true := by rwa [Bool.not_eq_false'] at hc
      rw [hc, if_pos rfl]
      (repeat (first | refine Stp.s ?_ | refine inBlock_exit' (by decide) ?_ | ((first | refine vc_region fun K KP hK hKP => ?_ | refine Stg.s ?_ | refine guardD_ret0 ?_ | refine exV_intro _ rfl ?_); (try simp only [go_sem, loadL_a]); try ((first | refine hK _ _ ?_ | refine hKP _ _ _ ?_ | refine hKP _ _ (fun _ => ?_)); clear hK hKP K KP))))
      refine vc_cond rfl (fun hy => ?_) (fun hy => ?_)
      · rw [if_pos hy]
        (repeat (first | refine Stp.s ?_ | refine inBlock_exit' (by decide) ?_ | ((first | refine vc_region fun K KP hK hKP => ?_ | refine Stg.s ?_ | refine guardD_ret0 ?_ | refine exV_intro _ rfl ?_); (try simp only [go_sem, loadL_a, h, hln, g4, offS]); try ((first | refine hK _ _ ?_ | refine hKP _ _ _ ?_ | refine hKP _ _ (fun _ => ?_)); clear hK hKP K KP))))
        (simp only [postV, resV, oneOf, List.getD_cons_succ, List.getD_cons_zero, and_true, true_and])
        have := pe_zero (y := I64 0) n s _ hi (Store.set_same σ b (.cells (setL (peC n s) (1 + (x - 1).toNat * 2) [I64 0, nilS])))
        rw [Store.set_set] at this
        exact Ends.mk this
      · rw [if_neg (by rw [hy]; decide)]
        (repeat (first | refine Stp.s ?_ | refine inBlock_exit' (by decide) ?_ | ((first | refine vc_region fun K KP hK hKP => ?_ | refine Stg.s ?_ | refine guardD_ret0 ?_ | refine exV_intro _ rfl ?_); (try simp only [go_sem, loadL_a, h, hln, g3, hse, offS]); try ((first | refine hK _ _ ?_ | refine hKP _ _ _ ?_ | refine hKP _ _ (fun _ => ?_)); clear hK hKP K KP))))
        (simp only [postV, resV, oneOf, List.getD_cons_succ, List.getD_cons_zero, and_true, true_and])
        exact Ends.le rfl (Store.le_refl _)
  · refine callV_new en107 (pat_out b σ n s h x fun q => hx q.2) (fun c hc => ?_)
    have hb2 := Store.keep hc h noSub
    have hle := Store.le_set hc (Store.le_refl σ) (k := noSub)
    ((try simp only [go_sem, loadL_a]); (try ((first | refine hK _ _ ?_ | refine hKP _ _ _ ?_ | refine hKP _ _ (fun _ => ?_)); clear hK hKP K KP)); repeat (first | refine Stp.s ?_ | refine inBlock_exit' (by decide) ?_ | ((first | refine vc_region fun K KP hK hKP => ?_ | refine Stg.s ?_ | refine guardD_ret0 ?_ | refine exV_intro _ rfl ?_); (try simp only [go_sem, loadL_a]); try ((first | refine hK _ _ ?_ | refine hKP _ _ _ ?_ | refine hKP _ _ (fun _ => ?_)); clear hK hKP K KP))))
    ((try simp only [go_sem, loadL_a]); refine callV_quiet en111 (pmade b _ n s hb2) ?_)
    ((try simp only [go_sem, loadL_a]); (try ((first | refine hK _ _ ?_ | refine hKP _ _ _ ?_ | refine hKP _ _ (fun _ => ?_)); clear hK hKP K KP)); repeat (first | refine Stp.s ?_ | refine inBlock_exit' (by decide) ?_ | ((first | refine vc_region fun K KP hK hKP => ?_ | refine Stg.s ?_ | refine guardD_ret0 ?_ | refine exV_intro _ rfl ?_); (try simp only [go_sem, loadL_a]); try ((first | refine hK _ _ ?_ | refine hKP _ _ _ ?_ | refine hKP _ _ (fun _ => ?_)); clear hK hKP K KP))))
    refine vc_cond rfl (fun hc => ?_) (fun _ => ?_)
    · exfalso; simp at hc; omega
    (repeat (first | refine Stp.s ?_ | refine inBlock_exit' (by decide) ?_ | ((first | refine vc_region fun K KP hK hKP => ?_ | refine Stg.s ?_ | refine guardD_ret0 ?_ | refine exV_intro _ rfl ?_); (try simp only [go_sem, loadL_a]); try ((first | refine hK _ _ ?_ | refine hKP _ _ _ ?_ | refine hKP _ _ (fun _ => ?_)); clear hK hKP K KP))))
    ((try simp only [go_sem, loadL_a]); refine callV_quiet en112 (sIs c 0 _ [I64 0, ints []] 0 [] noSub0 rfl rfl 3 f) ?_)
    ((try simp only [go_sem, loadL_a]); (try ((first | refine hK _ _ ?_ | refine hKP _ _ _ ?_ | refine hKP _ _ (fun _ => ?_)); clear hK hKP K KP)); repeat (first | refine Stp.s ?_ | refine inBlock_exit' (by decide) ?_ | ((first | refine vc_region fun K KP hK hKP => ?_ | refine Stg.s ?_ | refine guardD_ret0 ?_ | refine exV_intro _ rfl ?_); (try simp only [go_sem, loadL_a]); try ((first | refine hK _ _ ?_ | refine hKP _ _ _ ?_ | refine hKP _ _ (fun _ => ?_)); clear hK hKP K KP))))
    refine vc_cond rfl (fun _ => ?_) (fun hc => by cases hc)
    (repeat (first | refine Stp.s ?_ | refine inBlock_exit' (by decide) ?_ | ((first | refine vc_region fun K KP hK hKP => ?_ | refine Stg.s ?_ | refine guardD_ret0 ?_ | refine exV_intro _ rfl ?_); (try simp only [go_sem, loadL_a]); try ((first | refine hK _ _ ?_ | refine hKP _ _ _ ?_ | refine hKP _ _ (fun _ => ?_)); clear hK hKP K KP))))
    (simp only [postV, resV, oneOf, List.getD_cons_succ, List.getD_cons_zero, and_true, true_and])
    unfold pLeftR isS
    rw [Bool.eq_false_iff.2 hx, Bool.false_and, if_neg (by decide), hid]
    exact Ends.le rfl hle
theorem pLeave (x : Int) : HCalls Try.prog 37 [.ptr b 0, I64 x] σ (Ends (.tup [I64 (pLeaveR s x).1, I64 (pLeaveR s x).2.1]) (σ.set b (.cells (peC n (pLeaveR s x).2.2)))) := by
  (refine HCalls.of_vc Try.func37 rfl ?_; rw [Try.ntmps37, Try.results37]; simp only [List.length_cons, List.length_nil, Nat.reduceAdd, Nat.reduceSub, List.replicate, List.cons_append, List.nil_append])
  (repeat (first | refine Stp.s ?_ | refine inBlock_exit' (by decide) ?_ | ((first | refine vc_region fun K KP hK hKP => ?_ | refine Stg.s ?_ | refine guardD_ret0 ?_ | refine exV_intro _ rfl ?_); (try simp only [go_sem, loadL_a]); try ((first | refine hK _ _ ?_ | refine hKP _ _ _ ?_ | refine hKP _ _ (fun _ => ?_)); clear hK hKP K KP))))
  ((try simp only [go_sem, loadL_a]); refine callV_quiet en108 (pAsk b σ n s h hn x) ?_)
  have hid : σ.set b (.cells (peC n s)) = σ := Store.set_id h
  by_cases hx : nodeB x = true
  · have hi := nodeB_idx hx
    have hst := peC_st n s _ hi
    have hpe := peC_pe n s _ hi
    have hln := peC_len n s
    have g3 := eq_true (show 1 + (x - 1).toNat * 2 + 1 ≤ 25 by omega)
    have hse := peC_setSt n s _ hi 3
    have hpe3 := peC_pe n (setSt s (x - 1).toNat 3) _ hi
    rw [if_pos hx]
    ((try simp only [go_sem, loadL_a]); (try ((first | refine hK _ _ ?_ | refine hKP _ _ _ ?_ | refine hKP _ _ (fun _ => ?_)); clear hK hKP K KP)); repeat (first | refine Stp.s ?_ | refine inBlock_exit' (by decide) ?_ | ((first | refine vc_region fun K KP hK hKP => ?_ | refine Stg.s ?_ | refine guardD_ret0 ?_ | refine exV_intro _ rfl ?_); (try simp only [go_sem, loadL_a]); try ((first | refine hK _ _ ?_ | refine hKP _ _ _ ?_ | refine hKP _ _ (fun _ => ?_)); clear hK hKP K KP))))
    refine vc_cond rfl (fun hc => by cases hc) (fun _ => ?_)
    (repeat (first | refine Stp.s ?_ | refine inBlock_exit' (by decide) ?_ | ((first | refine vc_region fun K KP hK hKP => ?_ | refine Stg.s ?_ | refine guardD_ret0 ?_ | refine exV_intro _ rfl ?_); (try simp only [go_sem, loadL_a]); try ((first | refine hK _ _ ?_ | refine hKP _ _ _ ?_ | refine hKP _ _ (fun _ => ?_)); clear hK hKP K KP))))
    ((try simp only [go_sem, loadL_a]); refine callV_quiet en107 (pat_in b σ n s h hn x hx) ?_)
    ((try simp only [go_sem, loadL_a, h, hst, offS]); (try ((first | refine hK _ _ ?_ | refine hKP _ _ _ ?_ | refine hKP _ _ (fun _ => ?_)); clear hK hKP K KP)); repeat (first | refine Stp.s ?_ | refine inBlock_exit' (by decide) ?_ | ((first | refine vc_region fun K KP hK hKP => ?_ | refine Stg.s ?_ | refine guardD_ret0 ?_ | refine exV_intro _ rfl ?_); (try simp only [go_sem, loadL_a, h, hst, offS]); try ((first | refine hK _ _ ?_ | refine hKP _ _ _ ?_ | refine hKP _ _ (fun _ => ?_)); clear hK hKP K KP))))
    unfold pLeaveR
    rw [if_pos hx]
    refine vc_cond rfl (fun hc => ?_) (fun hc => ?_)
    · rw [if_pos (by simpa using hc)]
      (repeat (first | refine Stp.s ?_ | refine inBlock_exit' (by decide) ?_ | ((first | refine vc_region fun K KP hK hKP => ?_ | refine Stg.s ?_ | refine guardD_ret0 ?_ | refine exV_intro _ rfl ?_); (try simp only [go_sem, loadL_a]); try ((first | refine hK _ _ ?_ | refine hKP _ _ _ ?_ | refine hKP _ _ (fun _ => ?_)); clear hK hKP K KP))))
      (simp only [postV, resV, oneOf, List.getD_cons_succ, List.getD_cons_zero, and_true, true_and])
      rw [hid]
      exact Ends.le rfl (Store.le_refl _)
    rw [if_neg (by simpa using hc)]
    (repeat (first | refine Stp.s ?_ | refine inBlock_exit' (by decide) ?_ | ((first | refine vc_region fun K KP hK hKP => ?_ | refine Stg.s ?_ | refine guardD_ret0 ?_ | refine exV_intro _ rfl ?_); (try simp only [go_sem, loadL_a, h, hst, offS]); try ((first | refine hK _ _ ?_ | refine hKP _ _ _ ?_ | refine hKP _ _ (fun _ => ?_)); clear hK hKP K KP))))
    refine vc_cond rfl (fun hc => ?_) (fun hc => ?_)
    · rw [if_pos (by simpa using hc)]
      (repeat (first | refine Stp.s ?_ | refine inBlock_exit' (by decide) ?_ | ((first | refine vc_region fun K KP hK hKP => ?_ | refine Stg.s ?_ | refine guardD_ret0 ?_ | refine exV_intro _ rfl ?_); (try simp only [go_sem, loadL_a]); try ((first | refine hK _ _ ?_ | refine hKP _ _ _ ?_ | refine hKP _ _ (fun _ => ?_)); clear hK hKP K KP))))
      (simp only [postV, resV, oneOf, List.getD_cons_succ, List.getD_cons_zero, and_true, true_and])
      rw [hid]
      exact Ends.le rfl (Store.le_refl _)
    rw [if_neg (by simpa using hc)]
    (repeat (first | refine Stp.s ?_ | refine inBlock_exit' (by decide) ?_ | ((first | refine vc_region fun K KP hK hKP => ?_ | refine Stg.s ?_ | refine guardD_ret0 ?_ | refine exV_intro _ rfl ?_); (try simp only [go_sem, loadL_a, h, hpe, offS, List.length_map]); try ((first | refine hK _ _ ?_ | refine hKP _ _ _ ?_ | refine hKP _ _ (fun _ => ?_)); clear hK hKP K KP))))
    refine vc_cond rfl (fun hc => ?_) (fun hc => ?_)
    · rw [if_pos (by have := bne_iff_ne.1 hc; omega)]
      (repeat (first | refine Stp.s ?_ | refine inBlock_exit' (by decide) ?_ | ((first | refine vc_region fun K KP hK hKP => ?_ | refine Stg.s ?_ | refine guardD_ret0 ?_ | refine exV_intro _ rfl ?_); (try simp only [go_sem, loadL_a]); try ((first | refine hK _ _ ?_ | refine hKP _ _ _ ?_ | refine hKP _ _ (fun _ => ?_)); clear hK hKP K KP))))
      (simp only [postV, resV, oneOf, List.getD_cons_succ, List.getD_cons_zero, and_true, true_and])
      rw [hid]
      exact Ends.le rfl (Store.le_refl _)
    have h1 : (s (x - 1).toNat).2.length = 1 := by have := bne_eq_false_iff_eq.1 hc; omega
    rw [if_neg (by omega)]
    obtain ⟨a, ha⟩ := List.length_eq_one_iff.1 h1
    have hL : (setSt s (x - 1).toNat 3 (x - 1).toNat).2 = [a] := by unfold setSt; rw [if_pos rfl]; exact ha
    rw [hL] at hpe3
    have z0 : Int.toNat 0 = 0 := rfl
    have z1 : ((0 : Int) < ((1 : Nat) : Int)) = True := by decide
    (repeat (first | refine Stp.s ?_ | refine inBlock_exit' (by decide) ?_ | ((first | refine vc_region fun K KP hK hKP => ?_ | refine Stg.s ?_ | refine guardD_ret0 ?_ | refine exV_intro _ rfl ?_); (try simp only [go_sem, loadL_a, h, hln, g3, hse, offS, Store.set_same, hpe3, z0, z1, Int.le_refl]); try ((first | refine hK _ _ ?_ | refine hKP _ _ _ ?_ | refine hKP _ _ (fun _ => ?_)); clear hK hKP K KP))))
    (simp only [postV, resV, oneOf, List.getD_cons_succ, List.getD_cons_zero, and_true, true_and])
    rw [ha]
    exact Ends.le rfl (Store.le_refl _)
  · rw [if_neg hx]
    ((try simp only [go_sem, loadL_a]); (try ((first | refine hK _ _ ?_ | refine hKP _ _ _ ?_ | refine hKP _ _ (fun _ => ?_)); clear hK hKP K KP)); repeat (first | refine Stp.s ?_ | refine inBlock_exit' (by decide) ?_ | ((first | refine vc_region fun K KP hK hKP => ?_ | refine Stg.s ?_ | refine guardD_ret0 ?_ | refine exV_intro _ rfl ?_); (try simp only [go_sem, loadL_a]); try ((first | refine hK _ _ ?_ | refine hKP _ _ _ ?_ | refine hKP _ _ (fun _ => ?_)); clear hK hKP K KP))))
    refine vc_cond rfl (fun _ => ?_) (fun hc => by cases hc)
    (repeat (first | refine Stp.s ?_ | refine inBlock_exit' (by decide) ?_ | ((first | refine vc_region fun K KP hK hKP => ?_ | refine Stg.s ?_ | refine guardD_ret0 ?_ | refine exV_intro _ rfl ?_); (try simp only [go_sem, loadL_a]); try ((first | refine hK _ _ ?_ | refine hKP _ _ _ ?_ | refine hKP _ _ (fun _ => ?_)); clear hK hKP K KP))))
    (simp only [postV, resV, oneOf, List.getD_cons_succ, List.getD_cons_zero, and_true, true_and])
    unfold pLeaveR
    rw [if_neg hx, hid]
    exact Ends.le rfl (Store.le_refl _)
theorem pJoin (x f : Int) : HCalls Try.prog 34 [.ptr b 0, I64 x, I64 f] σ (Ends (I64 (pJoinR n s x f).1) (σ.set b (.cells (peC n (pJoinR n s x f).2)))) := by
  (refine HCalls.of_vc Try.func34 rfl ?_; rw [Try.ntmps34, Try.results34]; simp only [List.length_cons, List.length_nil, Nat.reduceAdd, Nat.reduceSub, List.replicate, List.cons_append, List.nil_append])
  (repeat (first | refine Stp.s ?_ | refine inBlock_exit' (by decide) ?_ | ((first | refine vc_region fun K KP hK hKP => ?_ | refine Stg.s ?_ | refine guardD_ret0 ?_ | refine exV_intro _ rfl ?_); (try simp only [go_sem, loadL_a]); try ((first | refine hK _ _ ?_ | refine hKP _ _ _ ?_ | refine hKP _ _ (fun _ => ?_)); clear hK hKP K KP))))
  ((try simp only [go_sem, loadL_a]); refine callV_quiet en108 (pAsk b σ n s h hn x) ?_)
  have hid : σ.set b (.cells (peC n s)) = σ := Store.set_id h
  by_cases hx : nodeB x = true
  · have hi := nodeB_idx hx
    have hst := peC_st n s _ hi
    have hln := peC_len n s
    have g4 := eq_true (show 1 + (x - 1).toNat * 2 + 2 ≤ 25 by omega)
    rw [if_pos hx]
    ((try simp only [go_sem, loadL_a]); (try ((first | refine hK _ _ ?_ | refine hKP _ _ _ ?_ | refine hKP _ _ (fun _ => ?_)); clear hK hKP K KP)); repeat (first | refine Stp.s ?_ | refine inBlock_exit' (by decide) ?_ | ((first | refine vc_region fun K KP hK hKP => ?_ | refine Stg.s ?_ | refine guardD_ret0 ?_ | refine exV_intro _ rfl ?_); (try simp only [go_sem, loadL_a]); try ((first | refine hK _ _ ?_ | refine hKP _ _ _ ?_ | refine hKP _ _ (fun _ => ?_)); clear hK hKP K KP))))
    refine vc_cond rfl (fun hc => by cases hc) (fun _ => ?_)
    (repeat (first | refine Stp.s ?_ | refine inBlock_exit' (by decide) ?_ | ((first | refine vc_region fun K KP hK hKP => ?_ | refine Stg.s ?_ | refine guardD_ret0 ?_ | refine exV_intro _ rfl ?_); (try simp only [go_sem, loadL_a]); try ((first | refine hK _ _ ?_ | refine hKP _ _ _ ?_ | refine hKP _ _ (fun _ => ?_)); clear hK hKP K KP))))
    ((try simp only [go_sem, loadL_a]); refine callV_quiet en107 (pat_in b σ n s h hn x hx) ?_)
    ((try simp only [go_sem, loadL_a]); (try ((first | refine hK _ _ ?_ | refine hKP _ _ _ ?_ | refine hKP _ _ (fun _ => ?_)); clear hK hKP K KP)); repeat (first | refine Stp.s ?_ | refine inBlock_exit' (by decide) ?_ | ((first | refine vc_region fun K KP hK hKP => ?_ | refine Stg.s ?_ | refine guardD_ret0 ?_ | refine exV_intro _ rfl ?_); (try simp only [go_sem, loadL_a]); try ((first | refine hK _ _ ?_ | refine hKP _ _ _ ?_ | refine hKP _ _ (fun _ => ?_)); clear hK hKP K KP))))
    ((try simp only [go_sem, loadL_a]); refine callV_quiet en109 (pOther b σ n s h hn f) ?_)
    ((try simp only [go_sem, loadL_a]); (try ((first | refine hK _ _ ?_ | refine hKP _ _ _ ?_ | refine hKP _ _ (fun _ => ?_)); clear hK hKP K KP)); repeat (first | refine Stp.s ?_ | refine inBlock_exit' (by decide) ?_ | ((first | refine vc_region fun K KP hK hKP => ?_ | refine Stg.s ?_ | refine guardD_ret0 ?_ | refine exV_intro _ rfl ?_); (try simp only [go_sem, loadL_a]); try ((first | refine hK _ _ ?_ | refine hKP _ _ _ ?_ | refine hKP _ _ (fun _ => ?_)); clear hK hKP K KP))))
    unfold pJoinR
    rw [if_pos hx]
    refine vc_cond rfl (fun hc => ?_) (fun hc => ?_)
    · rw [if_neg (by rw [Bool.not_eq_true'] at hc; rw [hc]; decide)]
      (repeat (first | refine Stp.s ?_ | refine inBlock_exit' (by decide) ?_ | ((first | refine vc_region fun K KP hK hKP => ?_ | refine Stg.s ?_ | refine guardD_ret0 ?_ | refine exV_intro _ rfl ?_); (try simp only [go_sem, loadL_a]); try ((first | refine hK _ _ ?_ | refine hKP _ _ _ ?_ | refine hKP _ _ (fun _ => ?_)); clear hK hKP K KP))))
      (simp only [postV, resV, oneOf, List.getD_cons_succ, List.getD_cons_zero, and_true, true_and])
      rw [hid]
      exact Ends.le rfl (Store.le_refl _)
    rw [if_pos (by rwa [Bool.not_eq_false'] at hc)]
    (repeat (first | refine Stp.s ?_ | refine inBlock_exit' (by decide) ?_ | ((first | refine vc_region fun K KP hK hKP => ?_ | refine Stg.s ?_ | refine guardD_ret0 ?_ | refine exV_intro _ rfl ?_); (try simp only [go_sem, loadL_a, h, hst, offS]); try ((first | refine hK _ _ ?_ | refine hKP _ _ _ ?_ | refine hKP _ _ (fun _ => ?_)); clear hK hKP K KP))))
    refine vc_cond rfl (fun hc => ?_) (fun hc => ?_)
    · rw [if_neg (by simpa using hc)]
      (repeat (first | refine Stp.s ?_ | refine inBlock_exit' (by decide) ?_ | ((first | refine vc_region fun K KP hK hKP => ?_ | refine Stg.s ?_ | refine guardD_ret0 ?_ | refine exV_intro _ rfl ?_); (try simp only [go_sem, loadL_a]); try ((first | refine hK _ _ ?_ | refine hKP _ _ _ ?_ | refine hKP _ _ (fun _ => ?_)); clear hK hKP K KP))))
      (simp only [postV, resV, oneOf, List.getD_cons_succ, List.getD_cons_zero, and_true, true_and])
      rw [hid]
      exact Ends.le rfl (Store.le_refl _)
    rw [if_pos (by simpa using hc)]
    (repeat (first | refine Stp.s ?_ | refine inBlock_exit' (by decide) ?_ | ((first | refine vc_region fun K KP hK hKP => ?_ | refine Stg.s ?_ | refine guardD_ret0 ?_ | refine exV_intro _ rfl ?_); (try simp only [go_sem, loadL_a]); try ((first | refine hK _ _ ?_ | refine hKP _ _ _ ?_ | refine hKP _ _ (fun _ => ?_)); clear hK hKP K KP))))
    intro c hc
    have hbc := fun k => Store.keep (k := k) hc h
    have hcb : c ≠ b := fun e => by rw [e, h] at hc; cases hc
    ((try simp only [go_sem, loadL_a, hbc, hln, g4]); refine hK _ _ ?_; clear hK hKP K KP; repeat (first | refine Stp.s ?_ | refine inBlock_exit' (by decide) ?_ | ((first | refine vc_region fun K KP hK hKP => ?_ | refine Stg.s ?_ | refine guardD_ret0 ?_ | refine exV_intro _ rfl ?_); (try simp only [go_sem, loadL_a, hbc, hln, g4]); try ((first | refine hK _ _ ?_ | refine hKP _ _ _ ?_ | refine hKP _ _ (fun _ => ?_)); clear hK hKP K KP))))
    (simp only [postV, resV, oneOf, List.getD_cons_succ, List.getD_cons_zero, and_true, true_and])
    rw [← pe_set2 n s _ hi 1 [f]]
    refine Ends.mk (pe_freeze (x := .sl c 0 1 1) (by rw [List.length_set, hln]; omega) (.inr ⟨c, 1, [], rfl, ?_, ?_, rfl, by simp, Nat.le_refl _, by decide⟩))
    · rw [Store.set_other _ _ hcb]; exact hc
    · exact Store.set_comm _ _ _ hcb
  · rw [if_neg hx]
    ((try simp only [go_sem, loadL_a]); (try ((first | refine hK _ _ ?_ | refine hKP _ _ _ ?_ | refine hKP _ _ (fun _ => ?_)); clear hK hKP K KP)); repeat (first | refine Stp.s ?_ | refine inBlock_exit' (by decide) ?_ | ((first | refine vc_region fun K KP hK hKP => ?_ | refine Stg.s ?_ | refine guardD_ret0 ?_ | refine exV_intro _ rfl ?_); (try simp only [go_sem, loadL_a]); try ((first | refine hK _ _ ?_ | refine hKP _ _ _ ?_ | refine hKP _ _ (fun _ => ?_)); clear hK hKP K KP))))
    refine vc_cond rfl (fun _ => ?_) (fun hc => by cases hc)
    (repeat (first | refine Stp.s ?_ | refine inBlock_exit' (by decide) ?_ | ((first | refine vc_region fun K KP hK hKP => ?_ | refine Stg.s ?_ | refine guardD_ret0 ?_ | refine exV_intro _ rfl ?_); (try simp only [go_sem, loadL_a]); try ((first | refine hK _ _ ?_ | refine hKP _ _ _ ?_ | refine hKP _ _ (fun _ => ?_)); clear hK hKP K KP))))
    (simp only [postV, resV, oneOf, List.getD_cons_succ, List.getD_cons_zero, and_true, true_and])
    unfold pJoinR
    rw [if_neg hx, hid]
    exact Ends.le rfl (Store.le_refl _)
end
end Go.Proofs.Ytbgagffpmdlilaa
