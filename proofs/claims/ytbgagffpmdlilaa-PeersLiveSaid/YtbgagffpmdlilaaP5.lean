/- Subscriptions: asked, leaving. -/
import Derived.Test.YtbgagffpmdlilaaP4
namespace Go.Proofs.Ytbgagffpmdlilaa
set_option linter.unusedSimpArgs false
set_option linter.unusedVariables false
open Go.Proofs
attribute [local irreducible] vc vcOps vcDraw vcK vcKP vcDK vcDB HWp HCalls postV Ex.then Ex.inBlock stepD callV appendV guardC guardD exV effV opV loadV storeV indexAddrV indexV sliceV
set_option maxRecDepth 10000
set_option maxHeartbeats 4000000

/-- Peers as they are: in order, each once, nodes. -/
structure Srt (l : List Int) : Prop where
  lt : l.Pairwise (· < ·)
  b : ∀ y ∈ l, 1 ≤ y ∧ y ≤ 12
theorem Srt.nodup {l : List Int} (h : Srt l) : l.Nodup := h.lt.imp fun h e => by omega
theorem Srt.len {l : List Int} (h : Srt l) : l.length ≤ 12 := nodup_le l nums h.nodup fun x hx => mem_nums.2 (h.b x hx)
theorem Srt.eq {l : List Int} (h : Srt l) : l = nums.filter fun y => decide (y ∈ l) := by
  have hp : l.Perm (nums.filter fun y => decide (y ∈ l)) := by
    rw [List.perm_ext_iff_of_nodup h.nodup (List.Pairwise.filter _ (show nums.Pairwise (· ≠ ·) by decide))]
    intro x
    rw [List.mem_filter, decide_eq_true_eq]
    exact ⟨fun q => ⟨mem_nums.2 (h.b x q), q⟩, fun q => q.2⟩
  exact hp.eq_of_pairwise (fun a b _ _ h1 h2 => by omega) h.lt (List.Pairwise.filter _ (show nums.Pairwise (· < ·) by decide))
def insS (f : Int) (l : List Int) : List Int := nums.filter fun y => decide (y ∈ l) || y == f
def remS (f : Int) (l : List Int) : List Int := l.filter fun y => y != f
theorem insS_srt (f : Int) (l : List Int) : Srt (insS f l) := ⟨List.Pairwise.filter _ (show nums.Pairwise (· < ·) by decide), fun y hy => mem_nums.1 (List.mem_filter.1 hy).1⟩
theorem remS_srt {f : Int} {l : List Int} (h : Srt l) : Srt (remS f l) := ⟨h.lt.filter _, fun y hy => h.b y (List.mem_filter.1 hy).1⟩
theorem ins_sorted {f : Int} {l l' : List Int} (h : Srt l) (hf : 1 ≤ f ∧ f ≤ 12) (hn : f ∉ l) (hp : l'.Perm (l ++ [f])) (hs : ∀ p q, p < q → q < (l ++ [f]).length → l'.getD p 0 ≤ l'.getD q 0) : l' = insS f l := by
  have hl := hp.length_eq
  have hs' : l'.Pairwise (· ≤ ·) := by
    rw [List.pairwise_iff_getElem]
    intro i j hi hj hij
    have := hs i j hij (by omega)
    simpa [List.getD_eq_getElem?_getD, hi, hj] using this
  have hnd : (l ++ [f]).Nodup := by
    rw [List.nodup_append]
    exact ⟨h.nodup, by simp, fun a ha b hb e => by simp at hb; rw [hb] at e; exact hn (e ▸ ha)⟩
  have hpw : l'.Perm (insS f l) := by
    rw [List.perm_ext_iff_of_nodup (hp.nodup_iff.2 hnd) (insS_srt f l).nodup]
    intro x
    rw [hp.mem_iff]
    unfold insS
    rw [List.mem_filter]
    simp only [List.mem_append, List.mem_singleton, Bool.or_eq_true, decide_eq_true_eq, beq_iff_eq]
    exact ⟨fun q => ⟨mem_nums.2 (by rcases q with q | q; exact h.b x q; rw [q]; exact hf), q⟩, fun q => q.2⟩
  exact hpw.eq_of_pairwise (fun a b _ _ h1 h2 => Int.le_antisymm h1 h2) hs' ((insS_srt f l).lt.imp fun h => Int.le_of_lt h)
def pAskedR (n : Int) (s : Subs) (x f : Int) : Bool × Subs :=
  if (nodeB x && ((s (x - 1).toNat).1 == 2 && ((nodeB f && f != n) && !decide (f ∈ (s (x - 1).toNat).2)))) = true then (true, setPe s (x - 1).toNat (insS f (s (x - 1).toNat).2)) else (false, s)
def pLeavingR (s : Subs) (x f : Int) : Bool × Subs :=
  if (nodeB x && ((s (x - 1).toNat).1 == 2 && decide (f ∈ (s (x - 1).toNat).2))) = true then (true, setPe s (x - 1).toNat (remS f (s (x - 1).toNat).2)) else (false, s)
section
variable (b : Nat) (σ : Store) (n : Int) (s : Subs) (h : σ b = some (.cells (peC n s))) (hn : 0 < n) (hsr : ∀ i, Srt (s i).2)
include h hn hsr
theorem pOf (x : Int) : HQuiet Try.prog 30 [.ptr b 0, I64 x] σ (ints (peOf s x)) := by
  refine HQuiet.of ?_; (refine HCalls.of_vc Try.func30 rfl ?_; rw [Try.ntmps30, Try.results30]; simp only [List.length_cons, List.length_nil, Nat.reduceAdd, Nat.reduceSub, List.replicate, List.cons_append, List.nil_append])
  (repeat (first | refine Stp.s ?_ | refine inBlock_exit' (by decide) ?_ | ((first | refine vc_region fun K KP hK hKP => ?_ | refine Stg.s ?_ | refine guardD_ret0 ?_ | refine exV_intro _ rfl ?_); (try simp only [go_sem, loadL_a]); try ((first | refine hK _ _ ?_ | refine hKP _ _ _ ?_ | refine hKP _ _ (fun _ => ?_)); clear hK hKP K KP))))
  by_cases hx : nodeB x = true
  · have hpe := peC_pe n s _ (nodeB_idx hx)
    have hl := (hsr (x - 1).toNat).len
    ((try simp only [go_sem, loadL_a]); refine callV_quiet en107 (pat_in b σ n s h hn x hx) ?_)
    ((try simp only [go_sem, loadL_a, h, hpe, offS]); (try ((first | refine hK _ _ ?_ | refine hKP _ _ _ ?_ | refine hKP _ _ (fun _ => ?_)); clear hK hKP K KP)); repeat (first | refine Stp.s ?_ | refine inBlock_exit' (by decide) ?_ | ((first | refine vc_region fun K KP hK hKP => ?_ | refine Stg.s ?_ | refine guardD_ret0 ?_ | refine exV_intro _ rfl ?_); (try simp only [go_sem, loadL_a, h, hpe, offS]); try ((first | refine hK _ _ ?_ | refine hKP _ _ _ ?_ | refine hKP _ _ (fun _ => ?_)); clear hK hKP K KP))))
    ((try simp only [go_sem, loadL_a]); first | refine callV_pure (clone_ints ((s (x - 1).toNat).2.map I64) (by rw [List.length_map]; omega) (fun y hy => by obtain ⟨e, _, rfl⟩ := List.mem_map.1 hy; rfl) (fun y hy c hc => by obtain ⟨e, _, rfl⟩ := List.mem_map.1 hy; simp [V.cells, Value.cells] at hc; subst hc; rfl)) ?_ | refine guardC_q0 (fun _ => callV_pure (clone_ints ((s (x - 1).toNat).2.map I64) (by rw [List.length_map]; omega) (fun y hy => by obtain ⟨e, _, rfl⟩ := List.mem_map.1 hy; rfl) (fun y hy c hc => by obtain ⟨e, _, rfl⟩ := List.mem_map.1 hy; simp [V.cells, Value.cells] at hc; subst hc; rfl)) ⟨rfl, rfl⟩) ?_)
    ((try simp only [go_sem, loadL_a]); (try ((first | refine hK _ _ ?_ | refine hKP _ _ _ ?_ | refine hKP _ _ (fun _ => ?_)); clear hK hKP K KP)); repeat (first | refine Stp.s ?_ | refine inBlock_exit' (by decide) ?_ | ((first | refine vc_region fun K KP hK hKP => ?_ | refine Stg.s ?_ | refine guardD_ret0 ?_ | refine exV_intro _ rfl ?_); (try simp only [go_sem, loadL_a]); try ((first | refine hK _ _ ?_ | refine hKP _ _ _ ?_ | refine hKP _ _ (fun _ => ?_)); clear hK hKP K KP))))
    (simp only [postV, resV, oneOf, List.getD_cons_succ, List.getD_cons_zero, and_true, true_and])
    exact Ends.le (by unfold peOf; rw [if_pos hx]) (Store.le_refl _)
  · refine callV_new en107 (pat_out b σ n s h x fun q => hx q.2) (fun c hc => ?_)
    ((try simp only [go_sem, loadL_a, noSub0]); (try ((first | refine hK _ _ ?_ | refine hKP _ _ _ ?_ | refine hKP _ _ (fun _ => ?_)); clear hK hKP K KP)); repeat (first | refine Stp.s ?_ | refine inBlock_exit' (by decide) ?_ | ((first | refine vc_region fun K KP hK hKP => ?_ | refine Stg.s ?_ | refine guardD_ret0 ?_ | refine exV_intro _ rfl ?_); (try simp only [go_sem, loadL_a, noSub0]); try ((first | refine hK _ _ ?_ | refine hKP _ _ _ ?_ | refine hKP _ _ (fun _ => ?_)); clear hK hKP K KP))))
    ((try simp only [go_sem, loadL_a]); first | refine callV_pure (clone_ints [] (by simp) (by simp) (by simp)) ?_ | refine guardC_q0 (fun _ => callV_pure (clone_ints [] (by simp) (by simp) (by simp)) ⟨rfl, rfl⟩) ?_)
    ((try simp only [go_sem, loadL_a]); (try ((first | refine hK _ _ ?_ | refine hKP _ _ _ ?_ | refine hKP _ _ (fun _ => ?_)); clear hK hKP K KP)); repeat (first | refine Stp.s ?_ | refine inBlock_exit' (by decide) ?_ | ((first | refine vc_region fun K KP hK hKP => ?_ | refine Stg.s ?_ | refine guardD_ret0 ?_ | refine exV_intro _ rfl ?_); (try simp only [go_sem, loadL_a]); try ((first | refine hK _ _ ?_ | refine hKP _ _ _ ?_ | refine hKP _ _ (fun _ => ?_)); clear hK hKP K KP))))
    (simp only [postV, resV, oneOf, List.getD_cons_succ, List.getD_cons_zero, and_true, true_and])
    exact Ends.le (by unfold peOf; rw [if_neg hx]; rfl) (Store.le_set hc (Store.le_refl _))
theorem pAsked (x f : Int) : HCalls Try.prog 35 [.ptr b 0, I64 x, I64 f] σ (Ends (BV (pAskedR n s x f).1) (σ.set b (.cells (peC n (pAskedR n s x f).2)))) := by
  (refine HCalls.of_vc Try.func35 rfl ?_; rw [Try.ntmps35, Try.results35]; simp only [List.length_cons, List.length_nil, Nat.reduceAdd, Nat.reduceSub, List.replicate, List.cons_append, List.nil_append])
  (repeat (first | refine Stp.s ?_ | refine inBlock_exit' (by decide) ?_ | ((first | refine vc_region fun K KP hK hKP => ?_ | refine Stg.s ?_ | refine guardD_ret0 ?_ | refine exV_intro _ rfl ?_); (try simp only [go_sem, loadL_a]); try ((first | refine hK _ _ ?_ | refine hKP _ _ _ ?_ | refine hKP _ _ (fun _ => ?_)); clear hK hKP K KP))))
  have hid : σ.set b (.cells (peC n s)) = σ := Store.set_id h
  by_cases hx : nodeB x = true
  · have hi := nodeB_idx hx
    have hst := peC_st n s _ hi
    have hpe := peC_pe n s _ hi
    have hln := peC_len n s
    have hsl := (hsr (x - 1).toNat).len
    have g4 := eq_true (show 1 + (x - 1).toNat * 2 + 1 + 1 ≤ 25 by omega)
    ((try simp only [go_sem, loadL_a]); refine callV_quiet en107 (pat_in b σ n s h hn x hx) ?_)
    ((try simp only [go_sem, loadL_a, h, hst, hpe, offS]); (try ((first | refine hK _ _ ?_ | refine hKP _ _ _ ?_ | refine hKP _ _ (fun _ => ?_)); clear hK hKP K KP)); repeat (first | refine Stp.s ?_ | refine inBlock_exit' (by decide) ?_ | ((first | refine vc_region fun K KP hK hKP => ?_ | refine Stg.s ?_ | refine guardD_ret0 ?_ | refine exV_intro _ rfl ?_); (try simp only [go_sem, loadL_a, h, hst, hpe, offS]); try ((first | refine hK _ _ ?_ | refine hKP _ _ _ ?_ | refine hKP _ _ (fun _ => ?_)); clear hK hKP K KP))))
    refine guardC_q0 (fun _ => callV_quiet en109 (pOther b σ n s h hn f) ⟨rfl, rfl⟩) ?_
    ((try simp only [go_sem, loadL_a, h, hst, hpe, offS]); (try ((first | refine hK _ _ ?_ | refine hKP _ _ _ ?_ | refine hKP _ _ (fun _ => ?_)); clear hK hKP K KP)); repeat (first | refine Stp.s ?_ | refine inBlock_exit' (by decide) ?_ | ((first | refine vc_region fun K KP hK hKP => ?_ | refine Stg.s ?_ | refine guardD_ret0 ?_ | refine exV_intro _ rfl ?_); (try simp only [go_sem, loadL_a, h, hst, hpe, offS]); try ((first | refine hK _ _ ?_ | refine hKP _ _ _ ?_ | refine hKP _ _ (fun _ => ?_)); clear hK hKP K KP))))
    ((try simp only [go_sem, loadL_a]); first | refine guardC_q0 (fun _ => callV_pure (contains_int (s (x - 1).toNat).2 f (by omega)) ⟨rfl, rfl⟩) ?_ | refine callV_pure (contains_int (s (x - 1).toNat).2 f (by omega)) ?_)
    rw [any_mem]
    ((try simp only [go_sem, loadL_a, h, hst, hpe, offS]); (try ((first | refine hK _ _ ?_ | refine hKP _ _ _ ?_ | refine hKP _ _ (fun _ => ?_)); clear hK hKP K KP)); repeat (first | refine Stp.s ?_ | refine inBlock_exit' (by decide) ?_ | ((first | refine vc_region fun K KP hK hKP => ?_ | refine Stg.s ?_ | refine guardD_ret0 ?_ | refine exV_intro _ rfl ?_); (try simp only [go_sem, loadL_a, h, hst, hpe, offS]); try ((first | refine hK _ _ ?_ | refine hKP _ _ _ ?_ | refine hKP _ _ (fun _ => ?_)); clear hK hKP K KP))))
    have hR : pAskedR n s x f = if ((s (x - 1).toNat).1 == 2 && ((nodeB f && f != n) && !decide (f ∈ (s (x - 1).toNat).2))) = true then (true, setPe s (x - 1).toNat (insS f (s (x - 1).toNat).2)) else (false, s) := by unfold pAskedR; rw [hx, Bool.true_and]
    rw [hR]
    have hall := (hsr (x - 1).toNat)
    have hfb : (nodeB f && f != n) = true → 1 ≤ f ∧ f ≤ 12 := fun q => nodeB_iff.1 (by rw [Bool.and_eq_true] at q; exact q.1)
    refine vc_cond rfl (fun hc => ?_) (fun hc => ?_)
    · rw [if_neg (by
        intro q
        simp only [bne] at hc q
        generalize ((s (x - 1).toNat).1 == 2) = p1 at *
        generalize (nodeB f && !(f == n)) = p2 at *
        generalize decide (f ∈ (s (x - 1).toNat).2) = p3 at *
        cases p1 <;> cases p2 <;> cases p3 <;> simp_all)]
      (repeat (first | refine Stp.s ?_ | refine inBlock_exit' (by decide) ?_ | ((first | refine vc_region fun K KP hK hKP => ?_ | refine Stg.s ?_ | refine guardD_ret0 ?_ | refine exV_intro _ rfl ?_); (try simp only [go_sem, loadL_a]); try ((first | refine hK _ _ ?_ | refine hKP _ _ _ ?_ | refine hKP _ _ (fun _ => ?_)); clear hK hKP K KP))))
      (simp only [postV, resV, oneOf, List.getD_cons_succ, List.getD_cons_zero, and_true, true_and])
      rw [hid]
      exact Ends.le rfl (Store.le_refl _)
    · have hq : ((s (x - 1).toNat).1 == 2 && ((nodeB f && f != n) && !decide (f ∈ (s (x - 1).toNat).2))) = true := by
        simp only [bne] at hc ⊢
        generalize ((s (x - 1).toNat).1 == 2) = p1 at *
        generalize (nodeB f && !(f == n)) = p2 at *
        generalize decide (f ∈ (s (x - 1).toNat).2) = p3 at *
        cases p1 <;> cases p2 <;> cases p3 <;> simp_all
      rw [if_pos hq]
      simp only [Bool.and_eq_true, Bool.not_eq_true', decide_eq_false_iff_not] at hq
      have hf12 := hfb (by rw [Bool.and_eq_true]; exact hq.2.1)
      have hnin := hq.2.2
      have hjl : 1 + (x - 1).toNat * 2 + 1 < (peC n s).length := by rw [hln]; omega
      have hfin := peC_setPe n s _ hi (insS f (s (x - 1).toNat).2)
      have hn12 : ((s (x - 1).toNat).2 ++ [f]).length ≤ 12 := nodup_le _ nums (by
        rw [List.nodup_append]
        exact ⟨hall.nodup, by simp, fun a ha b hb e => by simp at hb; rw [hb] at e; exact hnin (e ▸ ha)⟩) (fun y hy => by
        rcases List.mem_append.1 hy with q | q
        · exact mem_nums.2 (hall.b y q)
        · simp at q; rw [q]; exact mem_nums.2 hf12)
      generalize (s (x - 1).toNat).2 = L at *
      (repeat (first | refine Stp.s ?_ | refine inBlock_exit' (by decide) ?_ | ((first | refine vc_region fun K KP hK hKP => ?_ | refine Stg.s ?_ | refine guardD_ret0 ?_ | refine exV_intro _ rfl ?_); (try simp only [go_sem, loadL_a, h, hpe, offS]); try ((first | refine hK _ _ ?_ | refine hKP _ _ _ ?_ | refine hKP _ _ (fun _ => ?_)); clear hK hKP K KP))))
      refine callV_of en106 (cloneb_ints L (by omega) σ) (fun y σ1 q => ?_) (fun y σ1 q => by obtain ⟨_, _, e, _⟩ := q; cases e)
      obtain ⟨y', υ, e, hle1, hB⟩ := q
      cases e
      ((try simp only [go_sem, loadL_a]); (try ((first | refine hK _ _ ?_ | refine hKP _ _ _ ?_ | refine hKP _ _ (fun _ => ?_)); clear hK hKP K KP)); repeat (first | refine Stp.s ?_ | refine inBlock_exit' (by decide) ?_ | ((first | refine vc_region fun K KP hK hKP => ?_ | refine Stg.s ?_ | refine guardD_ret0 ?_ | refine exV_intro _ rfl ?_); (try simp only [go_sem, loadL_a]); try ((first | refine hK _ _ ?_ | refine hKP _ _ _ ?_ | refine hKP _ _ (fun _ => ?_)); clear hK hKP K KP))))
      intro b3 hb3
      refine append_int hB (Store.le_set hb3 hle1) (row_lit (Store.set_same _ _ _) rfl rfl) (m := 1) rfl (by simp [V.one]) (by omega) ?_
      intro y' υ' σ2 hB' hle2 _
      clear hB hle1 hb3
      obtain ⟨b2, cap, spare, rfl, hb2, hset⟩ := hB'.at_ (by simp)
      have hbu := hB'.base _ _ h
      have hbs := hle2 _ _ hbu
      have hne : b2 ≠ b := fun e => by
        rcases hB' with ⟨e1, _⟩ | ⟨_, _, _, e1, e2, _⟩
        · cases e1
        · cases e1; rw [e, h] at e2; cases e2
      have hcsm : L.map I64 ++ [I64 f] = (L ++ [f]).map I64 := by simp
      have hst1 : ((peC n s).set (1 + (x - 1).toNat * 2 + 1) (.sl b2 0 (L.length + 1) cap))[1 + (x - 1).toNat * 2 + 1]? = some (.sl b2 0 (L.length + 1) cap) := List.getElem?_set_self hjl
      ((try simp only [go_sem, loadL_a, hbs, hln, g4, hst1, offS]); (try ((first | refine hK _ _ ?_ | refine hKP _ _ _ ?_ | refine hKP _ _ (fun _ => ?_)); clear hK hKP K KP)); repeat (first | refine Stp.s ?_ | refine inBlock_exit' (by decide) ?_ | ((first | refine vc_region fun K KP hK hKP => ?_ | refine Stg.s ?_ | refine guardD_ret0 ?_ | refine exV_intro _ rfl ?_); (try simp only [go_sem, loadL_a, hbs, hln, g4, hst1, offS]); try ((first | refine hK _ _ ?_ | refine hKP _ _ _ ?_ | refine hKP _ _ (fun _ => ?_)); clear hK hKP K KP))))
      rw [hcsm] at hb2 hset
      have hl1 : (L ++ [f]).length = L.length + 1 := by simp
      rw [← hl1]
      have hbr : (σ2.set b (.cells ((peC n s).set (1 + (x - 1).toNat * 2 + 1) (.sl b2 0 (L ++ [f]).length cap)))) b2 = some (row (L ++ [f]) spare) := by rw [Store.set_other _ _ hne]; exact hle2 _ _ hb2
      refine callV_of en110 (sort b2 cap (L ++ [f]) spare _ hbr hn12) (fun y σ3 q => ?_) (fun y σ3 q => by obtain ⟨_, e, _⟩ := q; cases e)
      obtain ⟨l', e, hp, hso, rfl⟩ := q
      cases e
      have hl' := ins_sorted hall hf12 hnin hp hso
      have hll : l'.length = (L ++ [f]).length := hp.length_eq
      ((try simp only [go_sem, loadL_a]); (try ((first | refine hK _ _ ?_ | refine hKP _ _ _ ?_ | refine hKP _ _ (fun _ => ?_)); clear hK hKP K KP)); repeat (first | refine Stp.s ?_ | refine inBlock_exit' (by decide) ?_ | ((first | refine vc_region fun K KP hK hKP => ?_ | refine Stg.s ?_ | refine guardD_ret0 ?_ | refine exV_intro _ rfl ?_); (try simp only [go_sem, loadL_a]); try ((first | refine hK _ _ ?_ | refine hKP _ _ _ ?_ | refine hKP _ _ (fun _ => ?_)); clear hK hKP K KP))))
      (simp only [postV, resV, oneOf, List.getD_cons_succ, List.getD_cons_zero, and_true, true_and])
      have hB2 := (hset (l'.map I64) (by simp [hll])).reset (kk := .cells ((peC n s).set (1 + (x - 1).toNat * 2 + 1) (.sl b2 0 (L ++ [f]).length cap))) h
      rw [Store.set_comm _ _ _ hne, ← hl1, ← hll] at hB2
      rw [← hfin, ← hl', ← hll]
      exact Ends.mk (Weakens.trans (Weakens.le (Store.le_set_both (Store.le_set_both hle2))) (pe_freeze hjl hB2))
  · refine callV_new en107 (pat_out b σ n s h x fun q => hx q.2) (fun c hc => ?_)
    have hb2 := Store.keep hc h noSub
    have hle := Store.le_set hc (Store.le_refl σ) (k := noSub)
    ((try simp only [go_sem, loadL_a, noSub0]); (try ((first | refine hK _ _ ?_ | refine hKP _ _ _ ?_ | refine hKP _ _ (fun _ => ?_)); clear hK hKP K KP)); repeat (first | refine Stp.s ?_ | refine inBlock_exit' (by decide) ?_ | ((first | refine vc_region fun K KP hK hKP => ?_ | refine Stg.s ?_ | refine guardD_ret0 ?_ | refine exV_intro _ rfl ?_); (try simp only [go_sem, loadL_a, noSub0]); try ((first | refine hK _ _ ?_ | refine hKP _ _ _ ?_ | refine hKP _ _ (fun _ => ?_)); clear hK hKP K KP))))
    refine guardC_q0 (fun _ => callV_quiet en109 (pOther b _ n s hb2 hn f) ⟨rfl, rfl⟩) ?_
    ((try simp only [go_sem, loadL_a, noSub0]); (try ((first | refine hK _ _ ?_ | refine hKP _ _ _ ?_ | refine hKP _ _ (fun _ => ?_)); clear hK hKP K KP)); repeat (first | refine Stp.s ?_ | refine inBlock_exit' (by decide) ?_ | ((first | refine vc_region fun K KP hK hKP => ?_ | refine Stg.s ?_ | refine guardD_ret0 ?_ | refine exV_intro _ rfl ?_); (try simp only [go_sem, loadL_a, noSub0]); try ((first | refine hK _ _ ?_ | refine hKP _ _ _ ?_ | refine hKP _ _ (fun _ => ?_)); clear hK hKP K KP))))
    ((try simp only [go_sem, loadL_a]); first | refine guardC_q0 (fun _ => callV_pure (contains_int [] f (by simp)) ⟨rfl, rfl⟩) ?_ | refine callV_pure (contains_int [] f (by simp)) ?_)
    ((try simp only [go_sem, loadL_a]); (try ((first | refine hK _ _ ?_ | refine hKP _ _ _ ?_ | refine hKP _ _ (fun _ => ?_)); clear hK hKP K KP)); repeat (first | refine Stp.s ?_ | refine inBlock_exit' (by decide) ?_ | ((first | refine vc_region fun K KP hK hKP => ?_ | refine Stg.s ?_ | refine guardD_ret0 ?_ | refine exV_intro _ rfl ?_); (try simp only [go_sem, loadL_a]); try ((first | refine hK _ _ ?_ | refine hKP _ _ _ ?_ | refine hKP _ _ (fun _ => ?_)); clear hK hKP K KP))))
    refine vc_cond rfl (fun _ => ?_) (fun hc => by cases hc)
    (repeat (first | refine Stp.s ?_ | refine inBlock_exit' (by decide) ?_ | ((first | refine vc_region fun K KP hK hKP => ?_ | refine Stg.s ?_ | refine guardD_ret0 ?_ | refine exV_intro _ rfl ?_); (try simp only [go_sem, loadL_a]); try ((first | refine hK _ _ ?_ | refine hKP _ _ _ ?_ | refine hKP _ _ (fun _ => ?_)); clear hK hKP K KP))))
    (simp only [postV, resV, oneOf, List.getD_cons_succ, List.getD_cons_zero, and_true, true_and])
    unfold pAskedR
    rw [Bool.eq_false_iff.2 hx, Bool.false_and, if_neg (by decide), hid]
    exact Ends.le rfl hle
theorem pLeaving (x f : Int) : HCalls Try.prog 38 [.ptr b 0, I64 x, I64 f] σ (Ends (BV (pLeavingR s x f).1) (σ.set b (.cells (peC n (pLeavingR s x f).2)))) := by
  (refine HCalls.of_vc Try.func38 rfl ?_; rw [Try.ntmps38, Try.results38]; simp only [List.length_cons, List.length_nil, Nat.reduceAdd, Nat.reduceSub, List.replicate, List.cons_append, List.nil_append])
  (repeat (first | refine Stp.s ?_ | refine inBlock_exit' (by decide) ?_ | ((first | refine vc_region fun K KP hK hKP => ?_ | refine Stg.s ?_ | refine guardD_ret0 ?_ | refine exV_intro _ rfl ?_); (try simp only [go_sem, loadL_a]); try ((first | refine hK _ _ ?_ | refine hKP _ _ _ ?_ | refine hKP _ _ (fun _ => ?_)); clear hK hKP K KP))))
  have hid : σ.set b (.cells (peC n s)) = σ := Store.set_id h
  by_cases hx : nodeB x = true
  · have hi := nodeB_idx hx
    have hst := peC_st n s _ hi
    have hpe := peC_pe n s _ hi
    have hln := peC_len n s
    have hall := hsr (x - 1).toNat
    have hsl := hall.len
    have g4 := eq_true (show 1 + (x - 1).toNat * 2 + 1 + 1 ≤ 25 by omega)
    have hR : pLeavingR s x f = if ((s (x - 1).toNat).1 == 2 && decide (f ∈ (s (x - 1).toNat).2)) = true then (true, setPe s (x - 1).toNat (remS f (s (x - 1).toNat).2)) else (false, s) := by unfold pLeavingR; rw [hx, Bool.true_and]
    have hfin := peC_setPe n s _ hi (remS f (s (x - 1).toNat).2)
    ((try simp only [go_sem, loadL_a]); refine callV_quiet en107 (pat_in b σ n s h hn x hx) ?_)
    generalize (s (x - 1).toNat).2 = L at *
    ((try simp only [go_sem, loadL_a, h, hpe, offS]); (try ((first | refine hK _ _ ?_ | refine hKP _ _ _ ?_ | refine hKP _ _ (fun _ => ?_)); clear hK hKP K KP)); repeat (first | refine Stp.s ?_ | refine inBlock_exit' (by decide) ?_ | ((first | refine vc_region fun K KP hK hKP => ?_ | refine Stg.s ?_ | refine guardD_ret0 ?_ | refine exV_intro _ rfl ?_); (try simp only [go_sem, loadL_a, h, hpe, offS]); try ((first | refine hK _ _ ?_ | refine hKP _ _ _ ?_ | refine hKP _ _ (fun _ => ?_)); clear hK hKP K KP))))
    ((try simp only [go_sem, loadL_a]); first | refine callV_pure (index_int L f (by omega)) ?_ | refine guardC_q0 (fun _ => callV_pure (index_int L f (by omega)) ⟨rfl, rfl⟩) ?_)
    ((try simp only [go_sem, loadL_a, h, hst, offS]); (try ((first | refine hK _ _ ?_ | refine hKP _ _ _ ?_ | refine hKP _ _ (fun _ => ?_)); clear hK hKP K KP)); repeat (first | refine Stp.s ?_ | refine inBlock_exit' (by decide) ?_ | ((first | refine vc_region fun K KP hK hKP => ?_ | refine Stg.s ?_ | refine guardD_ret0 ?_ | refine exV_intro _ rfl ?_); (try simp only [go_sem, loadL_a, h, hst, offS]); try ((first | refine hK _ _ ?_ | refine hKP _ _ _ ?_ | refine hKP _ _ (fun _ => ?_)); clear hK hKP K KP))))
    rw [hR]
    cases hfi : L.findIdx? (f == ·) with
    | none =>
      have hnin : f ∉ L := fun hm => by
        have := List.findIdx?_eq_none_iff.1 hfi f hm
        simp at this
      rw [if_neg (by simp [hnin])]
      refine vc_cond rfl (fun hc => ?_) (fun hc => ?_)
      · (repeat (first | refine Stp.s ?_ | refine inBlock_exit' (by decide) ?_ | ((first | refine vc_region fun K KP hK hKP => ?_ | refine Stg.s ?_ | refine guardD_ret0 ?_ | refine exV_intro _ rfl ?_); (try simp only [go_sem, loadL_a]); try ((first | refine hK _ _ ?_ | refine hKP _ _ _ ?_ | refine hKP _ _ (fun _ => ?_)); clear hK hKP K KP))))
        (simp only [postV, resV, oneOf, List.getD_cons_succ, List.getD_cons_zero, and_true, true_and])
        rw [hid]
        exact Ends.le rfl (Store.le_refl _)
      · exfalso
        simp [idxOf] at hc
    | some k =>
      obtain ⟨hk, hfk, hbef⟩ := List.findIdx?_eq_some_iff_getElem.1 hfi
      have hfk : L[k] = f := by rw [beq_iff_eq] at hfk; exact hfk.symm
      have hmem : f ∈ L := hfk ▸ List.getElem_mem hk
      have hix : idxOf (some k) = (k : Int) := rfl
      have hd : decide (f ∈ L) = true := decide_eq_true hmem
      rw [hd, Bool.and_true, hix]
      have hneg : decide ((k : Int) < 0) = false := decide_eq_false (by omega)
      refine vc_cond rfl (fun hc => ?_) (fun hc => ?_)
      · rw [hneg, Bool.or_false] at hc
        rw [if_neg (by simp only [bne] at hc; rw [Bool.not_eq_true'] at hc; rw [hc]; decide)]
        (repeat (first | refine Stp.s ?_ | refine inBlock_exit' (by decide) ?_ | ((first | refine vc_region fun K KP hK hKP => ?_ | refine Stg.s ?_ | refine guardD_ret0 ?_ | refine exV_intro _ rfl ?_); (try simp only [go_sem, loadL_a]); try ((first | refine hK _ _ ?_ | refine hKP _ _ _ ?_ | refine hKP _ _ (fun _ => ?_)); clear hK hKP K KP))))
        (simp only [postV, resV, oneOf, List.getD_cons_succ, List.getD_cons_zero, and_true, true_and])
        rw [hid]
        exact Ends.le rfl (Store.le_refl _)
      · rw [hneg, Bool.or_false] at hc
        rw [if_pos (by simp only [bne] at hc; rwa [Bool.not_eq_false'] at hc)]
        simp only
        have hw : IntKind.i64.wrap ((k : Int) + 1) = (k : Int) + 1 := i64_in (by omega) (by omega)
        have g0 := eq_true (show (0 : Int) ≤ (k : Int) by omega)
        have g1 := eq_true (show (k : Int) ≤ (L.length : Int) by omega)
        have g2 := eq_true (show (0 : Int) ≤ (k : Int) + 1 by omega)
        have g3 := eq_true (show (k : Int) + 1 ≤ (L.length : Int) by omega)
        have nc0 : ((0 : Nat) : Int) = 0 := rfl
        have z0 : Int.toNat 0 = 0 := rfl
        have e1 : ((k : Int) + 1).toNat = k + 1 := by omega
        have eA : (L.map I64).take k = (L.take k).map I64 := by rw [List.map_take]
        have eB : ((L.map I64).drop (k + 1)).take (L.length - (k + 1)) = (L.drop (k + 1)).map I64 := by
          rw [List.take_of_length_le (by simp), List.map_drop]
        (repeat (first | refine Stp.s ?_ | refine inBlock_exit' (by decide) ?_ | ((first | refine vc_region fun K KP hK hKP => ?_ | refine Stg.s ?_ | refine guardD_ret0 ?_ | refine exV_intro _ rfl ?_); (try simp only [go_sem, loadL_a]); try ((first | refine hK _ _ ?_ | refine hKP _ _ _ ?_ | refine hKP _ _ (fun _ => ?_)); clear hK hKP K KP))))
        ((repeat first | refine Stp.s ?_ | refine inBlock_exit' (by decide) ?_); refine vc_draw mixed [ 14, 15, 18 ] [0, 1, 2, 3, 4, 5, 6, 7, 8, 9, 10, 11, 12, 13, 14, 15, 16, 17, 18 ] [ 4, 10 ] [] (fun _ => True) (by kernel_rfl) (by kernel_rfl) (by kernel_rfl) trivial fun K KP hK hKP => ?_; simp only [go_sem, loadL_a, h, hpe, offS, hw, g0, g1, g2, g3, nc0, z0, e1, eA, eB, Nat.sub_zero, List.drop_zero, Int.toNat_natCast, List.length_map, Int.le_refl]; try (refine hK _ _ ?_; clear hK hKP K KP))
        ((try simp only [go_sem, loadL_a, h, hpe, offS, hw, g0, g1, g2, g3, nc0, z0, e1, eA, eB, Nat.sub_zero, List.drop_zero, Int.toNat_natCast, List.length_map, Int.le_refl]); (try ((first | refine hK _ _ ?_ | refine hKP _ _ _ ?_ | refine hKP _ _ (fun _ => ?_)); clear hK hKP K KP)); repeat (first | refine Stp.s ?_ | refine inBlock_exit' (by decide) ?_ | ((first | refine vc_region fun K KP hK hKP => ?_ | refine Stg.s ?_ | refine guardD_ret0 ?_ | refine exV_intro _ rfl ?_); (try simp only [go_sem, loadL_a, h, hpe, offS, hw, g0, g1, g2, g3, nc0, z0, e1, eA, eB, Nat.sub_zero, List.drop_zero, Int.toNat_natCast, List.length_map, Int.le_refl]); try ((first | refine hK _ _ ?_ | refine hKP _ _ _ ?_ | refine hKP _ _ (fun _ => ?_)); clear hK hKP K KP))))
        intro c hc
        have hcc := Store.set_same σ c (.cells [V.lst 1 ((L.take k).map I64), V.lst 1 ((L.drop (k + 1)).map I64)])
        have hbc := Store.keep hc h (.cells [V.lst 1 ((L.take k).map I64), V.lst 1 ((L.drop (k + 1)).map I64)])
        have hle := Store.le_set hc (Store.le_refl σ) (k := .cells [V.lst 1 ((L.take k).map I64), V.lst 1 ((L.drop (k + 1)).map I64)])
        have hσb : ∀ kk, (σ.set b kk).le ((σ.set c (.cells [V.lst 1 ((L.take k).map I64), V.lst 1 ((L.drop (k + 1)).map I64)])).set b kk) := fun kk => Store.le_set_both hle
        generalize σ.set c _ = σ2 at *
        ((try simp only [go_sem, loadL_a]); (try ((first | refine hK _ _ ?_ | refine hKP _ _ _ ?_ | refine hKP _ _ (fun _ => ?_)); clear hK hKP K KP)); repeat (first | refine Stp.s ?_ | refine inBlock_exit' (by decide) ?_ | ((first | refine vc_region fun K KP hK hKP => ?_ | refine Stg.s ?_ | refine guardD_ret0 ?_ | refine exV_intro _ rfl ?_); (try simp only [go_sem, loadL_a]); try ((first | refine hK _ _ ?_ | refine hKP _ _ _ ?_ | refine hKP _ _ (fun _ => ?_)); clear hK hKP K KP))))
        have hcells : ∀ l ∈ [(L.take k).map I64, (L.drop (k + 1)).map I64], ∀ x ∈ l, x.cells.length = 1 ∧ ∀ c ∈ x.cells, c.one = true := fun l hl y hy => by
          have : ∃ e, y = I64 e := by
            simp only [List.mem_cons, List.not_mem_nil, or_false] at hl
            rcases hl with rfl | rfl <;> (obtain ⟨e, _, rfl⟩ := List.mem_map.1 hy; exact ⟨e, rfl⟩)
          obtain ⟨e, rfl⟩ := this
          exact ⟨rfl, fun c hc => by simp [V.cells, Value.cells] at hc; subst hc; rfl⟩
        have hrem : [(L.take k).map I64, (L.drop (k + 1)).map I64].flatten = (remS f L).map I64 := by
          simp only [List.flatten_cons, List.flatten_nil, List.append_nil]
          rw [← List.map_append]
          congr 1
          have hsp : L = L.take k ++ f :: L.drop (k + 1) := by
            conv => lhs; rw [← List.take_append_drop k L]
            rw [List.drop_eq_getElem_cons hk, hfk]
          have hnd := hall.nodup
          rw [hsp] at hnd
          have h1 := List.nodup_append.1 hnd
          have h2 := List.nodup_cons.1 h1.2.1
          unfold remS
          conv => rhs; rw [hsp]
          rw [List.filter_append, List.filter_cons]
          have a1 : (L.take k).filter (fun y => y != f) = L.take k := List.filter_eq_self.2 fun y hy => by
            have := h1.2.2 y hy f (by simp)
            simpa using this
          have a2 : (L.drop (k + 1)).filter (fun y => y != f) = L.drop (k + 1) := List.filter_eq_self.2 fun y hy => by
            have : y ≠ f := fun e => h2.1 (e ▸ hy)
            simpa using this
          rw [a1, a2, if_neg (by simp)]
        have hfl : [(L.take k).map I64, (L.drop (k + 1)).map I64].flatten.length ≤ 1000000000 := by
          rw [hrem, List.length_map]
          have := (remS_srt (f := f) hall).len
          omega
        refine callV_quiet en114 (concat_ints c 2 [(L.take k).map I64, (L.drop (k + 1)).map I64] σ2 [] hcc hfl (by simp) (fun l hl y hy => (hcells l hl y hy).1) (fun l hl y hy => (hcells l hl y hy).2)) ?_
        rw [hrem]
        ((try simp only [go_sem, loadL_a, hbc, hln, g4, hfin]); (try ((first | refine hK _ _ ?_ | refine hKP _ _ _ ?_ | refine hKP _ _ (fun _ => ?_)); clear hK hKP K KP)); repeat (first | refine Stp.s ?_ | refine inBlock_exit' (by decide) ?_ | ((first | refine vc_region fun K KP hK hKP => ?_ | refine Stg.s ?_ | refine guardD_ret0 ?_ | refine exV_intro _ rfl ?_); (try simp only [go_sem, loadL_a, hbc, hln, g4, hfin]); try ((first | refine hK _ _ ?_ | refine hKP _ _ _ ?_ | refine hKP _ _ (fun _ => ?_)); clear hK hKP K KP))))
        (simp only [postV, resV, oneOf, List.getD_cons_succ, List.getD_cons_zero, and_true, true_and])
        exact Ends.le rfl (hσb _)
  · refine callV_new en107 (pat_out b σ n s h x fun q => hx q.2) (fun c hc => ?_)
    have hle := Store.le_set hc (Store.le_refl σ) (k := noSub)
    ((try simp only [go_sem, loadL_a, noSub0]); (try ((first | refine hK _ _ ?_ | refine hKP _ _ _ ?_ | refine hKP _ _ (fun _ => ?_)); clear hK hKP K KP)); repeat (first | refine Stp.s ?_ | refine inBlock_exit' (by decide) ?_ | ((first | refine vc_region fun K KP hK hKP => ?_ | refine Stg.s ?_ | refine guardD_ret0 ?_ | refine exV_intro _ rfl ?_); (try simp only [go_sem, loadL_a, noSub0]); try ((first | refine hK _ _ ?_ | refine hKP _ _ _ ?_ | refine hKP _ _ (fun _ => ?_)); clear hK hKP K KP))))
    ((try simp only [go_sem, loadL_a]); first | refine callV_pure (index_int [] f (by simp)) ?_ | refine guardC_q0 (fun _ => callV_pure (index_int [] f (by simp)) ⟨rfl, rfl⟩) ?_)
    ((try simp only [go_sem, loadL_a, noSub0]); (try ((first | refine hK _ _ ?_ | refine hKP _ _ _ ?_ | refine hKP _ _ (fun _ => ?_)); clear hK hKP K KP)); repeat (first | refine Stp.s ?_ | refine inBlock_exit' (by decide) ?_ | ((first | refine vc_region fun K KP hK hKP => ?_ | refine Stg.s ?_ | refine guardD_ret0 ?_ | refine exV_intro _ rfl ?_); (try simp only [go_sem, loadL_a, noSub0]); try ((first | refine hK _ _ ?_ | refine hKP _ _ _ ?_ | refine hKP _ _ (fun _ => ?_)); clear hK hKP K KP))))
    refine vc_cond rfl (fun _ => ?_) (fun hc => by cases hc)
    (repeat (first | refine Stp.s ?_ | refine inBlock_exit' (by decide) ?_ | ((first | refine vc_region fun K KP hK hKP => ?_ | refine Stg.s ?_ | refine guardD_ret0 ?_ | refine exV_intro _ rfl ?_); (try simp only [go_sem, loadL_a]); try ((first | refine hK _ _ ?_ | refine hKP _ _ _ ?_ | refine hKP _ _ (fun _ => ?_)); clear hK hKP K KP))))
    (simp only [postV, resV, oneOf, List.getD_cons_succ, List.getD_cons_zero, and_true, true_and])
    unfold pLeavingR
    rw [Bool.eq_false_iff.2 hx, Bool.false_and, if_neg (by decide), hid]
    exact Ends.le rfl hle
end
end Go.Proofs.Ytbgagffpmdlilaa
