/- An index: a label is added. -/
import Derived.Test.YtociliegljoldaaGreatI5
import Derived.Test.YtociliegljoldaaGreatS5
import Derived.Test.YtociliegljoldaaGreatG2
namespace Go.Proofs.YtociliegljoldaaGreat
set_option linter.unusedSimpArgs false
set_option linter.unusedVariables false
open Go.Proofs
attribute [local irreducible] vc vcOps vcDraw vcK vcKP vcDK vcDB HWp HCalls postV Ex.then Ex.inBlock stepD callV appendV guardC guardD exV effV opV loadV storeV indexAddrV indexV sliceV
set_option maxRecDepth 10000
set_option maxHeartbeats 4000000

def leL (a b : LbI) : Bool := decide (keyL a ≤ keyL b)
/-- Labels in order. -/
def srtL (w : List LbI) : List LbI := w.mergeSort leL
theorem srtL_perm (w : List LbI) : (srtL w).Perm w := List.mergeSort_perm w leL
theorem srtL_asc (w : List LbI) : (srtL w).Pairwise fun a b => keyL a ≤ keyL b :=
  (List.pairwise_mergeSort (le := leL) (fun a b c h1 h2 => by simp only [leL, decide_eq_true_eq] at *; omega) (fun a b => by simp only [leL, Bool.or_eq_true, decide_eq_true_eq]; omega) w).imp (fun h => by simpa [leL] using h)
theorem map_inj {α β : Type} (f : α → β) {w : List α} (h : (w.map f).Nodup) : ∀ a ∈ w, ∀ b ∈ w, f a = f b → a = b := by
  induction w with
  | nil => intro a ha; cases ha
  | cons c w ih =>
    intro a ha b hb e
    rw [List.map_cons, List.nodup_cons] at h
    by_cases e1 : a = c
    · by_cases e2 : b = c
      · rw [e1, e2]
      · have hb := (List.mem_cons.1 hb).resolve_left e2
        exact absurd (List.mem_map.2 ⟨b, hb, by rw [← e, e1]⟩) h.1
    · have ha := (List.mem_cons.1 ha).resolve_left e1
      by_cases e2 : b = c
      · exact absurd (List.mem_map.2 ⟨a, ha, by rw [e, e2]⟩) h.1
      · exact ih h.2 a ha b ((List.mem_cons.1 hb).resolve_left e2) e
theorem srt_eq {w m : List LbI} (hp : m.Perm w) (hs : Srtd keyL 0 w.length m) (hd : (w.map keyL).Nodup) : m = srtL w := by
  refine List.Perm.eq_of_pairwise (le := fun a b => keyL a ≤ keyL b) (fun a b ha hb h1 h2 => map_inj keyL hd a (hp.mem_iff.1 ha) b ((srtL_perm w).mem_iff.1 hb) (Nat.le_antisymm h1 h2)) ?_ (srtL_asc w) (hp.trans (srtL_perm w).symm)
  rw [List.pairwise_iff_getElem]
  intro i j hi hj hij
  have := hs i j (Nat.zero_le _) hij (by rw [← hp.length_eq]; exact hj)
  unfold ky at0 at this
  rw [List.getD_eq_getElem?_getD, List.getD_eq_getElem?_getD, List.getElem?_eq_getElem hi, List.getElem?_eq_getElem hj] at this
  exact this
/-- Unlike dots. -/
def DotNe (a b : LbI) : Prop := ¬(a.1.node = b.1.node ∧ a.1.n = b.1.n)
structure Ix.Good (x : Ix) : Prop where
  v : x.v.length = 12
  w : ∀ l ∈ x.w, l.1.right = true ∧ l.1.seller ≠ 0 ∧ l.1.cart = x.cart
  d : x.w.Pairwise DotNe
  l : ∀ e ∈ x.l, (1 ≤ e.node ∧ e.node ≤ 12) ∧ (1 ≤ e.n ∧ e.n ≤ 1048576) ∧ (1 ≤ e.s ∧ e.s ≤ 12)
  c : 1 ≤ x.cart ∧ x.cart ≤ 12
theorem key_dot {a b : LbI} (h : keyL a = keyL b) : a.1.node = b.1.node ∧ a.1.n = b.1.n := by
  have h1 : ¬ lessL a.1 b.1 = true := fun q => by have := (less_key a b).1 q; omega
  have h2 : ¬ lessL b.1 a.1 = true := fun q => by have := (less_key b a).1 q; omega
  unfold lessL at h1 h2
  by_cases e1 : a.1.time = b.1.time
  · rw [if_neg (by simp [e1]), ] at h1
    rw [if_neg (by simp [e1]), ] at h2
    by_cases e2 : a.1.node = b.1.node
    · rw [if_neg (by simp [e2]), ] at h1
      rw [if_neg (by simp [e2]), ] at h2
      by_cases e3 : a.1.cart = b.1.cart
      · rw [if_neg (by simp [e3]), decide_eq_true_eq] at h1
        rw [if_neg (by simp [e3]), decide_eq_true_eq] at h2
        exact ⟨e2, by omega⟩
      · rw [if_pos e3, decide_eq_true_eq] at h1
        rw [if_pos (Ne.symm e3), decide_eq_true_eq] at h2
        omega
    · rw [if_pos e2, decide_eq_true_eq] at h1
      rw [if_pos (Ne.symm e2), decide_eq_true_eq] at h2
      omega
  · rw [if_pos e1, decide_eq_true_eq] at h1
    rw [if_pos (Ne.symm e1), decide_eq_true_eq] at h2
    omega
theorem nodup_key {w : List LbI} (h : w.Pairwise DotNe) : (w.map keyL).Nodup := by
  unfold List.Nodup
  rw [List.pairwise_map]
  exact h.imp fun {a b} hab e => hab (key_dot e)
/-- All that may come in do. -/
def runI : Nat → Ix → Nat × Ix
  | 0, x => (0, x)
  | f + 1, x => match x.nxt with
    | none => (0, x)
    | some i => ((runI f (x.take i)).1 + 1, (runI f (x.take i)).2)
def runA (x : Ix) : Nat × Ix := runI (x.w.length + 1) x
def Ix.put (x : Ix) (l : LbI) : Ix := ⟨x.cart, x.v, x.l, srtL (x.w ++ [l])⟩
def addR (x : Ix) (l : LbI) : Int × Int × Ix :=
  if (!l.1.right || l.1.seller == 0) = true then (0, 3, x) else if (l.1.cart != x.cart) = true then (0, 13, x) else if knownB x l.1.node l.1.n = true then (0, 10, x)
  else if 400 ≤ x.l.length + x.w.length then (0, 5, x) else ((((runA (x.put l)).1 : Nat) : Int), 0, (runA (x.put l)).2)
theorem dotIs_iff {node : Int} {n : Nat} {l : LbI} : dotIs node n l = true ↔ l.1.node = node ∧ l.1.n = n := by
  unfold dotIs; rw [Bool.and_eq_true, beq_iff_eq, beq_iff_eq]; omega
theorem put_dots {x : Ix} {l : LbI} (hd : x.w.Pairwise DotNe) (hk : ¬ knownB x l.1.node l.1.n = true) : (x.w ++ [l]).Pairwise DotNe := by
  rw [List.pairwise_append]
  refine ⟨hd, List.pairwise_singleton _ _, fun a ha b hb => ?_⟩
  rw [List.mem_singleton] at hb
  subst hb
  intro e
  apply hk
  unfold knownB
  rw [Bool.or_eq_true, List.any_eq_true]
  exact .inr ⟨a, ha, dotIs_iff.2 e⟩
theorem dotNe_symm {a b : LbI} (h : DotNe a b) : DotNe b a := fun e => h ⟨e.1.symm, e.2.symm⟩
theorem take_len {x : Ix} {i : Nat} (hi : i < x.w.length) : (x.take i).w.length + 1 = x.w.length := by
  show (x.w.take i ++ x.w.drop (i + 1)).length + 1 = _
  rw [List.length_append, List.length_take, List.length_drop]; omega
theorem right_bnd {l : Lb} (h : l.right = true) : (1 ≤ l.node ∧ l.node ≤ 12) ∧ (1 ≤ l.n ∧ l.n ≤ 1048576) ∧ (0 ≤ l.seller ∧ l.seller ≤ 12) ∧ (1 ≤ l.cart ∧ l.cart ≤ 12) ∧ (1 ≤ l.time ∧ l.time ≤ 1099511627776) ∧ getN l.deps l.node + 1 = l.n ∧ countsB l.deps = true := by
  unfold Lb.right dotB nodeB at h
  simp only [Bool.and_eq_true, decide_eq_true_eq] at h
  exact ⟨by omega, by omega, by omega, by omega, by omega, by omega, h.2.2⟩
theorem getD_mem {α : Type} [Inhabited α] {w : List α} {i : Nat} (hi : i < w.length) : w.getD i default ∈ w := by
  rw [List.getD_eq_getElem?_getD, List.getElem?_eq_getElem hi]; exact List.getElem_mem hi
theorem take_good {x : Ix} {i : Nat} (h : x.Good) (hi : i < x.w.length) : (x.take i).Good := by
  refine ⟨withV_len h.v _ _, fun l hl => ?_, ?_, fun e he => ?_, h.c⟩
  · have hl : l ∈ x.w.take i ++ x.w.drop (i + 1) := hl
    rcases List.mem_append.1 hl with q | q
    · exact h.w l (List.mem_of_mem_take q)
    · exact h.w l (List.mem_of_mem_drop q)
  · show (x.w.take i ++ x.w.drop (i + 1)).Pairwise DotNe
    have := h.d
    have e : x.w = x.w.take i ++ x.w.drop i := (List.take_append_drop i x.w).symm
    rw [e, List.pairwise_append] at this
    obtain ⟨p1, p2, p3⟩ := this
    have hs : (x.w.drop (i + 1)).Sublist (x.w.drop i) := by rw [← List.drop_drop]; exact List.drop_sublist _ _
    rw [List.pairwise_append]
    exact ⟨p1, p2.sublist hs, fun a ha b hb => p3 a ha b (hs.subset hb)⟩
  · have he : e ∈ x.l ++ [entOf (x.w.getD i default)] := he
    rcases List.mem_append.1 he with q | q
    · exact h.l e q
    · rw [List.mem_singleton] at q
      subst q
      obtain ⟨r1, r2, _⟩ := h.w _ (getD_mem hi)
      obtain ⟨q1, q2, q3, _⟩ := right_bnd r1
      refine ⟨q1, q2, ?_⟩
      show 1 ≤ (x.w.getD i default).1.seller ∧ (x.w.getD i default).1.seller ≤ 12
      omega
theorem put_good {x : Ix} {l : LbI} (h : x.Good) (hr : l.1.right = true ∧ l.1.seller ≠ 0 ∧ l.1.cart = x.cart) (hk : ¬ knownB x l.1.node l.1.n = true) : (x.put l).Good := by
  have hp := srtL_perm (x.w ++ [l])
  refine ⟨h.v, fun a ha => ?_, ?_, h.l, h.c⟩
  · have ha := hp.mem_iff.1 ha
    rcases List.mem_append.1 ha with q | q
    · exact h.w a q
    · rw [List.mem_singleton] at q; subst q; exact hr
  · exact (put_dots h.d hk).perm hp.symm (fun {a b} => dotNe_symm)
theorem runA_none {x : Ix} (h : x.nxt = none) : runA x = (0, x) := by unfold runA runI; rw [h]
theorem runA_some {x : Ix} {i : Nat} (h : x.nxt = some i) : runA x = ((runA (x.take i)).1 + 1, (runA (x.take i)).2) := by
  have hi : i < x.w.length := findIdx_lt h
  have := take_len hi
  unfold runA
  rw [runI, h, this]
theorem iAdd {b : Nat} {σ : Store} {x : Ix} {ob : Option Nat} (h : IxR σ b x ob) (hg : x.Good) (hsz : x.l.length + x.w.length ≤ 190) (l : LbI) : HCalls Tryz.prog 45 [.ptr b 0, labV l] σ (fun r σ' => r = .ret (.tup [I64 (addR x l).1, I64 (addR x l).2.1]) ∧ ∃ ob', IxR σ' b (addR x l).2.2 ob' ∧ WStep σ σ' b ob ob') := by
  have hx : x.Ok := ⟨hg.v, by omega, by omega⟩
  have hc := hg.c
  have hIx := h
  obtain ⟨xl, hb, hO, hne⟩ := h
  (refine HCalls.of_vc Tryz.func45 rfl ?_; rw [Tryz.ntmps45, Tryz.results45]; simp only [List.length_cons, List.length_nil, Nat.reduceAdd, Nat.reduceSub, List.replicate, List.cons_append, List.nil_append])
  (repeat (first | refine Stp.s ?_ | refine inBlock_exit' (by decide) ?_ | ((first | refine vc_region fun K KP hK hKP => ?_ | refine Stg.s ?_ | refine guardD_ret0 ?_ | refine exV_intro _ rfl ?_); (try simp only [go_sem, loadL_a, labV, Lb.v]); try ((first | refine hK _ _ ?_ | refine hKP _ _ _ ?_ | refine hKP _ _ (fun _ => ?_)); clear hK hKP K KP))))
  intro b3 hb3
  have hb' := Store.keep hb3 hb (.cells l.1.cs)
  have h3 := Store.set_same σ b3 (.cells l.1.cs)
  have hle := Store.le_set hb3 (Store.le_refl σ) (k := .cells l.1.cs)
  have n3 : b3 ≠ b := fun e => by rw [e, hb] at hb3; cases hb3
  have nob : ∀ c, ob = some c → σ c ≠ none := fun c e => hO.there e
  have hO := hO.keep (fun c l _ hc => hle c l hc)
  have hI1 : IxR (σ.set b3 (.cells l.1.cs)) b x ob := ⟨xl, hb', hO, hne⟩
  generalize σ.set b3 _ = σ1 at *
  have ll := lbLoad l.1 l.2.ok
  ((try simp only [go_sem]); (try ((first | refine hK _ _ ?_ | refine hKP _ _ _ ?_ | refine hKP _ _ (fun _ => ?_)); clear hK hKP K KP)); repeat (first | refine Stp.s ?_ | refine inBlock_exit' (by decide) ?_ | ((first | refine vc_region fun K KP hK hKP => ?_ | refine Stg.s ?_ | refine guardD_ret0 ?_ | refine exV_intro _ rfl ?_); (try simp only [go_sem]); try ((first | refine hK _ _ ?_ | refine hKP _ _ _ ?_ | refine hKP _ _ (fun _ => ?_)); clear hK hKP K KP))))
  ((try simp only [go_sem, loadL_a]); refine callV_quiet en97 (imade b σ1 _ _ hb' (ixC_0 x xl)) ?_)
  ((try simp only [go_sem]); (try ((first | refine hK _ _ ?_ | refine hKP _ _ _ ?_ | refine hKP _ _ (fun _ => ?_)); clear hK hKP K KP)); repeat (first | refine Stp.s ?_ | refine inBlock_exit' (by decide) ?_ | ((first | refine vc_region fun K KP hK hKP => ?_ | refine Stg.s ?_ | refine guardD_ret0 ?_ | refine exV_intro _ rfl ?_); (try simp only [go_sem]); try ((first | refine hK _ _ ?_ | refine hKP _ _ _ ?_ | refine hKP _ _ (fun _ => ?_)); clear hK hKP K KP))))
  refine vc_cond rfl (fun hq => by simp at hq; omega) (fun _ => ?_)
  have fin : ∀ {r : Res}, r = .ret (.tup [I64 (addR x l).1, I64 (addR x l).2.1]) → (addR x l).2.2 = x → r = .ret (.tup [I64 (addR x l).1, I64 (addR x l).2.1]) ∧ ∃ ob', IxR σ1 b (addR x l).2.2 ob' ∧ WStep σ σ1 b ob ob' := fun {r} e e2 => ⟨e, ob, by rw [e2]; exact hI1, WStep.base hle WStep.refl⟩
  (repeat (first | refine Stp.s ?_ | refine inBlock_exit' (by decide) ?_ | ((first | refine vc_region fun K KP hK hKP => ?_ | refine Stg.s ?_ | refine guardD_ret0 ?_ | refine exV_intro _ rfl ?_); (try simp only [go_sem, h3, ll]); try ((first | refine hK _ _ ?_ | refine hKP _ _ _ ?_ | refine hKP _ _ (fun _ => ?_)); clear hK hKP K KP))))
  ((try simp only [go_sem, loadL_a]); first | refine callV_pure (lright_pure l.1 l.2.ok) ?_ | refine guardC_q0 (fun _ => callV_pure (lright_pure l.1 l.2.ok) ⟨rfl, rfl⟩) ?_)
  ((try simp only [go_sem, h3, lb4]); (try ((first | refine hK _ _ ?_ | refine hKP _ _ _ ?_ | refine hKP _ _ (fun _ => ?_)); clear hK hKP K KP)); repeat (first | refine Stp.s ?_ | refine inBlock_exit' (by decide) ?_ | ((first | refine vc_region fun K KP hK hKP => ?_ | refine Stg.s ?_ | refine guardD_ret0 ?_ | refine exV_intro _ rfl ?_); (try simp only [go_sem, h3, lb4]); try ((first | refine hK _ _ ?_ | refine hKP _ _ _ ?_ | refine hKP _ _ (fun _ => ?_)); clear hK hKP K KP))))
  refine vc_cond rfl (fun hq => ?_) (fun hq1 => ?_)
  · (repeat (first | refine Stp.s ?_ | refine inBlock_exit' (by decide) ?_ | ((first | refine vc_region fun K KP hK hKP => ?_ | refine Stg.s ?_ | refine guardD_ret0 ?_ | refine exV_intro _ rfl ?_); (try simp only [go_sem, loadL_a]); try ((first | refine hK _ _ ?_ | refine hKP _ _ _ ?_ | refine hKP _ _ (fun _ => ?_)); clear hK hKP K KP))))
    (simp only [postV, resV, oneOf, List.getD_cons_succ, List.getD_cons_zero, and_true, true_and])
    have hR : addR x l = (0, 3, x) := by unfold addR; rw [if_pos hq]
    exact fin (by rw [hR]) (by rw [hR])
  have hq1 : (!l.1.right || l.1.seller == 0) = false := hq1
  have hr : l.1.right = true ∧ l.1.seller ≠ 0 := by
    rw [Bool.or_eq_false_iff] at hq1
    exact ⟨by simpa using hq1.1, by simpa using hq1.2⟩
  (repeat (first | refine Stp.s ?_ | refine inBlock_exit' (by decide) ?_ | ((first | refine vc_region fun K KP hK hKP => ?_ | refine Stg.s ?_ | refine guardD_ret0 ?_ | refine exV_intro _ rfl ?_); (try simp only [go_sem, loadL_a]); try ((first | refine hK _ _ ?_ | refine hKP _ _ _ ?_ | refine hKP _ _ (fun _ => ?_)); clear hK hKP K KP))))
  ((repeat first | refine Stp.s ?_ | refine inBlock_exit' (by decide) ?_); refine vc_draw mixed [ ] [0, 1, 2, 3, 4, 5, 6, 7 ] [ 1, 5 ] [] (fun _ => True) (by kernel_rfl) (by kernel_rfl) (by kernel_rfl) trivial fun K KP hK hKP => ?_; simp only [go_sem, loadL_a, h3, hb', lb3, ixC_0]; try (refine hK _ _ ?_; clear hK hKP K KP))
  ((try simp only [go_sem, loadL_a, h3, hb', lb3, ixC_0]); (try ((first | refine hK _ _ ?_ | refine hKP _ _ _ ?_ | refine hKP _ _ (fun _ => ?_)); clear hK hKP K KP)); repeat (first | refine Stp.s ?_ | refine inBlock_exit' (by decide) ?_ | ((first | refine vc_region fun K KP hK hKP => ?_ | refine Stg.s ?_ | refine guardD_ret0 ?_ | refine exV_intro _ rfl ?_); (try simp only [go_sem, loadL_a, h3, hb', lb3, ixC_0]); try ((first | refine hK _ _ ?_ | refine hKP _ _ _ ?_ | refine hKP _ _ (fun _ => ?_)); clear hK hKP K KP))))
  refine vc_cond rfl (fun hq => ?_) (fun hq2 => ?_)
  · (repeat (first | refine Stp.s ?_ | refine inBlock_exit' (by decide) ?_ | ((first | refine vc_region fun K KP hK hKP => ?_ | refine Stg.s ?_ | refine guardD_ret0 ?_ | refine exV_intro _ rfl ?_); (try simp only [go_sem, loadL_a]); try ((first | refine hK _ _ ?_ | refine hKP _ _ _ ?_ | refine hKP _ _ (fun _ => ?_)); clear hK hKP K KP))))
    (simp only [postV, resV, oneOf, List.getD_cons_succ, List.getD_cons_zero, and_true, true_and])
    have hR : addR x l = (0, 13, x) := by unfold addR; rw [if_neg (by rw [hq1]; decide), if_pos hq]
    exact fin (by rw [hR]) (by rw [hR])
  have hq2 : (l.1.cart != x.cart) = false := hq2
  have hcart : l.1.cart = x.cart := by simpa using hq2
  (repeat (first | refine Stp.s ?_ | refine inBlock_exit' (by decide) ?_ | ((first | refine vc_region fun K KP hK hKP => ?_ | refine Stg.s ?_ | refine guardD_ret0 ?_ | refine exV_intro _ rfl ?_); (try simp only [go_sem, h3, ll]); try ((first | refine hK _ _ ?_ | refine hKP _ _ _ ?_ | refine hKP _ _ (fun _ => ?_)); clear hK hKP K KP))))
  ((try simp only [go_sem, loadL_a]); first | refine callV_pure (dot_pure l.1 l.2.ok) ?_ | refine guardC_q0 (fun _ => callV_pure (dot_pure l.1 l.2.ok) ⟨rfl, rfl⟩) ?_)
  ((try simp only [go_sem, h3, ll]); (try ((first | refine hK _ _ ?_ | refine hKP _ _ _ ?_ | refine hKP _ _ (fun _ => ?_)); clear hK hKP K KP)); repeat (first | refine Stp.s ?_ | refine inBlock_exit' (by decide) ?_ | ((first | refine vc_region fun K KP hK hKP => ?_ | refine Stg.s ?_ | refine guardD_ret0 ?_ | refine exV_intro _ rfl ?_); (try simp only [go_sem, h3, ll]); try ((first | refine hK _ _ ?_ | refine hKP _ _ _ ?_ | refine hKP _ _ (fun _ => ?_)); clear hK hKP K KP))))
  ((try simp only [go_sem, loadL_a]); refine callV_quiet en98 (iKnown hI1 hx l.1.node l.1.n) ?_)
  ((try simp only [go_sem]); (try ((first | refine hK _ _ ?_ | refine hKP _ _ _ ?_ | refine hKP _ _ (fun _ => ?_)); clear hK hKP K KP)); repeat (first | refine Stp.s ?_ | refine inBlock_exit' (by decide) ?_ | ((first | refine vc_region fun K KP hK hKP => ?_ | refine Stg.s ?_ | refine guardD_ret0 ?_ | refine exV_intro _ rfl ?_); (try simp only [go_sem]); try ((first | refine hK _ _ ?_ | refine hKP _ _ _ ?_ | refine hKP _ _ (fun _ => ?_)); clear hK hKP K KP))))
  refine vc_cond rfl (fun hq => ?_) (fun hq3 => ?_)
  · (repeat (first | refine Stp.s ?_ | refine inBlock_exit' (by decide) ?_ | ((first | refine vc_region fun K KP hK hKP => ?_ | refine Stg.s ?_ | refine guardD_ret0 ?_ | refine exV_intro _ rfl ?_); (try simp only [go_sem, loadL_a]); try ((first | refine hK _ _ ?_ | refine hKP _ _ _ ?_ | refine hKP _ _ (fun _ => ?_)); clear hK hKP K KP))))
    (simp only [postV, resV, oneOf, List.getD_cons_succ, List.getD_cons_zero, and_true, true_and])
    have hR : addR x l = (0, 10, x) := by unfold addR; rw [if_neg (by rw [hq1]; decide), if_neg (by rw [hq2]; decide), if_pos hq]
    exact fin (by rw [hR]) (by rw [hR])
  have hq3 : knownB x l.1.node l.1.n = false := hq3
  have wll := i64_plus (show x.l.length ≤ 10000000 by omega) (show x.w.length ≤ 10000000 by omega)
  have hOl : ∀ (υ : Store) (K : V → Store → Prop), lenV Tryz.prog 115 xl υ K = K (I64 x.l.length) υ := fun υ K => hO.lenV (P := Tryz.prog) Tryz.underlying115
  (repeat (first | refine Stp.s ?_ | refine inBlock_exit' (by decide) ?_ | ((first | refine vc_region fun K KP hK hKP => ?_ | refine Stg.s ?_ | refine guardD_ret0 ?_ | refine exV_intro _ rfl ?_); (try simp only [go_sem, loadL_a]); try ((first | refine hK _ _ ?_ | refine hKP _ _ _ ?_ | refine hKP _ _ (fun _ => ?_)); clear hK hKP K KP))))
  ((repeat first | refine Stp.s ?_ | refine inBlock_exit' (by decide) ?_); refine vc_draw mixed [ ] [0, 1, 2, 3, 4, 5, 6, 7, 8, 9, 10, 11, 12 ] [ 3, 8 ] [] (fun _ => True) (by kernel_rfl) (by kernel_rfl) (by kernel_rfl) trivial fun K KP hK hKP => ?_; simp only [go_sem, loadL_a, hb', ixC_l x hx.v, ixC_w x hx.v, labsV, hOl, List.length_map, wll]; try (refine hK _ _ ?_; clear hK hKP K KP))
  ((try simp only [go_sem, loadL_a, hb', ixC_l x hx.v, ixC_w x hx.v, labsV, hOl, List.length_map, wll]); (try ((first | refine hK _ _ ?_ | refine hKP _ _ _ ?_ | refine hKP _ _ (fun _ => ?_)); clear hK hKP K KP)); repeat (first | refine Stp.s ?_ | refine inBlock_exit' (by decide) ?_ | ((first | refine vc_region fun K KP hK hKP => ?_ | refine Stg.s ?_ | refine guardD_ret0 ?_ | refine exV_intro _ rfl ?_); (try simp only [go_sem, loadL_a, hb', ixC_l x hx.v, ixC_w x hx.v, labsV, hOl, List.length_map, wll]); try ((first | refine hK _ _ ?_ | refine hKP _ _ _ ?_ | refine hKP _ _ (fun _ => ?_)); clear hK hKP K KP))))
  refine vc_cond rfl (fun hq => by simp at hq; omega) (fun hq4 => ?_)
  have hR : addR x l = ((((runA (x.put l)).1 : Nat) : Int), 0, (runA (x.put l)).2) := by
    unfold addR; rw [if_neg (by rw [hq1]; decide), if_neg (by rw [hq2]; decide), if_neg (by rw [hq3]; decide), if_neg (by omega)]
  clear fin
  (repeat (first | refine Stp.s ?_ | refine inBlock_exit' (by decide) ?_ | ((first | refine vc_region fun K KP hK hKP => ?_ | refine Stg.s ?_ | refine guardD_ret0 ?_ | refine exV_intro _ rfl ?_); (try simp only [go_sem, loadL_a]); try ((first | refine hK _ _ ?_ | refine hKP _ _ _ ?_ | refine hKP _ _ (fun _ => ?_)); clear hK hKP K KP))))
  ((repeat first | refine Stp.s ?_ | refine inBlock_exit' (by decide) ?_); refine vc_draw3 mixed [ 5, 8, 11 ] [0, 1, 2, 3, 4, 6, 7, 5, 8, 9, 10, 11 ] [ 4 ] [11] [7] (fun υ => υ b3 = some (.cells l.1.cs)) (by kernel_rfl) (by kernel_rfl) (by kernel_rfl) (h3) fun K KP hK hKP => ?_; simp only [go_sem, h3, hb', ixC_w x hx.v, labsV]; try ((first | refine hK _ _ ?_ | refine hKP _ _ _ ?_ | refine hKP _ _ (fun _ => ?_)); clear hK hKP K KP))
  ((try simp only [go_sem, h3, hb', ixC_w x hx.v, labsV, ll]); (try ((first | refine hK _ _ ?_ | refine hKP _ _ _ ?_ | refine hKP _ _ (fun _ => ?_)); clear hK hKP K KP)); repeat (first | refine Stp.s ?_ | refine inBlock_exit' (by decide) ?_ | ((first | refine vc_region fun K KP hK hKP => ?_ | refine Stg.s ?_ | refine guardD_ret0 ?_ | refine exV_intro _ rfl ?_); (try simp only [go_sem, h3, hb', ixC_w x hx.v, labsV, ll]); try ((first | refine hK _ _ ?_ | refine hKP _ _ _ ?_ | refine hKP _ _ (fun _ => ?_)); clear hK hKP K KP))))
  refine exV_intro (.agg l.1.cs) (fun υ hυ => by rw [hυ]; exact (ll _).mpr rfl) ?_
  have hlc := lbCells l.1 l.2.ok
  ((try simp only [go_sem, h3, hb', ixC_w x hx.v, labsV, ll, hlc, repL_length]); (try ((first | refine hK _ _ ?_ | refine hKP _ _ _ ?_ | refine hKP _ _ (fun _ => ?_)); clear hK hKP K KP)); repeat (first | refine Stp.s ?_ | refine inBlock_exit' (by decide) ?_ | ((first | refine vc_region fun K KP hK hKP => ?_ | refine Stg.s ?_ | refine guardD_ret0 ?_ | refine exV_intro _ rfl ?_); (try simp only [go_sem, h3, hb', ixC_w x hx.v, labsV, ll, hlc, repL_length]); try ((first | refine hK _ _ ?_ | refine hKP _ _ _ ?_ | refine hKP _ _ (fun _ => ?_)); clear hK hKP K KP))))
  refine exV_intro (.lst 17 [.agg l.1.cs]) (fun τ hτ c hc => ?_) ?_
  · rw [setL_full _ _ (by rw [repL_length, hlc])]
    exact Bld.weakens (.inr ⟨c, 1, [], rfl, hc, by rw [List.append_nil], hlc, by simp, Nat.le_refl _, by decide⟩) (Store.le_refl _) rfl (by simp [V.cells]) (by simp [V.cells, hlc])
  ((try simp only [go_sem, loadL_a]); (try ((first | refine hK _ _ ?_ | refine hKP _ _ _ ?_ | refine hKP _ _ (fun _ => ?_)); clear hK hKP K KP)); repeat (first | refine Stp.s ?_ | refine inBlock_exit' (by decide) ?_ | ((first | refine vc_region fun K KP hK hKP => ?_ | refine Stg.s ?_ | refine guardD_ret0 ?_ | refine exV_intro _ rfl ?_); (try simp only [go_sem, loadL_a]); try ((first | refine hK _ _ ?_ | refine hKP _ _ _ ?_ | refine hKP _ _ (fun _ => ?_)); clear hK hKP K KP))))
  refine effV_intro (callV_of en99 (cloneb_labs (x.w.map labV) (by rw [List.length_map]; omega) (labs_len17 x.w) (labs_one x.w) σ1) (fun y σ2 q => ?_) (fun y σ2 q => by obtain ⟨_, _, e, _⟩ := q; cases e))
  obtain ⟨y, τ, e, hle2, hB⟩ := q
  cases e
  refine ⟨hle2 _ _ (hB.base _ _ h3), ?_⟩
  have hfl : (x.w.map labV).flatMap V.cells = x.w.flatMap encL := by rw [List.flatMap_map]; rfl
  rw [hfl, List.length_map] at hB
  ((try simp only [go_sem, loadL_a]); (try ((first | refine hK _ _ ?_ | refine hKP _ _ _ ?_ | refine hKP _ _ (fun _ => ?_)); clear hK hKP K KP)); repeat (first | refine Stp.s ?_ | refine inBlock_exit' (by decide) ?_ | ((first | refine vc_region fun K KP hK hKP => ?_ | refine Stg.s ?_ | refine guardD_ret0 ?_ | refine exV_intro _ rfl ?_); (try simp only [go_sem, loadL_a]); try ((first | refine hK _ _ ?_ | refine hKP _ _ _ ?_ | refine hKP _ _ (fun _ => ?_)); clear hK hKP K KP))))
  refine effV_intro ?_
  refine append_lab hB hle2 (fun KK hk => row_lst KK hk) (m := 1) (by simp [V.cells, hlc]) (fun c hc => by simp only [List.flatMap_cons, List.flatMap_nil, List.append_nil, V.cells] at hc; exact eltL.one l c hc) (by omega) ?_
  intro y' τ' σ3 hB' hle3 _
  have hcs : (([V.agg l.1.cs] : List V).flatMap V.cells) = encL l := by simp [V.cells, encL]
  have hB' : Bld 17 σ1 τ' y' ((x.w ++ [l]).flatMap encL) (x.w ++ [l]).length := by
    rw [hcs] at hB'
    rw [List.flatMap_append, List.length_append]
    simpa using hB'
  refine ⟨hle3 _ _ (hB'.base _ _ h3), ?_⟩
  rcases hB' with ⟨_, h0, _⟩ | ⟨bn, cap, spare, rfl, hbn0, rfl, hcl, hsl, hnc, hcm⟩
  · simp at h0
  have hle13 : σ1.le σ3 := fun c k hc => hle3 _ _ (Store.keep hbn0 hc _)
  have hb3' := hle13 _ _ hb'
  have hbn3 : σ3 bn = some (rowE encL (x.w ++ [l]) spare) := hle3 _ _ (Store.set_same _ _ _)
  have nbn : bn ≠ b := fun e => by rw [e, hb'] at hbn0; cases hbn0
  have hln := ixC_len x hx.v xl
  have e14 : ∀ Y, ((ixC x xl).set 14 Y)[14]? = some Y := fun Y => by rw [List.getElem?_set_self (by rw [hln]; decide)]
  ((try simp only [go_sem, loadL_a, hb3', hln, e14]); (try ((first | refine hK _ _ ?_ | refine hKP _ _ _ ?_ | refine hKP _ _ (fun _ => ?_)); clear hK hKP K KP)); repeat (first | refine Stp.s ?_ | refine inBlock_exit' (by decide) ?_ | ((first | refine vc_region fun K KP hK hKP => ?_ | refine Stg.s ?_ | refine guardD_ret0 ?_ | refine exV_intro _ rfl ?_); (try simp only [go_sem, loadL_a, hb3', hln, e14]); try ((first | refine hK _ _ ?_ | refine hKP _ _ _ ?_ | refine hKP _ _ (fun _ => ?_)); clear hK hKP K KP))))
  have hso := slab_sort eltL cmprL bn cap (x.w ++ [l]) spare (σ3.set b (.cells ((ixC x xl).set 14 (.sl bn 0 (x.w ++ [l]).length cap)))) (by rw [Store.set_other _ _ nbn]; exact hbn3) (by rw [List.length_append]; simp; omega)
  refine callV_of en100 hso (fun y σ5 q => ?_) (fun y σ5 q => by obtain ⟨_, e, _⟩ := q; cases e)
  obtain ⟨m, e, hp, hs, rfl⟩ := q
  cases e
  have hdots := put_dots hg.d (show ¬ knownB x l.1.node l.1.n = true by rw [hq3]; decide)
  have hm : m = srtL (x.w ++ [l]) := srt_eq hp hs (nodup_key hdots)
  subst hm
  have hgp := put_good hg ⟨hr.1, hr.2, hcart⟩ (show ¬ knownB x l.1.node l.1.n = true by rw [hq3]; decide)
  have hpl : (x.put l).w.length = x.w.length + 1 := by show (srtL (x.w ++ [l])).length = _; rw [(srtL_perm _).length_eq, List.length_append]; rfl
  have hpw : (x.put l).l = x.l := rfl
  have hpm : (srtL (x.w ++ [l])).length = (x.w ++ [l]).length := (srtL_perm _).length_eq
  have hw : Weakens (.val undef) ((σ3.set b (.cells ((ixC x xl).set 14 (.sl bn 0 (x.w ++ [l]).length cap)))).set bn (rowE encL (srtL (x.w ++ [l])) spare)) (.val undef) (σ1.set b (.cells (ixC (x.put l) xl))) := by
    have hbw : Weakens (.sl bn 0 (x.w ++ [l]).length cap) ((σ3.set b (.cells ((ixC x xl).set 14 (.sl bn 0 (x.w ++ [l]).length cap)))).set bn (rowE encL (srtL (x.w ++ [l])) spare)) (.lst 17 ((srtL (x.w ++ [l])).map labV)) (σ1.set b (.cells ((ixC x xl).set 14 (.sl bn 0 (x.w ++ [l]).length cap)))) := by
      refine Bld.weakens (σ0 := σ1.set b (.cells ((ixC x xl).set 14 (.sl bn 0 (x.w ++ [l]).length cap)))) (τ := (σ1.set b (.cells ((ixC x xl).set 14 (.sl bn 0 (x.w ++ [l]).length cap)))).set bn (rowE encL (srtL (x.w ++ [l])) spare)) (cs := (srtL (x.w ++ [l])).flatMap encL) (.inr ⟨bn, cap, spare, rfl, by rw [Store.set_other _ _ nbn]; exact hbn0, rfl, ?_, hsl, hnc, hcm⟩) ?_ (by rw [List.length_map, hpm]) (by rw [List.flatMap_map]; rfl) (labs_len17 _)
      · rw [rowE_len eltL, hpm]
      · intro c k hc
        by_cases e : c = bn
        · subst e; rw [Store.set_same] at hc ⊢; exact hc
        · rw [Store.set_other _ _ e] at hc ⊢
          by_cases e2 : c = b
          · subst e2; rw [Store.set_same] at hc ⊢; exact hc
          · rw [Store.set_other _ _ e2] at hc ⊢; exact hle13 _ _ hc
    have := Weakens.cell (x := .val undef) (b := b) (j := 14) (by rw [Store.set_other _ _ (Ne.symm nbn), Store.set_same]) (Store.set_same _ _ _) (e14 _) hbw
    rw [Store.set_set, List.set_set] at this
    have e15 := ixC_setw x hx.v xl (srtL (x.w ++ [l]))
    unfold labsV at e15
    rw [e15] at this
    exact this
  have hOb : Own 3 Emp (σ1.set b (.cells (ixC (x.put l) xl))) xl (x.l.flatMap entC) x.l.length ob := hO.keep (fun c k e hc => (Store.set_other σ1 _ (fun q => hne (by rw [e, q]))).trans hc)
  have hW0 : WStep σ (σ1.set b (.cells (ixC (x.put l) xl))) b ob ob := ⟨fun c k hc hn _ => by rw [Store.set_other _ _ hn]; exact hle _ _ hc, fun c e => .inl e, fun _ => by rw [Store.set_same]; simp⟩
  ((try simp only [go_sem, loadL_a]); (try ((first | refine hK _ _ ?_ | refine hKP _ _ _ ?_ | refine hKP _ _ (fun _ => ?_)); clear hK hKP K KP)); repeat (first | refine Stp.s ?_ | refine inBlock_exit' (by decide) ?_ | ((first | refine vc_region fun K KP hK hKP => ?_ | refine Stg.s ?_ | refine guardD_ret0 ?_ | refine exV_intro _ rfl ?_); (try simp only [go_sem, loadL_a]); try ((first | refine hK _ _ ?_ | refine hKP _ _ _ ?_ | refine hKP _ _ (fun _ => ?_)); clear hK hKP K KP))))
  refine vc_loop (loopW (fun (q : Nat × Ix × Option Nat) => [.ptr b 0, .top, .top, .top, .top, .top, I64 q.1, .top, .top, .top, .top, .top, .top, .top, .top, .top, .top, .top, .top, .top, .top, .top, .top, .top, .top, .top, .top, .top, .top, .top, .top, .top, .top, .top, .top, .top, .top, .top, .top, .top, .top, .top, .top, .top, .top, .top, .top, .top, .top, .top, .top, .top, .top, .top, .top, .top, .top, .top, .top, .top, .top, .top, .top, .top, .top, .top, .top]) (fun q τ => IxR τ b q.2.1 q.2.2 ∧ q.2.1.Good ∧ WStep σ τ b ob q.2.2 ∧ q.2.1.l.length + q.2.1.w.length ≤ 191 ∧ q.1 + q.2.1.w.length ≤ 200 ∧ (runA (x.put l)).1 = q.1 + (runA q.2.1).1 ∧ (runA (x.put l)).2 = (runA q.2.1).2) (fun q _ => q.2.1.w.length) (0, x.put l, ob) (tell_weak (by repeat (first | exact LeEnv.nil | refine LeEnv.same ?_ | refine LeEnv.top ?_)) hw) ⟨⟨xl, Store.set_same _ _ _, hOb, hne⟩, hgp, hW0, by show (x.put l).l.length + (x.put l).w.length ≤ 191; rw [hpl, hpw]; omega, by show 0 + (x.put l).w.length ≤ 200; rw [hpl]; omega, (Nat.zero_add _).symm, rfl⟩ ?_)
  clear hw hOb hW0 hgp hpl hpw hpm hdots hs hp hso hbn3 hle13 hb3' hle3 hcl hsl hnc hcm hbn0 nbn hq4 hOl hB hfl
  rintro ⟨n, y, o⟩ τ ⟨hI, hG, hW, hs1, hs2, r1, r2⟩
  simp only at hI hG hW hs1 hs2 r1 r2
  have hy : y.Ok := ⟨hG.v, by omega, by omega⟩
  (repeat (first | refine Stp.s ?_ | refine inBlock_exit' (by decide) ?_ | ((first | refine vc_region fun K KP hK hKP => ?_ | refine Stg.s ?_ | refine guardD_ret0 ?_ | refine exV_intro _ rfl ?_); (try simp only [go_sem, loadL_a]); try ((first | refine hK _ _ ?_ | refine hKP _ _ _ ?_ | refine hKP _ _ (fun _ => ?_)); clear hK hKP K KP))))
  refine callV_of en102 (iIn hI hy (by omega)) (fun z σ6 q => ?_) (fun z σ6 q => by obtain ⟨e, _⟩ := q; cases e)
  obtain ⟨e, o', hI', hW'⟩ := q
  cases e
  cases hn : y.nxt with
  | none =>
    rw [hn] at hI'
    ((try simp only [go_sem, loadL_a, Option.isSome_none]); (try ((first | refine hK _ _ ?_ | refine hKP _ _ _ ?_ | refine hKP _ _ (fun _ => ?_)); clear hK hKP K KP)); repeat (first | refine Stp.s ?_ | refine inBlock_exit' (by decide) ?_ | ((first | refine vc_region fun K KP hK hKP => ?_ | refine Stg.s ?_ | refine guardD_ret0 ?_ | refine exV_intro _ rfl ?_); (try simp only [go_sem, loadL_a, Option.isSome_none]); try ((first | refine hK _ _ ?_ | refine hKP _ _ _ ?_ | refine hKP _ _ (fun _ => ?_)); clear hK hKP K KP))))
    refine vc_cond rfl (fun hq => by cases hq) (fun _ => ?_)
    (repeat (first | refine Stp.s ?_ | refine inBlock_exit' (by decide) ?_ | ((first | refine vc_region fun K KP hK hKP => ?_ | refine Stg.s ?_ | refine guardD_ret0 ?_ | refine exV_intro _ rfl ?_); (try simp only [go_sem, loadL_a]); try ((first | refine hK _ _ ?_ | refine hKP _ _ _ ?_ | refine hKP _ _ (fun _ => ?_)); clear hK hKP K KP))))
    (simp only [postV, resV, oneOf, List.getD_cons_succ, List.getD_cons_zero, and_true, true_and])
    rw [runA_none hn] at r1 r2
    rw [hR]
    simp only
    rw [r1, r2]
    exact ⟨rfl, o', hI', hW.trans hW'⟩
  | some i =>
    rw [hn] at hI'
    have hi : i < y.w.length := findIdx_lt hn
    have htl := take_len hi
    rw [runA_some hn] at r1 r2
    ((try simp only [go_sem, loadL_a, Option.isSome_some]); (try ((first | refine hK _ _ ?_ | refine hKP _ _ _ ?_ | refine hKP _ _ (fun _ => ?_)); clear hK hKP K KP)); repeat (first | refine Stp.s ?_ | refine inBlock_exit' (by decide) ?_ | ((first | refine vc_region fun K KP hK hKP => ?_ | refine Stg.s ?_ | refine guardD_ret0 ?_ | refine exV_intro _ rfl ?_); (try simp only [go_sem, loadL_a, Option.isSome_some]); try ((first | refine hK _ _ ?_ | refine hKP _ _ _ ?_ | refine hKP _ _ (fun _ => ?_)); clear hK hKP K KP))))
    refine vc_cond rfl (fun _ => ?_) (fun hq => by cases hq)
    (repeat (first | refine Stp.s ?_ | refine inBlock_exit' (by decide) ?_ | ((first | refine vc_region fun K KP hK hKP => ?_ | refine Stg.s ?_ | refine guardD_ret0 ?_ | refine exV_intro _ rfl ?_); (try simp only [go_sem, loadL_a, i64_up (show n ≤ 10000000 by omega)]); try ((first | refine hK _ _ ?_ | refine hKP _ _ _ ?_ | refine hKP _ _ (fun _ => ?_)); clear hK hKP K KP))))
    refine ⟨(n + 1, y.take i, o'), σ6, tell_weak (by repeat (first | exact LeEnv.nil | refine LeEnv.same ?_ | refine LeEnv.top ?_)) (Weakens.le (Store.le_refl _)), ⟨hI', take_good hG hi, hW.trans hW', ?_, ?_, ?_, r2⟩, ?_⟩
    · show (y.l ++ [entOf _]).length + (y.take i).w.length ≤ 191
      rw [List.length_append]
      show y.l.length + 1 + _ ≤ _
      omega
    · show n + 1 + (y.take i).w.length ≤ 200; omega
    · rw [r1]; show n + ((runA (y.take i)).1 + 1) = n + 1 + (runA (y.take i)).1; omega
    · show (y.take i).w.length < y.w.length; omega
end Go.Proofs.YtociliegljoldaaGreat
