/- Subscriptions: what they are; what is asked of them. -/
import Derived.Test.YtbgagffpmdlilaaK1
import Derived.Test.YtbgagffpmdlilaaG1
import Derived.Test.YtbgagffpmdlilaaPQ
namespace Go.Proofs.Ytbgagffpmdlilaa
set_option linter.unusedSimpArgs false
set_option linter.unusedVariables false
open Go.Proofs
attribute [local irreducible] vc vcOps vcDraw vcK vcKP vcDK vcDB HWp HCalls postV Ex.then Ex.inBlock stepD callV appendV guardC guardD exV effV opV loadV storeV indexAddrV indexV sliceV
set_option maxRecDepth 10000
set_option maxHeartbeats 4000000

/-- A cell of a block told as less. -/
theorem Weakens.cell {b j : Nat} {cs : List V} {y z x : V} {τ τ' : Store} (hb0 : τ b = some (.cells cs)) (hb : τ' b = some (.cells cs)) (hj : cs[j]? = some y) (h : Weakens y τ z τ') : Weakens x τ x (τ'.set b (.cells (cs.set j z))) := fun I w v hs hx => by
  obtain ⟨o, ho, hr⟩ := hs.own b _ hb0
  cases o with
  | cells arr el fr =>
    obtain ⟨hr1, hr2⟩ : (∀ j, j < arr.size → (decide (fr.1 ≤ j) && decide (j < fr.2)) = false) ∧ LR I cs arr.toList := hr
    have hjl : j < cs.length := (List.getElem?_eq_some_iff.1 hj).1
    have hl2 : j < arr.toList.length := by have := hr2.len; omega
    obtain ⟨J, j1, j2, j3⟩ := h I w _ hs (hr2.at_ j y arr.toList[j] hj (List.getElem?_eq_getElem hl2))
    refine ⟨J, j1, ⟨j2.imm, fun c k e => ?_, fun c k e => ?_⟩, hx.mono j1⟩
    · by_cases hc : c = b
      · subst hc
        rw [Store.set_same] at e
        cases e
        have := (hr2.mono j1).set j j3
        rw [List.set_getElem_self] at this
        exact ⟨_, ho, hr1, this⟩
      · rw [Store.set_other _ _ hc] at e
        exact j2.own c k e
    · by_cases hc : c = b
      · subst hc; exact j2.sep c _ hb
      · rw [Store.set_other _ _ hc] at e
        exact j2.sep c k e
  | _ => exact hr.elim
/-- All cells of a block told as less. -/
theorem Weakens.blk {b : Nat} {cs cs' : List V} {x : V} {τ : Store} (hb : τ b = some (.cells cs)) (h : ∀ (I : Imm) (vs : List Value), LR I cs vs → LR I cs' vs) : Weakens x τ x (τ.set b (.cells cs')) := fun I w v hs hx => by
  obtain ⟨o, ho, hr⟩ := hs.own b _ hb
  cases o with
  | cells arr el fr =>
    refine ⟨I, Imm.le_refl I, ⟨hs.imm, fun c k e => ?_, fun c k e => ?_⟩, hx⟩
    · by_cases hc : c = b
      · subst hc
        rw [Store.set_same] at e
        cases e
        exact ⟨_, ho, hr.1, h I _ hr.2⟩
      · rw [Store.set_other _ _ hc] at e
        exact hs.own c k e
    · by_cases hc : c = b
      · subst hc; exact hs.sep c _ hb
      · rw [Store.set_other _ _ hc] at e
        exact hs.sep c k e
  | _ => exact hr.elim
theorem nil_vr {I : Imm} {v : Value} {k : Nat} (h : VR I nilS v) : VR I (.lst k []) v := by cases h; exact .lnil k
theorem lr_nils {xs ys : List V} (hl : ys.length = xs.length) (h : ∀ (j : Nat) x y, xs[j]? = some x → ys[j]? = some y → y = x ∨ (x = nilS ∧ ∃ k, y = .lst k [])) (I : Imm) (vs : List Value) (hr : LR I xs vs) : LR I ys vs :=
  ⟨hl.trans hr.len, fun j y v hy hv => by
    have hj : j < xs.length := hl ▸ (List.getElem?_eq_some_iff.1 hy).1
    have hx := List.getElem?_eq_getElem hj
    have hv2 := hr.at_ j _ v hx hv
    rcases h j _ y hx hy with e | ⟨e, k, rfl⟩
    · rw [e]; exact hv2
    · rw [e] at hv2; exact nil_vr hv2⟩
/-- Of each seller a state and peers. -/
abbrev Subs := Nat → Int × List Int
def suV (s : Subs) (k : Nat) : V := if k % 2 = 0 then I64 (s (k / 2)).1 else ints (s (k / 2)).2
def suT (s : Subs) : List V := (List.range 24).map (suV s)
def peC (n : Int) (s : Subs) : List V := I64 n :: suT s
def setSt (s : Subs) (i : Nat) (x : Int) : Subs := fun j => if j = i then (x, (s j).2) else s j
def setPe (s : Subs) (i : Nat) (l : List Int) : Subs := fun j => if j = i then ((s j).1, l) else s j
def setSu (s : Subs) (i : Nat) (x : Int) (l : List Int) : Subs := fun j => if j = i then (x, l) else s j
theorem suT_len (s : Subs) : (suT s).length = 24 := by simp [suT]
theorem peC_len (n : Int) (s : Subs) : (peC n s).length = 25 := by unfold peC; rw [List.length_cons, suT_len]
theorem suT_at (s : Subs) (k : Nat) (h : k < 24) : (suT s)[k]? = some (suV s k) := by
  unfold suT; rw [List.getElem?_map, List.getElem?_range h]; rfl
theorem suV_0 (s : Subs) (i : Nat) : suV s (i * 2) = I64 (s i).1 := by unfold suV; rw [if_pos (by omega), show i * 2 / 2 = i by omega]
theorem suV_1 (s : Subs) (i : Nat) : suV s (i * 2 + 1) = ints (s i).2 := by unfold suV; rw [if_neg (by omega), show (i * 2 + 1) / 2 = i by omega]
theorem peC_st (n : Int) (s : Subs) (i : Nat) (h : i < 12) : (peC n s)[1 + i * 2]? = some (I64 (s i).1) := by
  rw [Nat.add_comm]; unfold peC; rw [List.getElem?_cons_succ, suT_at _ _ (by omega), suV_0]
theorem peC_pe (n : Int) (s : Subs) (i : Nat) (h : i < 12) : (peC n s)[1 + i * 2 + 1]? = some (ints (s i).2) := by
  rw [show 1 + i * 2 + 1 = (i * 2 + 1) + 1 by omega]; unfold peC; rw [List.getElem?_cons_succ, suT_at _ _ (by omega), suV_1]
theorem suT_congr {xs : List V} {s : Subs} (hl : xs.length = 24) (h : ∀ k, k < 24 → xs[k]? = some (suV s k)) : xs = suT s := by
  refine List.ext_getElem? fun k => ?_
  by_cases hk : k < 24
  · rw [h k hk, suT_at s k hk]
  · rw [List.getElem?_eq_none (by omega), List.getElem?_eq_none (by rw [suT_len]; omega)]
theorem peC_setSt (n : Int) (s : Subs) (i : Nat) (h : i < 12) (x : Int) : (peC n s).set (1 + i * 2) (I64 x) = peC n (setSt s i x) := by
  rw [Nat.add_comm]; unfold peC; rw [List.set_cons_succ]
  congr 1
  refine suT_congr (by simp [suT_len]) fun k hk => ?_
  rw [List.getElem?_set, suT_len, suT_at s k hk]
  by_cases e : i * 2 = k
  · subst e
    rw [if_pos rfl, if_pos hk, suV_0]; unfold setSt; rw [if_pos rfl]
  · rw [if_neg e]
    have : suV s k = suV (setSt s i x) k := by
      unfold suV setSt
      split
      · rw [if_neg (by omega)]
      · split <;> rfl
    rw [this]
theorem peC_setPe (n : Int) (s : Subs) (i : Nat) (h : i < 12) (l : List Int) : (peC n s).set (1 + i * 2 + 1) (ints l) = peC n (setPe s i l) := by
  rw [show 1 + i * 2 + 1 = (i * 2 + 1) + 1 by omega]; unfold peC; rw [List.set_cons_succ]
  congr 1
  refine suT_congr (by simp [suT_len]) fun k hk => ?_
  rw [List.getElem?_set, suT_len, suT_at s k hk]
  by_cases e : i * 2 + 1 = k
  · subst e
    rw [if_pos rfl, if_pos hk, suV_1]; unfold setPe; rw [if_pos rfl]
  · rw [if_neg e]
    have : suV s k = suV (setPe s i l) k := by
      unfold suV setPe
      split
      · split <;> rfl
      · rw [if_neg (by omega)]
    rw [this]
theorem setSu_eq (s : Subs) (i : Nat) (x : Int) (l : List Int) : setPe (setSt s i x) i l = setSu s i x l := by
  funext j; unfold setPe setSt setSu; split <;> rfl
theorem pe_set2 (n : Int) (s : Subs) (i : Nat) (h : i < 12) (x : Int) (l : List Int) : ((peC n s).set (1 + i * 2) (I64 x)).set (1 + i * 2 + 1) (ints l) = peC n (setSu s i x l) := by rw [peC_setSt n s i h x, peC_setPe n _ i h l, setSu_eq]

theorem pnode_pure (n : Int) : HPure Try.prog 105 [I64 n] (BV (nodeB n)) := by
  (refine HPure.of en105 fun σ => ?_); (refine HCalls.of_vc Try.func105 rfl ?_; rw [Try.ntmps105, Try.results105]; simp only [List.length_cons, List.length_nil, Nat.reduceAdd, Nat.reduceSub, List.replicate, List.cons_append, List.nil_append])
  (repeat (first | refine Stp.s ?_ | refine inBlock_exit' (by decide) ?_ | ((first | refine vc_region fun K KP hK hKP => ?_ | refine Stg.s ?_ | refine guardD_ret0 ?_ | refine exV_intro _ rfl ?_); (try simp only [go_sem, loadL_a]); try ((first | refine hK _ _ ?_ | refine hKP _ _ _ ?_ | refine hKP _ _ (fun _ => ?_)); clear hK hKP K KP))))
  (simp only [postV, resV, oneOf, List.getD_cons_succ, List.getD_cons_zero, and_true, true_and])
  exact Ends.le rfl (Store.le_refl _)
theorem pseller_pure (n : Int) : HPure Try.prog 157 [I64 n] (BV (nodeB n)) := by
  (refine HPure.of en157 fun σ => ?_); (refine HCalls.of_vc Try.func157 rfl ?_; rw [Try.ntmps157, Try.results157]; simp only [List.length_cons, List.length_nil, Nat.reduceAdd, Nat.reduceSub, List.replicate, List.cons_append, List.nil_append])
  (repeat (first | refine Stp.s ?_ | refine inBlock_exit' (by decide) ?_ | ((first | refine vc_region fun K KP hK hKP => ?_ | refine Stg.s ?_ | refine guardD_ret0 ?_ | refine exV_intro _ rfl ?_); (try simp only [go_sem, loadL_a]); try ((first | refine hK _ _ ?_ | refine hKP _ _ _ ?_ | refine hKP _ _ (fun _ => ?_)); clear hK hKP K KP))))
  (simp only [postV, resV, oneOf, List.getD_cons_succ, List.getD_cons_zero, and_true, true_and])
  exact Ends.le rfl (Store.le_refl _)
theorem pmade (b : Nat) (σ : Store) (n : Int) (s : Subs) (h : σ b = some (.cells (peC n s))) : HQuiet Try.prog 111 [.ptr b 0] σ (BV (decide (0 < n))) := by
  refine HQuiet.of ?_; (refine HCalls.of_vc Try.func111 rfl ?_; rw [Try.ntmps111, Try.results111]; simp only [List.length_cons, List.length_nil, Nat.reduceAdd, Nat.reduceSub, List.replicate, List.cons_append, List.nil_append])
  have h0 : (peC n s)[0]? = some (I64 n) := rfl
  (repeat (first | refine Stp.s ?_ | refine inBlock_exit' (by decide) ?_ | ((first | refine vc_region fun K KP hK hKP => ?_ | refine Stg.s ?_ | refine guardD_ret0 ?_ | refine exV_intro _ rfl ?_); (try simp only [go_sem, loadL_a, h, h0]); try ((first | refine hK _ _ ?_ | refine hKP _ _ _ ?_ | refine hKP _ _ (fun _ => ?_)); clear hK hKP K KP))))
  (simp only [postV, resV, oneOf, List.getD_cons_succ, List.getD_cons_zero, and_true, true_and])
  exact Ends.le rfl (Store.le_refl _)
theorem pmade_nil (σ : Store) : HQuiet Try.prog 111 [nilP] σ (BV false) := by
  refine HQuiet.of ?_; (refine HCalls.of_vc Try.func111 rfl ?_; rw [Try.ntmps111, Try.results111]; simp only [List.length_cons, List.length_nil, Nat.reduceAdd, Nat.reduceSub, List.replicate, List.cons_append, List.nil_append])
  (repeat (first | refine Stp.s ?_ | refine inBlock_exit' (by decide) ?_ | ((first | refine vc_region fun K KP hK hKP => ?_ | refine Stg.s ?_ | refine guardD_ret0 ?_ | refine exV_intro _ rfl ?_); (try simp only [go_sem, loadL_a]); try ((first | refine hK _ _ ?_ | refine hKP _ _ _ ?_ | refine hKP _ _ (fun _ => ?_)); clear hK hKP K KP))))
  (simp only [postV, resV, oneOf, List.getD_cons_succ, List.getD_cons_zero, and_true, true_and])
  exact Ends.le rfl (Store.le_refl _)
def offS (s : Int) : Nat := 1 + (s - 1).toNat * 2
theorem pat_in (b : Nat) (σ : Store) (n : Int) (s : Subs) (h : σ b = some (.cells (peC n s))) (hn : 0 < n) (x : Int) (hx : nodeB x = true) : HQuiet Try.prog 107 [.ptr b 0, I64 x] σ (.ptr b (offS x)) := by
  refine HQuiet.of ?_; (refine HCalls.of_vc Try.func107 rfl ?_; rw [Try.ntmps107, Try.results107]; simp only [List.length_cons, List.length_nil, Nat.reduceAdd, Nat.reduceSub, List.replicate, List.cons_append, List.nil_append])
  have hx2 : 1 ≤ x ∧ x ≤ 12 := by unfold nodeB at hx; simpa using hx
  have hw : IntKind.i64.wrap (x - 1) = x - 1 := i64_in (by omega) (by omega)
  have g0 := eq_true (show (0 : Int) ≤ x - 1 by omega)
  have g1 := eq_true (show x - 1 < ((12 : Nat) : Int) by omega)
  (repeat (first | refine Stp.s ?_ | refine inBlock_exit' (by decide) ?_ | ((first | refine vc_region fun K KP hK hKP => ?_ | refine Stg.s ?_ | refine guardD_ret0 ?_ | refine exV_intro _ rfl ?_); (try simp only [go_sem, loadL_a]); try ((first | refine hK _ _ ?_ | refine hKP _ _ _ ?_ | refine hKP _ _ (fun _ => ?_)); clear hK hKP K KP))))
  ((try simp only [go_sem, loadL_a]); refine callV_quiet en111 (pmade b σ n s h) ?_)
  ((try simp only [go_sem, loadL_a]); (try ((first | refine hK _ _ ?_ | refine hKP _ _ _ ?_ | refine hKP _ _ (fun _ => ?_)); clear hK hKP K KP)); repeat (first | refine Stp.s ?_ | refine inBlock_exit' (by decide) ?_ | ((first | refine vc_region fun K KP hK hKP => ?_ | refine Stg.s ?_ | refine guardD_ret0 ?_ | refine exV_intro _ rfl ?_); (try simp only [go_sem, loadL_a]); try ((first | refine hK _ _ ?_ | refine hKP _ _ _ ?_ | refine hKP _ _ (fun _ => ?_)); clear hK hKP K KP))))
  ((try simp only [go_sem, loadL_a]); first | refine guardC_q0 (fun _ => callV_pure (pseller_pure x) ⟨rfl, rfl⟩) ?_ | refine callV_pure (pseller_pure x) ?_)
  ((try simp only [go_sem, loadL_a]); (try ((first | refine hK _ _ ?_ | refine hKP _ _ _ ?_ | refine hKP _ _ (fun _ => ?_)); clear hK hKP K KP)); repeat (first | refine Stp.s ?_ | refine inBlock_exit' (by decide) ?_ | ((first | refine vc_region fun K KP hK hKP => ?_ | refine Stg.s ?_ | refine guardD_ret0 ?_ | refine exV_intro _ rfl ?_); (try simp only [go_sem, loadL_a]); try ((first | refine hK _ _ ?_ | refine hKP _ _ _ ?_ | refine hKP _ _ (fun _ => ?_)); clear hK hKP K KP))))
  rw [hx]
  refine vc_cond rfl (fun hc => ?_) (fun _ => ?_)
  · exfalso; simp at hc; omega
  · (repeat (first | refine Stp.s ?_ | refine inBlock_exit' (by decide) ?_ | ((first | refine vc_region fun K KP hK hKP => ?_ | refine Stg.s ?_ | refine guardD_ret0 ?_ | refine exV_intro _ rfl ?_); (try simp only [go_sem, loadL_a, hw, g0, g1]); try ((first | refine hK _ _ ?_ | refine hKP _ _ _ ?_ | refine hKP _ _ (fun _ => ?_)); clear hK hKP K KP))))
    (simp only [postV, resV, oneOf, List.getD_cons_succ, List.getD_cons_zero, and_true, true_and])
    exact Ends.le rfl (Store.le_refl _)
/-- Elsewhere: a new one, of the state 0. -/
def noSub : Blk := .cells [I64 0, ints []]
theorem noSub_new {σ : Store} {c : Nat} (hc : σ c = none) : EndsNew (fun c => .ptr c 0) noSub σ (.ret (.ptr c 0)) (σ.set c (.cells [I64 0, nilS])) :=
  ⟨c, _, hc, rfl, by
    have := Weakens.blk (x := .ptr c 0) (cs' := [I64 0, ints []]) (Store.set_same σ c (.cells [I64 0, nilS])) (lr_nils rfl fun j x y hx hy => by
      match j with
      | 0 => simp at hx hy; subst hx hy; exact .inl rfl
      | 1 => simp at hx hy; subst hx hy; exact .inr ⟨rfl, 1, rfl⟩
      | j + 2 => simp at hx)
    rw [Store.set_set] at this
    exact this⟩
theorem pat_out (b : Nat) (σ : Store) (n : Int) (s : Subs) (h : σ b = some (.cells (peC n s))) (x : Int) (hx : ¬(0 < n ∧ nodeB x = true)) : HCalls Try.prog 107 [.ptr b 0, I64 x] σ (EndsNew (fun c => .ptr c 0) noSub σ) := by
  (refine HCalls.of_vc Try.func107 rfl ?_; rw [Try.ntmps107, Try.results107]; simp only [List.length_cons, List.length_nil, Nat.reduceAdd, Nat.reduceSub, List.replicate, List.cons_append, List.nil_append])
  (repeat (first | refine Stp.s ?_ | refine inBlock_exit' (by decide) ?_ | ((first | refine vc_region fun K KP hK hKP => ?_ | refine Stg.s ?_ | refine guardD_ret0 ?_ | refine exV_intro _ rfl ?_); (try simp only [go_sem, loadL_a]); try ((first | refine hK _ _ ?_ | refine hKP _ _ _ ?_ | refine hKP _ _ (fun _ => ?_)); clear hK hKP K KP))))
  ((try simp only [go_sem, loadL_a]); refine callV_quiet en111 (pmade b σ n s h) ?_)
  ((try simp only [go_sem, loadL_a]); (try ((first | refine hK _ _ ?_ | refine hKP _ _ _ ?_ | refine hKP _ _ (fun _ => ?_)); clear hK hKP K KP)); repeat (first | refine Stp.s ?_ | refine inBlock_exit' (by decide) ?_ | ((first | refine vc_region fun K KP hK hKP => ?_ | refine Stg.s ?_ | refine guardD_ret0 ?_ | refine exV_intro _ rfl ?_); (try simp only [go_sem, loadL_a]); try ((first | refine hK _ _ ?_ | refine hKP _ _ _ ?_ | refine hKP _ _ (fun _ => ?_)); clear hK hKP K KP))))
  ((try simp only [go_sem, loadL_a]); first | refine guardC_q0 (fun _ => callV_pure (pseller_pure x) ⟨rfl, rfl⟩) ?_ | refine callV_pure (pseller_pure x) ?_)
  ((try simp only [go_sem, loadL_a]); (try ((first | refine hK _ _ ?_ | refine hKP _ _ _ ?_ | refine hKP _ _ (fun _ => ?_)); clear hK hKP K KP)); repeat (first | refine Stp.s ?_ | refine inBlock_exit' (by decide) ?_ | ((first | refine vc_region fun K KP hK hKP => ?_ | refine Stg.s ?_ | refine guardD_ret0 ?_ | refine exV_intro _ rfl ?_); (try simp only [go_sem, loadL_a]); try ((first | refine hK _ _ ?_ | refine hKP _ _ _ ?_ | refine hKP _ _ (fun _ => ?_)); clear hK hKP K KP))))
  refine vc_cond rfl (fun _ => ?_) (fun hc => ?_)
  · (repeat (first | refine Stp.s ?_ | refine inBlock_exit' (by decide) ?_ | ((first | refine vc_region fun K KP hK hKP => ?_ | refine Stg.s ?_ | refine guardD_ret0 ?_ | refine exV_intro _ rfl ?_); (try simp only [go_sem, loadL_a]); try ((first | refine hK _ _ ?_ | refine hKP _ _ _ ?_ | refine hKP _ _ (fun _ => ?_)); clear hK hKP K KP))))
    intro c hc
    ((try simp only [go_sem, loadL_a]); refine hK _ _ ?_; clear hK hKP K KP; repeat (first | refine Stp.s ?_ | refine inBlock_exit' (by decide) ?_ | ((first | refine vc_region fun K KP hK hKP => ?_ | refine Stg.s ?_ | refine guardD_ret0 ?_ | refine exV_intro _ rfl ?_); (try simp only [go_sem, loadL_a]); try ((first | refine hK _ _ ?_ | refine hKP _ _ _ ?_ | refine hKP _ _ (fun _ => ?_)); clear hK hKP K KP))))
    (simp only [postV, resV, oneOf, List.getD_cons_succ, List.getD_cons_zero, and_true, true_and])
    exact noSub_new hc
  · exfalso
    refine hx ?_
    simp only [Bool.or_eq_false_iff, Bool.not_eq_false', decide_eq_true_eq] at hc
    exact hc
theorem pat_nil (σ : Store) (x : Int) : HCalls Try.prog 107 [nilP, I64 x] σ (EndsNew (fun c => .ptr c 0) noSub σ) := by
  (refine HCalls.of_vc Try.func107 rfl ?_; rw [Try.ntmps107, Try.results107]; simp only [List.length_cons, List.length_nil, Nat.reduceAdd, Nat.reduceSub, List.replicate, List.cons_append, List.nil_append])
  (repeat (first | refine Stp.s ?_ | refine inBlock_exit' (by decide) ?_ | ((first | refine vc_region fun K KP hK hKP => ?_ | refine Stg.s ?_ | refine guardD_ret0 ?_ | refine exV_intro _ rfl ?_); (try simp only [go_sem, loadL_a]); try ((first | refine hK _ _ ?_ | refine hKP _ _ _ ?_ | refine hKP _ _ (fun _ => ?_)); clear hK hKP K KP))))
  ((try simp only [go_sem, loadL_a]); refine callV_quiet en111 (pmade_nil σ) ?_)
  ((try simp only [go_sem, loadL_a]); (try ((first | refine hK _ _ ?_ | refine hKP _ _ _ ?_ | refine hKP _ _ (fun _ => ?_)); clear hK hKP K KP)); repeat (first | refine Stp.s ?_ | refine inBlock_exit' (by decide) ?_ | ((first | refine vc_region fun K KP hK hKP => ?_ | refine Stg.s ?_ | refine guardD_ret0 ?_ | refine exV_intro _ rfl ?_); (try simp only [go_sem, loadL_a]); try ((first | refine hK _ _ ?_ | refine hKP _ _ _ ?_ | refine hKP _ _ (fun _ => ?_)); clear hK hKP K KP))))
  refine vc_cond rfl (fun _ => ?_) (fun hc => ?_)
  · (repeat (first | refine Stp.s ?_ | refine inBlock_exit' (by decide) ?_ | ((first | refine vc_region fun K KP hK hKP => ?_ | refine Stg.s ?_ | refine guardD_ret0 ?_ | refine exV_intro _ rfl ?_); (try simp only [go_sem, loadL_a]); try ((first | refine hK _ _ ?_ | refine hKP _ _ _ ?_ | refine hKP _ _ (fun _ => ?_)); clear hK hKP K KP))))
    intro c hc
    ((try simp only [go_sem, loadL_a]); refine hK _ _ ?_; clear hK hKP K KP; repeat (first | refine Stp.s ?_ | refine inBlock_exit' (by decide) ?_ | ((first | refine vc_region fun K KP hK hKP => ?_ | refine Stg.s ?_ | refine guardD_ret0 ?_ | refine exV_intro _ rfl ?_); (try simp only [go_sem, loadL_a]); try ((first | refine hK _ _ ?_ | refine hKP _ _ _ ?_ | refine hKP _ _ (fun _ => ?_)); clear hK hKP K KP))))
    (simp only [postV, resV, oneOf, List.getD_cons_succ, List.getD_cons_zero, and_true, true_and])
    exact noSub_new hc
  · cases hc
end Go.Proofs.Ytbgagffpmdlilaa
