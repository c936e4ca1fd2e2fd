/- An index: a label comes in. -/
import Derived.Test.YtociliegljoldaaGreatI4
namespace Go.Proofs.YtociliegljoldaaGreat
set_option linter.unusedSimpArgs false
set_option linter.unusedVariables false
open Go.Proofs
attribute [local irreducible] vc vcOps vcDraw vcK vcKP vcDK vcDB HWp HCalls postV Ex.then Ex.inBlock stepD callV appendV guardC guardD exV effV opV loadV storeV indexAddrV indexV sliceV
set_option maxRecDepth 10000
set_option maxHeartbeats 4000000

def coversW (v : List Nat) (l : LbI) : Bool := coversB v l.1.deps
theorem covIn {b : Nat} {x : Ix} {xl : V} (hx : x.v.length = 12) (l : LbI) (c : Nat) (σ : Store) (hc : σ c = some (.cells [.ptr b 0])) (hb : σ b = some (.cells (ixC x xl))) : HQuiet Tryz.prog 161 [labV l, .ptr c 0] σ (BV (coversW x.v l)) := by
  refine HQuiet.of ?_; (refine HCalls.of_vc Tryz.func161 rfl ?_; rw [Tryz.ntmps161, Tryz.results161]; simp only [List.length_cons, List.length_nil, Nat.reduceAdd, Nat.reduceSub, List.replicate, List.cons_append, List.nil_append])
  (repeat (first | refine Stp.s ?_ | refine inBlock_exit' (by decide) ?_ | ((first | refine vc_region fun K KP hK hKP => ?_ | refine Stg.s ?_ | refine guardD_ret0 ?_ | refine exV_intro _ rfl ?_); (try simp only [go_sem, loadL_a, labV, Lb.v]); try ((first | refine hK _ _ ?_ | refine hKP _ _ _ ?_ | refine hKP _ _ (fun _ => ?_)); clear hK hKP K KP))))
  intro b2 hb2
  have hc' := Store.keep hb2 hc (.cells l.1.cs)
  have hb' := Store.keep hb2 hb (.cells l.1.cs)
  have h2 := Store.set_same σ b2 (.cells l.1.cs)
  have hle := Store.le_set hb2 (Store.le_refl σ) (k := .cells l.1.cs)
  generalize σ.set b2 _ = σ1 at *
  ((try simp only [go_sem]); (try ((first | refine hK _ _ ?_ | refine hKP _ _ _ ?_ | refine hKP _ _ (fun _ => ?_)); clear hK hKP K KP)); repeat (first | refine Stp.s ?_ | refine inBlock_exit' (by decide) ?_ | ((first | refine vc_region fun K KP hK hKP => ?_ | refine Stg.s ?_ | refine guardD_ret0 ?_ | refine exV_intro _ rfl ?_); (try simp only [go_sem]); try ((first | refine hK _ _ ?_ | refine hKP _ _ _ ?_ | refine hKP _ _ (fun _ => ?_)); clear hK hKP K KP))))
  ((repeat first | refine Stp.s ?_ | refine inBlock_exit' (by decide) ?_); refine vc_draw mixed [ ] [0, 1, 2, 3, 4, 5, 6, 7 ] [ 0, 3, 5 ] [] (fun _ => True) (by kernel_rfl) (by kernel_rfl) (by kernel_rfl) trivial fun K KP hK hKP => ?_; simp only [go_sem, h2, hc', hb', ixC_v x hx, lbLoadD l.1 l.2.ok]; try (refine hK _ _ ?_; clear hK hKP K KP))
  ((try simp only [go_sem, h2, hc', hb', ixC_v x hx, lbLoadD l.1 l.2.ok]); (try ((first | refine hK _ _ ?_ | refine hKP _ _ _ ?_ | refine hKP _ _ (fun _ => ?_)); clear hK hKP K KP)); repeat (first | refine Stp.s ?_ | refine inBlock_exit' (by decide) ?_ | ((first | refine vc_region fun K KP hK hKP => ?_ | refine Stg.s ?_ | refine guardD_ret0 ?_ | refine exV_intro _ rfl ?_); (try simp only [go_sem, h2, hc', hb', ixC_v x hx, lbLoadD l.1 l.2.ok]); try ((first | refine hK _ _ ?_ | refine hKP _ _ _ ?_ | refine hKP _ _ (fun _ => ?_)); clear hK hKP K KP))))
  ((try simp only [go_sem, loadL_a]); first | refine exV_intro _ (callV_pure (covers_pure x.v l.1.deps hx l.2.ok.d) ⟨rfl, rfl⟩) ?_ | refine exV_intro _ (fun _ => callV_pure (covers_pure x.v l.1.deps hx l.2.ok.d) ⟨rfl, rfl⟩) ?_ | refine exV_intro _ (fun _ _ => callV_pure (covers_pure x.v l.1.deps hx l.2.ok.d) ⟨rfl, rfl⟩) ?_)
  ((try simp only [go_sem, loadL_a]); (try ((first | refine hK _ _ ?_ | refine hKP _ _ _ ?_ | refine hKP _ _ (fun _ => ?_)); clear hK hKP K KP)); repeat (first | refine Stp.s ?_ | refine inBlock_exit' (by decide) ?_ | ((first | refine vc_region fun K KP hK hKP => ?_ | refine Stg.s ?_ | refine guardD_ret0 ?_ | refine exV_intro _ rfl ?_); (try simp only [go_sem, loadL_a]); try ((first | refine hK _ _ ?_ | refine hKP _ _ _ ?_ | refine hKP _ _ (fun _ => ?_)); clear hK hKP K KP))))
  (simp only [postV, resV, oneOf, List.getD_cons_succ, List.getD_cons_zero, and_true, true_and])
  exact Ends.le rfl hle
def entOf (l : LbI) : Ent := ⟨l.1.node, l.1.n, l.1.seller⟩
/-- What an index holds when the i-th label that waits came in. -/
def Ix.take (x : Ix) (i : Nat) : Ix := let l := x.w.getD i default; ⟨x.cart, withV x.v l.1.node l.1.n, x.l ++ [entOf l], x.w.take i ++ x.w.drop (i + 1)⟩
def Ix.nxt (x : Ix) : Option Nat := x.w.findIdx? (coversW x.v)
theorem ixC_setw (x : Ix) (hx : x.v.length = 12) (xl : V) (w : List LbI) : (ixC x xl).set 14 (labsV w) = ixC ⟨x.cart, x.v, x.l, w⟩ xl := by
  unfold ixC
  rw [List.set_cons_succ, List.set_append_right _ _ (by simp [hx])]
  simp [hx]
theorem ixC_setl (x : Ix) (hx : x.v.length = 12) (xl yl : V) (l : List Ent) : (ixC x xl).set 13 yl = ixC ⟨x.cart, x.v, l, x.w⟩ yl := by
  unfold ixC
  rw [List.set_cons_succ, List.set_append_right _ _ (by simp [hx])]
  simp [hx]
theorem ixC_setv (x : Ix) (hx : x.v.length = 12) (xl : V) (v : List Nat) (hv : v.length = 12) : setL (ixC x xl) 1 (v.map U32) = ixC ⟨x.cart, v, x.l, x.w⟩ xl := by
  unfold ixC
  have h1 := setL_skip (v.map U32) [I64 x.cart] (x.v.map U32 ++ [xl, labsV x.w]) 0
  simp only [List.length_cons, List.length_nil, Nat.zero_add, Nat.add_zero, List.cons_append, List.nil_append] at h1
  rw [h1, setL_head _ _ _ (by simp [hx, hv])]
theorem Own.there {k : Nat} {σ0 τ : Store} {x : V} {cs : List V} {n : Nat} {ob : Option Nat} (h : Own k σ0 τ x cs n ob) {c : Nat} (e : ob = some c) : τ c ≠ none := by
  rcases h with ⟨_, _, _, q⟩ | ⟨c', _, _, _, q, _, _, q2, _⟩
  · rw [q] at e; cases e
  · rw [q] at e; cases e; rw [q2]; simp
theorem findIdx_lt {α : Type} {w : List α} {q : α → Bool} {i : Nat} (h : w.findIdx? q = some i) : i < w.length := by
  rw [List.findIdx?_eq_some_iff_getElem] at h; obtain ⟨h, _⟩ := h; exact h
theorem iIn {b : Nat} {σ : Store} {x : Ix} {ob : Option Nat} (h : IxR σ b x ob) (hx : x.Ok) (hxl : x.l.length < 1000) : HCalls Tryz.prog 102 [.ptr b 0] σ (fun r σ' => r = .ret (BV x.nxt.isSome) ∧ ∃ ob', IxR σ' b (match x.nxt with | some i => x.take i | none => x) ob' ∧ WStep σ σ' b ob ob') := by
  obtain ⟨xl, hb, hO, hne⟩ := h
  (refine HCalls.of_vc Tryz.func102 rfl ?_; rw [Tryz.ntmps102, Tryz.results102]; simp only [List.length_cons, List.length_nil, Nat.reduceAdd, Nat.reduceSub, List.replicate, List.cons_append, List.nil_append])
  (repeat (first | refine Stp.s ?_ | refine inBlock_exit' (by decide) ?_ | ((first | refine vc_region fun K KP hK hKP => ?_ | refine Stg.s ?_ | refine guardD_ret0 ?_ | refine exV_intro _ rfl ?_); (try simp only [go_sem, loadL_a]); try ((first | refine hK _ _ ?_ | refine hKP _ _ _ ?_ | refine hKP _ _ (fun _ => ?_)); clear hK hKP K KP))))
  intro b1 hb1
  have hb' := Store.keep hb1 hb (.cells [.ptr b 0])
  have h1 := Store.set_same σ b1 (.cells [.ptr b 0])
  have hle := Store.le_set hb1 (Store.le_refl σ) (k := .cells [.ptr b 0])
  have n1 : b1 ≠ b := fun e => by rw [e, hb] at hb1; cases hb1
  have nob : ∀ c, ob = some c → σ c ≠ none := fun c e => hO.there e
  have hO := hO.keep (fun c l _ hc => hle c l hc)
  generalize σ.set b1 _ = σ1 at *
  ((try simp only [go_sem, loadL_a, h1, hb', ixC_w x hx.v]); (try ((first | refine hK _ _ ?_ | refine hKP _ _ _ ?_ | refine hKP _ _ (fun _ => ?_)); clear hK hKP K KP)); repeat (first | refine Stp.s ?_ | refine inBlock_exit' (by decide) ?_ | ((first | refine vc_region fun K KP hK hKP => ?_ | refine Stg.s ?_ | refine guardD_ret0 ?_ | refine exV_intro _ rfl ?_); (try simp only [go_sem, loadL_a, h1, hb', ixC_w x hx.v]); try ((first | refine hK _ _ ?_ | refine hKP _ _ _ ?_ | refine hKP _ _ (fun _ => ?_)); clear hK hKP K KP))))
  have hid := indexFunc_lab (x.w.map labV) 161 [] [.ptr b1 0] (pOf (coversW x.v)) σ1 (by rw [List.length_map]; have := hx.w; omega) (fun y hy K hK => by obtain ⟨l, _, rfl⟩ := List.mem_map.1 hy; exact (lbLoad l.1 l.2.ok K).mpr hK) en161 (fun y hy => by
    obtain ⟨l, _, rfl⟩ := List.mem_map.1 hy
    rw [pOf_lab]
    exact covIn hx.v l b1 σ1 h1 hb')
  rw [pOf_idx] at hid
  refine callV_quiet en160 hid ?_
  cases hfi : x.w.findIdx? (coversW x.v) with
  | none =>
    have hm1 : idxOf (none : Option Nat) = -1 := rfl
    have hneg : decide ((-1 : Int) < 0) = true := rfl
    ((try simp only [go_sem, loadL_a, hm1, hneg]); (try ((first | refine hK _ _ ?_ | refine hKP _ _ _ ?_ | refine hKP _ _ (fun _ => ?_)); clear hK hKP K KP)); repeat (first | refine Stp.s ?_ | refine inBlock_exit' (by decide) ?_ | ((first | refine vc_region fun K KP hK hKP => ?_ | refine Stg.s ?_ | refine guardD_ret0 ?_ | refine exV_intro _ rfl ?_); (try simp only [go_sem, loadL_a, hm1, hneg]); try ((first | refine hK _ _ ?_ | refine hKP _ _ _ ?_ | refine hKP _ _ (fun _ => ?_)); clear hK hKP K KP))))
    refine vc_cond rfl (fun _ => ?_) (fun hq => by cases hq)
    (repeat (first | refine Stp.s ?_ | refine inBlock_exit' (by decide) ?_ | ((first | refine vc_region fun K KP hK hKP => ?_ | refine Stg.s ?_ | refine guardD_ret0 ?_ | refine exV_intro _ rfl ?_); (try simp only [go_sem, loadL_a]); try ((first | refine hK _ _ ?_ | refine hKP _ _ _ ?_ | refine hKP _ _ (fun _ => ?_)); clear hK hKP K KP))))
    (simp only [postV, resV, oneOf, List.getD_cons_succ, List.getD_cons_zero, and_true, true_and])
    unfold Ix.nxt
    rw [hfi]
    exact ⟨rfl, ob, ⟨xl, hb', hO, hne⟩, WStep.base hle WStep.refl⟩
  | some i =>
    have hi := findIdx_lt hfi
    have hmi : idxOf (some i) = (i : Int) := rfl
    have hnn : decide ((i : Int) < 0) = false := decide_eq_false (by omega)
    ((try simp only [go_sem, loadL_a, hmi, hnn]); (try ((first | refine hK _ _ ?_ | refine hKP _ _ _ ?_ | refine hKP _ _ (fun _ => ?_)); clear hK hKP K KP)); repeat (first | refine Stp.s ?_ | refine inBlock_exit' (by decide) ?_ | ((first | refine vc_region fun K KP hK hKP => ?_ | refine Stg.s ?_ | refine guardD_ret0 ?_ | refine exV_intro _ rfl ?_); (try simp only [go_sem, loadL_a, hmi, hnn]); try ((first | refine hK _ _ ?_ | refine hKP _ _ _ ?_ | refine hKP _ _ (fun _ => ?_)); clear hK hKP K KP))))
    refine vc_cond rfl (fun hq => by cases hq) (fun _ => ?_)
    have hwl := hx.w
    have g0 := eq_true (show (0 : Int) ≤ (i : Int) by omega)
    have g1 := eq_true (show (i : Int) < (x.w.length : Int) by omega)
    have hgl : (x.w.map labV).getD i .top = labV (x.w.getD i default) := by
      rw [List.getD_eq_getElem?_getD, List.getD_eq_getElem?_getD, List.getElem?_map, List.getElem?_eq_getElem hi]; rfl
    have hT : x.take i = ⟨x.cart, withV x.v (x.w.getD i default).1.node (x.w.getD i default).1.n, x.l ++ [entOf (x.w.getD i default)], x.w.take i ++ x.w.drop (i + 1)⟩ := rfl
    have hfin : (match x.nxt with | some i => x.take i | none => x) = x.take i ∧ x.nxt.isSome = true := by unfold Ix.nxt; rw [hfi]; exact ⟨rfl, rfl⟩
    rw [hT] at hfin
    generalize x.w.getD i default = l at *
    have hlc := lbCells l.1 l.2.ok
    (repeat (first | refine Stp.s ?_ | refine inBlock_exit' (by decide) ?_ | ((first | refine vc_region fun K KP hK hKP => ?_ | refine Stg.s ?_ | refine guardD_ret0 ?_ | refine exV_intro _ rfl ?_); (try simp only [go_sem, h1, hb', ixC_w x hx.v, labsV, g0, g1, hgl, Int.toNat_natCast, List.length_map, labV, Lb.v, lbLoad l.1 l.2.ok]); try ((first | refine hK _ _ ?_ | refine hKP _ _ _ ?_ | refine hKP _ _ (fun _ => ?_)); clear hK hKP K KP))))
    intro b4 hb4
    refine ⟨hlc, eltL.one l, Nat.le_of_eq hlc, ?_⟩
    rw [setL_full _ _ (by simp [hlc])]
    have n14 : b1 ≠ b4 := fun e => by rw [← e, h1] at hb4; cases hb4
    have n4 : b4 ≠ b := fun e => by rw [e, hb'] at hb4; cases hb4
    have hb4' := Store.keep hb4 hb' (.cells l.1.cs)
    have h14 := Store.keep hb4 h1 (.cells l.1.cs)
    have h4 := Store.set_same σ1 b4 (.cells l.1.cs)
    have hle4 := Store.le_set hb4 hle (k := .cells l.1.cs)
    have hO4 := hO.keep (fun c k _ hc => Store.keep hb4 hc (.cells l.1.cs))
    have nob1 : ob ≠ some b1 := fun e => nob _ e hb1
    have m4 : σ b4 = none := Store.none_of_le hle hb4
    have nob4 : ob ≠ some b4 := fun e => nob _ e m4
    generalize σ1.set b4 _ = σ4 at *
    ((try simp only [go_sem]); (try ((first | refine hK _ _ ?_ | refine hKP _ _ _ ?_ | refine hKP _ _ (fun _ => ?_)); clear hK hKP K KP)); repeat (first | refine Stp.s ?_ | refine inBlock_exit' (by decide) ?_ | ((first | refine vc_region fun K KP hK hKP => ?_ | refine Stg.s ?_ | refine guardD_ret0 ?_ | refine exV_intro _ rfl ?_); (try simp only [go_sem]); try ((first | refine hK _ _ ?_ | refine hKP _ _ _ ?_ | refine hKP _ _ (fun _ => ?_)); clear hK hKP K KP))))
    have e1 : ((x.w.map labV).drop 0).take (i - 0) = (x.w.take i).map labV := by rw [List.drop_zero, Nat.sub_zero, List.map_take]
    have e2 : ((x.w.map labV).drop (i + 1)).take (x.w.length - (i + 1)) = (x.w.drop (i + 1)).map labV := by rw [List.take_of_length_le (by simp), List.map_drop]
    have w1 := i64_up (show i ≤ 10000000 by omega)
    ((repeat first | refine Stp.s ?_ | refine inBlock_exit' (by decide) ?_); refine vc_draw mixed [ 14, 15, 18 ] [0, 1, 2, 3, 4, 5, 6, 7, 8, 9, 10, 11, 12, 13, 14, 15, 16, 17, 18 ] [ 1, 4, 7, 10 ] [18] (fun υ => υ b1 = some (.cells [.ptr b 0])) (by kernel_rfl) (by kernel_rfl) (by kernel_rfl) (h14) fun K KP hK hKP => ?_; simp only [go_sem, loadL_a, h14, hb4', ixC_w x hx.v, labsV]; try ((first | refine hK _ _ ?_ | refine hKP _ _ _ ?_ | refine hKP _ _ (fun _ => ?_)); clear hK hKP K KP))
    ((try simp only [go_sem, loadL_a, h14, hb4', ixC_w x hx.v, labsV]); (try ((first | refine hK _ _ ?_ | refine hKP _ _ _ ?_ | refine hKP _ _ (fun _ => ?_)); clear hK hKP K KP)); repeat (first | refine Stp.s ?_ | refine inBlock_exit' (by decide) ?_ | ((first | refine vc_region fun K KP hK hKP => ?_ | refine Stg.s ?_ | refine guardD_ret0 ?_ | refine exV_intro _ rfl ?_); (try simp only [go_sem, loadL_a, h14, hb4', ixC_w x hx.v, labsV]); try ((first | refine hK _ _ ?_ | refine hKP _ _ _ ?_ | refine hKP _ _ (fun _ => ?_)); clear hK hKP K KP))))
    refine exV_intro (.ptr b 0) (fun υ hυ => by rw [hυ]; rfl) ?_
    have g2 := eq_true (show (i : Int) ≤ (x.w.length : Int) by omega)
    have g3 := eq_true (show (0 : Int) ≤ ((i + 1 : Nat) : Int) by omega)
    have g4 := eq_true (show ((i + 1 : Nat) : Int) ≤ (x.w.length : Int) by omega)
    ((try simp only [go_sem, loadL_a, h14, hb4', ixC_w x hx.v, labsV, w1, g0, g2, g3, g4, e1, e2, Int.toNat_natCast, List.length_map]); (try ((first | refine hK _ _ ?_ | refine hKP _ _ _ ?_ | refine hKP _ _ (fun _ => ?_)); clear hK hKP K KP)); repeat (first | refine Stp.s ?_ | refine inBlock_exit' (by decide) ?_ | ((first | refine vc_region fun K KP hK hKP => ?_ | refine Stg.s ?_ | refine guardD_ret0 ?_ | refine exV_intro _ rfl ?_); (try simp only [go_sem, loadL_a, h14, hb4', ixC_w x hx.v, labsV, w1, g0, g2, g3, g4, e1, e2, Int.toNat_natCast, List.length_map]); try ((first | refine hK _ _ ?_ | refine hKP _ _ _ ?_ | refine hKP _ _ (fun _ => ?_)); clear hK hKP K KP))))
    refine exV_intro (.lst 17 ((x.w.take i).map labV)) (fun υ _ => ⟨by omega, by omega, by omega, by rw [Nat.sub_zero, List.map_take]⟩) ?_
    ((try simp only [go_sem, loadL_a, h14, hb4', ixC_w x hx.v, labsV, w1, g0, g2, g3, g4, Int.toNat_natCast, List.length_map]); (try ((first | refine hK _ _ ?_ | refine hKP _ _ _ ?_ | refine hKP _ _ (fun _ => ?_)); clear hK hKP K KP)); repeat (first | refine Stp.s ?_ | refine inBlock_exit' (by decide) ?_ | ((first | refine vc_region fun K KP hK hKP => ?_ | refine Stg.s ?_ | refine guardD_ret0 ?_ | refine exV_intro _ rfl ?_); (try simp only [go_sem, loadL_a, h14, hb4', ixC_w x hx.v, labsV, w1, g0, g2, g3, g4, Int.toNat_natCast, List.length_map]); try ((first | refine hK _ _ ?_ | refine hKP _ _ _ ?_ | refine hKP _ _ (fun _ => ?_)); clear hK hKP K KP))))
    refine exV_intro (.lst 17 ((x.w.drop (i + 1)).map labV)) (fun υ _ => ⟨by omega, by omega, by rw [List.take_of_length_le (by simp), List.map_drop]⟩) ?_
    ((try simp only [go_sem, loadL_a, h14, hb4', ixC_w x hx.v, labsV, w1, g0, g2, g3, g4, Int.toNat_natCast, List.length_map]); (try ((first | refine hK _ _ ?_ | refine hKP _ _ _ ?_ | refine hKP _ _ (fun _ => ?_)); clear hK hKP K KP)); repeat (first | refine Stp.s ?_ | refine inBlock_exit' (by decide) ?_ | ((first | refine vc_region fun K KP hK hKP => ?_ | refine Stg.s ?_ | refine guardD_ret0 ?_ | refine exV_intro _ rfl ?_); (try simp only [go_sem, loadL_a, h14, hb4', ixC_w x hx.v, labsV, w1, g0, g2, g3, g4, Int.toNat_natCast, List.length_map]); try ((first | refine hK _ _ ?_ | refine hKP _ _ _ ?_ | refine hKP _ _ (fun _ => ?_)); clear hK hKP K KP))))
    refine effV_intro (fun b6 hb6 => ⟨Store.keep hb6 h14 _, ?_⟩)
    have hb6' := Store.keep hb6 hb4' (.cells [.lst 17 ((x.w.take i).map labV), .lst 17 ((x.w.drop (i + 1)).map labV)])
    have h16 := Store.keep hb6 h14 (.cells [.lst 17 ((x.w.take i).map labV), .lst 17 ((x.w.drop (i + 1)).map labV)])
    have h46 := Store.keep hb6 h4 (.cells [.lst 17 ((x.w.take i).map labV), .lst 17 ((x.w.drop (i + 1)).map labV)])
    have h6 := Store.set_same σ4 b6 (.cells [.lst 17 ((x.w.take i).map labV), .lst 17 ((x.w.drop (i + 1)).map labV)])
    have hle6 := Store.le_set hb6 hle4 (k := .cells [.lst 17 ((x.w.take i).map labV), .lst 17 ((x.w.drop (i + 1)).map labV)])
    have hO6 := hO4.keep (fun c k _ hc => Store.keep hb6 hc (.cells [.lst 17 ((x.w.take i).map labV), .lst 17 ((x.w.drop (i + 1)).map labV)]))
    generalize σ4.set b6 _ = σ6 at *
    have hcat := concat_labs b6 2 [(x.w.take i).map labV, (x.w.drop (i + 1)).map labV] σ6 [] (by rw [List.append_nil]; exact h6) (by simp; omega) (by simp) (fun l hl y hy => by
      simp only [List.mem_cons, List.not_mem_nil, or_false] at hl
      rcases hl with rfl | rfl
      · exact labs_len17 _ y hy
      · exact labs_len17 _ y hy) (fun l hl y hy => by
      simp only [List.mem_cons, List.not_mem_nil, or_false] at hl
      rcases hl with rfl | rfl
      · exact labs_one _ y hy
      · exact labs_one _ y hy)
    have hfl : V.lst 17 ([(x.w.take i).map labV, (x.w.drop (i + 1)).map labV] : List (List V)).flatten = labsV (x.w.take i ++ x.w.drop (i + 1)) := by unfold labsV; simp
    rw [hfl] at hcat
    ((try simp only [go_sem, loadL_a]); (try ((first | refine hK _ _ ?_ | refine hKP _ _ _ ?_ | refine hKP _ _ (fun _ => ?_)); clear hK hKP K KP)); repeat (first | refine Stp.s ?_ | refine inBlock_exit' (by decide) ?_ | ((first | refine vc_region fun K KP hK hKP => ?_ | refine Stg.s ?_ | refine guardD_ret0 ?_ | refine exV_intro _ rfl ?_); (try simp only [go_sem, loadL_a]); try ((first | refine hK _ _ ?_ | refine hKP _ _ _ ?_ | refine hKP _ _ (fun _ => ?_)); clear hK hKP K KP))))
    refine effV_intro (callV_quiet en162 hcat ⟨h16, ?_⟩)
    have hst := ixC_setw x hx.v xl (x.w.take i ++ x.w.drop (i + 1))
    have hln := ixC_len x hx.v xl
    unfold labsV at hst
    ((try simp only [go_sem, loadL_a, hb6', labsV, hst, hln]); (try ((first | refine hK _ _ ?_ | refine hKP _ _ _ ?_ | refine hKP _ _ (fun _ => ?_)); clear hK hKP K KP)); repeat (first | refine Stp.s ?_ | refine inBlock_exit' (by decide) ?_ | ((first | refine vc_region fun K KP hK hKP => ?_ | refine Stg.s ?_ | refine guardD_ret0 ?_ | refine exV_intro _ rfl ?_); (try simp only [go_sem, loadL_a, hb6', labsV, hst, hln]); try ((first | refine hK _ _ ?_ | refine hKP _ _ _ ?_ | refine hKP _ _ (fun _ => ?_)); clear hK hKP K KP))))
    have n61 : b6 ≠ b := fun e => by rw [e, hb4'] at hb6; cases hb6
    have n6 : b6 ≠ b1 := fun e => by rw [e, h14] at hb6; cases hb6
    have m6 : σ b6 = none := Store.none_of_le hle4 hb6
    have nob6 : ob ≠ some b6 := fun e => nob _ e m6
    have hx1 : (⟨x.cart, x.v, x.l, x.w.take i ++ x.w.drop (i + 1)⟩ : Ix).v.length = 12 := hx.v
    have k1 := (Store.set_other σ6 (.cells (ixC ⟨x.cart, x.v, x.l, x.w.take i ++ x.w.drop (i + 1)⟩ xl)) n1).trans h16
    have k4 := (Store.set_other σ6 (.cells (ixC ⟨x.cart, x.v, x.l, x.w.take i ++ x.w.drop (i + 1)⟩ xl)) n4).trans h46
    have kb := Store.set_same σ6 b (.cells (ixC ⟨x.cart, x.v, x.l, x.w.take i ++ x.w.drop (i + 1)⟩ xl))
    have hkeep : ∀ c k, σ c = some k → c ≠ b → (σ6.set b (.cells (ixC ⟨x.cart, x.v, x.l, x.w.take i ++ x.w.drop (i + 1)⟩ xl))) c = some k := fun c k hc hn => by rw [Store.set_other _ _ hn]; exact hle6 _ _ hc
    have hOk := hO6.keep (fun c k e hc => (Store.set_other σ6 (.cells (ixC ⟨x.cart, x.v, x.l, x.w.take i ++ x.w.drop (i + 1)⟩ xl)) (fun q => hne (by rw [e, q]))).trans hc)
    generalize σ6.set b _ = σ7 at *
    ((repeat first | refine Stp.s ?_ | refine inBlock_exit' (by decide) ?_); refine vc_draw mixed [ 10 ] [0, 1, 2, 3, 4, 5, 6, 7, 8, 9, 10 ] [ 0, 1, 4, 5 ] [] (fun _ => True) (by kernel_rfl) (by kernel_rfl) (by kernel_rfl) trivial fun K KP hK hKP => ?_; simp only [go_sem, k1, k4, kb, ixC_v _ hx1, lbLoad l.1 l.2.ok]; try (refine hK _ _ ?_; clear hK hKP K KP))
    ((try simp only [go_sem, k1, k4, kb, ixC_v _ hx1, lbLoad l.1 l.2.ok]); (try ((first | refine hK _ _ ?_ | refine hKP _ _ _ ?_ | refine hKP _ _ (fun _ => ?_)); clear hK hKP K KP)); repeat (first | refine Stp.s ?_ | refine inBlock_exit' (by decide) ?_ | ((first | refine vc_region fun K KP hK hKP => ?_ | refine Stg.s ?_ | refine guardD_ret0 ?_ | refine exV_intro _ rfl ?_); (try simp only [go_sem, k1, k4, kb, ixC_v _ hx1, lbLoad l.1 l.2.ok]); try ((first | refine hK _ _ ?_ | refine hKP _ _ _ ?_ | refine hKP _ _ (fun _ => ?_)); clear hK hKP K KP))))
    ((try simp only [go_sem, loadL_a]); first | refine exV_intro _ (callV_pure (dot_pure l.1 l.2.ok) ⟨rfl, rfl⟩) ?_ | refine exV_intro _ (fun _ => callV_pure (dot_pure l.1 l.2.ok) ⟨rfl, rfl⟩) ?_ | refine exV_intro _ (fun _ _ => callV_pure (dot_pure l.1 l.2.ok) ⟨rfl, rfl⟩) ?_)
    ((try simp only [go_sem, k1, k4, kb, ixC_v _ hx1, lbLoad l.1 l.2.ok]); (try ((first | refine hK _ _ ?_ | refine hKP _ _ _ ?_ | refine hKP _ _ (fun _ => ?_)); clear hK hKP K KP)); repeat (first | refine Stp.s ?_ | refine inBlock_exit' (by decide) ?_ | ((first | refine vc_region fun K KP hK hKP => ?_ | refine Stg.s ?_ | refine guardD_ret0 ?_ | refine exV_intro _ rfl ?_); (try simp only [go_sem, k1, k4, kb, ixC_v _ hx1, lbLoad l.1 l.2.ok]); try ((first | refine hK _ _ ?_ | refine hKP _ _ _ ?_ | refine hKP _ _ (fun _ => ?_)); clear hK hKP K KP))))
    ((try simp only [go_sem, loadL_a]); first | refine exV_intro _ (callV_pure (with_pure x.v hx.v l.1.node l.1.n) ⟨rfl, rfl⟩) ?_ | refine exV_intro _ (fun _ => callV_pure (with_pure x.v hx.v l.1.node l.1.n) ⟨rfl, rfl⟩) ?_ | refine exV_intro _ (fun _ _ => callV_pure (with_pure x.v hx.v l.1.node l.1.n) ⟨rfl, rfl⟩) ?_)
    have hWl := withV_len hx.v l.1.node l.1.n
    generalize withV x.v l.1.node l.1.n = W at *
    have hsv := ixC_setv ⟨x.cart, x.v, x.l, x.w.take i ++ x.w.drop (i + 1)⟩ hx.v xl W hWl
    have hlv := ixC_len ⟨x.cart, x.v, x.l, x.w.take i ++ x.w.drop (i + 1)⟩ hx.v xl
    ((try simp only [go_sem, kb, vecV, hsv, hlv]); (try ((first | refine hK _ _ ?_ | refine hKP _ _ _ ?_ | refine hKP _ _ (fun _ => ?_)); clear hK hKP K KP)); repeat (first | refine Stp.s ?_ | refine inBlock_exit' (by decide) ?_ | ((first | refine vc_region fun K KP hK hKP => ?_ | refine Stg.s ?_ | refine guardD_ret0 ?_ | refine exV_intro _ rfl ?_); (try simp only [go_sem, kb, vecV, hsv, hlv]); try ((first | refine hK _ _ ?_ | refine hKP _ _ _ ?_ | refine hKP _ _ (fun _ => ?_)); clear hK hKP K KP))))
    refine ⟨by simp [hWl], u32_one W, by simp [hWl], ?_⟩
    have j1 := (Store.set_other σ7 (.cells (ixC ⟨x.cart, W, x.l, x.w.take i ++ x.w.drop (i + 1)⟩ xl)) n1).trans k1
    have j4 := (Store.set_other σ7 (.cells (ixC ⟨x.cart, W, x.l, x.w.take i ++ x.w.drop (i + 1)⟩ xl)) n4).trans k4
    have jb := Store.set_same σ7 b (.cells (ixC ⟨x.cart, W, x.l, x.w.take i ++ x.w.drop (i + 1)⟩ xl))
    have hkeep : ∀ c k, σ c = some k → c ≠ b → (σ7.set b (.cells (ixC ⟨x.cart, W, x.l, x.w.take i ++ x.w.drop (i + 1)⟩ xl))) c = some k := fun c k hc hn => by rw [Store.set_other _ _ hn]; exact hkeep c k hc hn
    have hOj := hOk.keep (fun c k e hc => (Store.set_other σ7 (.cells (ixC ⟨x.cart, W, x.l, x.w.take i ++ x.w.drop (i + 1)⟩ xl)) (fun q => hne (by rw [e, q]))).trans hc)
    generalize σ7.set b _ = σ8 at *
    have hx2 : (⟨x.cart, W, x.l, x.w.take i ++ x.w.drop (i + 1)⟩ : Ix).v.length = 12 := hWl
    have hcl := ixC_l _ hx2 xl
    have hsl := fun yl => ixC_setl _ hx2 xl yl (x.l ++ [entOf l])
    have hln2 := ixC_len _ hx2 xl
    simp only at hcl hsl
    ((try simp only [go_sem, loadL_a]); (try ((first | refine hK _ _ ?_ | refine hKP _ _ _ ?_ | refine hKP _ _ (fun _ => ?_)); clear hK hKP K KP)); repeat (first | refine Stp.s ?_ | refine inBlock_exit' (by decide) ?_ | ((first | refine vc_region fun K KP hK hKP => ?_ | refine Stg.s ?_ | refine guardD_ret0 ?_ | refine exV_intro _ rfl ?_); (try simp only [go_sem, loadL_a]); try ((first | refine hK _ _ ?_ | refine hKP _ _ _ ?_ | refine hKP _ _ (fun _ => ?_)); clear hK hKP K KP))))
    ((repeat first | refine Stp.s ?_ | refine inBlock_exit' (by decide) ?_); refine vc_draw mixed [ 10, 11, 14 ] [0, 1, 2, 3, 4, 5, 6, 7, 8, 9, 10, 11, 12, 13, 14 ] [ 5, 8 ] [14] (fun υ => υ b1 = some (.cells [.ptr b 0]) ∧ υ b = some (.cells (ixC ⟨x.cart, W, x.l, x.w.take i ++ x.w.drop (i + 1)⟩ xl))) (by kernel_rfl) (by kernel_rfl) (by kernel_rfl) (⟨j1, jb⟩) fun K KP hK hKP => ?_; simp only [go_sem, j4, lbLoad l.1 l.2.ok, lb4]; try ((first | refine hK _ _ ?_ | refine hKP _ _ _ ?_ | refine hKP _ _ (fun _ => ?_)); clear hK hKP K KP))
    refine exV_intro (.ptr b 0) (fun υ hυ => by rw [hυ.1]; rfl) ?_
    ((try simp only [go_sem, j4, lbLoad l.1 l.2.ok, lb4]); (try ((first | refine hK _ _ ?_ | refine hKP _ _ _ ?_ | refine hKP _ _ (fun _ => ?_)); clear hK hKP K KP)); repeat (first | refine Stp.s ?_ | refine inBlock_exit' (by decide) ?_ | ((first | refine vc_region fun K KP hK hKP => ?_ | refine Stg.s ?_ | refine guardD_ret0 ?_ | refine exV_intro _ rfl ?_); (try simp only [go_sem, j4, lbLoad l.1 l.2.ok, lb4]); try ((first | refine hK _ _ ?_ | refine hKP _ _ _ ?_ | refine hKP _ _ (fun _ => ?_)); clear hK hKP K KP))))
    refine exV_intro (.ptr b 0) (fun υ hυ => by rw [hυ.1]; rfl) ?_
    ((try simp only [go_sem, j4, lbLoad l.1 l.2.ok, lb4]); (try ((first | refine hK _ _ ?_ | refine hKP _ _ _ ?_ | refine hKP _ _ (fun _ => ?_)); clear hK hKP K KP)); repeat (first | refine Stp.s ?_ | refine inBlock_exit' (by decide) ?_ | ((first | refine vc_region fun K KP hK hKP => ?_ | refine Stg.s ?_ | refine guardD_ret0 ?_ | refine exV_intro _ rfl ?_); (try simp only [go_sem, j4, lbLoad l.1 l.2.ok, lb4]); try ((first | refine hK _ _ ?_ | refine hKP _ _ _ ?_ | refine hKP _ _ (fun _ => ?_)); clear hK hKP K KP))))
    refine exV_intro xl (fun υ hυ => by rw [hυ.2]; simp only [hcl]) ?_
    ((try simp only [go_sem, j4, lbLoad l.1 l.2.ok, lb4]); (try ((first | refine hK _ _ ?_ | refine hKP _ _ _ ?_ | refine hKP _ _ (fun _ => ?_)); clear hK hKP K KP)); repeat (first | refine Stp.s ?_ | refine inBlock_exit' (by decide) ?_ | ((first | refine vc_region fun K KP hK hKP => ?_ | refine Stg.s ?_ | refine guardD_ret0 ?_ | refine exV_intro _ rfl ?_); (try simp only [go_sem, j4, lbLoad l.1 l.2.ok, lb4]); try ((first | refine hK _ _ ?_ | refine hKP _ _ _ ?_ | refine hKP _ _ (fun _ => ?_)); clear hK hKP K KP))))
    ((try simp only [go_sem, loadL_a]); first | refine exV_intro _ (callV_pure (dot_pure l.1 l.2.ok) ⟨rfl, rfl⟩) ?_ | refine exV_intro _ (fun _ => callV_pure (dot_pure l.1 l.2.ok) ⟨rfl, rfl⟩) ?_ | refine exV_intro _ (fun _ _ => callV_pure (dot_pure l.1 l.2.ok) ⟨rfl, rfl⟩) ?_)
    ((try simp only [go_sem, j4, lbLoad l.1 l.2.ok, lb4]); (try ((first | refine hK _ _ ?_ | refine hKP _ _ _ ?_ | refine hKP _ _ (fun _ => ?_)); clear hK hKP K KP)); repeat (first | refine Stp.s ?_ | refine inBlock_exit' (by decide) ?_ | ((first | refine vc_region fun K KP hK hKP => ?_ | refine Stg.s ?_ | refine guardD_ret0 ?_ | refine exV_intro _ rfl ?_); (try simp only [go_sem, j4, lbLoad l.1 l.2.ok, lb4]); try ((first | refine hK _ _ ?_ | refine hKP _ _ _ ?_ | refine hKP _ _ (fun _ => ?_)); clear hK hKP K KP))))
    refine effV_intro (fun b8 hb8 => ⟨⟨Store.keep hb8 j1 _, Store.keep hb8 jb _⟩, ?_⟩)
    have i1 := Store.keep hb8 j1 (.cells (entC (entOf l)))
    have ib := Store.keep hb8 jb (.cells (entC (entOf l)))
    have i8 := Store.set_same σ8 b8 (.cells (entC (entOf l)))
    have hkeep8 : ∀ c k, σ c = some k → c ≠ b → (σ8.set b8 (.cells (entC (entOf l)))) c = some k := fun c k hc hn => Store.keep hb8 (hkeep c k hc hn) _
    have hOi := hOj.keep (fun c k e hc => Store.keep hb8 hc (.cells (entC (entOf l))))
    have m8 : σ b8 = none := by
      cases e : σ b8 with
      | none => rfl
      | some k =>
        by_cases hn : b8 = b
        · rw [hn] at hb8; rw [jb] at hb8; cases hb8
        · rw [hkeep b8 k e hn] at hb8; cases hb8
    have e8 : σ8.set b8 (.cells [I64 l.1.node, U32 l.1.n, I64 l.1.seller]) = σ8.set b8 (.cells (entC (entOf l))) := rfl
    rw [e8]
    have hst8 : ∀ c k, (σ8.set b8 (.cells (entC (entOf l)))) c = some k → some c ≠ ob → c = b8 ∨ σ8 c = some k := fun c k hc _ => by
      by_cases q : c = b8
      · exact .inl q
      · rw [Store.set_other _ _ q] at hc; exact .inr hc
    generalize σ8.set b8 (.cells (entC (entOf l))) = σ9 at *
    ((try simp only [go_sem, loadL_a]); (try ((first | refine hK _ _ ?_ | refine hKP _ _ _ ?_ | refine hKP _ _ (fun _ => ?_)); clear hK hKP K KP)); repeat (first | refine Stp.s ?_ | refine inBlock_exit' (by decide) ?_ | ((first | refine vc_region fun K KP hK hKP => ?_ | refine Stg.s ?_ | refine guardD_ret0 ?_ | refine exV_intro _ rfl ?_); (try simp only [go_sem, loadL_a]); try ((first | refine hK _ _ ?_ | refine hKP _ _ _ ?_ | refine hKP _ _ (fun _ => ?_)); clear hK hKP K KP))))
    refine effV_intro ?_
    refine own_ent hOi (Store.le_refl _) (Emp.le _) (row_lit i8 rfl rfl) (m := 1) rfl (fun c hc => by simp only [entC, List.mem_cons, List.not_mem_nil, or_false] at hc; rcases hc with rfl | rfl | rfl <;> rfl) (by omega) ?_
    intro yl ob' σ10 hO10 hk10 hn10
    have q1 := hk10 _ _ i1 (fun e => nob1 e.symm)
    have qb := hk10 _ _ ib (fun e => hne e.symm)
    refine ⟨⟨q1, qb⟩, ?_⟩
    ((try simp only [go_sem, loadL_a, qb, hsl yl, hln2]); (try ((first | refine hK _ _ ?_ | refine hKP _ _ _ ?_ | refine hKP _ _ (fun _ => ?_)); clear hK hKP K KP)); repeat (first | refine Stp.s ?_ | refine inBlock_exit' (by decide) ?_ | ((first | refine vc_region fun K KP hK hKP => ?_ | refine Stg.s ?_ | refine guardD_ret0 ?_ | refine exV_intro _ rfl ?_); (try simp only [go_sem, loadL_a, qb, hsl yl, hln2]); try ((first | refine hK _ _ ?_ | refine hKP _ _ _ ?_ | refine hKP _ _ (fun _ => ?_)); clear hK hKP K KP))))
    refine ⟨by rcases hO10 with ⟨rfl, _⟩ | ⟨_, _, _, _, _, rfl, _⟩ <;> rfl, ?_⟩
    have hyc : yl.cells = [yl] := by rcases hO10 with ⟨rfl, _⟩ | ⟨_, _, _, _, _, rfl, _⟩ <;> rfl
    have hyo : yl.one = true := by rcases hO10 with ⟨rfl, _⟩ | ⟨_, _, _, _, _, rfl, _⟩ <;> rfl
    rw [hyc]
    refine ⟨rfl, fun c hc => by simp only [List.mem_singleton] at hc; subst hc; exact hyo, by show 13 + 1 ≤ 15; decide, ?_⟩
    rw [show setL (ixC ⟨x.cart, W, x.l, x.w.take i ++ x.w.drop (i + 1)⟩ xl) 13 [yl] = (ixC ⟨x.cart, W, x.l, x.w.take i ++ x.w.drop (i + 1)⟩ xl).set 13 yl from rfl, hsl yl]
    ((try simp only [go_sem, loadL_a]); (try ((first | refine hK _ _ ?_ | refine hKP _ _ _ ?_ | refine hKP _ _ (fun _ => ?_)); clear hK hKP K KP)); repeat (first | refine Stp.s ?_ | refine inBlock_exit' (by decide) ?_ | ((first | refine vc_region fun K KP hK hKP => ?_ | refine Stg.s ?_ | refine guardD_ret0 ?_ | refine exV_intro _ rfl ?_); (try simp only [go_sem, loadL_a]); try ((first | refine hK _ _ ?_ | refine hKP _ _ _ ?_ | refine hKP _ _ (fun _ => ?_)); clear hK hKP K KP))))
    (simp only [postV, resV, oneOf, List.getD_cons_succ, List.getD_cons_zero, and_true, true_and])
    rw [hfin.2, hfin.1]
    have hobb : ob' ≠ some b := fun e => by
      rcases hn10 b e with q | q
      · exact hne q
      · rw [ib] at q; cases q
    have hend : ∀ c k, σ c = some k → c ≠ b → some c ≠ ob → (σ10.set b (.cells (ixC ⟨x.cart, W, x.l ++ [entOf l], x.w.take i ++ x.w.drop (i + 1)⟩ yl))) c = some k := fun c k hc hn hq => by
      rw [Store.set_other _ _ hn]; exact hk10 _ _ (hkeep8 c k hc hn) hq
    refine ⟨rfl, ob', ⟨yl, Store.set_same _ _ _, ?_, hobb⟩, ⟨hend, fun c e => ?_, fun _ => by rw [Store.set_same]; simp⟩⟩
    · have := hO10.keep (fun c k e hc => (Store.set_other σ10 (.cells (ixC ⟨x.cart, W, x.l ++ [entOf l], x.w.take i ++ x.w.drop (i + 1)⟩ yl)) (fun q => hobb (by rw [e, q]))).trans hc)
      rw [List.flatMap_append, List.length_append]
      simpa using this
    · rcases hn10 c e with q | q
      · exact .inl q
      · right
        cases hc : σ c with
        | none => rfl
        | some k =>
          by_cases hn : c = b
          · exact absurd (by rw [e, hn]) hobb
          · rw [hkeep8 c k hc hn] at q; cases q
end Go.Proofs.YtociliegljoldaaGreat
