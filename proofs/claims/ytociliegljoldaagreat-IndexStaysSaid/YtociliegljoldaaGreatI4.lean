/- An index: what it holds; what is asked of it. -/
import Derived.Test.YtociliegljoldaaGreatI3

namespace Go.Proofs.YtociliegljoldaaGreat
set_option linter.unusedSimpArgs false
set_option linter.unusedVariables false
open Go.Proofs
attribute [local irreducible] vc vcOps vcDraw vcK vcKP vcDK vcDB HWp HCalls postV Ex.then Ex.inBlock stepD callV appendV guardC guardD exV effV opV loadV storeV indexAddrV indexV sliceV
set_option maxRecDepth 10000
set_option maxHeartbeats 4000000

structure Ent where
  node : Int
  n : Nat
  s : Int
def entC (e : Ent) : List V := [I64 e.node, U32 e.n, I64 e.s]
abbrev entV (e : Ent) : V := .agg (entC e)
/-- What an index holds: its cart, its vector, its entries, the labels that wait. -/
structure Ix where
  cart : Int
  v : List Nat
  l : List Ent
  w : List LbI
def labV (l : LbI) : V := l.1.v
def labsV (w : List LbI) : V := .lst 17 (w.map labV)
def ixC (x : Ix) (xl : V) : List V := I64 x.cart :: (x.v.map U32 ++ [xl, labsV x.w])
structure Ix.Ok (x : Ix) : Prop where
  v : x.v.length = 12
  l : x.l.length ≤ 1000
  w : x.w.length ≤ 200
/-- An index in memory: at block b, its entries in block ob. -/
def IxR (σ : Store) (b : Nat) (x : Ix) (ob : Option Nat) : Prop := ∃ xl, σ b = some (.cells (ixC x xl)) ∧ Own 3 Emp σ xl (x.l.flatMap entC) x.l.length ob ∧ ob ≠ some b
theorem ixC_len (x : Ix) (hx : x.v.length = 12) (xl : V) : (ixC x xl).length = 15 := by unfold ixC; simp [hx]
theorem ixC_0 (x : Ix) (xl : V) : (ixC x xl)[0]? = some (I64 x.cart) := rfl
theorem ixC_v (x : Ix) (hx : x.v.length = 12) (xl : V) (K : V → Prop) : loadL Tryz.prog 27 (ixC x xl) 1 K = K (vecV x.v) := by
  rw [loadL_a kd27, ce27]
  have e : ((ixC x xl).drop 1).take 12 = x.v.map U32 := by
    unfold ixC
    rw [List.drop_succ_cons, List.drop_zero, List.take_append_of_le_length (by simp [hx]), List.take_of_length_le (by simp [hx])]
  rw [e]
  simp [ixC_len x hx, vecV]
theorem ixC_l (x : Ix) (hx : x.v.length = 12) (xl : V) : (ixC x xl)[13]? = some xl := by
  unfold ixC
  rw [List.getElem?_cons_succ, List.getElem?_append_right (by simp [hx])]
  simp [hx]
theorem ixC_w (x : Ix) (hx : x.v.length = 12) (xl : V) : (ixC x xl)[14]? = some (labsV x.w) := by
  unfold ixC
  rw [List.getElem?_cons_succ, List.getElem?_append_right (by simp [hx])]
  simp [hx]
theorem imade (b : Nat) (σ : Store) (cs : List V) (n : Int) (h : σ b = some (.cells cs)) (h0 : cs[0]? = some (I64 n)) : HQuiet Tryz.prog 97 [.ptr b 0] σ (BV (decide (0 < n))) := by
  refine HQuiet.of ?_; (refine HCalls.of_vc Tryz.func97 rfl ?_; rw [Tryz.ntmps97, Tryz.results97]; simp only [List.length_cons, List.length_nil, Nat.reduceAdd, Nat.reduceSub, List.replicate, List.cons_append, List.nil_append])
  (repeat (first | refine Stp.s ?_ | refine inBlock_exit' (by decide) ?_ | ((first | refine vc_region fun K KP hK hKP => ?_ | refine Stg.s ?_ | refine guardD_ret0 ?_ | refine exV_intro _ rfl ?_); (try simp only [go_sem, loadL_a, h, h0]); try ((first | refine hK _ _ ?_ | refine hKP _ _ _ ?_ | refine hKP _ _ (fun _ => ?_)); clear hK hKP K KP))))
  (simp only [postV, resV, oneOf, List.getD_cons_succ, List.getD_cons_zero, and_true, true_and])
  exact Ends.le rfl (Store.le_refl _)
theorem imade_nil (σ : Store) : HQuiet Tryz.prog 97 [nilP] σ (BV false) := by
  refine HQuiet.of ?_; (refine HCalls.of_vc Tryz.func97 rfl ?_; rw [Tryz.ntmps97, Tryz.results97]; simp only [List.length_cons, List.length_nil, Nat.reduceAdd, Nat.reduceSub, List.replicate, List.cons_append, List.nil_append])
  (repeat (first | refine Stp.s ?_ | refine inBlock_exit' (by decide) ?_ | ((first | refine vc_region fun K KP hK hKP => ?_ | refine Stg.s ?_ | refine guardD_ret0 ?_ | refine exV_intro _ rfl ?_); (try simp only [go_sem, loadL_a]); try ((first | refine hK _ _ ?_ | refine hKP _ _ _ ?_ | refine hKP _ _ (fun _ => ?_)); clear hK hKP K KP))))
  (simp only [postV, resV, oneOf, List.getD_cons_succ, List.getD_cons_zero, and_true, true_and])
  exact Ends.le rfl (Store.le_refl _)
section
variable {b : Nat} {σ : Store} {x : Ix} {ob : Option Nat} (h : IxR σ b x ob) (hx : x.Ok)
include h hx
theorem iCart : HQuiet Tryz.prog 50 [.ptr b 0] σ (I64 x.cart) := by
  obtain ⟨xl, hb, _⟩ := h
  refine HQuiet.of ?_; (refine HCalls.of_vc Tryz.func50 rfl ?_; rw [Tryz.ntmps50, Tryz.results50]; simp only [List.length_cons, List.length_nil, Nat.reduceAdd, Nat.reduceSub, List.replicate, List.cons_append, List.nil_append])
  (repeat (first | refine Stp.s ?_ | refine inBlock_exit' (by decide) ?_ | ((first | refine vc_region fun K KP hK hKP => ?_ | refine Stg.s ?_ | refine guardD_ret0 ?_ | refine exV_intro _ rfl ?_); (try simp only [go_sem, loadL_a]); try ((first | refine hK _ _ ?_ | refine hKP _ _ _ ?_ | refine hKP _ _ (fun _ => ?_)); clear hK hKP K KP))))
  refine vc_cond rfl (fun hc => absurd hc (by decide)) (fun _ => ?_)
  (repeat (first | refine Stp.s ?_ | refine inBlock_exit' (by decide) ?_ | ((first | refine vc_region fun K KP hK hKP => ?_ | refine Stg.s ?_ | refine guardD_ret0 ?_ | refine exV_intro _ rfl ?_); (try simp only [go_sem, loadL_a, hb, ixC_0]); try ((first | refine hK _ _ ?_ | refine hKP _ _ _ ?_ | refine hKP _ _ (fun _ => ?_)); clear hK hKP K KP))))
  (simp only [postV, resV, oneOf, List.getD_cons_succ, List.getD_cons_zero, and_true, true_and])
  exact Ends.le rfl (Store.le_refl _)
theorem iVector : HQuiet Tryz.prog 55 [.ptr b 0] σ (vecV x.v) := by
  obtain ⟨xl, hb, _⟩ := h
  refine HQuiet.of ?_; (refine HCalls.of_vc Tryz.func55 rfl ?_; rw [Tryz.ntmps55, Tryz.results55]; simp only [List.length_cons, List.length_nil, Nat.reduceAdd, Nat.reduceSub, List.replicate, List.cons_append, List.nil_append])
  (repeat (first | refine Stp.s ?_ | refine inBlock_exit' (by decide) ?_ | ((first | refine vc_region fun K KP hK hKP => ?_ | refine Stg.s ?_ | refine guardD_ret0 ?_ | refine exV_intro _ rfl ?_); (try simp only [go_sem, loadL_a]); try ((first | refine hK _ _ ?_ | refine hKP _ _ _ ?_ | refine hKP _ _ (fun _ => ?_)); clear hK hKP K KP))))
  intro b2 hb2
  have hb' := Store.keep hb2 hb (.cells (zeroN.map U32))
  have h2 := Store.set_same σ b2 (.cells (zeroN.map U32))
  have hle := Store.le_set hb2 (Store.le_refl σ) (k := .cells (zeroN.map U32))
  show K _ (σ.set b2 (.cells (zeroN.map U32)))
  generalize σ.set b2 _ = σ1 at *
  ((try simp only [go_sem, loadL_a]); (try ((first | refine hK _ _ ?_ | refine hKP _ _ _ ?_ | refine hKP _ _ (fun _ => ?_)); clear hK hKP K KP)); repeat (first | refine Stp.s ?_ | refine inBlock_exit' (by decide) ?_ | ((first | refine vc_region fun K KP hK hKP => ?_ | refine Stg.s ?_ | refine guardD_ret0 ?_ | refine exV_intro _ rfl ?_); (try simp only [go_sem, loadL_a]); try ((first | refine hK _ _ ?_ | refine hKP _ _ _ ?_ | refine hKP _ _ (fun _ => ?_)); clear hK hKP K KP))))
  refine vc_cond rfl (fun hc => absurd hc (by decide)) (fun _ => ?_)
  (repeat (first | refine Stp.s ?_ | refine inBlock_exit' (by decide) ?_ | ((first | refine vc_region fun K KP hK hKP => ?_ | refine Stg.s ?_ | refine guardD_ret0 ?_ | refine exV_intro _ rfl ?_); (try simp only [go_sem, hb', ixC_v x hx.v, h2, vecV]); try ((first | refine hK _ _ ?_ | refine hKP _ _ _ ?_ | refine hKP _ _ (fun _ => ?_)); clear hK hKP K KP))))
  refine ⟨by simp [hx.v], u32_one x.v, by simp [hx.v, zeroN], ?_⟩
  rw [setL_full _ _ (by simp [hx.v, zeroN])]
  ((try simp only [go_sem, loadL_a]); (try ((first | refine hK _ _ ?_ | refine hKP _ _ _ ?_ | refine hKP _ _ (fun _ => ?_)); clear hK hKP K KP)); repeat (first | refine Stp.s ?_ | refine inBlock_exit' (by decide) ?_ | ((first | refine vc_region fun K KP hK hKP => ?_ | refine Stg.s ?_ | refine guardD_ret0 ?_ | refine exV_intro _ rfl ?_); (try simp only [go_sem, loadL_a]); try ((first | refine hK _ _ ?_ | refine hKP _ _ _ ?_ | refine hKP _ _ (fun _ => ?_)); clear hK hKP K KP))))
  (simp only [postV, resV, oneOf, List.getD_cons_succ, List.getD_cons_zero, and_true, true_and])
  simp only [go_sem, Store.set_same, vecLoad x.v hx.v, vecV]
  exact Ends.le rfl (Store.le_over hb2 hle)
theorem labs_len : ∀ y ∈ x.w.map labV, y.cells.length = 17 := fun y hy => by obtain ⟨l, _, rfl⟩ := List.mem_map.1 hy; exact lbCells l.1 l.2.ok
theorem iEntries : HQuiet Tryz.prog 49 [.ptr b 0] σ (.lst 3 (x.l.map entV)) := by
  obtain ⟨xl, hb, hO, _⟩ := h
  refine HQuiet.of ?_; (refine HCalls.of_vc Tryz.func49 rfl ?_; rw [Tryz.ntmps49, Tryz.results49]; simp only [List.length_cons, List.length_nil, Nat.reduceAdd, Nat.reduceSub, List.replicate, List.cons_append, List.nil_append])
  (repeat (first | refine Stp.s ?_ | refine inBlock_exit' (by decide) ?_ | ((first | refine vc_region fun K KP hK hKP => ?_ | refine Stg.s ?_ | refine guardD_ret0 ?_ | refine exV_intro _ rfl ?_); (try simp only [go_sem, loadL_a]); try ((first | refine hK _ _ ?_ | refine hKP _ _ _ ?_ | refine hKP _ _ (fun _ => ?_)); clear hK hKP K KP))))
  refine vc_cond rfl (fun hc => absurd hc (by decide)) (fun _ => ?_)
  have hf : (x.l.map entV).flatMap V.cells = x.l.flatMap entC := by rw [List.flatMap_map]; rfl
  (repeat (first | refine Stp.s ?_ | refine inBlock_exit' (by decide) ?_ | ((first | refine vc_region fun K KP hK hKP => ?_ | refine Stg.s ?_ | refine guardD_ret0 ?_ | refine exV_intro _ rfl ?_); (try simp only [go_sem, loadL_a, hb, ixC_l x hx.v]); try ((first | refine hK _ _ ?_ | refine hKP _ _ _ ?_ | refine hKP _ _ (fun _ => ?_)); clear hK hKP K KP))))
  ((try simp only [go_sem, loadL_a]); refine callV_quiet en110 ((clone_ents (xs := x.l.map entV) (by rw [hf, List.length_map]; exact hO) (by rw [List.length_map]; have := hx.l; omega) (fun y hy => by obtain ⟨e, _, rfl⟩ := List.mem_map.1 hy; rfl) (fun y hy c hc => by obtain ⟨e, _, rfl⟩ := List.mem_map.1 hy; simp only [V.cells, entC, List.mem_cons, List.not_mem_nil, or_false] at hc; rcases hc with rfl | rfl | rfl <;> rfl))) ?_)
  ((try simp only [go_sem, loadL_a]); (try ((first | refine hK _ _ ?_ | refine hKP _ _ _ ?_ | refine hKP _ _ (fun _ => ?_)); clear hK hKP K KP)); repeat (first | refine Stp.s ?_ | refine inBlock_exit' (by decide) ?_ | ((first | refine vc_region fun K KP hK hKP => ?_ | refine Stg.s ?_ | refine guardD_ret0 ?_ | refine exV_intro _ rfl ?_); (try simp only [go_sem, loadL_a]); try ((first | refine hK _ _ ?_ | refine hKP _ _ _ ?_ | refine hKP _ _ (fun _ => ?_)); clear hK hKP K KP))))
  (simp only [postV, resV, oneOf, List.getD_cons_succ, List.getD_cons_zero, and_true, true_and])
  exact Ends.le rfl (Store.le_refl _)
end
theorem labs_one (w : List LbI) : ∀ y ∈ w.map labV, ∀ c ∈ y.cells, c.one = true := fun y hy c hc => by obtain ⟨l, _, rfl⟩ := List.mem_map.1 hy; exact eltL.one l c hc
theorem labs_len17 (w : List LbI) : ∀ y ∈ w.map labV, y.cells.length = 17 := fun y hy => by obtain ⟨l, _, rfl⟩ := List.mem_map.1 hy; exact lbCells l.1 l.2.ok
theorem iWaits {b : Nat} {σ : Store} {x : Ix} {ob : Option Nat} (h : IxR σ b x ob) (hx : x.Ok) : HQuiet Tryz.prog 51 [.ptr b 0] σ (labsV x.w) := by
  obtain ⟨xl, hb, hO, _⟩ := h
  refine HQuiet.of ?_; (refine HCalls.of_vc Tryz.func51 rfl ?_; rw [Tryz.ntmps51, Tryz.results51]; simp only [List.length_cons, List.length_nil, Nat.reduceAdd, Nat.reduceSub, List.replicate, List.cons_append, List.nil_append])
  (repeat (first | refine Stp.s ?_ | refine inBlock_exit' (by decide) ?_ | ((first | refine vc_region fun K KP hK hKP => ?_ | refine Stg.s ?_ | refine guardD_ret0 ?_ | refine exV_intro _ rfl ?_); (try simp only [go_sem, loadL_a]); try ((first | refine hK _ _ ?_ | refine hKP _ _ _ ?_ | refine hKP _ _ (fun _ => ?_)); clear hK hKP K KP))))
  refine vc_cond rfl (fun hc => absurd hc (by decide)) (fun _ => ?_)
  (repeat (first | refine Stp.s ?_ | refine inBlock_exit' (by decide) ?_ | ((first | refine vc_region fun K KP hK hKP => ?_ | refine Stg.s ?_ | refine guardD_ret0 ?_ | refine exV_intro _ rfl ?_); (try simp only [go_sem, loadL_a, hb, ixC_w x hx.v, labsV]); try ((first | refine hK _ _ ?_ | refine hKP _ _ _ ?_ | refine hKP _ _ (fun _ => ?_)); clear hK hKP K KP))))
  ((try simp only [go_sem, loadL_a]); first | refine callV_pure (clone_labs (x.w.map labV) (by rw [List.length_map]; have := hx.w; omega) (labs_len17 x.w) (labs_one x.w)) ?_ | refine guardC_q0 (fun _ => callV_pure (clone_labs (x.w.map labV) (by rw [List.length_map]; have := hx.w; omega) (labs_len17 x.w) (labs_one x.w)) ⟨rfl, rfl⟩) ?_)
  ((try simp only [go_sem, loadL_a]); (try ((first | refine hK _ _ ?_ | refine hKP _ _ _ ?_ | refine hKP _ _ (fun _ => ?_)); clear hK hKP K KP)); repeat (first | refine Stp.s ?_ | refine inBlock_exit' (by decide) ?_ | ((first | refine vc_region fun K KP hK hKP => ?_ | refine Stg.s ?_ | refine guardD_ret0 ?_ | refine exV_intro _ rfl ?_); (try simp only [go_sem, loadL_a]); try ((first | refine hK _ _ ?_ | refine hKP _ _ _ ?_ | refine hKP _ _ (fun _ => ?_)); clear hK hKP K KP))))
  (simp only [postV, resV, oneOf, List.getD_cons_succ, List.getD_cons_zero, and_true, true_and])
  exact Ends.le rfl (Store.le_refl _)
theorem u32_inj : ∀ {a b : List Nat}, a.map U32 = b.map U32 → a = b
  | [], [], _ => rfl
  | [], _ :: _, h => by cases h
  | _ :: _, [], h => by cases h
  | x :: a, y :: b, h => by
    rw [List.map_cons, List.map_cons] at h
    injection h with h1 h2
    injection h1 with h1
    injection h1 with _ h1
    rw [u32_inj h2, Int.ofNat_inj.1 h1]
theorem labV_inj {a b : LbI} (h : labV a = labV b) : a = b := by
  obtain ⟨⟨t, n, k, c, s, d⟩, p⟩ := a
  obtain ⟨⟨t', n', k', c', s', d'⟩, p'⟩ := b
  unfold labV Lb.v Lb.cs at h
  simp only [V.agg.injEq, List.cons_append, List.nil_append, List.cons.injEq, V.val.injEq, Value.int.injEq, true_and, Int.ofNat_inj] at h
  obtain ⟨h1, h2, h3, h4, h5, h6⟩ := h
  have h6 := u32_inj h6
  subst h1 h2 h3 h4 h5 h6
  rfl
open Classical in
/-- A question to labels, put to values. -/
noncomputable def pOf (q : LbI → Bool) (v : V) : Bool := decide (∃ l, labV l = v ∧ q l = true)
theorem pOf_lab (q : LbI → Bool) (l : LbI) : pOf q (labV l) = q l := by
  unfold pOf
  cases h : q l with
  | true => exact @decide_eq_true _ (Classical.propDecidable _) ⟨l, rfl, h⟩
  | false => exact @decide_eq_false _ (Classical.propDecidable _) fun ⟨l', e, h'⟩ => by rw [labV_inj e, h] at h'; cases h'
theorem pOf_any (q : LbI → Bool) (w : List LbI) : (w.map labV).any (pOf q) = w.any q := by
  rw [List.any_map]; congr 1; funext l; exact pOf_lab q l
theorem pOf_idx (q : LbI → Bool) (w : List LbI) : (w.map labV).findIdx? (pOf q) = w.findIdx? q := by
  induction w with
  | nil => rfl
  | cons a w ih => rw [List.map_cons, List.findIdx?_cons, List.findIdx?_cons, pOf_lab, ih]
/-- The closure that asks for a dot. -/
theorem known1 (l : LbI) (node : Int) (n : Nat) (c : Nat) (σ : Store) (hc : σ c = some (.cells [I64 node, U32 n])) : HQuiet Tryz.prog 155 [labV l, .ptr c 0] σ (BV (l.1.node == node && ((l.1.n : Nat) : Int) == ((n : Nat) : Int))) := by
  refine HQuiet.of ?_; (refine HCalls.of_vc Tryz.func155 rfl ?_; rw [Tryz.ntmps155, Tryz.results155]; simp only [List.length_cons, List.length_nil, Nat.reduceAdd, Nat.reduceSub, List.replicate, List.cons_append, List.nil_append])
  (repeat (first | refine Stp.s ?_ | refine inBlock_exit' (by decide) ?_ | ((first | refine vc_region fun K KP hK hKP => ?_ | refine Stg.s ?_ | refine guardD_ret0 ?_ | refine exV_intro _ rfl ?_); (try simp only [go_sem, loadL_a, labV, Lb.v]); try ((first | refine hK _ _ ?_ | refine hKP _ _ _ ?_ | refine hKP _ _ (fun _ => ?_)); clear hK hKP K KP))))
  intro b2 hb2
  have hc' := Store.keep hb2 hc (.cells l.1.cs)
  have h2 := Store.set_same σ b2 (.cells l.1.cs)
  have hle := Store.le_set hb2 (Store.le_refl σ) (k := .cells l.1.cs)
  generalize σ.set b2 _ = σ1 at *
  have ld : ∀ K : V → Prop, loadL Tryz.prog 25 [I64 node, U32 n] 0 K = K (.agg [I64 node, U32 n]) := fun K => by rw [loadL_a kd25, ce25]; simp
  ((try simp only [go_sem]); (try ((first | refine hK _ _ ?_ | refine hKP _ _ _ ?_ | refine hKP _ _ (fun _ => ?_)); clear hK hKP K KP)); repeat (first | refine Stp.s ?_ | refine inBlock_exit' (by decide) ?_ | ((first | refine vc_region fun K KP hK hKP => ?_ | refine Stg.s ?_ | refine guardD_ret0 ?_ | refine exV_intro _ rfl ?_); (try simp only [go_sem]); try ((first | refine hK _ _ ?_ | refine hKP _ _ _ ?_ | refine hKP _ _ (fun _ => ?_)); clear hK hKP K KP))))
  ((repeat first | refine Stp.s ?_ | refine inBlock_exit' (by decide) ?_); refine vc_draw mixed [ ] [0, 1, 2, 3, 4 ] [ 0, 1, 2 ] [] (fun _ => True) (by kernel_rfl) (by kernel_rfl) (by kernel_rfl) trivial fun K KP hK hKP => ?_; simp only [go_sem, h2, hc', lbLoad l.1 l.2.ok, ld]; try (refine hK _ _ ?_; clear hK hKP K KP))
  ((try simp only [go_sem, loadL_a]); first | refine exV_intro _ (callV_pure (dot_pure l.1 l.2.ok) ⟨rfl, rfl⟩) ?_ | refine exV_intro _ (fun _ => callV_pure (dot_pure l.1 l.2.ok) ⟨rfl, rfl⟩) ?_ | refine exV_intro _ (fun _ _ => callV_pure (dot_pure l.1 l.2.ok) ⟨rfl, rfl⟩) ?_)
  ((try simp only [go_sem, h2, hc', ld]); (try ((first | refine hK _ _ ?_ | refine hKP _ _ _ ?_ | refine hKP _ _ (fun _ => ?_)); clear hK hKP K KP)); repeat (first | refine Stp.s ?_ | refine inBlock_exit' (by decide) ?_ | ((first | refine vc_region fun K KP hK hKP => ?_ | refine Stg.s ?_ | refine guardD_ret0 ?_ | refine exV_intro _ rfl ?_); (try simp only [go_sem, h2, hc', ld]); try ((first | refine hK _ _ ?_ | refine hKP _ _ _ ?_ | refine hKP _ _ (fun _ => ?_)); clear hK hKP K KP))))
  (simp only [postV, resV, oneOf, List.getD_cons_succ, List.getD_cons_zero, and_true, true_and])
  exact Ends.le rfl hle
def dotIs (node : Int) (n : Nat) (l : LbI) : Bool := l.1.node == node && ((l.1.n : Nat) : Int) == ((n : Nat) : Int)
def knownB (x : Ix) (node : Int) (n : Nat) : Bool := hasB x.v node n || x.w.any (dotIs node n)
theorem iKnown {b : Nat} {σ : Store} {x : Ix} {ob : Option Nat} (h : IxR σ b x ob) (hx : x.Ok) (node : Int) (n : Nat) : HQuiet Tryz.prog 98 [.ptr b 0, .agg [I64 node, U32 n]] σ (BV (knownB x node n)) := by
  obtain ⟨xl, hb, hO, _⟩ := h
  refine HQuiet.of ?_; (refine HCalls.of_vc Tryz.func98 rfl ?_; rw [Tryz.ntmps98, Tryz.results98]; simp only [List.length_cons, List.length_nil, Nat.reduceAdd, Nat.reduceSub, List.replicate, List.cons_append, List.nil_append])
  (repeat (first | refine Stp.s ?_ | refine inBlock_exit' (by decide) ?_ | ((first | refine vc_region fun K KP hK hKP => ?_ | refine Stg.s ?_ | refine guardD_ret0 ?_ | refine exV_intro _ rfl ?_); (try simp only [go_sem, loadL_a]); try ((first | refine hK _ _ ?_ | refine hKP _ _ _ ?_ | refine hKP _ _ (fun _ => ?_)); clear hK hKP K KP))))
  intro b3 hb3
  have hb' := Store.keep hb3 hb (.cells [I64 node, U32 n])
  have h3 := Store.set_same σ b3 (.cells [I64 node, U32 n])
  have hle := Store.le_set hb3 (Store.le_refl σ) (k := .cells [I64 node, U32 n])
  generalize σ.set b3 _ = σ1 at *
  have ld : ∀ K : V → Prop, loadL Tryz.prog 25 [I64 node, U32 n] 0 K = K (.agg [I64 node, U32 n]) := fun K => by rw [loadL_a kd25, ce25]; simp
  ((try simp only [go_sem]); (try ((first | refine hK _ _ ?_ | refine hKP _ _ _ ?_ | refine hKP _ _ (fun _ => ?_)); clear hK hKP K KP)); repeat (first | refine Stp.s ?_ | refine inBlock_exit' (by decide) ?_ | ((first | refine vc_region fun K KP hK hKP => ?_ | refine Stg.s ?_ | refine guardD_ret0 ?_ | refine exV_intro _ rfl ?_); (try simp only [go_sem]); try ((first | refine hK _ _ ?_ | refine hKP _ _ _ ?_ | refine hKP _ _ (fun _ => ?_)); clear hK hKP K KP))))
  ((repeat first | refine Stp.s ?_ | refine inBlock_exit' (by decide) ?_); refine vc_draw mixed [ ] [0, 1, 2, 3, 4, 5, 6, 7, 8, 9, 10, 11, 12, 13, 14 ] [ 3, 4, 5, 10, 12 ] [] (fun _ => True) (by kernel_rfl) (by kernel_rfl) (by kernel_rfl) trivial fun K KP hK hKP => ?_; simp only [go_sem, hb', h3, ixC_v x hx.v, ixC_w x hx.v, ld]; try (refine hK _ _ ?_; clear hK hKP K KP))
  ((try simp only [go_sem, loadL_a]); first | refine exV_intro _ (callV_pure (has_pure x.v hx.v node n) ⟨rfl, rfl⟩) ?_ | refine exV_intro _ (fun _ => callV_pure (has_pure x.v hx.v node n) ⟨rfl, rfl⟩) ?_ | refine exV_intro _ (fun _ _ => callV_pure (has_pure x.v hx.v node n) ⟨rfl, rfl⟩) ?_)
  ((try simp only [go_sem, hb', h3, ixC_v x hx.v, ixC_w x hx.v, ld]); (try ((first | refine hK _ _ ?_ | refine hKP _ _ _ ?_ | refine hKP _ _ (fun _ => ?_)); clear hK hKP K KP)); repeat (first | refine Stp.s ?_ | refine inBlock_exit' (by decide) ?_ | ((first | refine vc_region fun K KP hK hKP => ?_ | refine Stg.s ?_ | refine guardD_ret0 ?_ | refine exV_intro _ rfl ?_); (try simp only [go_sem, hb', h3, ixC_v x hx.v, ixC_w x hx.v, ld]); try ((first | refine hK _ _ ?_ | refine hKP _ _ _ ?_ | refine hKP _ _ (fun _ => ?_)); clear hK hKP K KP))))
  refine guardD_q0 (x := BV (x.w.any (dotIs node n))) (fun _ => callV_quiet en156 (by
    have := indexFunc_lab_any (x.w.map labV) 155 [] [.ptr b3 0] (pOf (dotIs node n)) σ1 (by rw [List.length_map]; have := hx.w; omega) (fun y hy K hK => by obtain ⟨l, _, rfl⟩ := List.mem_map.1 hy; exact (lbLoad l.1 l.2.ok K).mpr hK) en155 (fun y hy => by
      obtain ⟨l, _, rfl⟩ := List.mem_map.1 hy
      rw [pOf_lab]
      exact known1 l node n b3 σ1 h3)
    rw [pOf_any] at this
    exact this) ⟨rfl, rfl⟩) ?_
  ((try simp only [go_sem, loadL_a]); (try ((first | refine hK _ _ ?_ | refine hKP _ _ _ ?_ | refine hKP _ _ (fun _ => ?_)); clear hK hKP K KP)); repeat (first | refine Stp.s ?_ | refine inBlock_exit' (by decide) ?_ | ((first | refine vc_region fun K KP hK hKP => ?_ | refine Stg.s ?_ | refine guardD_ret0 ?_ | refine exV_intro _ rfl ?_); (try simp only [go_sem, loadL_a]); try ((first | refine hK _ _ ?_ | refine hKP _ _ _ ?_ | refine hKP _ _ (fun _ => ?_)); clear hK hKP K KP))))
  (simp only [postV, resV, oneOf, List.getD_cons_succ, List.getD_cons_zero, and_true, true_and])
  refine Ends.le (congrArg BV ?_) hle
  unfold knownB
  cases hasB x.v node n <;> simp
end Go.Proofs.YtociliegljoldaaGreat
