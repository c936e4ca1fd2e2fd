/- Clocks: covers, with, has, next, count; the order of labels. -/
import Derived.Test.YtociliegljoldaaGreatI1
namespace Go.Proofs.YtociliegljoldaaGreat
set_option linter.unusedSimpArgs false
set_option linter.unusedVariables false
open Go.Proofs
attribute [local irreducible] vc vcOps vcDraw vcK vcKP vcDK vcDB HWp HCalls postV Ex.then Ex.inBlock stepD callV appendV guardC guardD exV effV opV loadV storeV indexAddrV indexV sliceV
set_option maxRecDepth 10000
set_option maxHeartbeats 4000000

def coversB (a b : List Nat) : Bool := decide (joinV (joinV zeroN a) b = a)
theorem allEq_vec : ∀ (n : Nat) (a b : List Nat), a.length = n → b.length = n → allEq (List.replicate n 0) (a.map U32) (b.map U32) = some (decide (a = b))
  | 0, [], [], _, _ => rfl
  | n + 1, x :: a, y :: b, ha, hb => by
    rw [List.replicate_succ, List.map_cons, List.map_cons]
    unfold allEq
    rw [allEq_vec n a b (by simpa using ha) (by simpa using hb)]
    have : eqPrimV 0 (U32 x) (U32 y) = some (((x : Nat) : Int) == ((y : Nat) : Int)) := by simp [eqPrimV]
    rw [this]
    simp only [Option.some.injEq]
    rw [Bool.eq_iff_iff, Bool.and_eq_true, beq_iff_eq, decide_eq_true_eq, decide_eq_true_eq, List.cons.injEq, Int.ofNat_inj]
theorem allEq12 (a b : List Nat) (ha : a.length = 12) (hb : b.length = 12) : allEq [0, 0, 0, 0, 0, 0, 0, 0, 0, 0, 0, 0] (a.map U32) (b.map U32) = some (decide (a = b)) := allEq_vec 12 a b ha hb
theorem repL_length (z : List V) (n : Nat) : (repL z n).length = n := by simp [repL]
theorem two_fill {a c : List Nat} (ha : a.length = 12) (hc : c.length = 12) (z : List V) : setL (setL (repL z 24) 0 (a.map U32)) 12 (c.map U32) = a.map U32 ++ c.map U32 := by
  have h1 : setL (repL z 24) 0 (a.map U32) = a.map U32 ++ (repL z 24).drop 12 := by
    have := setL_append [] (a.map U32) (repL z 24) (by rw [repL_length]; simp [ha])
    rw [List.nil_append, List.nil_append, List.length_map, ha] at this
    exact this
  rw [h1]
  have := setL_append (a.map U32) (c.map U32) ((repL z 24).drop 12) (by rw [List.length_drop, repL_length]; simp [hc])
  rw [List.length_map, ha, List.length_map, hc, List.drop_drop] at this
  rw [this, List.drop_eq_nil_of_le (by rw [repL_length]; decide), List.append_nil]
theorem covers_pure (a c : List Nat) (ha : a.length = 12) (hc : c.length = 12) : HPure Tryz.prog 36 [vecV a, vecV c] (BV (coversB a c)) := by
  (refine HPure.of en36 fun σ => ?_); (refine HCalls.of_vc Tryz.func36 rfl ?_; rw [Tryz.ntmps36, Tryz.results36]; simp only [List.length_cons, List.length_nil, Nat.reduceAdd, Nat.reduceSub, List.replicate, List.cons_append, List.nil_append])
  (repeat (first | refine Stp.s ?_ | refine inBlock_exit' (by decide) ?_ | ((first | refine vc_region fun K KP hK hKP => ?_ | refine Stg.s ?_ | refine guardD_ret0 ?_ | refine exV_intro _ rfl ?_); (try simp only [go_sem, loadL_a, vecV]); try ((first | refine hK _ _ ?_ | refine hKP _ _ _ ?_ | refine hKP _ _ (fun _ => ?_)); clear hK hKP K KP))))
  intro b2 hb2 b3 hb3
  have h2 := Store.set_same σ b2 (.cells (a.map U32))
  have hle2 := Store.le_set hb2 (Store.le_refl σ) (k := .cells (a.map U32))
  generalize σ.set b2 _ = σ1 at *
  have h23 := Store.keep hb3 h2 (.cells (c.map U32))
  have h3 := Store.set_same σ1 b3 (.cells (c.map U32))
  have hle := Store.le_set hb3 hle2 (k := .cells (c.map U32))
  generalize σ1.set b3 _ = σ2 at *
  have la := vecLoad a ha
  have lc := vecLoad c hc
  ((try simp only [go_sem]); (try ((first | refine hK _ _ ?_ | refine hKP _ _ _ ?_ | refine hKP _ _ (fun _ => ?_)); clear hK hKP K KP)); repeat (first | refine Stp.s ?_ | refine inBlock_exit' (by decide) ?_ | ((first | refine vc_region fun K KP hK hKP => ?_ | refine Stg.s ?_ | refine guardD_ret0 ?_ | refine exV_intro _ rfl ?_); (try simp only [go_sem]); try ((first | refine hK _ _ ?_ | refine hKP _ _ _ ?_ | refine hKP _ _ (fun _ => ?_)); clear hK hKP K KP))))
  ((repeat first | refine Stp.s ?_ | refine inBlock_exit' (by decide) ?_); refine vc_draw mixed [ 2, 3 ] [0, 1, 4, 2, 3, 5, 6 ] [ 0, 1 ] [] (fun υ => υ b2 = some (.cells (a.map U32))) (by kernel_rfl) (by kernel_rfl) (by kernel_rfl) (h23) fun K KP hK hKP => ?_; simp only [go_sem, h23, h3, la, lc]; try ((first | refine hK _ _ ?_ | refine hKP _ _ _ ?_ | refine hKP _ _ (fun _ => ?_)); clear hK hKP K KP))
  ((try simp only [go_sem, h23, h3, la, lc]); (try ((first | refine hK _ _ ?_ | refine hKP _ _ _ ?_ | refine hKP _ _ (fun _ => ?_)); clear hK hKP K KP)); repeat (first | refine Stp.s ?_ | refine inBlock_exit' (by decide) ?_ | ((first | refine vc_region fun K KP hK hKP => ?_ | refine Stg.s ?_ | refine guardD_ret0 ?_ | refine exV_intro _ rfl ?_); (try simp only [go_sem, h23, h3, la, lc]); try ((first | refine hK _ _ ?_ | refine hKP _ _ _ ?_ | refine hKP _ _ (fun _ => ?_)); clear hK hKP K KP))))
  refine exV_intro (vecV a) (fun υ hυ => by rw [hυ]; exact (la _).mpr rfl) ?_
  have hl24 : (24 : Nat) ≤ 24 := Nat.le_refl _
  have hl1224 : (12 : Nat) ≤ 24 := by decide
  ((try simp only [go_sem, h23, h3, la, lc, vecV, repL_length, setL_length, ha, hc, List.length_map, two_fill ha hc, hl24, hl1224]); (try ((first | refine hK _ _ ?_ | refine hKP _ _ _ ?_ | refine hKP _ _ (fun _ => ?_)); clear hK hKP K KP)); repeat (first | refine Stp.s ?_ | refine inBlock_exit' (by decide) ?_ | ((first | refine vc_region fun K KP hK hKP => ?_ | refine Stg.s ?_ | refine guardD_ret0 ?_ | refine exV_intro _ rfl ?_); (try simp only [go_sem, h23, h3, la, lc, vecV, repL_length, setL_length, ha, hc, List.length_map, two_fill ha hc, hl24, hl1224]); try ((first | refine hK _ _ ?_ | refine hKP _ _ _ ?_ | refine hKP _ _ (fun _ => ?_)); clear hK hKP K KP))))
  refine effV_intro (fun b4 hb4 => ⟨Store.keep hb4 h23 _, ?_⟩)
  ((try simp only [go_sem, vecV]); (try ((first | refine hK _ _ ?_ | refine hKP _ _ _ ?_ | refine hKP _ _ (fun _ => ?_)); clear hK hKP K KP)); repeat (first | refine Stp.s ?_ | refine inBlock_exit' (by decide) ?_ | ((first | refine vc_region fun K KP hK hKP => ?_ | refine Stg.s ?_ | refine guardD_ret0 ?_ | refine exV_intro _ rfl ?_); (try simp only [go_sem, vecV]); try ((first | refine hK _ _ ?_ | refine hKP _ _ _ ?_ | refine hKP _ _ (fun _ => ?_)); clear hK hKP K KP))))
  refine effV_intro (callV_quiet en82 (cjoin2 a c ha hc b4 _ (Store.set_same _ _ _)) ⟨Store.keep hb4 h23 _, ?_⟩)
  have hj := allEq12 (joinV (joinV zeroN a) c) a (jnV_len _ _ _) ha
  ((try simp only [go_sem, vecV, hj]); (try ((first | refine hK _ _ ?_ | refine hKP _ _ _ ?_ | refine hKP _ _ (fun _ => ?_)); clear hK hKP K KP)); repeat (first | refine Stp.s ?_ | refine inBlock_exit' (by decide) ?_ | ((first | refine vc_region fun K KP hK hKP => ?_ | refine Stg.s ?_ | refine guardD_ret0 ?_ | refine exV_intro _ rfl ?_); (try simp only [go_sem, vecV, hj]); try ((first | refine hK _ _ ?_ | refine hKP _ _ _ ?_ | refine hKP _ _ (fun _ => ?_)); clear hK hKP K KP))))
  (simp only [postV, resV, oneOf, List.getD_cons_succ, List.getD_cons_zero, and_true, true_and])
  exact Ends.le rfl (Store.le_set hb4 hle)
def hasB (v : List Nat) (node : Int) (n : Nat) : Bool := dotB node n && decide (n ≤ getN v node)
theorem has_pure (v : List Nat) (hv : v.length = 12) (node : Int) (n : Nat) : HPure Tryz.prog 59 [vecV v, .agg [I64 node, U32 n]] (BV (hasB v node n)) := by
  (refine HPure.of en59 fun σ => ?_); (refine HCalls.of_vc Tryz.func59 rfl ?_; rw [Tryz.ntmps59, Tryz.results59]; simp only [List.length_cons, List.length_nil, Nat.reduceAdd, Nat.reduceSub, List.replicate, List.cons_append, List.nil_append])
  (repeat (first | refine Stp.s ?_ | refine inBlock_exit' (by decide) ?_ | ((first | refine vc_region fun K KP hK hKP => ?_ | refine Stg.s ?_ | refine guardD_ret0 ?_ | refine exV_intro _ rfl ?_); (try simp only [go_sem, loadL_a, vecV]); try ((first | refine hK _ _ ?_ | refine hKP _ _ _ ?_ | refine hKP _ _ (fun _ => ?_)); clear hK hKP K KP))))
  intro b2 hb2 b3 hb3
  have h2 := Store.set_same σ b2 (.cells (v.map U32))
  have hle2 := Store.le_set hb2 (Store.le_refl σ) (k := .cells (v.map U32))
  generalize σ.set b2 _ = σ1 at *
  have h23 := Store.keep hb3 h2 (.cells [I64 node, U32 n])
  have h3 := Store.set_same σ1 b3 (.cells [I64 node, U32 n])
  have hle := Store.le_set hb3 hle2 (k := .cells [I64 node, U32 n])
  generalize σ1.set b3 _ = σ2 at *
  have lv := vecLoad v hv
  have ld : ∀ K : V → Prop, loadL Tryz.prog 25 [I64 node, U32 n] 0 K = K (.agg [I64 node, U32 n]) := fun K => by rw [loadL_a kd25, ce25]; simp
  ((try simp only [go_sem]); (try ((first | refine hK _ _ ?_ | refine hKP _ _ _ ?_ | refine hKP _ _ (fun _ => ?_)); clear hK hKP K KP)); repeat (first | refine Stp.s ?_ | refine inBlock_exit' (by decide) ?_ | ((first | refine vc_region fun K KP hK hKP => ?_ | refine Stg.s ?_ | refine guardD_ret0 ?_ | refine exV_intro _ rfl ?_); (try simp only [go_sem]); try ((first | refine hK _ _ ?_ | refine hKP _ _ _ ?_ | refine hKP _ _ (fun _ => ?_)); clear hK hKP K KP))))
  ((repeat first | refine Stp.s ?_ | refine inBlock_exit' (by decide) ?_); refine vc_draw mixed [ ] [0, 1, 2, 3, 4, 5, 6, 7, 8, 9, 10, 11 ] [ 0, 3, 5, 8 ] [] (fun _ => True) (by kernel_rfl) (by kernel_rfl) (by kernel_rfl) trivial fun K KP hK hKP => ?_; simp only [go_sem, h23, h3, lv, ld]; try (refine hK _ _ ?_; clear hK hKP K KP))
  ((try simp only [go_sem, loadL_a]); first | refine exV_intro _ (callV_pure (cright_pure node n) ⟨rfl, rfl⟩) ?_ | refine exV_intro _ (fun _ => callV_pure (cright_pure node n) ⟨rfl, rfl⟩) ?_ | refine exV_intro _ (fun _ _ => callV_pure (cright_pure node n) ⟨rfl, rfl⟩) ?_)
  ((try simp only [go_sem, h23, h3, lv, ld]); (try ((first | refine hK _ _ ?_ | refine hKP _ _ _ ?_ | refine hKP _ _ (fun _ => ?_)); clear hK hKP K KP)); repeat (first | refine Stp.s ?_ | refine inBlock_exit' (by decide) ?_ | ((first | refine vc_region fun K KP hK hKP => ?_ | refine Stg.s ?_ | refine guardD_ret0 ?_ | refine exV_intro _ rfl ?_); (try simp only [go_sem, h23, h3, lv, ld]); try ((first | refine hK _ _ ?_ | refine hKP _ _ _ ?_ | refine hKP _ _ (fun _ => ?_)); clear hK hKP K KP))))
  ((try simp only [go_sem, loadL_a]); first | refine guardD_q0 (fun _ => callV_pure (cget_pure v hv node) ⟨rfl, rfl⟩) ?_ | refine guardD_q0 (fun _ _ => callV_pure (cget_pure v hv node) ⟨rfl, rfl⟩) ?_)
  ((try simp only [go_sem, h23, h3, lv, ld]); (try ((first | refine hK _ _ ?_ | refine hKP _ _ _ ?_ | refine hKP _ _ (fun _ => ?_)); clear hK hKP K KP)); repeat (first | refine Stp.s ?_ | refine inBlock_exit' (by decide) ?_ | ((first | refine vc_region fun K KP hK hKP => ?_ | refine Stg.s ?_ | refine guardD_ret0 ?_ | refine exV_intro _ rfl ?_); (try simp only [go_sem, h23, h3, lv, ld]); try ((first | refine hK _ _ ?_ | refine hKP _ _ _ ?_ | refine hKP _ _ (fun _ => ?_)); clear hK hKP K KP))))
  (simp only [postV, resV, oneOf, List.getD_cons_succ, List.getD_cons_zero, and_true, true_and])
  refine Ends.le (congrArg BV ?_) hle
  unfold hasB
  congr 1
  rw [Bool.eq_iff_iff, decide_eq_true_eq, decide_eq_true_eq]; omega
def withV (v : List Nat) (node : Int) (n : Nat) : List Nat := if dotB node n = true then v.set (node - 1).toNat (max (v.getD (node - 1).toNat 0) n) else v
theorem withV_len {v : List Nat} (hv : v.length = 12) (node : Int) (n : Nat) : (withV v node n).length = 12 := by unfold withV; split <;> simp [hv]
theorem with_pure (v : List Nat) (hv : v.length = 12) (node : Int) (n : Nat) : HPure Tryz.prog 89 [vecV v, .agg [I64 node, U32 n]] (vecV (withV v node n)) := by
  (refine HPure.of en89 fun σ => ?_); (refine HCalls.of_vc Tryz.func89 rfl ?_; rw [Tryz.ntmps89, Tryz.results89]; simp only [List.length_cons, List.length_nil, Nat.reduceAdd, Nat.reduceSub, List.replicate, List.cons_append, List.nil_append])
  (repeat (first | refine Stp.s ?_ | refine inBlock_exit' (by decide) ?_ | ((first | refine vc_region fun K KP hK hKP => ?_ | refine Stg.s ?_ | refine guardD_ret0 ?_ | refine exV_intro _ rfl ?_); (try simp only [go_sem, loadL_a, vecV]); try ((first | refine hK _ _ ?_ | refine hKP _ _ _ ?_ | refine hKP _ _ (fun _ => ?_)); clear hK hKP K KP))))
  intro b2 hb2 b3 hb3 b4 hb4
  show K _ (((σ.set b2 (.cells (v.map U32))).set b3 (.cells [I64 node, U32 n])).set b4 (.cells (zeroN.map U32)))
  have h2 := Store.set_same σ b2 (.cells (v.map U32))
  have hle2 := Store.le_set hb2 (Store.le_refl σ) (k := .cells (v.map U32))
  generalize σ.set b2 _ = σ1 at *
  have h23 := Store.keep hb3 h2 (.cells [I64 node, U32 n])
  have h3 := Store.set_same σ1 b3 (.cells [I64 node, U32 n])
  have hle := Store.le_set hb3 hle2 (k := .cells [I64 node, U32 n])
  generalize σ1.set b3 _ = σ2 at *
  have h24 := Store.keep hb4 h23 (.cells (zeroN.map U32))
  have h34 := Store.keep hb4 h3 (.cells (zeroN.map U32))
  have h4 := Store.set_same σ2 b4 (.cells (zeroN.map U32))
  have n24 : b4 ≠ b2 := fun e => by rw [e, h23] at hb4; cases hb4
  have n4 : σ b4 = none := Store.none_of_le hle hb4
  have hle := Store.le_set hb4 hle (k := .cells (zeroN.map U32))
  generalize σ2.set b4 _ = σ3 at *
  have lv := vecLoad v hv
  have ld : ∀ K : V → Prop, loadL Tryz.prog 25 [I64 node, U32 n] 0 K = K (.agg [I64 node, U32 n]) := fun K => by rw [loadL_a kd25, ce25]; simp
  ((try simp only [go_sem, h34, ld]); (try ((first | refine hK _ _ ?_ | refine hKP _ _ _ ?_ | refine hKP _ _ (fun _ => ?_)); clear hK hKP K KP)); repeat (first | refine Stp.s ?_ | refine inBlock_exit' (by decide) ?_ | ((first | refine vc_region fun K KP hK hKP => ?_ | refine Stg.s ?_ | refine guardD_ret0 ?_ | refine exV_intro _ rfl ?_); (try simp only [go_sem, h34, ld]); try ((first | refine hK _ _ ?_ | refine hKP _ _ _ ?_ | refine hKP _ _ (fun _ => ?_)); clear hK hKP K KP))))
  ((try simp only [go_sem, loadL_a]); first | refine callV_pure (cright_pure node n) ?_ | refine guardC_q0 (fun _ => callV_pure (cright_pure node n) ⟨rfl, rfl⟩) ?_)
  ((try simp only [go_sem]); (try ((first | refine hK _ _ ?_ | refine hKP _ _ _ ?_ | refine hKP _ _ (fun _ => ?_)); clear hK hKP K KP)); repeat (first | refine Stp.s ?_ | refine inBlock_exit' (by decide) ?_ | ((first | refine vc_region fun K KP hK hKP => ?_ | refine Stg.s ?_ | refine guardD_ret0 ?_ | refine exV_intro _ rfl ?_); (try simp only [go_sem]); try ((first | refine hK _ _ ?_ | refine hKP _ _ _ ?_ | refine hKP _ _ (fun _ => ?_)); clear hK hKP K KP))))
  refine vc_cond rfl (fun hq => ?_) (fun hq => ?_)
  · have hd : 1 ≤ node ∧ node ≤ 12 := by have hq : dotB node n = true := hq; unfold dotB nodeB at hq; simp only [Bool.and_eq_true, decide_eq_true_eq] at hq; omega
    have hw : IntKind.i64.wrap (node - 1) = node - 1 := i64_in (by omega) (by omega)
    have g0 := eq_true (show (0 : Int) ≤ node - 1 by omega)
    have g1 := eq_true (show node - 1 < ((12 : Nat) : Int) by omega)
    have hi : (node - 1).toNat < 12 := by omega
    have r1 := u32_at v hv (node - 1).toNat hi
    have hmx := maxI32 (v.getD (node - 1).toNat 0) n
    have hW : withV v node n = v.set (node - 1).toNat (max (v.getD (node - 1).toNat 0) n) := by unfold withV; rw [if_pos hq]
    have hst : (v.map U32).set (node - 1).toNat (U32 (max (v.getD (node - 1).toNat 0) n)) = (withV v node n).map U32 := by rw [u32_set, hW]
    have hWl := withV_len hv node n
    have g2 := eq_true (show (node - 1).toNat + 1 ≤ 12 by omega)
    generalize withV v node n = W at *
    (repeat (first | refine Stp.s ?_ | refine inBlock_exit' (by decide) ?_ | ((first | refine vc_region fun K KP hK hKP => ?_ | refine Stg.s ?_ | refine guardD_ret0 ?_ | refine exV_intro _ rfl ?_); (try simp only [go_sem, loadL_a]); try ((first | refine hK _ _ ?_ | refine hKP _ _ _ ?_ | refine hKP _ _ (fun _ => ?_)); clear hK hKP K KP))))
    ((repeat first | refine Stp.s ?_ | refine inBlock_exit' (by decide) ?_); refine vc_draw mixed [ 12 ] [0, 1, 2, 3, 4, 5, 6, 7, 8, 9, 10, 11, 12 ] [ 1, 4, 7, 9 ] [] (fun _ => True) (by kernel_rfl) (by kernel_rfl) (by kernel_rfl) trivial fun K KP hK hKP => ?_; simp only [go_sem, loadL_a, h24, h34, hw, g0, g1, r1, hmx, hst, hv, g2, List.length_map]; try (refine hK _ _ ?_; clear hK hKP K KP))
    have lW := vecLoad W hWl
    have h5 : ∀ k, (σ3.set b2 k) b4 = some (.cells (zeroN.map U32)) := fun k => by rw [Store.set_other _ _ n24]; exact h4
    have h6 : ∀ k, (σ3.set b2 k) b2 = some k := fun k => Store.set_same _ _ _
    ((try simp only [go_sem, h24, h34, hw, g0, g1, r1, hmx, hst, hv, g2, List.length_map, h5, h6, lW, vecV]); (try ((first | refine hK _ _ ?_ | refine hKP _ _ _ ?_ | refine hKP _ _ (fun _ => ?_)); clear hK hKP K KP)); repeat (first | refine Stp.s ?_ | refine inBlock_exit' (by decide) ?_ | ((first | refine vc_region fun K KP hK hKP => ?_ | refine Stg.s ?_ | refine guardD_ret0 ?_ | refine exV_intro _ rfl ?_); (try simp only [go_sem, h24, h34, hw, g0, g1, r1, hmx, hst, hv, g2, List.length_map, h5, h6, lW, vecV]); try ((first | refine hK _ _ ?_ | refine hKP _ _ _ ?_ | refine hKP _ _ (fun _ => ?_)); clear hK hKP K KP))))
    refine ⟨hWl, u32_one W, by simp [hWl, zeroN], ?_⟩
    rw [setL_full _ _ (by simp [hWl, zeroN])]
    ((try simp only [go_sem, loadL_a]); (try ((first | refine hK _ _ ?_ | refine hKP _ _ _ ?_ | refine hKP _ _ (fun _ => ?_)); clear hK hKP K KP)); repeat (first | refine Stp.s ?_ | refine inBlock_exit' (by decide) ?_ | ((first | refine vc_region fun K KP hK hKP => ?_ | refine Stg.s ?_ | refine guardD_ret0 ?_ | refine exV_intro _ rfl ?_); (try simp only [go_sem, loadL_a]); try ((first | refine hK _ _ ?_ | refine hKP _ _ _ ?_ | refine hKP _ _ (fun _ => ?_)); clear hK hKP K KP))))
    (simp only [postV, resV, oneOf, List.getD_cons_succ, List.getD_cons_zero, and_true, true_and])
    simp only [go_sem, Store.set_same, lW, vecV]
    exact Ends.le rfl (Store.le_over n4 (Store.le_over hb2 hle))
  · have hW : withV v node n = v := by unfold withV; rw [if_neg (by rw [show dotB node n = false from hq]; decide)]
    rw [hW]
    (repeat (first | refine Stp.s ?_ | refine inBlock_exit' (by decide) ?_ | ((first | refine vc_region fun K KP hK hKP => ?_ | refine Stg.s ?_ | refine guardD_ret0 ?_ | refine exV_intro _ rfl ?_); (try simp only [go_sem, h24, lv, h4, vecV]); try ((first | refine hK _ _ ?_ | refine hKP _ _ _ ?_ | refine hKP _ _ (fun _ => ?_)); clear hK hKP K KP))))
    refine ⟨by simp [hv], u32_one v, by simp [hv, zeroN], ?_⟩
    rw [setL_full _ _ (by simp [hv, zeroN])]
    ((try simp only [go_sem, loadL_a]); (try ((first | refine hK _ _ ?_ | refine hKP _ _ _ ?_ | refine hKP _ _ (fun _ => ?_)); clear hK hKP K KP)); repeat (first | refine Stp.s ?_ | refine inBlock_exit' (by decide) ?_ | ((first | refine vc_region fun K KP hK hKP => ?_ | refine Stg.s ?_ | refine guardD_ret0 ?_ | refine exV_intro _ rfl ?_); (try simp only [go_sem, loadL_a]); try ((first | refine hK _ _ ?_ | refine hKP _ _ _ ?_ | refine hKP _ _ (fun _ => ?_)); clear hK hKP K KP))))
    (simp only [postV, resV, oneOf, List.getD_cons_succ, List.getD_cons_zero, and_true, true_and])
    simp only [go_sem, Store.set_same, lv, vecV]
    exact Ends.le rfl (Store.le_over n4 hle)
theorem lbS (l : Lb) : True := trivial
theorem past_pure (l : Lb) (hl : l.Ok) : HPure Tryz.prog 37 [l.v] (vecV (withV l.deps l.node l.n)) := by
  (refine HPure.of en37 fun σ => ?_); (refine HCalls.of_vc Tryz.func37 rfl ?_; rw [Tryz.ntmps37, Tryz.results37]; simp only [List.length_cons, List.length_nil, Nat.reduceAdd, Nat.reduceSub, List.replicate, List.cons_append, List.nil_append])
  (repeat (first | refine Stp.s ?_ | refine inBlock_exit' (by decide) ?_ | ((first | refine vc_region fun K KP hK hKP => ?_ | refine Stg.s ?_ | refine guardD_ret0 ?_ | refine exV_intro _ rfl ?_); (try simp only [go_sem, loadL_a, Lb.v]); try ((first | refine hK _ _ ?_ | refine hKP _ _ _ ?_ | refine hKP _ _ (fun _ => ?_)); clear hK hKP K KP))))
  intro b1 hb1 b2 hb2
  show K _ ((σ.set b1 (.cells l.cs)).set b2 (.cells (zeroN.map U32)))
  have h1 := Store.set_same σ b1 (.cells l.cs)
  have hle := Store.le_set hb1 (Store.le_refl σ) (k := .cells l.cs)
  generalize σ.set b1 _ = σ1 at *
  have h12 := Store.keep hb2 h1 (.cells (zeroN.map U32))
  have h2 := Store.set_same σ1 b2 (.cells (zeroN.map U32))
  have n2 : σ b2 = none := Store.none_of_le hle hb2
  have hle := Store.le_set hb2 hle (k := .cells (zeroN.map U32))
  generalize σ1.set b2 _ = σ2 at *
  have hWl := withV_len hl.d l.node l.n
  ((try simp only [go_sem]); (try ((first | refine hK _ _ ?_ | refine hKP _ _ _ ?_ | refine hKP _ _ (fun _ => ?_)); clear hK hKP K KP)); repeat (first | refine Stp.s ?_ | refine inBlock_exit' (by decide) ?_ | ((first | refine vc_region fun K KP hK hKP => ?_ | refine Stg.s ?_ | refine guardD_ret0 ?_ | refine exV_intro _ rfl ?_); (try simp only [go_sem]); try ((first | refine hK _ _ ?_ | refine hKP _ _ _ ?_ | refine hKP _ _ (fun _ => ?_)); clear hK hKP K KP))))
  ((repeat first | refine Stp.s ?_ | refine inBlock_exit' (by decide) ?_); refine vc_draw mixed [ 5 ] [0, 1, 2, 3, 4, 5 ] [ 1, 2 ] [] (fun _ => True) (by kernel_rfl) (by kernel_rfl) (by kernel_rfl) trivial fun K KP hK hKP => ?_; simp only [go_sem, h12, lbLoad l hl, lbLoadD l hl]; try (refine hK _ _ ?_; clear hK hKP K KP))
  ((try simp only [go_sem, loadL_a]); first | refine exV_intro _ (callV_pure (dot_pure l hl) ⟨rfl, rfl⟩) ?_ | refine exV_intro _ (fun _ => callV_pure (dot_pure l hl) ⟨rfl, rfl⟩) ?_ | refine exV_intro _ (fun _ _ => callV_pure (dot_pure l hl) ⟨rfl, rfl⟩) ?_)
  ((try simp only [go_sem]); (try ((first | refine hK _ _ ?_ | refine hKP _ _ _ ?_ | refine hKP _ _ (fun _ => ?_)); clear hK hKP K KP)); repeat (first | refine Stp.s ?_ | refine inBlock_exit' (by decide) ?_ | ((first | refine vc_region fun K KP hK hKP => ?_ | refine Stg.s ?_ | refine guardD_ret0 ?_ | refine exV_intro _ rfl ?_); (try simp only [go_sem]); try ((first | refine hK _ _ ?_ | refine hKP _ _ _ ?_ | refine hKP _ _ (fun _ => ?_)); clear hK hKP K KP))))
  ((try simp only [go_sem, loadL_a]); first | refine exV_intro _ (callV_pure (with_pure l.deps hl.d l.node l.n) ⟨rfl, rfl⟩) ?_ | refine exV_intro _ (fun _ => callV_pure (with_pure l.deps hl.d l.node l.n) ⟨rfl, rfl⟩) ?_ | refine exV_intro _ (fun _ _ => callV_pure (with_pure l.deps hl.d l.node l.n) ⟨rfl, rfl⟩) ?_)
  have lW := vecLoad _ hWl
  generalize withV l.deps l.node l.n = W at *
  ((try simp only [go_sem, vecV, h2]); (try ((first | refine hK _ _ ?_ | refine hKP _ _ _ ?_ | refine hKP _ _ (fun _ => ?_)); clear hK hKP K KP)); repeat (first | refine Stp.s ?_ | refine inBlock_exit' (by decide) ?_ | ((first | refine vc_region fun K KP hK hKP => ?_ | refine Stg.s ?_ | refine guardD_ret0 ?_ | refine exV_intro _ rfl ?_); (try simp only [go_sem, vecV, h2]); try ((first | refine hK _ _ ?_ | refine hKP _ _ _ ?_ | refine hKP _ _ (fun _ => ?_)); clear hK hKP K KP))))
  refine ⟨by simp [hWl], u32_one W, by simp [hWl, zeroN], ?_⟩
  rw [setL_full _ _ (by simp [hWl, zeroN])]
  ((try simp only [go_sem, loadL_a]); (try ((first | refine hK _ _ ?_ | refine hKP _ _ _ ?_ | refine hKP _ _ (fun _ => ?_)); clear hK hKP K KP)); repeat (first | refine Stp.s ?_ | refine inBlock_exit' (by decide) ?_ | ((first | refine vc_region fun K KP hK hKP => ?_ | refine Stg.s ?_ | refine guardD_ret0 ?_ | refine exV_intro _ rfl ?_); (try simp only [go_sem, loadL_a]); try ((first | refine hK _ _ ?_ | refine hKP _ _ _ ?_ | refine hKP _ _ (fun _ => ?_)); clear hK hKP K KP))))
  (simp only [postV, resV, oneOf, List.getD_cons_succ, List.getD_cons_zero, and_true, true_and])
  simp only [go_sem, Store.set_same, lW, vecV]
  exact Ends.le rfl (Store.le_over n2 hle)
theorem of_pure (l : Lb) (hl : l.Ok) : HPure Tryz.prog 208 [l.v] (.agg [U64 l.time, I64 l.node, I64 l.cart, U32 l.n]) := by
  (refine HPure.of en208 fun σ => ?_); (refine HCalls.of_vc Tryz.func208 rfl ?_; rw [Tryz.ntmps208, Tryz.results208]; simp only [List.length_cons, List.length_nil, Nat.reduceAdd, Nat.reduceSub, List.replicate, List.cons_append, List.nil_append])
  (repeat (first | refine Stp.s ?_ | refine inBlock_exit' (by decide) ?_ | ((first | refine vc_region fun K KP hK hKP => ?_ | refine Stg.s ?_ | refine guardD_ret0 ?_ | refine exV_intro _ rfl ?_); (try simp only [go_sem, loadL_a, Lb.v]); try ((first | refine hK _ _ ?_ | refine hKP _ _ _ ?_ | refine hKP _ _ (fun _ => ?_)); clear hK hKP K KP))))
  intro b1 hb1 b2 hb2
  have h1 := Store.set_same σ b1 (.cells l.cs)
  have hle := Store.le_set hb1 (Store.le_refl σ) (k := .cells l.cs)
  generalize σ.set b1 _ = σ1 at *
  have h12 := fun k => Store.keep (k := k) hb2 h1
  have hle2 := fun k => Store.le_set (k := k) hb2 hle
  ((try simp only [go_sem, loadL_a, h12, lb0, lb1, lb2, lb3]); refine hK _ _ ?_; clear hK hKP K KP; repeat (first | refine Stp.s ?_ | refine inBlock_exit' (by decide) ?_ | ((first | refine vc_region fun K KP hK hKP => ?_ | refine Stg.s ?_ | refine guardD_ret0 ?_ | refine exV_intro _ rfl ?_); (try simp only [go_sem, loadL_a, h12, lb0, lb1, lb2, lb3]); try ((first | refine hK _ _ ?_ | refine hKP _ _ _ ?_ | refine hKP _ _ (fun _ => ?_)); clear hK hKP K KP))))
  (simp only [postV, resV, oneOf, List.getD_cons_succ, List.getD_cons_zero, and_true, true_and])
  simp only [go_sem, loadL_a]
  exact Ends.le rfl (hle2 _)
def lessL (a b : Lb) : Bool := if a.time ≠ b.time then decide (a.time < b.time) else if a.node ≠ b.node then decide (a.node < b.node) else if a.cart ≠ b.cart then decide (a.cart < b.cart) else decide (a.n < b.n)
theorem less_label (a b : Lb) (ha : a.Ok) (hb : b.Ok) : HPure Tryz.prog 159 [a.v, b.v] (BV (lessL a b)) := by
  (refine HPure.of en159 fun σ => ?_); (refine HCalls.of_vc Tryz.func159 rfl ?_; rw [Tryz.ntmps159, Tryz.results159]; simp only [List.length_cons, List.length_nil, Nat.reduceAdd, Nat.reduceSub, List.replicate, List.cons_append, List.nil_append])
  (repeat (first | refine Stp.s ?_ | refine inBlock_exit' (by decide) ?_ | ((first | refine vc_region fun K KP hK hKP => ?_ | refine Stg.s ?_ | refine guardD_ret0 ?_ | refine exV_intro _ rfl ?_); (try simp only [go_sem, loadL_a, Lb.v]); try ((first | refine hK _ _ ?_ | refine hKP _ _ _ ?_ | refine hKP _ _ (fun _ => ?_)); clear hK hKP K KP))))
  intro b2 hb2 b3 hb3
  have h2 := Store.set_same σ b2 (.cells a.cs)
  have hle := Store.le_set hb2 (Store.le_refl σ) (k := .cells a.cs)
  generalize σ.set b2 _ = σ1 at *
  have h23 := Store.keep hb3 h2 (.cells b.cs)
  have h3 := Store.set_same σ1 b3 (.cells b.cs)
  have hle := Store.le_set hb3 hle (k := .cells b.cs)
  generalize σ1.set b3 _ = σ2 at *
  have la := lbLoad a ha
  have lb := lbLoad b hb
  ((try simp only [go_sem]); (try ((first | refine hK _ _ ?_ | refine hKP _ _ _ ?_ | refine hKP _ _ (fun _ => ?_)); clear hK hKP K KP)); repeat (first | refine Stp.s ?_ | refine inBlock_exit' (by decide) ?_ | ((first | refine vc_region fun K KP hK hKP => ?_ | refine Stg.s ?_ | refine guardD_ret0 ?_ | refine exV_intro _ rfl ?_); (try simp only [go_sem]); try ((first | refine hK _ _ ?_ | refine hKP _ _ _ ?_ | refine hKP _ _ (fun _ => ?_)); clear hK hKP K KP))))
  ((repeat first | refine Stp.s ?_ | refine inBlock_exit' (by decide) ?_); refine vc_draw2 mixed [ 4, 5, 6, 7 ] [ 4, 5 ] [0, 1, 2, 3, 4, 5, 6, 7 ] (fun υ => υ b2 = some (.cells a.cs) ∧ υ b3 = some (.cells b.cs)) (by kernel_rfl) (by kernel_rfl) (by kernel_rfl) (⟨h23, h3⟩) (fun σ c k h hc => ⟨Store.keep hc h.1 _, Store.keep hc h.2 _⟩) fun K KP hK hKP => ?_; simp only [go_sem]; try ((first | refine hK _ _ ?_ | refine hKP _ _ _ ?_ | refine hKP _ _ (fun _ => ?_)); clear hK hKP K KP))
  refine exV_intro a.v (fun υ hυ => by rw [hυ.1]; exact (la _).mpr rfl) ?_
  ((try simp only [go_sem]); (try ((first | refine hK _ _ ?_ | refine hKP _ _ _ ?_ | refine hKP _ _ (fun _ => ?_)); clear hK hKP K KP)); repeat (first | refine Stp.s ?_ | refine inBlock_exit' (by decide) ?_ | ((first | refine vc_region fun K KP hK hKP => ?_ | refine Stg.s ?_ | refine guardD_ret0 ?_ | refine exV_intro _ rfl ?_); (try simp only [go_sem]); try ((first | refine hK _ _ ?_ | refine hKP _ _ _ ?_ | refine hKP _ _ (fun _ => ?_)); clear hK hKP K KP))))
  ((try simp only [go_sem, loadL_a]); first | refine exV_intro _ (callV_pure (of_pure a ha) ⟨rfl, rfl⟩) ?_ | refine exV_intro _ (fun _ => callV_pure (of_pure a ha) ⟨rfl, rfl⟩) ?_ | refine exV_intro _ (fun _ _ => callV_pure (of_pure a ha) ⟨rfl, rfl⟩) ?_)
  ((try simp only [go_sem]); (try ((first | refine hK _ _ ?_ | refine hKP _ _ _ ?_ | refine hKP _ _ (fun _ => ?_)); clear hK hKP K KP)); repeat (first | refine Stp.s ?_ | refine inBlock_exit' (by decide) ?_ | ((first | refine vc_region fun K KP hK hKP => ?_ | refine Stg.s ?_ | refine guardD_ret0 ?_ | refine exV_intro _ rfl ?_); (try simp only [go_sem]); try ((first | refine hK _ _ ?_ | refine hKP _ _ _ ?_ | refine hKP _ _ (fun _ => ?_)); clear hK hKP K KP))))
  refine exV_intro b.v (fun υ hυ => by rw [hυ.2]; exact (lb _).mpr rfl) ?_
  ((try simp only [go_sem]); (try ((first | refine hK _ _ ?_ | refine hKP _ _ _ ?_ | refine hKP _ _ (fun _ => ?_)); clear hK hKP K KP)); repeat (first | refine Stp.s ?_ | refine inBlock_exit' (by decide) ?_ | ((first | refine vc_region fun K KP hK hKP => ?_ | refine Stg.s ?_ | refine guardD_ret0 ?_ | refine exV_intro _ rfl ?_); (try simp only [go_sem]); try ((first | refine hK _ _ ?_ | refine hKP _ _ _ ?_ | refine hKP _ _ (fun _ => ?_)); clear hK hKP K KP))))
  ((try simp only [go_sem, loadL_a]); first | refine exV_intro _ (callV_pure (of_pure b hb) ⟨rfl, rfl⟩) ?_ | refine exV_intro _ (fun _ => callV_pure (of_pure b hb) ⟨rfl, rfl⟩) ?_ | refine exV_intro _ (fun _ _ => callV_pure (of_pure b hb) ⟨rfl, rfl⟩) ?_)
  ((try simp only [go_sem]); (try ((first | refine hK _ _ ?_ | refine hKP _ _ _ ?_ | refine hKP _ _ (fun _ => ?_)); clear hK hKP K KP)); repeat (first | refine Stp.s ?_ | refine inBlock_exit' (by decide) ?_ | ((first | refine vc_region fun K KP hK hKP => ?_ | refine Stg.s ?_ | refine guardD_ret0 ?_ | refine exV_intro _ rfl ?_); (try simp only [go_sem]); try ((first | refine hK _ _ ?_ | refine hKP _ _ _ ?_ | refine hKP _ _ (fun _ => ?_)); clear hK hKP K KP))))
  refine effV_intro (fun c5 h5 => ⟨⟨Store.keep h5 h23 _, Store.keep h5 h3 _⟩, ?_⟩)
  have k23 := Store.keep h5 h23 (.cells [.val (.int .u64 0), .val (.int .i64 0), .val (.int .i64 0), .val (.int .u32 0)])
  have k3 := Store.keep h5 h3 (.cells [.val (.int .u64 0), .val (.int .i64 0), .val (.int .i64 0), .val (.int .u32 0)])
  have k5 := Store.set_same σ2 c5 (.cells [.val (.int .u64 0), .val (.int .i64 0), .val (.int .i64 0), .val (.int .u32 0)])
  have hle5 := Store.le_set h5 hle (k := .cells [.val (.int .u64 0), .val (.int .i64 0), .val (.int .i64 0), .val (.int .u32 0)])
  have n52 : c5 ≠ b2 := fun e => by rw [e, h23] at h5; cases h5
  have n53 : c5 ≠ b3 := fun e => by rw [e, h3] at h5; cases h5
  have m5 : σ c5 = none := Store.none_of_le hle h5
  generalize σ2.set c5 _ = σ3 at *
  ((try simp only [go_sem]); (try ((first | refine hK _ _ ?_ | refine hKP _ _ _ ?_ | refine hKP _ _ (fun _ => ?_)); clear hK hKP K KP)); repeat (first | refine Stp.s ?_ | refine inBlock_exit' (by decide) ?_ | ((first | refine vc_region fun K KP hK hKP => ?_ | refine Stg.s ?_ | refine guardD_ret0 ?_ | refine exV_intro _ rfl ?_); (try simp only [go_sem]); try ((first | refine hK _ _ ?_ | refine hKP _ _ _ ?_ | refine hKP _ _ (fun _ => ?_)); clear hK hKP K KP))))
  refine effV_intro (fun c6 h6 => ⟨⟨Store.keep h6 k23 _, Store.keep h6 k3 _⟩, ?_⟩)
  have j23 := Store.keep h6 k23 (.cells [.val (.int .u64 0), .val (.int .i64 0), .val (.int .i64 0), .val (.int .u32 0)])
  have j3 := Store.keep h6 k3 (.cells [.val (.int .u64 0), .val (.int .i64 0), .val (.int .i64 0), .val (.int .u32 0)])
  have j5 := Store.keep h6 k5 (.cells [.val (.int .u64 0), .val (.int .i64 0), .val (.int .i64 0), .val (.int .u32 0)])
  have j6 := Store.set_same σ3 c6 (.cells [.val (.int .u64 0), .val (.int .i64 0), .val (.int .i64 0), .val (.int .u32 0)])
  have hle6 := Store.le_set h6 hle5 (k := .cells [.val (.int .u64 0), .val (.int .i64 0), .val (.int .i64 0), .val (.int .u32 0)])
  have n65 : c6 ≠ c5 := fun e => by rw [e, k5] at h6; cases h6
  have n62 : c6 ≠ b2 := fun e => by rw [e, k23] at h6; cases h6
  have n63 : c6 ≠ b3 := fun e => by rw [e, k3] at h6; cases h6
  have m6 : σ c6 = none := Store.none_of_le hle5 h6
  generalize σ3.set c6 _ = σ4 at *
  ((try simp only [go_sem, loadL_a, j5]); (try ((first | refine hK _ _ ?_ | refine hKP _ _ _ ?_ | refine hKP _ _ (fun _ => ?_)); clear hK hKP K KP)); repeat (first | refine Stp.s ?_ | refine inBlock_exit' (by decide) ?_ | ((first | refine vc_region fun K KP hK hKP => ?_ | refine Stg.s ?_ | refine guardD_ret0 ?_ | refine exV_intro _ rfl ?_); (try simp only [go_sem, loadL_a, j5]); try ((first | refine hK _ _ ?_ | refine hKP _ _ _ ?_ | refine hKP _ _ (fun _ => ?_)); clear hK hKP K KP))))
  refine effV_intro ?_
  refine ⟨⟨by rw [Store.set_other _ _ (Ne.symm n52)]; exact j23, by rw [Store.set_other _ _ (Ne.symm n53)]; exact j3⟩, ?_⟩
  have i5 := Store.set_same σ4 c5 (.cells [U64 a.time, I64 a.node, I64 a.cart, U32 a.n])
  have i6 := (Store.set_other σ4 (.cells [U64 a.time, I64 a.node, I64 a.cart, U32 a.n]) n65).trans j6
  have i23 := (Store.set_other σ4 (.cells [U64 a.time, I64 a.node, I64 a.cart, U32 a.n]) (Ne.symm n52)).trans j23
  have i3 := (Store.set_other σ4 (.cells [U64 a.time, I64 a.node, I64 a.cart, U32 a.n]) (Ne.symm n53)).trans j3
  have hle7 := Store.le_over (k := .cells [U64 a.time, I64 a.node, I64 a.cart, U32 a.n]) m5 hle6
  generalize σ4.set c5 _ = σ5 at *
  ((try simp only [go_sem, loadL_a, i6]); (try ((first | refine hK _ _ ?_ | refine hKP _ _ _ ?_ | refine hKP _ _ (fun _ => ?_)); clear hK hKP K KP)); repeat (first | refine Stp.s ?_ | refine inBlock_exit' (by decide) ?_ | ((first | refine vc_region fun K KP hK hKP => ?_ | refine Stg.s ?_ | refine guardD_ret0 ?_ | refine exV_intro _ rfl ?_); (try simp only [go_sem, loadL_a, i6]); try ((first | refine hK _ _ ?_ | refine hKP _ _ _ ?_ | refine hKP _ _ (fun _ => ?_)); clear hK hKP K KP))))
  refine effV_intro ?_
  refine ⟨⟨by rw [Store.set_other _ _ (Ne.symm n62)]; exact i23, by rw [Store.set_other _ _ (Ne.symm n63)]; exact i3⟩, ?_⟩
  have f5 := (Store.set_other σ5 (.cells [U64 b.time, I64 b.node, I64 b.cart, U32 b.n]) (Ne.symm n65)).trans i5
  have f6 := Store.set_same σ5 c6 (.cells [U64 b.time, I64 b.node, I64 b.cart, U32 b.n])
  have hle8 := Store.le_over (k := .cells [U64 b.time, I64 b.node, I64 b.cart, U32 b.n]) m6 hle7
  generalize σ5.set c6 _ = σ6 at *
  ((try simp only [go_sem, loadL_a, f5, f6]); (try ((first | refine hK _ _ ?_ | refine hKP _ _ _ ?_ | refine hKP _ _ (fun _ => ?_)); clear hK hKP K KP)); repeat (first | refine Stp.s ?_ | refine inBlock_exit' (by decide) ?_ | ((first | refine vc_region fun K KP hK hKP => ?_ | refine Stg.s ?_ | refine guardD_ret0 ?_ | refine exV_intro _ rfl ?_); (try simp only [go_sem, loadL_a, f5, f6]); try ((first | refine hK _ _ ?_ | refine hKP _ _ _ ?_ | refine hKP _ _ (fun _ => ?_)); clear hK hKP K KP))))
  refine vc_cond rfl (fun hq => ?_) (fun hq0 => ?_)
  · (repeat (first | refine Stp.s ?_ | refine inBlock_exit' (by decide) ?_ | ((first | refine vc_region fun K KP hK hKP => ?_ | refine Stg.s ?_ | refine guardD_ret0 ?_ | refine exV_intro _ rfl ?_); (try simp only [go_sem, loadL_a]); try ((first | refine hK _ _ ?_ | refine hKP _ _ _ ?_ | refine hKP _ _ (fun _ => ?_)); clear hK hKP K KP))))
    (simp only [postV, resV, oneOf, List.getD_cons_succ, List.getD_cons_zero, and_true, true_and])
    refine Ends.le (congrArg BV ?_) hle8
    simp at hq
    unfold lessL
    obtain ⟨q1, q2, q3, q4⟩ := hq
    rw [if_neg (by omega), if_neg (by omega), if_neg (by omega)]
    symm
    rw [decide_eq_false_iff_not]; omega
  (repeat (first | refine Stp.s ?_ | refine inBlock_exit' (by decide) ?_ | ((first | refine vc_region fun K KP hK hKP => ?_ | refine Stg.s ?_ | refine guardD_ret0 ?_ | refine exV_intro _ rfl ?_); (try simp only [go_sem, loadL_a, f5, f6]); try ((first | refine hK _ _ ?_ | refine hKP _ _ _ ?_ | refine hKP _ _ (fun _ => ?_)); clear hK hKP K KP))))
  refine vc_cond rfl (fun hq => ?_) (fun hq1 => ?_)
  · (repeat (first | refine Stp.s ?_ | refine inBlock_exit' (by decide) ?_ | ((first | refine vc_region fun K KP hK hKP => ?_ | refine Stg.s ?_ | refine guardD_ret0 ?_ | refine exV_intro _ rfl ?_); (try simp only [go_sem, loadL_a, f5, f6]); try ((first | refine hK _ _ ?_ | refine hKP _ _ _ ?_ | refine hKP _ _ (fun _ => ?_)); clear hK hKP K KP))))
    (simp only [postV, resV, oneOf, List.getD_cons_succ, List.getD_cons_zero, and_true, true_and])
    refine Ends.le (congrArg BV ?_) hle8
    simp at hq
    unfold lessL
    rw [if_pos (by omega)]
    rw [Bool.eq_iff_iff, decide_eq_true_eq, decide_eq_true_eq]; omega
  (repeat (first | refine Stp.s ?_ | refine inBlock_exit' (by decide) ?_ | ((first | refine vc_region fun K KP hK hKP => ?_ | refine Stg.s ?_ | refine guardD_ret0 ?_ | refine exV_intro _ rfl ?_); (try simp only [go_sem, loadL_a, f5, f6]); try ((first | refine hK _ _ ?_ | refine hKP _ _ _ ?_ | refine hKP _ _ (fun _ => ?_)); clear hK hKP K KP))))
  refine vc_cond rfl (fun hq => ?_) (fun hq2 => ?_)
  · (repeat (first | refine Stp.s ?_ | refine inBlock_exit' (by decide) ?_ | ((first | refine vc_region fun K KP hK hKP => ?_ | refine Stg.s ?_ | refine guardD_ret0 ?_ | refine exV_intro _ rfl ?_); (try simp only [go_sem, loadL_a, f5, f6]); try ((first | refine hK _ _ ?_ | refine hKP _ _ _ ?_ | refine hKP _ _ (fun _ => ?_)); clear hK hKP K KP))))
    (simp only [postV, resV, oneOf, List.getD_cons_succ, List.getD_cons_zero, and_true, true_and])
    refine Ends.le (congrArg BV ?_) hle8
    simp at hq hq1
    unfold lessL
    rw [if_neg (by omega), if_pos (by omega)]
  (repeat (first | refine Stp.s ?_ | refine inBlock_exit' (by decide) ?_ | ((first | refine vc_region fun K KP hK hKP => ?_ | refine Stg.s ?_ | refine guardD_ret0 ?_ | refine exV_intro _ rfl ?_); (try simp only [go_sem, loadL_a, f5, f6]); try ((first | refine hK _ _ ?_ | refine hKP _ _ _ ?_ | refine hKP _ _ (fun _ => ?_)); clear hK hKP K KP))))
  refine vc_cond rfl (fun hq => ?_) (fun hq3 => ?_)
  · (repeat (first | refine Stp.s ?_ | refine inBlock_exit' (by decide) ?_ | ((first | refine vc_region fun K KP hK hKP => ?_ | refine Stg.s ?_ | refine guardD_ret0 ?_ | refine exV_intro _ rfl ?_); (try simp only [go_sem, loadL_a, f5, f6]); try ((first | refine hK _ _ ?_ | refine hKP _ _ _ ?_ | refine hKP _ _ (fun _ => ?_)); clear hK hKP K KP))))
    (simp only [postV, resV, oneOf, List.getD_cons_succ, List.getD_cons_zero, and_true, true_and])
    refine Ends.le (congrArg BV ?_) hle8
    simp at hq hq1 hq2
    unfold lessL
    rw [if_neg (by omega), if_neg (by omega), if_pos (by omega)]
  (repeat (first | refine Stp.s ?_ | refine inBlock_exit' (by decide) ?_ | ((first | refine vc_region fun K KP hK hKP => ?_ | refine Stg.s ?_ | refine guardD_ret0 ?_ | refine exV_intro _ rfl ?_); (try simp only [go_sem, loadL_a, f5, f6]); try ((first | refine hK _ _ ?_ | refine hKP _ _ _ ?_ | refine hKP _ _ (fun _ => ?_)); clear hK hKP K KP))))
  (simp only [postV, resV, oneOf, List.getD_cons_succ, List.getD_cons_zero, and_true, true_and])
  refine Ends.le (congrArg BV ?_) hle8
  simp at hq1 hq2 hq3
  unfold lessL
  rw [if_neg (by omega), if_neg (by omega), if_neg (by omega)]
  rw [Bool.eq_iff_iff, decide_eq_true_eq, decide_eq_true_eq]; omega
def ordL (a b : Lb) : Int := if lessL a b = true then -1 else if lessL b a = true then 1 else 0
theorem order_pure (a b : Lb) (ha : a.Ok) (hb : b.Ok) : HPure Tryz.prog 101 [a.v, b.v] (I64 (ordL a b)) := by
  (refine HPure.of en101 fun σ => ?_); (refine HCalls.of_vc Tryz.func101 rfl ?_; rw [Tryz.ntmps101, Tryz.results101]; simp only [List.length_cons, List.length_nil, Nat.reduceAdd, Nat.reduceSub, List.replicate, List.cons_append, List.nil_append])
  (repeat (first | refine Stp.s ?_ | refine inBlock_exit' (by decide) ?_ | ((first | refine vc_region fun K KP hK hKP => ?_ | refine Stg.s ?_ | refine guardD_ret0 ?_ | refine exV_intro _ rfl ?_); (try simp only [go_sem, loadL_a, Lb.v]); try ((first | refine hK _ _ ?_ | refine hKP _ _ _ ?_ | refine hKP _ _ (fun _ => ?_)); clear hK hKP K KP))))
  intro b2 hb2 b3 hb3
  have h2 := Store.set_same σ b2 (.cells a.cs)
  have hle := Store.le_set hb2 (Store.le_refl σ) (k := .cells a.cs)
  generalize σ.set b2 _ = σ1 at *
  have h23 := Store.keep hb3 h2 (.cells b.cs)
  have h3 := Store.set_same σ1 b3 (.cells b.cs)
  have hle := Store.le_set hb3 hle (k := .cells b.cs)
  generalize σ1.set b3 _ = σ2 at *
  have la := lbLoad a ha
  have lb := lbLoad b hb
  ((try simp only [go_sem, h23, h3, la, lb]); (try ((first | refine hK _ _ ?_ | refine hKP _ _ _ ?_ | refine hKP _ _ (fun _ => ?_)); clear hK hKP K KP)); repeat (first | refine Stp.s ?_ | refine inBlock_exit' (by decide) ?_ | ((first | refine vc_region fun K KP hK hKP => ?_ | refine Stg.s ?_ | refine guardD_ret0 ?_ | refine exV_intro _ rfl ?_); (try simp only [go_sem, h23, h3, la, lb]); try ((first | refine hK _ _ ?_ | refine hKP _ _ _ ?_ | refine hKP _ _ (fun _ => ?_)); clear hK hKP K KP))))
  ((try simp only [go_sem, loadL_a]); first | refine callV_pure (less_label a b ha hb) ?_ | refine guardC_q0 (fun _ => callV_pure (less_label a b ha hb) ⟨rfl, rfl⟩) ?_)
  ((try simp only [go_sem, loadL_a]); (try ((first | refine hK _ _ ?_ | refine hKP _ _ _ ?_ | refine hKP _ _ (fun _ => ?_)); clear hK hKP K KP)); repeat (first | refine Stp.s ?_ | refine inBlock_exit' (by decide) ?_ | ((first | refine vc_region fun K KP hK hKP => ?_ | refine Stg.s ?_ | refine guardD_ret0 ?_ | refine exV_intro _ rfl ?_); (try simp only [go_sem, loadL_a]); try ((first | refine hK _ _ ?_ | refine hKP _ _ _ ?_ | refine hKP _ _ (fun _ => ?_)); clear hK hKP K KP))))
  refine vc_cond rfl (fun hq => ?_) (fun hq => ?_)
  · (repeat (first | refine Stp.s ?_ | refine inBlock_exit' (by decide) ?_ | ((first | refine vc_region fun K KP hK hKP => ?_ | refine Stg.s ?_ | refine guardD_ret0 ?_ | refine exV_intro _ rfl ?_); (try simp only [go_sem, loadL_a]); try ((first | refine hK _ _ ?_ | refine hKP _ _ _ ?_ | refine hKP _ _ (fun _ => ?_)); clear hK hKP K KP))))
    (simp only [postV, resV, oneOf, List.getD_cons_succ, List.getD_cons_zero, and_true, true_and])
    exact Ends.le (by unfold ordL; rw [if_pos hq]) hle
  (repeat (first | refine Stp.s ?_ | refine inBlock_exit' (by decide) ?_ | ((first | refine vc_region fun K KP hK hKP => ?_ | refine Stg.s ?_ | refine guardD_ret0 ?_ | refine exV_intro _ rfl ?_); (try simp only [go_sem, h23, h3, la, lb]); try ((first | refine hK _ _ ?_ | refine hKP _ _ _ ?_ | refine hKP _ _ (fun _ => ?_)); clear hK hKP K KP))))
  ((try simp only [go_sem, loadL_a]); first | refine callV_pure (less_label b a hb ha) ?_ | refine guardC_q0 (fun _ => callV_pure (less_label b a hb ha) ⟨rfl, rfl⟩) ?_)
  ((try simp only [go_sem, loadL_a]); (try ((first | refine hK _ _ ?_ | refine hKP _ _ _ ?_ | refine hKP _ _ (fun _ => ?_)); clear hK hKP K KP)); repeat (first | refine Stp.s ?_ | refine inBlock_exit' (by decide) ?_ | ((first | refine vc_region fun K KP hK hKP => ?_ | refine Stg.s ?_ | refine guardD_ret0 ?_ | refine exV_intro _ rfl ?_); (try simp only [go_sem, loadL_a]); try ((first | refine hK _ _ ?_ | refine hKP _ _ _ ?_ | refine hKP _ _ (fun _ => ?_)); clear hK hKP K KP))))
  have hq : lessL a b = false := hq
  refine vc_cond rfl (fun hq2 => ?_) (fun hq2 => ?_)
  · (repeat (first | refine Stp.s ?_ | refine inBlock_exit' (by decide) ?_ | ((first | refine vc_region fun K KP hK hKP => ?_ | refine Stg.s ?_ | refine guardD_ret0 ?_ | refine exV_intro _ rfl ?_); (try simp only [go_sem, loadL_a]); try ((first | refine hK _ _ ?_ | refine hKP _ _ _ ?_ | refine hKP _ _ (fun _ => ?_)); clear hK hKP K KP))))
    (simp only [postV, resV, oneOf, List.getD_cons_succ, List.getD_cons_zero, and_true, true_and])
    exact Ends.le (by unfold ordL; rw [if_neg (by rw [hq]; decide), if_pos hq2]) hle
  · have hq2 : lessL b a = false := hq2
    (repeat (first | refine Stp.s ?_ | refine inBlock_exit' (by decide) ?_ | ((first | refine vc_region fun K KP hK hKP => ?_ | refine Stg.s ?_ | refine guardD_ret0 ?_ | refine exV_intro _ rfl ?_); (try simp only [go_sem, loadL_a]); try ((first | refine hK _ _ ?_ | refine hKP _ _ _ ?_ | refine hKP _ _ (fun _ => ?_)); clear hK hKP K KP))))
    (simp only [postV, resV, oneOf, List.getD_cons_succ, List.getD_cons_zero, and_true, true_and])
    exact Ends.le (by unfold ordL; rw [if_neg (by rw [hq]; decide), if_neg (by rw [hq2]; decide)]) hle
/-- Labels as they may come in. -/
abbrev LbI := {l : Lb // LbArg l}
instance : Inhabited LbI := ⟨⟨⟨0, 0, 0, 0, 0, zeroN⟩, ⟨⟨rfl, by decide⟩, by decide, by decide, by decide, by decide, by decide⟩⟩⟩
def encL (l : LbI) : List V := l.1.cs
theorem u32_ones (v : List Nat) : ∀ c ∈ v.map U32, c.one = true := u32_one v
theorem eltL : Elt 17 encL := ⟨fun l => lbCells l.1 l.2.ok, fun l c hc => by
  unfold encL Lb.cs at hc
  rcases List.mem_append.1 hc with h | h
  · simp only [List.mem_cons, List.not_mem_nil, or_false] at h
    rcases h with rfl | rfl | rfl | rfl | rfl <;> rfl
  · exact u32_one _ c h⟩
/-- Where a label stands, as one number. -/
def keyL (l : LbI) : Nat := ((l.1.time * 18446744073709551616 + (l.1.node + 9223372036854775808).toNat) * 18446744073709551616 + (l.1.cart + 9223372036854775808).toNat) * 4294967296 + l.1.n
theorem less_key (a b : LbI) : lessL a.1 b.1 = true ↔ keyL a < keyL b := by
  obtain ⟨⟨t, n, k, c, s, d⟩, ⟨_, hk⟩, hc, ht, hn, _, _⟩ := a
  obtain ⟨⟨t', n', k', c', s', d'⟩, ⟨_, hk'⟩, hc', ht', hn', _, _⟩ := b
  simp only at hk hc ht hn hk' hc' ht' hn'
  unfold lessL keyL
  simp only
  split
  · rw [decide_eq_true_eq]; omega
  · split
    · rw [decide_eq_true_eq]; omega
    · split
      · rw [decide_eq_true_eq]; omega
      · rw [decide_eq_true_eq]; omega
theorem cmprL : Cmpr Tryz.prog 101 [] [] encL keyL (fun a b => ordL a.1 b.1) := ⟨fun a b => order_pure a.1 b.1 a.2.ok b.2.ok, fun a b => by
  rw [← less_key]
  unfold ordL
  by_cases h : lessL a.1 b.1 = true
  · rw [if_pos h]; simp [h]
  · rw [if_neg h]
    have : ¬ (if lessL b.1 a.1 = true then (1 : Int) else 0) < 0 := by split <;> omega
    simp [h, this]⟩
def betweenB (node : Int) (n : Nat) (f t : List Nat) : Bool := hasB t node n && !hasB f node n
theorem between_pure (node : Int) (n : Nat) (f t : List Nat) (hf : f.length = 12) (ht : t.length = 12) : HPure Tryz.prog 113 [.agg [I64 node, U32 n], vecV f, vecV t] (BV (betweenB node n f t)) := by
  (refine HPure.of en113 fun σ => ?_); (refine HCalls.of_vc Tryz.func113 rfl ?_; rw [Tryz.ntmps113, Tryz.results113]; simp only [List.length_cons, List.length_nil, Nat.reduceAdd, Nat.reduceSub, List.replicate, List.cons_append, List.nil_append])
  (repeat (first | refine Stp.s ?_ | refine inBlock_exit' (by decide) ?_ | ((first | refine vc_region fun K KP hK hKP => ?_ | refine Stg.s ?_ | refine guardD_ret0 ?_ | refine exV_intro _ rfl ?_); (try simp only [go_sem, loadL_a, vecV]); try ((first | refine hK _ _ ?_ | refine hKP _ _ _ ?_ | refine hKP _ _ (fun _ => ?_)); clear hK hKP K KP))))
  intro b1 hb1 b2 hb2 b3 hb3
  have h1 := Store.set_same σ b1 (.cells [I64 node, U32 n])
  have hle := Store.le_set hb1 (Store.le_refl σ) (k := .cells [I64 node, U32 n])
  generalize σ.set b1 _ = σ1 at *
  have h12 := Store.keep hb2 h1 (.cells (f.map U32))
  have h2 := Store.set_same σ1 b2 (.cells (f.map U32))
  have hle := Store.le_set hb2 hle (k := .cells (f.map U32))
  generalize σ1.set b2 _ = σ2 at *
  have h13 := Store.keep hb3 h12 (.cells (t.map U32))
  have h23 := Store.keep hb3 h2 (.cells (t.map U32))
  have h3 := Store.set_same σ2 b3 (.cells (t.map U32))
  have hle := Store.le_set hb3 hle (k := .cells (t.map U32))
  generalize σ2.set b3 _ = σ3 at *
  have lf := vecLoad f hf
  have lt := vecLoad t ht
  have ld : ∀ K : V → Prop, loadL Tryz.prog 25 [I64 node, U32 n] 0 K = K (.agg [I64 node, U32 n]) := fun K => by rw [loadL_a kd25, ce25]; simp
  ((try simp only [go_sem, h13, h23, h3, lf, lt, ld]); (try ((first | refine hK _ _ ?_ | refine hKP _ _ _ ?_ | refine hKP _ _ (fun _ => ?_)); clear hK hKP K KP)); repeat (first | refine Stp.s ?_ | refine inBlock_exit' (by decide) ?_ | ((first | refine vc_region fun K KP hK hKP => ?_ | refine Stg.s ?_ | refine guardD_ret0 ?_ | refine exV_intro _ rfl ?_); (try simp only [go_sem, h13, h23, h3, lf, lt, ld]); try ((first | refine hK _ _ ?_ | refine hKP _ _ _ ?_ | refine hKP _ _ (fun _ => ?_)); clear hK hKP K KP))))
  ((try simp only [go_sem, loadL_a]); first | refine callV_pure (has_pure t ht node n) ?_ | refine guardC_q0 (fun _ => callV_pure (has_pure t ht node n) ⟨rfl, rfl⟩) ?_)
  ((try simp only [go_sem, h13, h23, h3, lf, lt, ld]); (try ((first | refine hK _ _ ?_ | refine hKP _ _ _ ?_ | refine hKP _ _ (fun _ => ?_)); clear hK hKP K KP)); repeat (first | refine Stp.s ?_ | refine inBlock_exit' (by decide) ?_ | ((first | refine vc_region fun K KP hK hKP => ?_ | refine Stg.s ?_ | refine guardD_ret0 ?_ | refine exV_intro _ rfl ?_); (try simp only [go_sem, h13, h23, h3, lf, lt, ld]); try ((first | refine hK _ _ ?_ | refine hKP _ _ _ ?_ | refine hKP _ _ (fun _ => ?_)); clear hK hKP K KP))))
  ((try simp only [go_sem, loadL_a]); first | refine guardC_q0 (fun _ => callV_pure (has_pure f hf node n) ⟨rfl, rfl⟩) ?_ | refine callV_pure (has_pure f hf node n) ?_)
  ((try simp only [go_sem, h13, h23, h3, lf, lt, ld]); (try ((first | refine hK _ _ ?_ | refine hKP _ _ _ ?_ | refine hKP _ _ (fun _ => ?_)); clear hK hKP K KP)); repeat (first | refine Stp.s ?_ | refine inBlock_exit' (by decide) ?_ | ((first | refine vc_region fun K KP hK hKP => ?_ | refine Stg.s ?_ | refine guardD_ret0 ?_ | refine exV_intro _ rfl ?_); (try simp only [go_sem, h13, h23, h3, lf, lt, ld]); try ((first | refine hK _ _ ?_ | refine hKP _ _ _ ?_ | refine hKP _ _ (fun _ => ?_)); clear hK hKP K KP))))
  (simp only [postV, resV, oneOf, List.getD_cons_succ, List.getD_cons_zero, and_true, true_and])
  exact Ends.le rfl hle
end Go.Proofs.YtociliegljoldaaGreat
