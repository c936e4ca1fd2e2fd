/- truglaw21.PeersApart returns true for every input and leaves its arguments as they were: no condition. -/
import Derived.Test.YtbgagffpmdlilaaLb
import Derived.Test.YtbgagffpmdlilaaP12
namespace Go.Proofs.Ytbgagffpmdlilaa
set_option linter.unusedSimpArgs false
set_option linter.unusedVariables false
open Go.Proofs Go.ChangeShapes Go.WideShapes Go.ChangeAt Go.RowKit
attribute [local irreducible] vc vcOps vcDraw vcK vcKP vcDK vcDB HWp HCalls postV Ex.then Ex.inBlock stepD callV appendV guardC guardD exV effV opV loadV storeV indexAddrV indexV sliceV
set_option maxRecDepth 100000
set_option maxHeartbeats 4000000

section
variable {H : Type} {enc : TypeId × Value → H} {W : World}
theorem drop_1 (cs : List Value) (i : Nat) : cs.drop i = (cs.drop i).take 1 ++ cs.drop (i + 1) := by
  conv => lhs; rw [← List.take_append_drop 1 (cs.drop i)]
  rw [List.drop_drop]
theorem rd_op {cs : List Value} (h : Rd enc Try.prog W 67 cs) : ∃ o : O21, True ∧ LR (HeapI W) (opV21 o).cells cs := by
  obtain ⟨h1, h2⟩ := rd_struct Try.underlying67 h
  rw [ce67] at h1
  have f0 : Rd enc Try.prog W 3 ((cs.drop 0).take (Try.prog.cellsOf 3)) := h2 0 _ rfl
  have f1 : Rd enc Try.prog W 3 ((cs.drop 1).take (Try.prog.cellsOf 3)) := h2 1 _ rfl
  have f2 : Rd enc Try.prog W 3 ((cs.drop 2).take (Try.prog.cellsOf 3)) := h2 2 _ rfl
  have f3 : Rd enc Try.prog W 4 ((cs.drop 3).take (Try.prog.cellsOf 4)) := h2 3 _ rfl
  rw [ce3] at f0 f1 f2
  rw [ce4] at f3
  obtain ⟨a, ha, _⟩ := rd_int Try.underlying3 f0
  obtain ⟨b, hb, _⟩ := rd_int Try.underlying3 f1
  obtain ⟨c, hc, _⟩ := rd_int Try.underlying3 f2
  obtain ⟨d, hd⟩ := rd_bool Try.underlying4 f3
  refine ⟨⟨a, b, c, d⟩, trivial, ?_⟩
  have e0 := drop_1 cs 0
  have e1 := drop_1 cs 1
  have e2 := drop_1 cs 2
  have e3 : (cs.drop 3).take 1 = cs.drop 3 := List.take_of_length_le (by rw [List.length_drop]; omega)
  rw [ha, List.drop_zero] at e0
  rw [hb] at e1
  rw [hc] at e2
  rw [e3] at hd
  rw [e0, e1, e2, hd]
  exact LR.cons (.val _) (LR.cons (.val _) (LR.cons (.val _) (LR.cons (.val _) (LR.nil _))))
theorem arg_ops {base : Nat} {v : Value} {d : DataW H} {ps : List MemPlace} (hval : Value.okWide Try.prog W .any base 61 v) (h : DataW.Trod enc Try.prog W 0 (fun _ => true) true 61 v d ps) :
    ∃ l : List O21, ((∀ a ∈ l, True) ∧ l.length ≤ maxLen) ∧ VR (HeapI W) (.lst 4 (l.map opV21)) v :=
  arg_slice opV21 (fun _ => True) Try.underlying61 ce67 (fun _ _ => rfl) (by decide) (fun cs' h' => rd_op h') hval h
end
theorem good_srt {n : Int} {s : Subs} (h : ∀ i, Good21 n (s i)) : ∀ i, Srt (s i).2 := fun i => (h i).pe
theorem peersapart_pure (ops : List O21) (x : Int) : HPure Try.prog 5 [.lst 4 (ops.map opV21), I64 x] (BV true) := by
  (refine HPure.of en5 fun σ => ?_); (refine HCalls.of_vc Try.func5 rfl ?_; rw [Try.ntmps5, Try.results5]; simp only [List.length_cons, List.length_nil, Nat.reduceAdd, Nat.reduceSub, List.replicate, List.cons_append, List.nil_append])
  (repeat (first | refine Stp.s ?_ | refine inBlock_exit' (by decide) ?_ | ((first | refine vc_region fun K KP hK hKP => ?_ | refine Stg.s ?_ | refine guardD_ret0 ?_ | refine exV_intro _ rfl ?_); (try simp only [go_sem, loadL_a]); try ((first | refine hK _ _ ?_ | refine hKP _ _ _ ?_ | refine hKP _ _ (fun _ => ?_)); clear hK hKP K KP))))
  refine callV_new en28 (pnew_ok 1 (by decide) σ) (fun b hb => ?_)
  have h0 := Store.set_same σ b (.cells (peC 1 Sub0))
  have hle0 : σ.le (σ.set b (.cells (peC 1 Sub0))) := Store.le_set hb (Store.le_refl σ)
  generalize σ.set b _ = σ1 at *
  ((try simp only [go_sem, loadL_a]); (try ((first | refine hK _ _ ?_ | refine hKP _ _ _ ?_ | refine hKP _ _ (fun _ => ?_)); clear hK hKP K KP)); repeat (first | refine Stp.s ?_ | refine inBlock_exit' (by decide) ?_ | ((first | refine vc_region fun K KP hK hKP => ?_ | refine Stg.s ?_ | refine guardD_ret0 ?_ | refine exV_intro _ rfl ?_); (try simp only [go_sem, loadL_a]); try ((first | refine hK _ _ ?_ | refine hKP _ _ _ ?_ | refine hKP _ _ (fun _ => ?_)); clear hK hKP K KP))))
  refine callV_new en28 (pnew_ok 1 (by decide) σ1) (fun c hc => ?_)
  have hA := Store.keep hc h0 (.cells (peC 1 Sub0))
  have hB := Store.set_same σ1 c (.cells (peC 1 Sub0))
  have hle : σ.le (σ1.set c (.cells (peC 1 Sub0))) := Store.le_set hc hle0
  have hcb : c ≠ b := fun e => by rw [e, h0] at hc; cases hc
  have hcσ : σ c = none := Store.none_of_le hle0 hc
  generalize σ1.set c _ = σ2 at *
  clear h0 hle0 hc
  ((try simp only [go_sem, loadL_a]); (try ((first | refine hK _ _ ?_ | refine hKP _ _ _ ?_ | refine hKP _ _ (fun _ => ?_)); clear hK hKP K KP)); repeat (first | refine Stp.s ?_ | refine inBlock_exit' (by decide) ?_ | ((first | refine vc_region fun K KP hK hKP => ?_ | refine Stg.s ?_ | refine guardD_ret0 ?_ | refine exV_intro _ rfl ?_); (try simp only [go_sem, loadL_a]); try ((first | refine hK _ _ ?_ | refine hKP _ _ _ ?_ | refine hKP _ _ (fun _ => ?_)); clear hK hKP K KP))))
  refine vc_cond rfl (fun hq => by cases hq) (fun _ => ?_)
  (repeat (first | refine Stp.s ?_ | refine inBlock_exit' (by decide) ?_ | ((first | refine vc_region fun K KP hK hKP => ?_ | refine Stg.s ?_ | refine guardD_ret0 ?_ | refine exV_intro _ rfl ?_); (try simp only [go_sem, loadL_a]); try ((first | refine hK _ _ ?_ | refine hKP _ _ _ ?_ | refine hKP _ _ (fun _ => ?_)); clear hK hKP K KP))))
  refine vc_loop (loopV (fun (i : Nat) => [.lst 4 (ops.map opV21), I64 x, .top, .top, BV false, .ptr b 0, I64 0, .ptr c 0, I64 0, I64 i, .top, .top, .top, .top, .top, .top, .top, .top, .top, .top, .top, .top, .top, .top, .top, .top, .top, .top, .top, .top, .top, .top, .top, .top, .top, .top, .top, .top, .top, .top, .top, .top, .top, .top, .top, .top, .top, .top, .top, .top, .top, .top, .top, .top, .top, .top, .top, .top, .top, .top, .top, .top, .top, .top, .top, .top, .top, .top, .top, .top, .top, .top, .top, .top, .top, .top, .top, .top, .top, .top, .top, .top, .top, .top, .top, .top, .top, .top, .top, .top, .top, .top, .top, .top, .top, .top, .top, .top, .top, .top, .top, .top, .top, .top, .top]) (fun i τ => i ≤ ops.length ∧ i ≤ 100 ∧ σ.le τ ∧ ∃ s t, τ b = some (.cells (peC 1 s)) ∧ τ c = some (.cells (peC 1 t)) ∧ (∀ j, Good21 1 (s j)) ∧ (∀ j, Good21 1 (t j)) ∧ Sim x s t) (fun i _ => 100 - i) 0 (by repeat (first | exact LeEnv.nil | refine LeEnv.same ?_ | refine LeEnv.top ?_)) ⟨by omega, by omega, hle, Sub0, Sub0, hA, hB, sub0_good 1, sub0_good 1, fun _ => rfl⟩ ?_)
  rintro i τ ⟨hi, hi60, hl, s, t, hs, ht, gs, gt, hsim⟩
  clear hA hB hle
  (repeat (first | refine Stp.s ?_ | refine inBlock_exit' (by decide) ?_ | ((first | refine vc_region fun K KP hK hKP => ?_ | refine Stg.s ?_ | refine guardD_ret0 ?_ | refine exV_intro _ rfl ?_); (try simp only [go_sem, loadL_a, List.length_map]); try ((first | refine hK _ _ ?_ | refine hKP _ _ _ ?_ | refine hKP _ _ (fun _ => ?_)); clear hK hKP K KP))))
  refine vc_cond rfl (fun hq => ?_) (fun hq => ?_)
  · have hlt : i < ops.length ∧ i < 100 := by simp at hq; omega
    obtain ⟨hlt, hlt60⟩ := hlt
    have g0 := le_eq (show (0 : Int) ≤ i by omega)
    have g1 := lt_eq (show (i : Int) < ops.length by omega)
    have hx : (ops.map opV21).getD i .top = opV21 ops[i] := getD_map opV21 ops i hlt
    generalize ops[i] = o at *
    have hcs : (opV21 o).cells = [I64 o.k, I64 o.s, I64 o.n, BV o.y] := rfl
    have hdo := do21 b τ 1 s hs (by decide) (good_srt gs) o
    have gs2 := opR_good (o := o) gs
    have hs2 := Store.set_same τ b (.cells (peC 1 (opR 1 s o).2))
    have ht2 := (Store.set_other τ (.cells (peC 1 (opR 1 s o).2)) hcb).trans ht
    have hl2 := Store.le_over (k := .cells (peC 1 (opR 1 s o).2)) hb hl
    generalize τ.set b (.cells (peC 1 (opR 1 s o).2)) = τ2 at *
    by_cases hsx : o.s = x
    · have hsb : (o.s == x) = true := by simpa using hsx
      obtain ⟨hv, hsm⟩ := sim_same (n := 1) hsim hsx
      have hdo2 := do21 c τ2 1 t ht2 (by decide) (good_srt gt) o
      have gt2 := opR_good (o := o) gt
      have ht3 := Store.set_same τ2 c (.cells (peC 1 (opR 1 t o).2))
      have hs3 := (Store.set_other τ2 (.cells (peC 1 (opR 1 t o).2)) (Ne.symm hcb)).trans hs2
      have hl3 := Store.le_over (k := .cells (peC 1 (opR 1 t o).2)) hcσ hl2
      rw [← hv] at hdo2
      generalize τ2.set c (.cells (peC 1 (opR 1 t o).2)) = τ3 at *
      (repeat (first | refine Stp.s ?_ | refine inBlock_exit' (by decide) ?_ | ((first | refine vc_region fun K KP hK hKP => ?_ | refine Stg.s ?_ | refine guardD_ret0 ?_ | refine exV_intro _ rfl ?_); (try simp only [go_sem, loadL_a, g0, g1, hx, hcs, Int.toNat_natCast, List.length_map]); try ((first | refine hK _ _ ?_ | refine hKP _ _ _ ?_ | refine hKP _ _ (fun _ => ?_)); clear hK hKP K KP))))
      refine callV_ends en29 hdo ?_
      ((try simp only [go_sem, loadL_a, g0, g1, hx, hcs, hsb, Int.toNat_natCast, List.length_map]); (try ((first | refine hK _ _ ?_ | refine hKP _ _ _ ?_ | refine hKP _ _ (fun _ => ?_)); clear hK hKP K KP)); repeat (first | refine Stp.s ?_ | refine inBlock_exit' (by decide) ?_ | ((first | refine vc_region fun K KP hK hKP => ?_ | refine Stg.s ?_ | refine guardD_ret0 ?_ | refine exV_intro _ rfl ?_); (try simp only [go_sem, loadL_a, g0, g1, hx, hcs, hsb, Int.toNat_natCast, List.length_map]); try ((first | refine hK _ _ ?_ | refine hKP _ _ _ ?_ | refine hKP _ _ (fun _ => ?_)); clear hK hKP K KP))))
      refine callV_ends en29 hdo2 ?_
      ((try simp only [go_sem, loadL_a, bne_self_eq_false]); (try ((first | refine hK _ _ ?_ | refine hKP _ _ _ ?_ | refine hKP _ _ (fun _ => ?_)); clear hK hKP K KP)); repeat (first | refine Stp.s ?_ | refine inBlock_exit' (by decide) ?_ | ((first | refine vc_region fun K KP hK hKP => ?_ | refine Stg.s ?_ | refine guardD_ret0 ?_ | refine exV_intro _ rfl ?_); (try simp only [go_sem, loadL_a, bne_self_eq_false]); try ((first | refine hK _ _ ?_ | refine hKP _ _ _ ?_ | refine hKP _ _ (fun _ => ?_)); clear hK hKP K KP))))
      refine vc_cond rfl (fun hq => by cases hq) (fun _ => ?_)
      (repeat (first | refine Stp.s ?_ | refine inBlock_exit' (by decide) ?_ | ((first | refine vc_region fun K KP hK hKP => ?_ | refine Stg.s ?_ | refine guardD_ret0 ?_ | refine exV_intro _ rfl ?_); (try simp only [go_sem, loadL_a, i64_nsucc (show i < 1000000 by omega)]); try ((first | refine hK _ _ ?_ | refine hKP _ _ _ ?_ | refine hKP _ _ (fun _ => ?_)); clear hK hKP K KP))))
      exact ⟨i + 1, _, (by repeat (first | exact LeEnv.nil | refine LeEnv.same ?_ | refine LeEnv.top ?_)), Store.le_refl _, ⟨hlt, by omega, hl3, _, _, hs3, ht3, gs2, gt2, hsm⟩, by omega⟩
    · have hsb : (o.s == x) = false := by simpa using hsx
      (repeat (first | refine Stp.s ?_ | refine inBlock_exit' (by decide) ?_ | ((first | refine vc_region fun K KP hK hKP => ?_ | refine Stg.s ?_ | refine guardD_ret0 ?_ | refine exV_intro _ rfl ?_); (try simp only [go_sem, loadL_a, g0, g1, hx, hcs, Int.toNat_natCast, List.length_map]); try ((first | refine hK _ _ ?_ | refine hKP _ _ _ ?_ | refine hKP _ _ (fun _ => ?_)); clear hK hKP K KP))))
      refine callV_ends en29 hdo ?_
      ((try simp only [go_sem, loadL_a, g0, g1, hx, hcs, hsb, Int.toNat_natCast, List.length_map]); (try ((first | refine hK _ _ ?_ | refine hKP _ _ _ ?_ | refine hKP _ _ (fun _ => ?_)); clear hK hKP K KP)); repeat (first | refine Stp.s ?_ | refine inBlock_exit' (by decide) ?_ | ((first | refine vc_region fun K KP hK hKP => ?_ | refine Stg.s ?_ | refine guardD_ret0 ?_ | refine exV_intro _ rfl ?_); (try simp only [go_sem, loadL_a, g0, g1, hx, hcs, hsb, Int.toNat_natCast, List.length_map]); try ((first | refine hK _ _ ?_ | refine hKP _ _ _ ?_ | refine hKP _ _ (fun _ => ?_)); clear hK hKP K KP))))
      refine vc_cond rfl (fun hq => by cases hq) (fun _ => ?_)
      (repeat (first | refine Stp.s ?_ | refine inBlock_exit' (by decide) ?_ | ((first | refine vc_region fun K KP hK hKP => ?_ | refine Stg.s ?_ | refine guardD_ret0 ?_ | refine exV_intro _ rfl ?_); (try simp only [go_sem, loadL_a, i64_nsucc (show i < 1000000 by omega)]); try ((first | refine hK _ _ ?_ | refine hKP _ _ _ ?_ | refine hKP _ _ (fun _ => ?_)); clear hK hKP K KP))))
      exact ⟨i + 1, _, (by repeat (first | exact LeEnv.nil | refine LeEnv.same ?_ | refine LeEnv.top ?_)), Store.le_refl _, ⟨hlt, by omega, hl2, _, _, hs2, ht2, gs2, gt, sim_other hsim hsx⟩, by omega⟩
  · have hof : peOf t x = peOf s x := by unfold peOf; split; rename_i e; rw [hsim e]; rfl
    have hst : stOf t x = stOf s x := by unfold stOf; split; rename_i e; rw [hsim e]; rfl
    (repeat (first | refine Stp.s ?_ | refine inBlock_exit' (by decide) ?_ | ((first | refine vc_region fun K KP hK hKP => ?_ | refine Stg.s ?_ | refine guardD_ret0 ?_ | refine exV_intro _ rfl ?_); (try simp only [go_sem, loadL_a]); try ((first | refine hK _ _ ?_ | refine hKP _ _ _ ?_ | refine hKP _ _ (fun _ => ?_)); clear hK hKP K KP))))
    ((try simp only [go_sem, loadL_a]); refine callV_quiet en30 (pOf b τ 1 s hs (by decide) (good_srt gs) x) ?_)
    ((try simp only [go_sem, loadL_a]); (try ((first | refine hK _ _ ?_ | refine hKP _ _ _ ?_ | refine hKP _ _ (fun _ => ?_)); clear hK hKP K KP)); repeat (first | refine Stp.s ?_ | refine inBlock_exit' (by decide) ?_ | ((first | refine vc_region fun K KP hK hKP => ?_ | refine Stg.s ?_ | refine guardD_ret0 ?_ | refine exV_intro _ rfl ?_); (try simp only [go_sem, loadL_a]); try ((first | refine hK _ _ ?_ | refine hKP _ _ _ ?_ | refine hKP _ _ (fun _ => ?_)); clear hK hKP K KP))))
    ((try simp only [go_sem, loadL_a]); refine callV_quiet en30 (pOf c τ 1 t ht (by decide) (good_srt gt) x) ?_)
    rw [hof]
    ((try simp only [go_sem, loadL_a, List.length_map, bne_self_eq_false]); (try ((first | refine hK _ _ ?_ | refine hKP _ _ _ ?_ | refine hKP _ _ (fun _ => ?_)); clear hK hKP K KP)); repeat (first | refine Stp.s ?_ | refine inBlock_exit' (by decide) ?_ | ((first | refine vc_region fun K KP hK hKP => ?_ | refine Stg.s ?_ | refine guardD_ret0 ?_ | refine exV_intro _ rfl ?_); (try simp only [go_sem, loadL_a, List.length_map, bne_self_eq_false]); try ((first | refine hK _ _ ?_ | refine hKP _ _ _ ?_ | refine hKP _ _ (fun _ => ?_)); clear hK hKP K KP))))
    generalize hL : peOf s x = L at *
    have hLl : L.length ≤ 12 := by rw [← hL]; unfold peOf; split; exact (good_srt gs _).len; simp
    ((try simp only [go_sem, loadL_a]); refine callV_quiet en31 (pState b τ 1 s hs (by decide) x) ?_)
    ((try simp only [go_sem, loadL_a]); (try ((first | refine hK _ _ ?_ | refine hKP _ _ _ ?_ | refine hKP _ _ (fun _ => ?_)); clear hK hKP K KP)); repeat (first | refine Stp.s ?_ | refine inBlock_exit' (by decide) ?_ | ((first | refine vc_region fun K KP hK hKP => ?_ | refine Stg.s ?_ | refine guardD_ret0 ?_ | refine exV_intro _ rfl ?_); (try simp only [go_sem, loadL_a]); try ((first | refine hK _ _ ?_ | refine hKP _ _ _ ?_ | refine hKP _ _ (fun _ => ?_)); clear hK hKP K KP))))
    ((try simp only [go_sem, loadL_a]); refine callV_quiet en31 (pState c τ 1 t ht (by decide) x) ?_)
    rw [hst]
    ((try simp only [go_sem, loadL_a, bne_self_eq_false]); (try ((first | refine hK _ _ ?_ | refine hKP _ _ _ ?_ | refine hKP _ _ (fun _ => ?_)); clear hK hKP K KP)); repeat (first | refine Stp.s ?_ | refine inBlock_exit' (by decide) ?_ | ((first | refine vc_region fun K KP hK hKP => ?_ | refine Stg.s ?_ | refine guardD_ret0 ?_ | refine exV_intro _ rfl ?_); (try simp only [go_sem, loadL_a, bne_self_eq_false]); try ((first | refine hK _ _ ?_ | refine hKP _ _ _ ?_ | refine hKP _ _ (fun _ => ?_)); clear hK hKP K KP))))
    refine vc_cond rfl (fun hq => by cases hq) (fun _ => ?_)
    (repeat (first | refine Stp.s ?_ | refine inBlock_exit' (by decide) ?_ | ((first | refine vc_region fun K KP hK hKP => ?_ | refine Stg.s ?_ | refine guardD_ret0 ?_ | refine exV_intro _ rfl ?_); (try simp only [go_sem, loadL_a]); try ((first | refine hK _ _ ?_ | refine hKP _ _ _ ?_ | refine hKP _ _ (fun _ => ?_)); clear hK hKP K KP))))
    refine vc_loop (loopV (fun (k : Nat) => [.lst 4 (ops.map opV21), I64 x, .top, .top, BV false, .ptr b 0, I64 0, .ptr c 0, I64 0, .top, .top, ints L, ints L, I64 k, .top, .top, .top, .top, .top, .top, .top, .top, .top, .top, .top, .top, .top, .top, .top, .top, .top, .top, .top, .top, .top, .top, .top, .top, .top, .top, .top, .top, .top, .top, .top, .top, .top, .top, .top, .top, .top, .top, .top, .top, .top, .top, .top, .top, .top, .top, .top, .top, .top, .top, .top, .top, .top, .top, .top, .top, .top, .top, .top, .top, .top, .top, .top, .top, .top, .top, .top, .top, .top, .top, .top, .top, .top, .top, .top, .top, .top, .top, .top, .top, .top, .top, .top, .top, .top, .top, .top, .top, .top, .top, .top]) (fun k υ => k ≤ L.length ∧ υ = τ) (fun k _ => L.length - k) 0 (by repeat (first | exact LeEnv.nil | refine LeEnv.same ?_ | refine LeEnv.top ?_)) ⟨by omega, rfl⟩ ?_)
    rintro k υ ⟨hk, rfl⟩
    (repeat (first | refine Stp.s ?_ | refine inBlock_exit' (by decide) ?_ | ((first | refine vc_region fun K KP hK hKP => ?_ | refine Stg.s ?_ | refine guardD_ret0 ?_ | refine exV_intro _ rfl ?_); (try simp only [go_sem, loadL_a, List.length_map]); try ((first | refine hK _ _ ?_ | refine hKP _ _ _ ?_ | refine hKP _ _ (fun _ => ?_)); clear hK hKP K KP))))
    refine vc_cond rfl (fun hq => ?_) (fun hq => ?_)
    · have hlk : k < L.length := by simpa using hq
      have g2 := le_eq (show (0 : Int) ≤ k by omega)
      have g3 := lt_eq (show (k : Int) < L.length by omega)
      have hxk : (L.map I64).getD k .top = I64 L[k] := getD_map I64 L k hlk
      (repeat (first | refine Stp.s ?_ | refine inBlock_exit' (by decide) ?_ | ((first | refine vc_region fun K KP hK hKP => ?_ | refine Stg.s ?_ | refine guardD_ret0 ?_ | refine exV_intro _ rfl ?_); (try simp only [go_sem, loadL_a]); try ((first | refine hK _ _ ?_ | refine hKP _ _ _ ?_ | refine hKP _ _ (fun _ => ?_)); clear hK hKP K KP))))
      ((repeat first | refine Stp.s ?_ | refine inBlock_exit' (by decide) ?_); refine vc_draw mixed [ ] [0, 1, 2, 3, 4, 5, 6, 7, 8 ] [ 3, 7 ] [] (fun _ => True) (by kernel_rfl) (by kernel_rfl) (by kernel_rfl) trivial fun K KP hK hKP => ?_; simp only [go_sem, loadL_a, g2, g3, hxk, Int.toNat_natCast, List.length_map, bne_self_eq_false]; try (refine hK _ _ ?_; clear hK hKP K KP))
      ((try simp only [go_sem, loadL_a, g2, g3, hxk, Int.toNat_natCast, List.length_map, bne_self_eq_false]); (try ((first | refine hK _ _ ?_ | refine hKP _ _ _ ?_ | refine hKP _ _ (fun _ => ?_)); clear hK hKP K KP)); repeat (first | refine Stp.s ?_ | refine inBlock_exit' (by decide) ?_ | ((first | refine vc_region fun K KP hK hKP => ?_ | refine Stg.s ?_ | refine guardD_ret0 ?_ | refine exV_intro _ rfl ?_); (try simp only [go_sem, loadL_a, g2, g3, hxk, Int.toNat_natCast, List.length_map, bne_self_eq_false]); try ((first | refine hK _ _ ?_ | refine hKP _ _ _ ?_ | refine hKP _ _ (fun _ => ?_)); clear hK hKP K KP))))
      refine vc_cond rfl (fun hq => by cases hq) (fun _ => ?_)
      (repeat (first | refine Stp.s ?_ | refine inBlock_exit' (by decide) ?_ | ((first | refine vc_region fun K KP hK hKP => ?_ | refine Stg.s ?_ | refine guardD_ret0 ?_ | refine exV_intro _ rfl ?_); (try simp only [go_sem, loadL_a, i64_nsucc (show k < 1000000 by omega)]); try ((first | refine hK _ _ ?_ | refine hKP _ _ _ ?_ | refine hKP _ _ (fun _ => ?_)); clear hK hKP K KP))))
      exact ⟨k + 1, _, (by repeat (first | exact LeEnv.nil | refine LeEnv.same ?_ | refine LeEnv.top ?_)), Store.le_refl _, ⟨hlk, rfl⟩, by omega⟩
    · (repeat (first | refine Stp.s ?_ | refine inBlock_exit' (by decide) ?_ | ((first | refine vc_region fun K KP hK hKP => ?_ | refine Stg.s ?_ | refine guardD_ret0 ?_ | refine exV_intro _ rfl ?_); (try simp only [go_sem, loadL_a]); try ((first | refine hK _ _ ?_ | refine hKP _ _ _ ?_ | refine hKP _ _ (fun _ => ?_)); clear hK hKP K KP))))
      ((try simp only [go_sem, loadL_a]); first | refine callV_pure (alive21) ?_ | refine guardC_q0 (fun _ => callV_pure (alive21) ⟨rfl, rfl⟩) ?_)
      ((try simp only [go_sem, loadL_a]); (try ((first | refine hK _ _ ?_ | refine hKP _ _ _ ?_ | refine hKP _ _ (fun _ => ?_)); clear hK hKP K KP)); repeat (first | refine Stp.s ?_ | refine inBlock_exit' (by decide) ?_ | ((first | refine vc_region fun K KP hK hKP => ?_ | refine Stg.s ?_ | refine guardD_ret0 ?_ | refine exV_intro _ rfl ?_); (try simp only [go_sem, loadL_a]); try ((first | refine hK _ _ ?_ | refine hKP _ _ _ ?_ | refine hKP _ _ (fun _ => ?_)); clear hK hKP K KP))))
      (simp only [postV, resV, oneOf, List.getD_cons_succ, List.getD_cons_zero, and_true, true_and])
      exact Ends.le rfl hl
theorem peersapart_lifted (os : Os) (started : os.Started) (H : Type) (enc : TypeId × Value → H) :
    ReturnsInHanded {} Try.checked os 5 .any (Rows.peersApartSpec.pre6 enc Try.prog Try.f5 Rows.peersApartRow.domain false) (Rows.peersApartSpec.post enc Try.prog Try.f5 false true false false) := by
  refine law_lift (C := Try.checked) (tb := 4) own_knob started (by kernel_rfl) Try.func5 laid_out
    (ChangeSpec.witness6 (enc := enc) (C := Try.checked) false ⟨#[], #[.slice none 0 0, .int .i64 0], []⟩ 8 (by kernel_rfl) (by kernel_rfl) (by kernel_rfl) (by kernel_rfl))
    rfl rfl Try.underlying4 (by kernel_rfl) (fun ds hd => ?_) ?_
  · rcases ds with _ | ⟨a0, ds⟩
    · cases hd
    rcases ds with _ | ⟨a1, ds⟩
    · cases hd
    rcases ds with _ | ⟨b, ds⟩
    · rfl
    · cases hd
  · intro W base args ds ps hval0 hA0
    have hval : ∀ (j : Nat) t v, Try.f5.params[j]? = some t → args[j]? = some v → Value.okWide Try.prog W .any base t v := hval0
    have hA : DataW.TrodAll enc Try.prog W 0 (fun _ => true) true Try.f5.params.toList args.toList ds ps := hA0
    rw [Try.params5] at hA hval
    obtain ⟨v0, v1, d0, d1, p0, p1, rfl, rfl, rfl, h0, h1⟩ := trodAll_two hA
    obtain ⟨ops, hops, l0⟩ := arg_ops (hval 0 61 v0 rfl rfl) h0
    obtain ⟨x, rfl, hx⟩ := arg_int Try.underlying3 (hval 1 3 v1 rfl rfl) h1
    refine ⟨[.lst 4 (ops.map opV21), I64 x], LR.cons (l0) (LR.cons (.val _) (LR.nil _)), ?_⟩
    exact ((peersapart_pure ops x).2 _).mono fun r σ' q => q.1
theorem peersapart_holds : Rows.PeersApartSaid :=
  OpenClaim.holds_of_wide 5 Try.f5 rfl rfl rfl rfl rfl rfl rfl ⟨rfl, rfl, rfl, rfl, rfl⟩ rfl rfl rfl rfl rfl (by kernel_rfl) Try.func5 (by kernel_rfl)
    (of_decide_eq_true (by kernel_rfl)) (by unfold Func.isWrapper; first | (rw [if_pos (by decide +kernel)]; kernel_rfl) | (rw [if_neg (by decide +kernel)]; exact ⟨rfl, rfl⟩))
    (fun os started H enc _ => peersapart_lifted os started H enc)
#print axioms peersapart_holds

end Go.Proofs.Ytbgagffpmdlilaa
