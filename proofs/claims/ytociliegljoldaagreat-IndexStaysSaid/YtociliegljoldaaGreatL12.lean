/- truglaw10.IndexStays returns true for every input and leaves its arguments as they were: no condition. -/
import Derived.Test.YtociliegljoldaaGreatLb
import Derived.Test.YtociliegljoldaaGreatRL
import Derived.Test.YtociliegljoldaaGreatJ12
namespace Go.Proofs.YtociliegljoldaaGreat
set_option linter.unusedSimpArgs false
set_option linter.unusedVariables false
open Go.Proofs Go.ChangeShapes Go.WideShapes Go.ChangeAt Go.RowKit
attribute [local irreducible] vc vcOps vcDraw vcK vcKP vcDK vcDB HWp HCalls postV Ex.then Ex.inBlock stepD callV appendV guardC guardD exV effV opV loadV storeV indexAddrV indexV sliceV
set_option maxRecDepth 100000
set_option maxHeartbeats 4000000

section
variable {H : Type} {enc : TypeId × Value → H} {W : World}
theorem arg_labs {base : Nat} {v : Value} {d : DataW H} {ps : List MemPlace} (hval : Value.okWide Tryz.prog W .any base 102 v) (h : DataW.Trod enc Tryz.prog W 0 (fun _ => true) true 102 v d ps) :
    ∃ l : List LbI, ((∀ a ∈ l, True) ∧ l.length ≤ maxLen) ∧ VR (HeapI W) (.lst 17 (l.map labV)) v :=
  arg_slice labV (fun _ => True) Tryz.underlying102 ce39 (fun l _ => lbCells l.1 l.2.ok) (by decide) (fun cs' h' => by
    obtain ⟨l, h1, h2⟩ := rd_label h'
    exact ⟨⟨l, h1⟩, trivial, h2⟩) hval h
end
theorem indexstays_pure (l : List LbI) : HPure Tryz.prog 11 [.lst 17 (l.map labV)] (BV true) := by
  (refine HPure.of en11 fun σ => ?_); (refine HCalls.of_vc Tryz.func11 rfl ?_; rw [Tryz.ntmps11, Tryz.results11]; simp only [List.length_cons, List.length_nil, Nat.reduceAdd, Nat.reduceSub, List.replicate, List.cons_append, List.nil_append])
  (repeat (first | refine Stp.s ?_ | refine inBlock_exit' (by decide) ?_ | ((first | refine vc_region fun K KP hK hKP => ?_ | refine Stg.s ?_ | refine guardD_ret0 ?_ | refine exV_intro _ rfl ?_); (try simp only [go_sem, loadL_a]); try ((first | refine hK _ _ ?_ | refine hKP _ _ _ ?_ | refine hKP _ _ (fun _ => ?_)); clear hK hKP K KP))))
  refine callV_new en43 (iNew_ok 1 (by decide) σ) (fun b hb => ?_)
  have hx0 := new_IxR (σ := σ) (b := b) 1
  have hle0 := Store.le_set hb (Store.le_refl σ) (k := .cells (ixC (ix0 1) nilS))
  generalize σ.set b _ = σ1 at *
  ((try simp only [go_sem, loadL_a]); (try ((first | refine hK _ _ ?_ | refine hKP _ _ _ ?_ | refine hKP _ _ (fun _ => ?_)); clear hK hKP K KP)); repeat (first | refine Stp.s ?_ | refine inBlock_exit' (by decide) ?_ | ((first | refine vc_region fun K KP hK hKP => ?_ | refine Stg.s ?_ | refine guardD_ret0 ?_ | refine exV_intro _ rfl ?_); (try simp only [go_sem, loadL_a]); try ((first | refine hK _ _ ?_ | refine hKP _ _ _ ?_ | refine hKP _ _ (fun _ => ?_)); clear hK hKP K KP))))
  refine vc_cond rfl (fun hq => by cases hq) (fun _ => ?_)
  (repeat (first | refine Stp.s ?_ | refine inBlock_exit' (by decide) ?_ | ((first | refine vc_region fun K KP hK hKP => ?_ | refine Stg.s ?_ | refine guardD_ret0 ?_ | refine exV_intro _ rfl ?_); (try simp only [go_sem, loadL_a]); try ((first | refine hK _ _ ?_ | refine hKP _ _ _ ?_ | refine hKP _ _ (fun _ => ?_)); clear hK hKP K KP))))
  refine vc_loop (loopV (fun (i : Nat) => [.lst 17 (l.map labV), .top, .top, .ptr b 0, .top, I64 i, .top, .top, .top, .top, .top, .top, .top, .top, .top, .top, .top, .top, .top, .top, .top, .top, .top, .top, .top, .top, .top, .top, .top, .top, .top, .top, .top, .top, .top, .top, .top, .top, .top, .top, .top, .top, .top, .top, .top, .top, .top, .top, .top, .top, .top, .top, .top, .top, .top, .top, .top, .top, .top, .top, .top, .top, .top, .top, .top, .top, .top, .top, .top, .top, .top, .top, .top, .top, .top, .top, .top, .top, .top, .top, .top, .top, .top, .top, .top, .top, .top, .top, .top, .top, .top, .top, .top, .top, .top, .top]) (fun i τ => i ≤ l.length ∧ i ≤ 60 ∧ σ.le τ ∧ ∃ x ob, IxR τ b x ob ∧ x.Good ∧ x.l.length + x.w.length ≤ i ∧ (∀ c, ob = some c → σ c = none)) (fun i _ => 60 - i) 0 (by repeat (first | exact LeEnv.nil | refine LeEnv.same ?_ | refine LeEnv.top ?_)) ⟨Nat.zero_le _, by decide, hle0, ix0 1, none, hx0, good1, Nat.zero_le _, by simp⟩ ?_)
  clear hx0 hle0
  rintro i τ ⟨hi, hi60, hle, x, ob, hx, hg, hsz, hob⟩
  have hxo : x.Ok := ⟨hg.v, by omega, by omega⟩
  (repeat (first | refine Stp.s ?_ | refine inBlock_exit' (by decide) ?_ | ((first | refine vc_region fun K KP hK hKP => ?_ | refine Stg.s ?_ | refine guardD_ret0 ?_ | refine exV_intro _ rfl ?_); (try simp only [go_sem, loadL_a, List.length_map]); try ((first | refine hK _ _ ?_ | refine hKP _ _ _ ?_ | refine hKP _ _ (fun _ => ?_)); clear hK hKP K KP))))
  refine vc_cond rfl (fun hq => ?_) (fun hq => ?_)
  · have hlt : i < l.length ∧ i < 60 := by simp at hq; omega
    obtain ⟨hlt, hlt60⟩ := hlt
    have g0 := eq_true (show (0 : Int) ≤ (i : Int) by omega)
    have g1 := eq_true (show (i : Int) < (l.length : Int) by omega)
    have hgl : (l.map labV).getD i .top = labV l[i] := getD_map labV l i hlt
    generalize l[i] = y at *
    have hlc := lbCells y.1 y.2.ok
    have ly := lbLoad y.1 y.2.ok
    (repeat (first | refine Stp.s ?_ | refine inBlock_exit' (by decide) ?_ | ((first | refine vc_region fun K KP hK hKP => ?_ | refine Stg.s ?_ | refine guardD_ret0 ?_ | refine exV_intro _ rfl ?_); (try simp only [go_sem, loadL_a]); try ((first | refine hK _ _ ?_ | refine hKP _ _ _ ?_ | refine hKP _ _ (fun _ => ?_)); clear hK hKP K KP))))
    ((try simp only [go_sem, loadL_a]); refine callV_quiet en55 ((iVector hx hxo)) ?_)
    ((try simp only [go_sem, loadL_a]); (try ((first | refine hK _ _ ?_ | refine hKP _ _ _ ?_ | refine hKP _ _ (fun _ => ?_)); clear hK hKP K KP)); repeat (first | refine Stp.s ?_ | refine inBlock_exit' (by decide) ?_ | ((first | refine vc_region fun K KP hK hKP => ?_ | refine Stg.s ?_ | refine guardD_ret0 ?_ | refine exV_intro _ rfl ?_); (try simp only [go_sem, loadL_a]); try ((first | refine hK _ _ ?_ | refine hKP _ _ _ ?_ | refine hKP _ _ (fun _ => ?_)); clear hK hKP K KP))))
    ((try simp only [go_sem, loadL_a]); refine callV_quiet en49 ((iEntries hx hxo)) ?_)
    ((try simp only [go_sem, loadL_a, vecV]); (try ((first | refine hK _ _ ?_ | refine hKP _ _ _ ?_ | refine hKP _ _ (fun _ => ?_)); clear hK hKP K KP)); repeat (first | refine Stp.s ?_ | refine inBlock_exit' (by decide) ?_ | ((first | refine vc_region fun K KP hK hKP => ?_ | refine Stg.s ?_ | refine guardD_ret0 ?_ | refine exV_intro _ rfl ?_); (try simp only [go_sem, loadL_a, vecV]); try ((first | refine hK _ _ ?_ | refine hKP _ _ _ ?_ | refine hKP _ _ (fun _ => ?_)); clear hK hKP K KP))))
    intro b6 hb6
    refine ⟨by simp [hg.v], u32_one x.v, by simp [hg.v], ?_⟩
    rw [setL_full _ _ (by simp [hg.v])]
    have q6 := Store.set_same τ b6 (.cells (x.v.map U32))
    have hx1 := hx.set (k := .cells (x.v.map U32)) hb6
    have hle1 := Store.le_trans hle (Store.le_set hb6 (Store.le_refl _) (k := .cells (x.v.map U32)))
    have n6b : b6 ≠ b := fun e => by obtain ⟨xl, q, _⟩ := hx; rw [e, q] at hb6; cases hb6
    have n6o : ob ≠ some b6 := fun e => by obtain ⟨xl, _, hO, _⟩ := hx; exact hO.there e hb6
    clear hx hle hb6
    generalize τ.set b6 _ = τ1 at *
    ((try simp only [go_sem, g0, g1, hgl, labV, Lb.v, ly, Int.toNat_natCast, List.length_map]); (try ((first | refine hK _ _ ?_ | refine hKP _ _ _ ?_ | refine hKP _ _ (fun _ => ?_)); clear hK hKP K KP)); repeat (first | refine Stp.s ?_ | refine inBlock_exit' (by decide) ?_ | ((first | refine vc_region fun K KP hK hKP => ?_ | refine Stg.s ?_ | refine guardD_ret0 ?_ | refine exV_intro _ rfl ?_); (try simp only [go_sem, g0, g1, hgl, labV, Lb.v, ly, Int.toNat_natCast, List.length_map]); try ((first | refine hK _ _ ?_ | refine hKP _ _ _ ?_ | refine hKP _ _ (fun _ => ?_)); clear hK hKP K KP))))
    refine callV_of en45 (iAdd hx1 hg (by omega) y) (fun z σ' q => ?_) (fun z σ' q => by cases q.1)
    obtain ⟨e, ob', hx2, hs2⟩ := q
    cases e
    obtain ⟨n, hn, hst, hfn⟩ := addR_stays x y
    have hgd := addR_good hg y
    generalize addR x y = A at *
    obtain ⟨k, f, x'⟩ := A
    simp only at hn hst hfn hgd hx2
    subst hn
    obtain ⟨hg2, hsz2⟩ := hgd
    have hxo2 : x'.Ok := ⟨hg2.v, by omega, by omega⟩
    have q62 := hs2.keep b6 _ q6 n6b (fun e => n6o e.symm)
    obtain ⟨hle2, hob2⟩ := hs2.frame hle1 hb hob
    clear hx1 q6 hs2 hle1
    ((try simp only [go_sem, loadL_a]); (try ((first | refine hK _ _ ?_ | refine hKP _ _ _ ?_ | refine hKP _ _ (fun _ => ?_)); clear hK hKP K KP)); repeat (first | refine Stp.s ?_ | refine inBlock_exit' (by decide) ?_ | ((first | refine vc_region fun K KP hK hKP => ?_ | refine Stg.s ?_ | refine guardD_ret0 ?_ | refine exV_intro _ rfl ?_); (try simp only [go_sem, loadL_a]); try ((first | refine hK _ _ ?_ | refine hKP _ _ _ ?_ | refine hKP _ _ (fun _ => ?_)); clear hK hKP K KP))))
    ((try simp only [go_sem, loadL_a]); refine callV_quiet en55 ((iVector hx2 hxo2)) ?_)
    ((try simp only [go_sem, loadL_a]); (try ((first | refine hK _ _ ?_ | refine hKP _ _ _ ?_ | refine hKP _ _ (fun _ => ?_)); clear hK hKP K KP)); repeat (first | refine Stp.s ?_ | refine inBlock_exit' (by decide) ?_ | ((first | refine vc_region fun K KP hK hKP => ?_ | refine Stg.s ?_ | refine guardD_ret0 ?_ | refine exV_intro _ rfl ?_); (try simp only [go_sem, loadL_a]); try ((first | refine hK _ _ ?_ | refine hKP _ _ _ ?_ | refine hKP _ _ (fun _ => ?_)); clear hK hKP K KP))))
    ((try simp only [go_sem, loadL_a]); refine callV_quiet en49 ((iEntries hx2 hxo2)) ?_)
    ((try simp only [go_sem, loadL_a, vecV]); (try ((first | refine hK _ _ ?_ | refine hKP _ _ _ ?_ | refine hKP _ _ (fun _ => ?_)); clear hK hKP K KP)); repeat (first | refine Stp.s ?_ | refine inBlock_exit' (by decide) ?_ | ((first | refine vc_region fun K KP hK hKP => ?_ | refine Stg.s ?_ | refine guardD_ret0 ?_ | refine exV_intro _ rfl ?_); (try simp only [go_sem, loadL_a, vecV]); try ((first | refine hK _ _ ?_ | refine hKP _ _ _ ?_ | refine hKP _ _ (fun _ => ?_)); clear hK hKP K KP))))
    intro b10 hb10
    refine ⟨by simp [hg2.v], u32_one x'.v, by simp [hg2.v], ?_⟩
    rw [setL_full _ _ (by simp [hg2.v])]
    have q10 := Store.set_same σ' b10 (.cells (x'.v.map U32))
    have q6 := Store.keep hb10 q62 (.cells (x'.v.map U32))
    have hx3 := hx2.set (k := .cells (x'.v.map U32)) hb10
    have hle3 := Store.le_trans hle2 (Store.le_set hb10 (Store.le_refl _) (k := .cells (x'.v.map U32)))
    clear hx2 hle2 hb10 q62
    generalize σ'.set b10 _ = τ2 at *
    have v6 := fun K => vecLoad x.v hg.v K
    have v10 := fun K => vecLoad x'.v hg2.v K
    have hcov := covers_pure x'.v x.v hg2.v hg.v
    rw [(cov_iff hg2.v).2 hst.v] at hcov
    unfold vecV at hcov
    obtain ⟨ys, hys, hyl⟩ := hst.l
    ((try simp only [go_sem, q6, q10, v6, v10, vecV]); (try ((first | refine hK _ _ ?_ | refine hKP _ _ _ ?_ | refine hKP _ _ (fun _ => ?_)); clear hK hKP K KP)); repeat (first | refine Stp.s ?_ | refine inBlock_exit' (by decide) ?_ | ((first | refine vc_region fun K KP hK hKP => ?_ | refine Stg.s ?_ | refine guardD_ret0 ?_ | refine exV_intro _ rfl ?_); (try simp only [go_sem, q6, q10, v6, v10, vecV]); try ((first | refine hK _ _ ?_ | refine hKP _ _ _ ?_ | refine hKP _ _ (fun _ => ?_)); clear hK hKP K KP))))
    ((try simp only [go_sem, loadL_a]); first | refine callV_pure (hcov) ?_ | refine guardC_q0 (fun _ => callV_pure (hcov) ⟨rfl, rfl⟩) ?_)
    have hlen : ((x'.l.length : Nat) : Int) = ((x.l.length : Nat) : Int) + (n : Int) := by rw [hys, List.length_append, hyl]; omega
    have wadd : IntKind.i64.wrap (((x.l.length : Nat) : Int) + (n : Int)) = ((x'.l.length : Nat) : Int) := by rw [← hlen, i64_in (by omega) (by omega)]
    have hfb : (f != 0 && ((n : Int) != 0)) = false := by
      by_cases h0 : f = 0
      · rw [h0]; rfl
      · rw [hfn h0]; simp
    have hA12 := allEq12 x'.v x.v hg2.v hg.v
    have hE : (((n : Int) == 0) && !decide (x'.v = x.v)) = false := by
      by_cases h0 : n = 0
      · rw [hst.z h0]; simp
      · have : (((n : Nat) : Int) == 0) = false := by rw [beq_eq_false_iff_ne]; omega
        rw [this]; rfl
    ((try simp only [go_sem, q6, q10, v6, v10, vecV, List.length_map, wadd, bne_self_eq_false, hfb, hA12, hE]); (try ((first | refine hK _ _ ?_ | refine hKP _ _ _ ?_ | refine hKP _ _ (fun _ => ?_)); clear hK hKP K KP)); repeat (first | refine Stp.s ?_ | refine inBlock_exit' (by decide) ?_ | ((first | refine vc_region fun K KP hK hKP => ?_ | refine Stg.s ?_ | refine guardD_ret0 ?_ | refine exV_intro _ rfl ?_); (try simp only [go_sem, q6, q10, v6, v10, vecV, List.length_map, wadd, bne_self_eq_false, hfb, hA12, hE]); try ((first | refine hK _ _ ?_ | refine hKP _ _ _ ?_ | refine hKP _ _ (fun _ => ?_)); clear hK hKP K KP))))
    refine vc_cond rfl (fun hq => ?_) (fun _ => ?_)
    · cases hq
    (repeat (first | refine Stp.s ?_ | refine inBlock_exit' (by decide) ?_ | ((first | refine vc_region fun K KP hK hKP => ?_ | refine Stg.s ?_ | refine guardD_ret0 ?_ | refine exV_intro _ rfl ?_); (try simp only [go_sem, loadL_a]); try ((first | refine hK _ _ ?_ | refine hKP _ _ _ ?_ | refine hKP _ _ (fun _ => ?_)); clear hK hKP K KP))))
    refine vc_loop (loopV (fun (k : Nat) => [.lst 17 (l.map labV), .top, .top, .ptr b 0, .top, I64 i, .top, .lst 3 (x.l.map entV), .top, .top, .top, .lst 3 (x'.l.map entV), I64 k, .top, .top, .top, .top, .top, .top, .top, .top, .top, .top, .top, .top, .top, .top, .top, .top, .top, .top, .top, .top, .top, .top, .top, .top, .top, .top, .top, .top, .top, .top, .top, .top, .top, .top, .top, .top, .top, .top, .top, .top, .top, .top, .top, .top, .top, .top, .top, .top, .top, .top, .top, .top, .top, .top, .top, .top, .top, .top, .top, .top, .top, .top, .top, .top, .top, .top, .top, .top, .top, .top, .top, .top, .top, .top, .top, .top, .top, .top, .top, .top, .top, .top, .top]) (fun k υ => k ≤ x.l.length ∧ υ = τ2) (fun k _ => x.l.length - k) 0 (by repeat (first | exact LeEnv.nil | refine LeEnv.same ?_ | refine LeEnv.top ?_)) ⟨Nat.zero_le _, rfl⟩ ?_)
    rintro k υ ⟨hk, rfl⟩
    (repeat (first | refine Stp.s ?_ | refine inBlock_exit' (by decide) ?_ | ((first | refine vc_region fun K KP hK hKP => ?_ | refine Stg.s ?_ | refine guardD_ret0 ?_ | refine exV_intro _ rfl ?_); (try simp only [go_sem, loadL_a, List.length_map]); try ((first | refine hK _ _ ?_ | refine hKP _ _ _ ?_ | refine hKP _ _ (fun _ => ?_)); clear hK hKP K KP))))
    refine vc_cond rfl (fun hq => ?_) (fun hq => ?_)
    · have hlk : k < x.l.length := by simpa using hq
      have hlk2 : k < x'.l.length := by rw [hys, List.length_append]; omega
      have g2 := eq_true (show (0 : Int) ≤ (k : Int) by omega)
      have g3 := eq_true (show (k : Int) < (x.l.length : Int) by omega)
      have g4 := eq_true (show (k : Int) < (x'.l.length : Int) by omega)
      have m1 : (x.l.map entV).getD k .top = entV x.l[k] := getD_map entV x.l k hlk
      have m2 : (x'.l.map entV).getD k .top = entV x.l[k] := by
        rw [getD_map entV x'.l k hlk2]
        congr 1
        simp only [hys]
        rw [List.getElem_append_left hlk]
      generalize x.l[k] = e at *
      have ldE : ∀ K : V → Prop, loadL Tryz.prog 118 (entC e) 0 K = K (entV e) := fun K => by rw [loadL_a kd118, ce118]; simp [entC, entV]
      ((repeat first | refine Stp.s ?_ | refine inBlock_exit' (by decide) ?_); refine vc_draw mixed [] [0, 1, 2, 3, 4, 5, 6, 7, 8] [0, 1, 2, 3, 4, 5, 6, 7, 8] [] (fun _ => True) (by kernel_rfl) (by kernel_rfl) (by kernel_rfl) trivial fun K KP hK hKP => ?_; simp only [go_sem, g2, g3, g4, m1, m2, Int.toNat_natCast, List.length_map, ldE]; try (refine hK _ _ ?_; clear hK hKP K KP))
      have hee : allEq [0, 0, 0] (entC e) (entC e) = some true := by simp [entC, allEq, eqPrimV]
      refine exV_intro (BV false) (by rw [hee]; rfl) ?_
      ((try simp only [go_sem, loadL_a]); (try ((first | refine hK _ _ ?_ | refine hKP _ _ _ ?_ | refine hKP _ _ (fun _ => ?_)); clear hK hKP K KP)); repeat (first | refine Stp.s ?_ | refine inBlock_exit' (by decide) ?_ | ((first | refine vc_region fun K KP hK hKP => ?_ | refine Stg.s ?_ | refine guardD_ret0 ?_ | refine exV_intro _ rfl ?_); (try simp only [go_sem, loadL_a]); try ((first | refine hK _ _ ?_ | refine hKP _ _ _ ?_ | refine hKP _ _ (fun _ => ?_)); clear hK hKP K KP))))
      refine vc_cond rfl (fun hq => by cases hq) (fun _ => ?_)
      (repeat (first | refine Stp.s ?_ | refine inBlock_exit' (by decide) ?_ | ((first | refine vc_region fun K KP hK hKP => ?_ | refine Stg.s ?_ | refine guardD_ret0 ?_ | refine exV_intro _ rfl ?_); (try simp only [go_sem, loadL_a, i64_up (show k ≤ 10000000 by omega)]); try ((first | refine hK _ _ ?_ | refine hKP _ _ _ ?_ | refine hKP _ _ (fun _ => ?_)); clear hK hKP K KP))))
      exact ⟨k + 1, _, (by repeat (first | exact LeEnv.nil | refine LeEnv.same ?_ | refine LeEnv.top ?_)), Store.le_refl _, ⟨hlk, rfl⟩, by show x.l.length - (k + 1) < x.l.length - k; omega⟩
    · (repeat (first | refine Stp.s ?_ | refine inBlock_exit' (by decide) ?_ | ((first | refine vc_region fun K KP hK hKP => ?_ | refine Stg.s ?_ | refine guardD_ret0 ?_ | refine exV_intro _ rfl ?_); (try simp only [go_sem, loadL_a, i64_up (show i ≤ 10000000 by omega)]); try ((first | refine hK _ _ ?_ | refine hKP _ _ _ ?_ | refine hKP _ _ (fun _ => ?_)); clear hK hKP K KP))))
      exact ⟨i + 1, _, (by repeat (first | exact LeEnv.nil | refine LeEnv.same ?_ | refine LeEnv.top ?_)), Store.le_refl _, ⟨hlt, by omega, hle3, x', ob', hx3, hg2, by omega, hob2⟩, by omega⟩
  · (repeat (first | refine Stp.s ?_ | refine inBlock_exit' (by decide) ?_ | ((first | refine vc_region fun K KP hK hKP => ?_ | refine Stg.s ?_ | refine guardD_ret0 ?_ | refine exV_intro _ rfl ?_); (try simp only [go_sem, loadL_a]); try ((first | refine hK _ _ ?_ | refine hKP _ _ _ ?_ | refine hKP _ _ (fun _ => ?_)); clear hK hKP K KP))))
    ((try simp only [go_sem, loadL_a]); first | refine callV_pure (alive10) ?_ | refine guardC_q0 (fun _ => callV_pure (alive10) ⟨rfl, rfl⟩) ?_)
    ((try simp only [go_sem, loadL_a]); (try ((first | refine hK _ _ ?_ | refine hKP _ _ _ ?_ | refine hKP _ _ (fun _ => ?_)); clear hK hKP K KP)); repeat (first | refine Stp.s ?_ | refine inBlock_exit' (by decide) ?_ | ((first | refine vc_region fun K KP hK hKP => ?_ | refine Stg.s ?_ | refine guardD_ret0 ?_ | refine exV_intro _ rfl ?_); (try simp only [go_sem, loadL_a]); try ((first | refine hK _ _ ?_ | refine hKP _ _ _ ?_ | refine hKP _ _ (fun _ => ?_)); clear hK hKP K KP))))
    (simp only [postV, resV, oneOf, List.getD_cons_succ, List.getD_cons_zero, and_true, true_and])
    exact Ends.le rfl hle
theorem indexstays_lifted (os : Os) (started : os.Started) (H : Type) (enc : TypeId × Value → H) :
    ReturnsInHanded {} Tryz.checked os 11 .any (Rows.indexStaysSpec.pre6 enc Tryz.prog Tryz.f11 Rows.indexStaysRow.domain false) (Rows.indexStaysSpec.post enc Tryz.prog Tryz.f11 false true false false) := by
  refine law_lift (C := Tryz.checked) (tb := 4) own_knob started (by kernel_rfl) Tryz.func11 laid_out
    (ChangeSpec.witness6 (enc := enc) (C := Tryz.checked) false ⟨#[], #[.slice none 0 0], []⟩ 8 (by kernel_rfl) (by kernel_rfl) (by kernel_rfl) (by kernel_rfl))
    rfl rfl Tryz.underlying4 (by kernel_rfl) (fun ds hd => ?_) ?_
  · rcases ds with _ | ⟨a0, ds⟩
    · cases hd
    rcases ds with _ | ⟨b, ds⟩
    · rfl
    · cases hd
  · intro W base args ds ps hval0 hA0
    have hval : ∀ (j : Nat) t v, Tryz.f11.params[j]? = some t → args[j]? = some v → Value.okWide Tryz.prog W .any base t v := hval0
    have hA : DataW.TrodAll enc Tryz.prog W 0 (fun _ => true) true Tryz.f11.params.toList args.toList ds ps := hA0
    rw [Tryz.params11] at hA hval
    obtain ⟨v0, d0, rfl, rfl, h0⟩ := trodAll_one hA
    obtain ⟨l, hl, l0⟩ := arg_labs (hval 0 102 v0 rfl rfl) h0
    refine ⟨[.lst 17 (l.map labV)], LR.cons (l0) (LR.nil _), ?_⟩
    exact ((indexstays_pure l).2 _).mono fun r σ' q => q.1
theorem indexstays_holds : Rows.IndexStaysSaid :=
  OpenClaim.holds_of_wide 11 Tryz.f11 rfl rfl rfl rfl rfl rfl rfl ⟨rfl, rfl, rfl, rfl, rfl⟩ rfl rfl rfl rfl rfl (by kernel_rfl) Tryz.func11 (by kernel_rfl)
    (of_decide_eq_true (by kernel_rfl)) (by unfold Func.isWrapper; first | (rw [if_pos (by decide +kernel)]; kernel_rfl) | (rw [if_neg (by decide +kernel)]; exact ⟨rfl, rfl⟩))
    (fun os started H enc _ => indexstays_lifted os started H enc)
#print axioms indexstays_holds

end Go.Proofs.YtociliegljoldaaGreat
