/- An index: the sellers. -/
import Derived.Test.YtociliegljoldaaGreatI8
namespace Go.Proofs.YtociliegljoldaaGreat
set_option linter.unusedSimpArgs false
set_option linter.unusedVariables false
open Go.Proofs
attribute [local irreducible] vc vcOps vcDraw vcK vcKP vcDK vcDB HWp HCalls postV Ex.then Ex.inBlock stepD callV appendV guardC guardD exV effV opV loadV storeV indexAddrV indexV sliceV
set_option maxRecDepth 10000
set_option maxHeartbeats 4000000

theorem IRow.nil {σ : Store} : IRow nilS (fun _ => .top) [] σ where
  len K := by skip
              simp only [go_sem, loadL_a]
  ix i hi := absurd hi (by simp)
  ld i hi := absurd hi (by simp)
theorem IRow.bld {σ0 σ : Store} {x : V} {l : List Int} (h : Bld 1 σ0 σ x (l.map I64) l.length) (hl : l.length ≤ 1000000) : ∃ p, IRow x p l σ := by
  by_cases h0 : l.length = 0
  · obtain rfl : l = [] := List.eq_nil_of_length_eq_zero h0
    rcases h with ⟨rfl, _⟩ | ⟨b, cap, spare, _⟩
    · exact ⟨_, IRow.nil⟩
    · rename_i q
      obtain ⟨rfl, _, rfl, _⟩ := q
      exact ⟨_, IRow.sl (Store.set_same _ _ _) hl⟩
  · obtain ⟨b, cap, spare, rfl, hb, _⟩ := h.at_ h0
    exact ⟨_, IRow.sl hb hl⟩
theorem ins_nil (σ : Store) : HQuiet Tryz.prog 211 [nilS, I64 0, I64 0] σ unitV := by
  refine HQuiet.of ?_; (refine HCalls.of_vc Tryz.func211 rfl ?_; rw [Tryz.ntmps211, Tryz.results211]; simp only [List.length_cons, List.length_nil, Nat.reduceAdd, Nat.reduceSub, List.replicate, List.cons_append, List.nil_append])
  have w1 : IntKind.i64.wrap ((0 : Int) + 1) = 1 := by decide
  (repeat (first | refine Stp.s ?_ | refine inBlock_exit' (by decide) ?_ | ((first | refine vc_region fun K KP hK hKP => ?_ | refine Stg.s ?_ | refine guardD_ret0 ?_ | refine exV_intro _ rfl ?_); (try simp only [go_sem, loadL_a, w1]); try ((first | refine hK _ _ ?_ | refine hKP _ _ _ ?_ | refine hKP _ _ (fun _ => ?_)); clear hK hKP K KP))))
  refine vc_loop (loop_once ?_)
  (repeat (first | refine Stp.s ?_ | refine inBlock_exit' (by decide) ?_ | ((first | refine vc_region fun K KP hK hKP => ?_ | refine Stg.s ?_ | refine guardD_ret0 ?_ | refine exV_intro _ rfl ?_); (try simp only [go_sem, loadL_a]); try ((first | refine hK _ _ ?_ | refine hKP _ _ _ ?_ | refine hKP _ _ (fun _ => ?_)); clear hK hKP K KP))))
  refine vc_cond rfl (fun hc => absurd hc (by decide)) (fun _ => ?_)
  (repeat (first | refine Stp.s ?_ | refine inBlock_exit' (by decide) ?_ | ((first | refine vc_region fun K KP hK hKP => ?_ | refine Stg.s ?_ | refine guardD_ret0 ?_ | refine exV_intro _ rfl ?_); (try simp only [go_sem, loadL_a]); try ((first | refine hK _ _ ?_ | refine hKP _ _ _ ?_ | refine hKP _ _ (fun _ => ?_)); clear hK hKP K KP))))
  (simp only [postV, resV, oneOf, List.getD_cons_succ, List.getD_cons_zero, and_true, true_and])
  exact Ends.le rfl (Store.le_refl _)
theorem pdq_nil (σ : Store) (v : Int) : HQuiet Tryz.prog 172 [nilS, I64 0, I64 0, I64 v] σ unitV := by
  refine HQuiet.of ?_; (refine HCalls.of_vc Tryz.func172 rfl ?_; rw [Tryz.ntmps172, Tryz.results172]; simp only [List.length_cons, List.length_nil, Nat.reduceAdd, Nat.reduceSub, List.replicate, List.cons_append, List.nil_append])
  (repeat (first | refine Stp.s ?_ | refine inBlock_exit' (by decide) ?_ | ((first | refine vc_region fun K KP hK hKP => ?_ | refine Stg.s ?_ | refine guardD_ret0 ?_ | refine exV_intro _ rfl ?_); (try simp only [go_sem, loadL_a]); try ((first | refine hK _ _ ?_ | refine hKP _ _ _ ?_ | refine hKP _ _ (fun _ => ?_)); clear hK hKP K KP))))
  refine vc_loop (loop_once ?_)
  have hw : IntKind.i64.wrap ((0 : Int) - 0) = 0 := by decide
  (repeat (first | refine Stp.s ?_ | refine inBlock_exit' (by decide) ?_ | ((first | refine vc_region fun K KP hK hKP => ?_ | refine Stg.s ?_ | refine guardD_ret0 ?_ | refine exV_intro _ rfl ?_); (try simp only [go_sem, loadL_a, hw]); try ((first | refine hK _ _ ?_ | refine hKP _ _ _ ?_ | refine hKP _ _ (fun _ => ?_)); clear hK hKP K KP))))
  refine vc_cond rfl (fun _ => ?_) (fun hc => absurd hc (by decide))
  (repeat (first | refine Stp.s ?_ | refine inBlock_exit' (by decide) ?_ | ((first | refine vc_region fun K KP hK hKP => ?_ | refine Stg.s ?_ | refine guardD_ret0 ?_ | refine exV_intro _ rfl ?_); (try simp only [go_sem, loadL_a]); try ((first | refine hK _ _ ?_ | refine hKP _ _ _ ?_ | refine hKP _ _ (fun _ => ?_)); clear hK hKP K KP))))
  ((try simp only [go_sem, loadL_a]); refine callV_quiet en211 ((ins_nil _)) ?_)
  ((try simp only [go_sem, loadL_a]); (try ((first | refine hK _ _ ?_ | refine hKP _ _ _ ?_ | refine hKP _ _ (fun _ => ?_)); clear hK hKP K KP)); repeat (first | refine Stp.s ?_ | refine inBlock_exit' (by decide) ?_ | ((first | refine vc_region fun K KP hK hKP => ?_ | refine Stg.s ?_ | refine guardD_ret0 ?_ | refine exV_intro _ rfl ?_); (try simp only [go_sem, loadL_a]); try ((first | refine hK _ _ ?_ | refine hKP _ _ _ ?_ | refine hKP _ _ (fun _ => ?_)); clear hK hKP K KP))))
  (simp only [postV, resV, oneOf, List.getD_cons_succ, List.getD_cons_zero, and_true, true_and])
  exact Ends.le rfl (Store.le_refl _)
theorem sort_nil (σ : Store) : HQuiet Tryz.prog 115 [nilS] σ unitV := by
  refine HQuiet.of ?_; (refine HCalls.of_vc Tryz.func115 rfl ?_; rw [Tryz.ntmps115, Tryz.results115]; simp only [List.length_cons, List.length_nil, Nat.reduceAdd, Nat.reduceSub, List.replicate, List.cons_append, List.nil_append])
  have hw : IntKind.u64.wrap ((0 : Nat) : Int) = ((0 : Nat) : Int) := by decide
  (repeat (first | refine Stp.s ?_ | refine inBlock_exit' (by decide) ?_ | ((first | refine vc_region fun K KP hK hKP => ?_ | refine Stg.s ?_ | refine guardD_ret0 ?_ | refine exV_intro _ rfl ?_); (try simp only [go_sem, loadL_a, hw]); try ((first | refine hK _ _ ?_ | refine hKP _ _ _ ?_ | refine hKP _ _ (fun _ => ?_)); clear hK hKP K KP))))
  refine callV_of en158 (len 0 (by decide) σ) (fun x σ' ⟨v, e, es⟩ => ?_) (fun x σ' ⟨v, e, es⟩ => by cases e)
  cases e; rw [es]; clear es
  ((try simp only [go_sem, loadL_a]); (try ((first | refine hK _ _ ?_ | refine hKP _ _ _ ?_ | refine hKP _ _ (fun _ => ?_)); clear hK hKP K KP)); repeat (first | refine Stp.s ?_ | refine inBlock_exit' (by decide) ?_ | ((first | refine vc_region fun K KP hK hKP => ?_ | refine Stg.s ?_ | refine guardD_ret0 ?_ | refine exV_intro _ rfl ?_); (try simp only [go_sem, loadL_a]); try ((first | refine hK _ _ ?_ | refine hKP _ _ _ ?_ | refine hKP _ _ (fun _ => ?_)); clear hK hKP K KP))))
  ((try simp only [go_sem, loadL_a]); refine callV_quiet en172 ((pdq_nil _ v)) ?_)
  ((try simp only [go_sem, loadL_a]); (try ((first | refine hK _ _ ?_ | refine hKP _ _ _ ?_ | refine hKP _ _ (fun _ => ?_)); clear hK hKP K KP)); repeat (first | refine Stp.s ?_ | refine inBlock_exit' (by decide) ?_ | ((first | refine vc_region fun K KP hK hKP => ?_ | refine Stg.s ?_ | refine guardD_ret0 ?_ | refine exV_intro _ rfl ?_); (try simp only [go_sem, loadL_a]); try ((first | refine hK _ _ ?_ | refine hKP _ _ _ ?_ | refine hKP _ _ (fun _ => ?_)); clear hK hKP K KP))))
  (simp only [postV, resV, oneOf, List.getD_cons_succ, List.getD_cons_zero, and_true, true_and])
  exact Ends.le rfl (Store.le_refl _)
def leI (a b : Int) : Bool := decide (a ≤ b)
def srtI (l : List Int) : List Int := l.mergeSort leI
theorem srtI_perm (l : List Int) : (srtI l).Perm l := List.mergeSort_perm l leI
theorem srtI_eq {l m : List Int} (hp : m.Perm l) (hs : ∀ p q, p < q → q < l.length → m.getD p 0 ≤ m.getD q 0) : m = srtI l := by
  refine List.Perm.eq_of_pairwise (le := fun a b => a ≤ b) (fun a b _ _ h1 h2 => Int.le_antisymm h1 h2) ?_ ?_ (hp.trans (srtI_perm l).symm)
  · rw [List.pairwise_iff_getElem]
    intro i j hi hj hij
    have := hs i j hij (by rw [← hp.length_eq]; exact hj)
    rw [List.getD_eq_getElem?_getD, List.getD_eq_getElem?_getD, List.getElem?_eq_getElem hi, List.getElem?_eq_getElem hj] at this
    exact this
  · exact (List.pairwise_mergeSort (le := leI) (fun a b c h1 h2 => by simp only [leI, decide_eq_true_eq] at *; omega) (fun a b => by simp only [leI, Bool.or_eq_true, decide_eq_true_eq]; omega) l).imp (fun h => by simpa [leI] using h)
theorem sort_bld {σ0 σ : Store} {x : V} {l : List Int} (h : Bld 1 σ0 σ x (l.map I64) l.length) (hl : l.length ≤ 12) :
    HCalls Tryz.prog 115 [x] σ fun r σ' => r = .ret unitV ∧ Bld 1 σ0 σ' x ((srtI l).map I64) (srtI l).length := by
  rcases h with ⟨rfl, h0, h1, rfl⟩ | ⟨b, cap, spare, rfl, hb0, rfl, hcl, hsl, hnc, hcm⟩
  · obtain rfl : l = [] := List.eq_nil_of_length_eq_zero h0
    refine (sort_nil σ).mono fun r σ' ⟨e, es⟩ => ⟨e, ?_⟩
    rw [es]
    have : srtI [] = [] := List.perm_nil.1 (srtI_perm [])
    rw [this]; exact Bld.nil 1 σ
  · refine (sort b cap l spare _ (Store.set_same _ _ _) hl).mono fun r σ' ⟨l', e, hp, hs, es⟩ => ⟨e, ?_⟩
    rw [es, Store.set_set, ← srtI_eq hp hs]
    rw [← hp.length_eq] at hcl hsl hnc ⊢
    exact .inr ⟨b, cap, spare, rfl, hb0, rfl, by simp, hsl, hnc, hcm⟩
theorem IxR.le {σ τ : Store} {b : Nat} {x : Ix} {ob : Option Nat} (h : IxR σ b x ob) (hle : σ.le τ) : IxR τ b x ob := by
  obtain ⟨xl, hb, hO, hne⟩ := h
  exact ⟨xl, hle _ _ hb, hO.keep fun c l _ hc => hle _ _ hc, hne⟩
def selStep (f t : List Nat) (out : List Int) (e : Ent) : List Int := if betweenB e.node e.n f t && !(out.any (e.s == ·)) then out ++ [e.s] else out
def selI (f t : List Nat) (l : List Ent) : List Int := l.foldl (selStep f t) []
theorem sel_nd (f t : List Nat) : ∀ (l : List Ent) (out : List Int), out.Nodup → (∀ e ∈ l, 1 ≤ e.s ∧ e.s ≤ 12) → (∀ y ∈ out, 1 ≤ y ∧ y ≤ 12) → (l.foldl (selStep f t) out).Nodup ∧ ∀ y ∈ l.foldl (selStep f t) out, 1 ≤ y ∧ y ≤ 12
  | [], out, h, _, h2 => ⟨h, h2⟩
  | e :: l, out, h, h1, h2 => by
    rw [List.foldl_cons]
    refine sel_nd f t l _ ?_ (fun e he => h1 e (List.mem_cons_of_mem _ he)) ?_
    · unfold selStep
      split
      · rename_i hc
        simp only [Bool.and_eq_true, Bool.not_eq_true', List.any_eq_false, beq_iff_eq] at hc
        rw [List.nodup_append]
        exact ⟨h, by simp, fun a ha b hb => by simp only [List.mem_singleton] at hb; subst hb; exact fun e => hc.2 a ha e.symm⟩
      · exact h
    · unfold selStep
      split
      · intro y hy
        rcases List.mem_append.1 hy with q | q
        · exact h2 y q
        · simp only [List.mem_singleton] at q; subst q; exact h1 e (List.mem_cons_self ..)
      · exact h2
theorem sel_le {x : Ix} (g : x.Good) (f t : List Nat) (i : Nat) : (selI f t (x.l.take i)).length ≤ 12 := by
  have h := sel_nd f t (x.l.take i) [] List.nodup_nil (fun e he => by have := (g.l e (List.mem_of_mem_take he)).2.2; exact this) (by simp)
  exact nodup_le _ nums h.1 fun y hy => by
    have := h.2 y hy
    unfold nums
    simp only [List.mem_cons, List.not_mem_nil, or_false]; omega
theorem iSellers {b : Nat} {σ : Store} {x : Ix} {ob : Option Nat} (h : IxR σ b x ob) (hx : x.Ok) (g : x.Good) (f t : List Nat) (hf : f.length = 12) (ht : t.length = 12) : HQuiet Tryz.prog 53 [.ptr b 0, vecV f, vecV t] σ (ints (srtI (selI f t x.l))) := by
  refine HQuiet.of ?_; (refine HCalls.of_vc Tryz.func53 rfl ?_; rw [Tryz.ntmps53, Tryz.results53]; simp only [List.length_cons, List.length_nil, Nat.reduceAdd, Nat.reduceSub, List.replicate, List.cons_append, List.nil_append])
  (repeat (first | refine Stp.s ?_ | refine inBlock_exit' (by decide) ?_ | ((first | refine vc_region fun K KP hK hKP => ?_ | refine Stg.s ?_ | refine guardD_ret0 ?_ | refine exV_intro _ rfl ?_); (try simp only [go_sem, loadL_a, vecV]); try ((first | refine hK _ _ ?_ | refine hKP _ _ _ ?_ | refine hKP _ _ (fun _ => ?_)); clear hK hKP K KP))))
  intro c4 hc4 c5 hc5
  have q4 := Store.keep hc5 (Store.set_same σ c4 (.cells (f.map U32))) (.cells (t.map U32))
  have q5 := Store.set_same (σ.set c4 (.cells (f.map U32))) c5 (.cells (t.map U32))
  have hle := Store.le_set hc5 (Store.le_set hc4 (Store.le_refl σ) (k := .cells (f.map U32))) (k := .cells (t.map U32))
  generalize (σ.set c4 _).set c5 _ = σ1 at *
  have hx1 := h.le hle
  have hxl := hx.l
  ((try simp only [go_sem, loadL_a]); (try ((first | refine hK _ _ ?_ | refine hKP _ _ _ ?_ | refine hKP _ _ (fun _ => ?_)); clear hK hKP K KP)); repeat (first | refine Stp.s ?_ | refine inBlock_exit' (by decide) ?_ | ((first | refine vc_region fun K KP hK hKP => ?_ | refine Stg.s ?_ | refine guardD_ret0 ?_ | refine exV_intro _ rfl ?_); (try simp only [go_sem, loadL_a]); try ((first | refine hK _ _ ?_ | refine hKP _ _ _ ?_ | refine hKP _ _ (fun _ => ?_)); clear hK hKP K KP))))
  ((try simp only [go_sem, loadL_a]); refine callV_quiet en49 ((iEntries hx1 hx)) ?_)
  ((try simp only [go_sem, loadL_a, List.length_map]); (try ((first | refine hK _ _ ?_ | refine hKP _ _ _ ?_ | refine hKP _ _ (fun _ => ?_)); clear hK hKP K KP)); repeat (first | refine Stp.s ?_ | refine inBlock_exit' (by decide) ?_ | ((first | refine vc_region fun K KP hK hKP => ?_ | refine Stg.s ?_ | refine guardD_ret0 ?_ | refine exV_intro _ rfl ?_); (try simp only [go_sem, loadL_a, List.length_map]); try ((first | refine hK _ _ ?_ | refine hKP _ _ _ ?_ | refine hKP _ _ (fun _ => ?_)); clear hK hKP K KP))))
  refine vc_loop (loopV (fun (a : Nat × V) => [.ptr b 0, .top, .top, .top, .ptr c4 0, .ptr c5 0, nilS, a.2, .top, .top, .top, .lst 3 (x.l.map entV), I64 x.l.length, I64 a.1, .top, .top, .top, .top, .top, .top, .top, .top, .top, .top, .top, .top, .top, .top, .top, .top, .top, .top, .top, .top, .top, .top, .top, .top]) (fun a τ => a.1 ≤ x.l.length ∧ ∃ υ, σ1.le υ ∧ Bld 1 υ τ a.2 ((selI f t (x.l.take a.1)).map I64) (selI f t (x.l.take a.1)).length) (fun a _ => x.l.length - a.1) (0, nilS) (by repeat (first | exact LeEnv.nil | refine LeEnv.same ?_ | refine LeEnv.top ?_)) ⟨Nat.zero_le _, σ1, Store.le_refl _, Bld.nil 1 σ1⟩ ?_)
  rintro ⟨i, y⟩ τ ⟨hi, υ, hυ, hB⟩
  simp only at hi hB
  have hsl := sel_le g f t i
  (repeat (first | refine Stp.s ?_ | refine inBlock_exit' (by decide) ?_ | ((first | refine vc_region fun K KP hK hKP => ?_ | refine Stg.s ?_ | refine guardD_ret0 ?_ | refine exV_intro _ rfl ?_); (try simp only [go_sem, loadL_a]); try ((first | refine hK _ _ ?_ | refine hKP _ _ _ ?_ | refine hKP _ _ (fun _ => ?_)); clear hK hKP K KP))))
  refine vc_cond rfl (fun hq => ?_) (fun hq => ?_)
  · have hlt : i < x.l.length := by simpa using hq
    have hgl : (x.l.map entV).getD i .top = entV x.l[i] := by
      rw [List.getD_eq_getElem?_getD, List.getElem?_map, List.getElem?_eq_getElem hlt]; rfl
    have htk : x.l.take (i + 1) = x.l.take i ++ [x.l[i]] := List.take_succ_eq_append_getElem hlt
    have hstep : selI f t (x.l.take (i + 1)) = selStep f t (selI f t (x.l.take i)) x.l[i] := by rw [htk]; unfold selI; rw [List.foldl_append, List.foldl_cons, List.foldl_nil]
    have g0 := eq_true (show (0 : Int) ≤ (i : Int) by omega)
    have g1 := eq_true (show (i : Int) < (x.l.length : Int) by omega)
    have hsl' := sel_le g f t (i + 1)
    have w1 := i64_up (show i ≤ 10000000 by omega)
    generalize hS' : selI f t (x.l.take (i + 1)) = S' at *
    generalize selI f t (x.l.take i) = S at *
    generalize x.l[i] = e at *
    obtain ⟨nd, nn, se⟩ := e
    have ldE : ∀ K : V → Prop, loadL Tryz.prog 118 (entC ⟨nd, nn, se⟩) 0 K = K (entV ⟨nd, nn, se⟩) := fun K => by rw [loadL_a kd118, ce118]; simp [entC, entV]
    have ldD : ∀ K : V → Prop, loadL Tryz.prog 25 [I64 nd, U32 nn, I64 se] 0 K = K (.agg [I64 nd, U32 nn]) := fun K => by rw [loadL_a kd25, ce25]; simp
    (repeat (first | refine Stp.s ?_ | refine inBlock_exit' (by decide) ?_ | ((first | refine vc_region fun K KP hK hKP => ?_ | refine Stg.s ?_ | refine guardD_ret0 ?_ | refine exV_intro _ rfl ?_); (try simp only [go_sem, g0, g1, hgl, Int.toNat_natCast, List.length_map, ldE]); try ((first | refine hK _ _ ?_ | refine hKP _ _ _ ?_ | refine hKP _ _ (fun _ => ?_)); clear hK hKP K KP))))
    intro b5 hb5
    refine ⟨rfl, fun c hc => by simp only [entC, List.mem_cons, List.not_mem_nil, or_false] at hc; rcases hc with rfl | rfl | rfl <;> rfl, Nat.le_refl 3, ?_⟩
    have e5 : setL [V.val (Value.int IntKind.i64 0), V.val (Value.int IntKind.u32 0), V.val (Value.int IntKind.i64 0)] 0 (entC ⟨nd, nn, se⟩) = [I64 nd, U32 nn, I64 se] := rfl
    rw [e5]
    have hυb : υ b5 = none := Store.none_of_le hB.base hb5
    have hB5 := hB.push (kk := .cells [I64 nd, U32 nn, I64 se]) hb5
    have hυ5 := Store.le_set hυb hυ (k := .cells [I64 nd, U32 nn, I64 se])
    have k5 := hB5.base _ _ (Store.set_same υ b5 (.cells [I64 nd, U32 nn, I64 se]))
    clear hB hυ
    generalize υ.set b5 _ = υ1 at *
    generalize τ.set b5 _ = τ1 at *
    have j4 := hB5.base _ _ (hυ5 _ _ q4)
    have j5 := hB5.base _ _ (hυ5 _ _ q5)
    have bp := between_pure nd nn f t hf ht
    unfold vecV at bp
    have v4 := fun K => vecLoad f hf K
    have v5 := fun K => vecLoad t ht K
    ((try simp only [go_sem, k5, ldD, j4, j5, v4, v5, vecV]); (try ((first | refine hK _ _ ?_ | refine hKP _ _ _ ?_ | refine hKP _ _ (fun _ => ?_)); clear hK hKP K KP)); repeat (first | refine Stp.s ?_ | refine inBlock_exit' (by decide) ?_ | ((first | refine vc_region fun K KP hK hKP => ?_ | refine Stg.s ?_ | refine guardD_ret0 ?_ | refine exV_intro _ rfl ?_); (try simp only [go_sem, k5, ldD, j4, j5, v4, v5, vecV]); try ((first | refine hK _ _ ?_ | refine hKP _ _ _ ?_ | refine hKP _ _ (fun _ => ?_)); clear hK hKP K KP))))
    refine callV_pure bp ?_
    obtain ⟨p, hp⟩ := IRow.bld hB5 (by omega)
    have hy : y = nilS ∨ ∃ b' n' c', y = .sl b' 0 n' c' := by
      rcases hB5 with ⟨q, _⟩ | ⟨b', c', _, q, _⟩
      · exact .inl q
      · exact .inr ⟨b', _, c', q⟩
    rcases hy with rfl | ⟨b', n', c', rfl⟩
    all_goals (
      ((try simp only [go_sem, k5, ldD, j4, j5, v4, v5, vecV]); (try ((first | refine hK _ _ ?_ | refine hKP _ _ _ ?_ | refine hKP _ _ (fun _ => ?_)); clear hK hKP K KP)); repeat (first | refine Stp.s ?_ | refine inBlock_exit' (by decide) ?_ | ((first | refine vc_region fun K KP hK hKP => ?_ | refine Stg.s ?_ | refine guardD_ret0 ?_ | refine exV_intro _ rfl ?_); (try simp only [go_sem, k5, ldD, j4, j5, v4, v5, vecV]); try ((first | refine hK _ _ ?_ | refine hKP _ _ _ ?_ | refine hKP _ _ (fun _ => ?_)); clear hK hKP K KP))))
      ((try simp only [go_sem, loadL_a]); refine guardC_q0 (fun _ => callV_quiet en114 (contains_row _ _ S se (by omega) _ hp) ⟨rfl, rfl⟩) ?_)
      ((try simp only [go_sem, loadL_a]); (try ((first | refine hK _ _ ?_ | refine hKP _ _ _ ?_ | refine hKP _ _ (fun _ => ?_)); clear hK hKP K KP)); repeat (first | refine Stp.s ?_ | refine inBlock_exit' (by decide) ?_ | ((first | refine vc_region fun K KP hK hKP => ?_ | refine Stg.s ?_ | refine guardD_ret0 ?_ | refine exV_intro _ rfl ?_); (try simp only [go_sem, loadL_a]); try ((first | refine hK _ _ ?_ | refine hKP _ _ _ ?_ | refine hKP _ _ (fun _ => ?_)); clear hK hKP K KP))))
      refine vc_cond rfl (fun hq => ?_) (fun hq => ?_)
      · (repeat (first | refine Stp.s ?_ | refine inBlock_exit' (by decide) ?_ | ((first | refine vc_region fun K KP hK hKP => ?_ | refine Stg.s ?_ | refine guardD_ret0 ?_ | refine exV_intro _ rfl ?_); (try simp only [go_sem, k5]); try ((first | refine hK _ _ ?_ | refine hKP _ _ _ ?_ | refine hKP _ _ (fun _ => ?_)); clear hK hKP K KP))))
        intro c hc
        refine append_int hB5 (Store.le_set hc (Store.le_refl _)) (row_lit (Store.set_same _ _ _) rfl rfl) (m := 1) rfl (by simp [V.one]) (by omega) ?_
        intro x' τ' σ' hB' hle' _
        ((try simp only [go_sem, loadL_a, w1]); refine hK _ _ ?_; clear hK hKP K KP; repeat (first | refine Stp.s ?_ | refine inBlock_exit' (by decide) ?_ | ((first | refine vc_region fun K KP hK hKP => ?_ | refine Stg.s ?_ | refine guardD_ret0 ?_ | refine exV_intro _ rfl ?_); (try simp only [go_sem, loadL_a, w1]); try ((first | refine hK _ _ ?_ | refine hKP _ _ _ ?_ | refine hKP _ _ (fun _ => ?_)); clear hK hKP K KP))))
        refine ⟨(i + 1, x'), τ', (by repeat (first | exact LeEnv.nil | refine LeEnv.same ?_ | refine LeEnv.top ?_)), hle', ⟨hlt, υ1, hυ5, ?_⟩, by show x.l.length - (i + 1) < x.l.length - i; omega⟩
        show Bld 1 υ1 τ' x' ((selI f t (x.l.take (i + 1))).map I64) (selI f t (x.l.take (i + 1))).length
        rw [hS', hstep]
        unfold selStep
        rw [if_pos hq, List.map_append, List.length_append]
        exact hB'
      · (repeat (first | refine Stp.s ?_ | refine inBlock_exit' (by decide) ?_ | ((first | refine vc_region fun K KP hK hKP => ?_ | refine Stg.s ?_ | refine guardD_ret0 ?_ | refine exV_intro _ rfl ?_); (try simp only [go_sem, loadL_a, w1]); try ((first | refine hK _ _ ?_ | refine hKP _ _ _ ?_ | refine hKP _ _ (fun _ => ?_)); clear hK hKP K KP))))
        refine ⟨(i + 1, _), τ1, (by repeat (first | exact LeEnv.nil | refine LeEnv.same ?_ | refine LeEnv.top ?_)), Store.le_refl _, ⟨hlt, υ1, hυ5, ?_⟩, by show x.l.length - (i + 1) < x.l.length - i; omega⟩
        show Bld 1 υ1 τ1 _ ((selI f t (x.l.take (i + 1))).map I64) (selI f t (x.l.take (i + 1))).length
        rw [hS', hstep]
        unfold selStep
        rw [if_neg (by rw [hq]; decide)]
        exact hB5)
  · have hin : i = x.l.length := by simp at hq; omega
    subst hin
    rw [List.take_length] at hB hsl
    (repeat (first | refine Stp.s ?_ | refine inBlock_exit' (by decide) ?_ | ((first | refine vc_region fun K KP hK hKP => ?_ | refine Stg.s ?_ | refine guardD_ret0 ?_ | refine exV_intro _ rfl ?_); (try simp only [go_sem, loadL_a]); try ((first | refine hK _ _ ?_ | refine hKP _ _ _ ?_ | refine hKP _ _ (fun _ => ?_)); clear hK hKP K KP))))
    refine callV_of en115 (sort_bld hB hsl) (fun z σ' ⟨e, hB'⟩ => ?_) (fun z σ' ⟨e, _⟩ => by cases e)
    cases e
    ((try simp only [go_sem, loadL_a]); (try ((first | refine hK _ _ ?_ | refine hKP _ _ _ ?_ | refine hKP _ _ (fun _ => ?_)); clear hK hKP K KP)); repeat (first | refine Stp.s ?_ | refine inBlock_exit' (by decide) ?_ | ((first | refine vc_region fun K KP hK hKP => ?_ | refine Stg.s ?_ | refine guardD_ret0 ?_ | refine exV_intro _ rfl ?_); (try simp only [go_sem, loadL_a]); try ((first | refine hK _ _ ?_ | refine hKP _ _ _ ?_ | refine hKP _ _ (fun _ => ?_)); clear hK hKP K KP))))
    (simp only [postV, resV, oneOf, List.getD_cons_succ, List.getD_cons_zero, and_true, true_and])
    exact Ends.mk (Weakens.trans hB'.ints (Weakens.le (Store.le_trans hle hυ)))
end Go.Proofs.YtociliegljoldaaGreat
