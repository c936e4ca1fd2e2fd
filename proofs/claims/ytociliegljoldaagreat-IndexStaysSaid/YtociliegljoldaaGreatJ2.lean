/- An index: the dots. -/
import Derived.Test.YtociliegljoldaaGreatJ1
namespace Go.Proofs.YtociliegljoldaaGreat
set_option linter.unusedSimpArgs false
set_option linter.unusedVariables false
open Go.Proofs
attribute [local irreducible] vc vcOps vcDraw vcK vcKP vcDK vcDB HWp HCalls postV Ex.then Ex.inBlock stepD callV appendV guardC guardD exV effV opV loadV storeV indexAddrV indexV sliceV
set_option maxRecDepth 10000
set_option maxHeartbeats 4000000

/-- append at elements of type clock.Dot, k cells each. -/
theorem append_dot {σ0 τ σ : Store} {x y : V} {cs news : List V} {n m : Nat} {K : V → Store → Prop} (hb : Bld 2 σ0 τ x cs n) (hle : τ.le σ) (hrow : ∀ KK : Nat → List V → Prop, KK m news → rowV 2 y σ KK) (hl : news.length = m * 2) (h1 : ∀ c ∈ news, c.one = true) (hm : n + m ≤ 1000000000)
    (h : ∀ x' τ' σ', Bld 2 σ0 τ' x' (cs ++ news) (n + m) → τ'.le σ' → (∀ b, σ b = none → σ' b ≠ none → ∃ cap', x' = .sl b 0 (n + m) cap') → K x' σ') : appendV Tryz.prog 124 124 x y σ K := by
  have hby : Tryz.prog.bytesOf 25 ≤ 1000 := by rw [show Tryz.prog.bytesOf 25 = 16 from by kernel_rfl]; decide
  refine Bld.append Tryz.underlying124 Tryz.underlying124 (by exact trivial) in25 ce25 (by decide) zl25 hb hle hrow hl h1 (by rw [maxLen_i]; omega) ?_ h
  exact Nat.le_trans (Nat.mul_le_mul hm hby) (by decide)

def leD (a b : Dt) : Bool := decide (keyD a ≤ keyD b)
def srtD (l : List Dt) : List Dt := l.mergeSort leD
theorem srtD_perm (l : List Dt) : (srtD l).Perm l := List.mergeSort_perm l leD
theorem keyD_inj {a b : Dt} (h : keyD a = keyD b) : a = b := by
  obtain ⟨n, k, h1, h2⟩ := a
  obtain ⟨n', k', h3, h4⟩ := b
  unfold keyD at h
  simp only at h
  obtain rfl : k = k' := by omega
  obtain rfl : n = n' := by omega
  rfl
theorem srtD_eq {l m : List Dt} (hp : m.Perm l) (hs : Srtd keyD 0 l.length m) : m = srtD l := by
  refine List.Perm.eq_of_pairwise (le := fun a b => keyD a ≤ keyD b) (fun a b _ _ h1 h2 => keyD_inj (Nat.le_antisymm h1 h2)) ?_ ?_ (hp.trans (srtD_perm l).symm)
  · rw [List.pairwise_iff_getElem]
    intro i j hi hj hij
    have := hs i j (Nat.zero_le _) hij (by rw [← hp.length_eq]; exact hj)
    unfold ky at0 at this
    rw [List.getD_eq_getElem?_getD, List.getD_eq_getElem?_getD, List.getElem?_eq_getElem hi, List.getElem?_eq_getElem hj] at this
    exact this
  · exact (List.pairwise_mergeSort (le := leD) (fun a b c h1 h2 => by simp only [leD, decide_eq_true_eq] at *; omega) (fun a b => by simp only [leD, Bool.or_eq_true, decide_eq_true_eq]; omega) l).imp (fun h => by simpa [leD] using h)
def dtOf (e : Ent) : Dt := if h : 0 ≤ e.node ∧ e.n < 4294967296 then ⟨e.node, e.n, h.1, h.2⟩ else default
def dotQ (s : Int) (f t : List Nat) (e : Ent) : Bool := e.s == s && betweenB e.node e.n f t
def dotI (s : Int) (f t : List Nat) (l : List Ent) : List Dt := (l.filter (dotQ s f t)).map dtOf
theorem encD_len (m : List Dt) : (m.flatMap encD).length = m.length * 2 := by rw [rowE_len eltD]
theorem sortD_bld {σ0 σ : Store} {x : V} {l : List Dt} (h : Bld 2 σ0 σ x (l.flatMap encD) l.length) (hd : DSort l.length) :
    HCalls Tryz.prog 116 [x, .fn (.func 117) [] []] σ fun r σ' => r = .ret unitV ∧ Bld 2 σ0 σ' x ((srtD l).flatMap encD) (srtD l).length := by
  rcases h with ⟨rfl, h0, h1, rfl⟩ | ⟨b, cap, spare, rfl, hb0, rfl, hcl, hsl, hnc, hcm⟩
  · obtain rfl : l = [] := List.eq_nil_of_length_eq_zero h0
    refine (sortD_nil σ _).mono fun r σ' ⟨e, es⟩ => ⟨e, ?_⟩
    rw [es]
    have : srtD [] = [] := List.perm_nil.1 (srtD_perm [])
    rw [this]; exact Bld.nil 2 σ
  · refine (hd b cap l spare _ (Store.set_same _ _ _) rfl).mono fun r σ' ⟨l', e, hp, hs, es⟩ => ⟨e, ?_⟩
    rw [es, Store.set_set, ← srtD_eq hp hs]
    rw [← hp.length_eq] at hcl hsl hnc ⊢
    exact .inr ⟨b, cap, spare, rfl, hb0, rfl, encD_len _, hsl, hnc, hcm⟩
theorem iDots {b : Nat} {σ : Store} {x : Ix} {ob : Option Nat} (h : IxR σ b x ob) (hx : x.Ok) (g : x.Good) (s : Int) (f t : List Nat) (hf : f.length = 12) (ht : t.length = 12) (hd : DSort (dotI s f t x.l).length) :
    HQuiet Tryz.prog 54 [.ptr b 0, I64 s, vecV f, vecV t] σ (.lst 2 ((srtD (dotI s f t x.l)).map fun d => .agg (encD d))) := by
  refine HQuiet.of ?_; (refine HCalls.of_vc Tryz.func54 rfl ?_; rw [Tryz.ntmps54, Tryz.results54]; simp only [List.length_cons, List.length_nil, Nat.reduceAdd, Nat.reduceSub, List.replicate, List.cons_append, List.nil_append])
  (repeat (first | refine Stp.s ?_ | refine inBlock_exit' (by decide) ?_ | ((first | refine vc_region fun K KP hK hKP => ?_ | refine Stg.s ?_ | refine guardD_ret0 ?_ | refine exV_intro _ rfl ?_); (try simp only [go_sem, loadL_a, vecV]); try ((first | refine hK _ _ ?_ | refine hKP _ _ _ ?_ | refine hKP _ _ (fun _ => ?_)); clear hK hKP K KP))))
  intro c4 hc4 c5 hc5
  have q4 := Store.keep hc5 (Store.set_same σ c4 (.cells (f.map U32))) (.cells (t.map U32))
  have q5 := Store.set_same (σ.set c4 (.cells (f.map U32))) c5 (.cells (t.map U32))
  have hle := Store.le_set hc5 (Store.le_set hc4 (Store.le_refl σ) (k := .cells (f.map U32))) (k := .cells (t.map U32))
  generalize (σ.set c4 _).set c5 _ = σ1 at *
  have hx1 := h.le hle
  have hxl := hx.l
  ((try simp only [go_sem, loadL_a]); (try ((first | refine hK _ _ ?_ | refine hKP _ _ _ ?_ | refine hKP _ _ (fun _ => ?_)); clear hK hKP K KP)); repeat (first | refine Stp.s ?_ | refine inBlock_exit' (by decide) ?_ | ((first | refine vc_region fun K KP hK hKP => ?_ | refine Stg.s ?_ | refine guardD_ret0 ?_ | refine exV_intro _ rfl ?_); (try simp only [go_sem, loadL_a]); try ((first | refine hK _ _ ?_ | refine hKP _ _ _ ?_ | refine hKP _ _ (fun _ => ?_)); clear hK hKP K KP))))
  ((try simp only [go_sem, loadL_a]); refine callV_quiet en49 ((iEntries hx1 hx)) ?_)
  ((try simp only [go_sem, loadL_a, List.length_map]); (try ((first | refine hK _ _ ?_ | refine hKP _ _ _ ?_ | refine hKP _ _ (fun _ => ?_)); clear hK hKP K KP)); repeat (first | refine Stp.s ?_ | refine inBlock_exit' (by decide) ?_ | ((first | refine vc_region fun K KP hK hKP => ?_ | refine Stg.s ?_ | refine guardD_ret0 ?_ | refine exV_intro _ rfl ?_); (try simp only [go_sem, loadL_a, List.length_map]); try ((first | refine hK _ _ ?_ | refine hKP _ _ _ ?_ | refine hKP _ _ (fun _ => ?_)); clear hK hKP K KP))))
  refine vc_loop (loopV (fun (a : Nat × V) => [.ptr b 0, I64 s, .top, .top, .top, .top, .ptr c4 0, .ptr c5 0, nilS, a.2, .top, .top, .top, .lst 3 (x.l.map entV), I64 x.l.length, I64 a.1, .top, .top, .top, .top, .top, .top, .top, .top, .top, .top, .top, .top, .top, .top, .top, .top, .top, .top, .top, .top, .top, .top, .top]) (fun a τ => a.1 ≤ x.l.length ∧ ∃ υ, σ1.le υ ∧ Bld 2 υ τ a.2 ((dotI s f t (x.l.take a.1)).flatMap encD) (dotI s f t (x.l.take a.1)).length) (fun a _ => x.l.length - a.1) (0, nilS) (by repeat (first | exact LeEnv.nil | refine LeEnv.same ?_ | refine LeEnv.top ?_)) ⟨Nat.zero_le _, σ1, Store.le_refl _, Bld.nil 2 σ1⟩ ?_)
  rintro ⟨i, y⟩ τ ⟨hi, υ, hυ, hB⟩
  simp only at hi hB
  have hsl : (dotI s f t (x.l.take i)).length ≤ 1000 := by
    unfold dotI
    have := List.length_filter_le (dotQ s f t) (x.l.take i)
    rw [List.length_take] at this
    rw [List.length_map]; omega
  (repeat (first | refine Stp.s ?_ | refine inBlock_exit' (by decide) ?_ | ((first | refine vc_region fun K KP hK hKP => ?_ | refine Stg.s ?_ | refine guardD_ret0 ?_ | refine exV_intro _ rfl ?_); (try simp only [go_sem, loadL_a]); try ((first | refine hK _ _ ?_ | refine hKP _ _ _ ?_ | refine hKP _ _ (fun _ => ?_)); clear hK hKP K KP))))
  refine vc_cond rfl (fun hq => ?_) (fun hq => ?_)
  · have hlt : i < x.l.length := by simpa using hq
    have hgl : (x.l.map entV).getD i .top = entV x.l[i] := by
      rw [List.getD_eq_getElem?_getD, List.getElem?_map, List.getElem?_eq_getElem hlt]; rfl
    have htk : x.l.take (i + 1) = x.l.take i ++ [x.l[i]] := List.take_succ_eq_append_getElem hlt
    have hge := g.l _ (List.getElem_mem hlt)
    have hstep : dotI s f t (x.l.take (i + 1)) = dotI s f t (x.l.take i) ++ (if dotQ s f t x.l[i] = true then [dtOf x.l[i]] else []) := by
      rw [htk]; unfold dotI; rw [List.filter_append, List.map_append]
      congr 1
      rw [List.filter_cons, List.filter_nil]
      split <;> rfl
    have g0 := eq_true (show (0 : Int) ≤ (i : Int) by omega)
    have g1 := eq_true (show (i : Int) < (x.l.length : Int) by omega)
    have w1 := i64_up (show i ≤ 10000000 by omega)
    generalize hS' : dotI s f t (x.l.take (i + 1)) = S' at *
    generalize dotI s f t (x.l.take i) = S at *
    generalize x.l[i] = e at *
    obtain ⟨nd, nn, se⟩ := e
    simp only at hge
    have hdt : encD (dtOf ⟨nd, nn, se⟩) = [I64 nd, U32 nn] := by unfold dtOf; rw [dif_pos ⟨by show 0 ≤ nd; omega, by show nn < 4294967296; omega⟩]; rfl
    have ldE : ∀ K : V → Prop, loadL Tryz.prog 118 (entC ⟨nd, nn, se⟩) 0 K = K (entV ⟨nd, nn, se⟩) := fun K => by rw [loadL_a kd118, ce118]; simp [entC, entV]
    have ldD : ∀ K : V → Prop, loadL Tryz.prog 25 [I64 nd, U32 nn, I64 se] 0 K = K (.agg [I64 nd, U32 nn]) := fun K => by rw [loadL_a kd25, ce25]; simp
    (repeat (first | refine Stp.s ?_ | refine inBlock_exit' (by decide) ?_ | ((first | refine vc_region fun K KP hK hKP => ?_ | refine Stg.s ?_ | refine guardD_ret0 ?_ | refine exV_intro _ rfl ?_); (try simp only [go_sem, g0, g1, hgl, Int.toNat_natCast, List.length_map, ldE]); try ((first | refine hK _ _ ?_ | refine hKP _ _ _ ?_ | refine hKP _ _ (fun _ => ?_)); clear hK hKP K KP))))
    intro b5 hb5
    refine ⟨rfl, fun c hc => by simp only [entC, List.mem_cons, List.not_mem_nil, or_false] at hc; rcases hc with rfl | rfl | rfl <;> rfl, Nat.le_refl 3, ?_⟩
    have e5 : setL [V.val (Value.int IntKind.i64 0), V.val (Value.int IntKind.u32 0), V.val (Value.int IntKind.i64 0)] 0 (entC ⟨nd, nn, se⟩) = [I64 nd, U32 nn, I64 se] := rfl
    rw [e5]
    have hυb : υ b5 = none := Store.none_of_le hB.base hb5
    have hB5 := hB.push (kk := .cells [I64 nd, U32 nn, I64 se]) hb5
    have hυ5 := Store.le_set hυb hυ (k := .cells [I64 nd, U32 nn, I64 se])
    have k5 := hB5.base _ _ (Store.set_same υ b5 (.cells [I64 nd, U32 nn, I64 se]))
    clear hB hυ
    generalize υ.set b5 _ = υ1 at *
    generalize τ.set b5 _ = τ1 at *
    have j4 := hB5.base _ _ (hυ5 _ _ q4)
    have j5 := hB5.base _ _ (hυ5 _ _ q5)
    have bp := between_pure nd nn f t hf ht
    unfold vecV at bp
    have v4 := fun K => vecLoad f hf K
    have v5 := fun K => vecLoad t ht K
    ((try simp only [go_sem, k5, ldD, j4, j5, v4, v5, vecV]); (try ((first | refine hK _ _ ?_ | refine hKP _ _ _ ?_ | refine hKP _ _ (fun _ => ?_)); clear hK hKP K KP)); repeat (first | refine Stp.s ?_ | refine inBlock_exit' (by decide) ?_ | ((first | refine vc_region fun K KP hK hKP => ?_ | refine Stg.s ?_ | refine guardD_ret0 ?_ | refine exV_intro _ rfl ?_); (try simp only [go_sem, k5, ldD, j4, j5, v4, v5, vecV]); try ((first | refine hK _ _ ?_ | refine hKP _ _ _ ?_ | refine hKP _ _ (fun _ => ?_)); clear hK hKP K KP))))
    ((try simp only [go_sem, loadL_a]); first | refine guardC_q0 (fun _ => callV_pure (bp) ⟨rfl, rfl⟩) ?_ | refine callV_pure (bp) ?_)
    ((try simp only [go_sem, loadL_a]); (try ((first | refine hK _ _ ?_ | refine hKP _ _ _ ?_ | refine hKP _ _ (fun _ => ?_)); clear hK hKP K KP)); repeat (first | refine Stp.s ?_ | refine inBlock_exit' (by decide) ?_ | ((first | refine vc_region fun K KP hK hKP => ?_ | refine Stg.s ?_ | refine guardD_ret0 ?_ | refine exV_intro _ rfl ?_); (try simp only [go_sem, loadL_a]); try ((first | refine hK _ _ ?_ | refine hKP _ _ _ ?_ | refine hKP _ _ (fun _ => ?_)); clear hK hKP K KP))))
    have hdq : dotQ s f t ⟨nd, nn, se⟩ = (se == s && betweenB nd nn f t) := rfl
    rw [hdq] at hstep
    refine vc_cond rfl (fun hq => ?_) (fun hq => ?_)
    · (repeat (first | refine Stp.s ?_ | refine inBlock_exit' (by decide) ?_ | ((first | refine vc_region fun K KP hK hKP => ?_ | refine Stg.s ?_ | refine guardD_ret0 ?_ | refine exV_intro _ rfl ?_); (try simp only [go_sem, k5, ldD]); try ((first | refine hK _ _ ?_ | refine hKP _ _ _ ?_ | refine hKP _ _ (fun _ => ?_)); clear hK hKP K KP))))
      intro c hc
      refine append_dot hB5 (Store.le_set hc (Store.le_refl _)) (row_lit (Store.set_same _ _ _) rfl rfl) (m := 1) rfl (by simp [V.one]) (by omega) ?_
      intro x' τ' σ' hB' hle' _
      ((try simp only [go_sem, loadL_a, w1]); refine hK _ _ ?_; clear hK hKP K KP; repeat (first | refine Stp.s ?_ | refine inBlock_exit' (by decide) ?_ | ((first | refine vc_region fun K KP hK hKP => ?_ | refine Stg.s ?_ | refine guardD_ret0 ?_ | refine exV_intro _ rfl ?_); (try simp only [go_sem, loadL_a, w1]); try ((first | refine hK _ _ ?_ | refine hKP _ _ _ ?_ | refine hKP _ _ (fun _ => ?_)); clear hK hKP K KP))))
      refine ⟨(i + 1, x'), τ', (by repeat (first | exact LeEnv.nil | refine LeEnv.same ?_ | refine LeEnv.top ?_)), hle', ⟨hlt, υ1, hυ5, ?_⟩, by show x.l.length - (i + 1) < x.l.length - i; omega⟩
      show Bld 2 υ1 τ' x' ((dotI s f t (x.l.take (i + 1))).flatMap encD) (dotI s f t (x.l.take (i + 1))).length
      rw [hS', hstep, if_pos hq, List.flatMap_append, List.flatMap_cons, List.flatMap_nil, List.append_nil, hdt, List.length_append]
      exact hB'
    · (repeat (first | refine Stp.s ?_ | refine inBlock_exit' (by decide) ?_ | ((first | refine vc_region fun K KP hK hKP => ?_ | refine Stg.s ?_ | refine guardD_ret0 ?_ | refine exV_intro _ rfl ?_); (try simp only [go_sem, loadL_a, w1]); try ((first | refine hK _ _ ?_ | refine hKP _ _ _ ?_ | refine hKP _ _ (fun _ => ?_)); clear hK hKP K KP))))
      refine ⟨(i + 1, y), τ1, (by repeat (first | exact LeEnv.nil | refine LeEnv.same ?_ | refine LeEnv.top ?_)), Store.le_refl _, ⟨hlt, υ1, hυ5, ?_⟩, by show x.l.length - (i + 1) < x.l.length - i; omega⟩
      show Bld 2 υ1 τ1 y ((dotI s f t (x.l.take (i + 1))).flatMap encD) (dotI s f t (x.l.take (i + 1))).length
      rw [hS', hstep, if_neg (by rw [hq]; decide), List.append_nil]
      exact hB5
  · have hin : i = x.l.length := by simp at hq; omega
    subst hin
    rw [List.take_length] at hB hsl
    (repeat (first | refine Stp.s ?_ | refine inBlock_exit' (by decide) ?_ | ((first | refine vc_region fun K KP hK hKP => ?_ | refine Stg.s ?_ | refine guardD_ret0 ?_ | refine exV_intro _ rfl ?_); (try simp only [go_sem, loadL_a]); try ((first | refine hK _ _ ?_ | refine hKP _ _ _ ?_ | refine hKP _ _ (fun _ => ?_)); clear hK hKP K KP))))
    refine callV_of en116 (sortD_bld hB hd) (fun z σ' ⟨e, hB'⟩ => ?_) (fun z σ' ⟨e, _⟩ => by cases e)
    cases e
    ((try simp only [go_sem, loadL_a]); (try ((first | refine hK _ _ ?_ | refine hKP _ _ _ ?_ | refine hKP _ _ (fun _ => ?_)); clear hK hKP K KP)); repeat (first | refine Stp.s ?_ | refine inBlock_exit' (by decide) ?_ | ((first | refine vc_region fun K KP hK hKP => ?_ | refine Stg.s ?_ | refine guardD_ret0 ?_ | refine exV_intro _ rfl ?_); (try simp only [go_sem, loadL_a]); try ((first | refine hK _ _ ?_ | refine hKP _ _ _ ?_ | refine hKP _ _ (fun _ => ?_)); clear hK hKP K KP))))
    (simp only [postV, resV, oneOf, List.getD_cons_succ, List.getD_cons_zero, and_true, true_and])
    exact Ends.mk (Weakens.trans (Bld.weakens hB' (Store.le_refl _) (by rw [List.length_map]) (by rw [List.flatMap_map]; rfl) (fun y hy => by obtain ⟨d, _, rfl⟩ := List.mem_map.1 hy; rfl)) (Weakens.le (Store.le_trans hle hυ)))
end Go.Proofs.YtociliegljoldaaGreat
