/- Own framework, part k: regions that draw their order: one order serves all. -/
import Derived.Test.YtaldikplfcoahaaHj
namespace Go.Proofs.Ytaldikplfcoahaa
set_option linter.unusedSimpArgs false
set_option linter.unusedVariables false
open Go.RowKit

/-- There is one, and with it one goes on. -/
def exV (A B : V → Prop) : Prop := ∃ x, A x ∧ B x
/-- The same under a guard. -/
def guardD (c : Bool) (flags : List Bool) (A B : V → Prop) : Prop := (c = true → ∀ f ∈ flags, f = true) ∧ ∃ x, (c = true → A x) ∧ B (.cnd c x)

/-- What an operation that only tells may count on: those of 'el' come ahead of all effects, so they meet the memory of the start. -/
structure Cls where
  el : List Nat
  s0 : Store
  c : Store → Prop
def Cls.at_ (C : Cls) (i : Nat) (A : Store → Prop) : Prop := if C.el.contains i = true then A C.s0 else ∀ τ, C.c τ → A τ
def Cls.ok (C : Cls) (i : Nat) (σ : Store) : Prop := C.c σ ∧ (C.el.contains i = true → σ = C.s0)
theorem Cls.at_ok {C : Cls} {i : Nat} {A : Store → Prop} {σ : Store} (h : C.at_ i A) (hc : C.ok i σ) : A σ := by
  unfold Cls.at_ at h
  split at h
  · rename_i e; rw [hc.2 e]; exact h
  · exact h σ hc.1
def earlyB (all : List Oper) (es el : List Nat) : Bool := es.all fun e => el.all fun p => befBit all p e

/-- One operation of such a region: an effect (its number is in 'es'), or one that yields the same in every memory of the class C. -/
def stepD (P : Program) (slots : List (Option Tmp)) (es : List Nat) (C : Cls) (KP : V → Store → Prop) (i : Nat) (o : Oper) (env : List V) (σ : Store) (K : V → Store → Prop) : Prop :=
  if es.contains i = true then
    o.guard = none ∧ ∃ KE KPE, opV P (evalV env) o σ KE KPE ∧ (∀ x σ', KE x σ' → C.c σ' ∧ K x σ') ∧ (∀ p σ', KPE p σ' → KP p σ')
  else match o.guard with
    | none => exV (fun x => C.at_ i fun τ => opV P (evalV env) o τ (fun y τ' => y = x ∧ τ' = τ) (fun _ _ => False)) (fun x => K x σ)
    | some (j, want) => match condOf (yieldV slots env j) want with
      | some c => guardD c (flagsOf env o.op) (fun x => C.at_ i fun τ => opG P env o τ (fun y τ' => y = x ∧ τ' = τ) (fun _ _ => False)) (fun x => K x σ)
      | none => False

def vcDraw (P : Program) (all : List Oper) (slots : List (Option Tmp)) (es : List Nat) (C : Cls) (K : List V → Store → Prop) (KP : V → Store → Prop) : List Nat → List V → Store → Prop
  | [], env, σ => K env σ
  | i :: rest, env, σ => match all[i]? with
    | some o => stepD P slots es C KP i o env σ (fun x σ' => vcDraw P all slots es C K KP rest (putV env o.dst x) σ')
    | none => False

def drawV (P : Program) (all : List Oper) (env : List V) (σ : Store) (K : List V → Store → Prop) (KP : V → Store → Prop) : Prop :=
  P.follows .mixedOrders = true ∧ ∃ es ord C, orderB all es ord = true ∧ earlyB all es C.el = true ∧ C.s0 = σ ∧ C.c σ ∧ vcDraw P all (all.map (·.dst)) es C K KP ord env σ

section
variable {P : Program} {all : List Oper} {es : List Nat} {C : Cls} {Q : Ex → List V → Store → Prop} {KN : List V → Store → Prop} {KP : V → Store → Prop}

theorem evalV_put {env : List V} {d : Option Tmp} {x : V} {y : Operand} (h : ∀ t, d = some t → y ≠ .tmp t) : evalV (putV env d x) y = evalV env y := by
  cases d with
  | none => rfl
  | some t =>
    cases y with
    | tmp u =>
      have : t ≠ u := fun e => h t rfl (by rw [e])
      simp only [evalV, putV, List.getD_eq_getElem?_getD]
      rw [List.getElem?_set_ne this]
    | _ => rfl

theorem yieldV_put {env : List V} {d : Option Tmp} {x : V} {j : Nat} (h : ∀ t, d = some t → (all[j]?).bind (·.dst) ≠ some t) : yieldV (all.map (·.dst)) (putV env d x) j = yieldV (all.map (·.dst)) env j := by
  cases d with
  | none => rfl
  | some t =>
    unfold yieldV
    cases e : (all.map (·.dst))[j]? with
    | none => rfl
    | some u =>
      cases u with
      | none => rfl
      | some u =>
        have : t ≠ u := fun q => h t rfl (by
          simp only [List.getElem?_map, Option.map_eq_some_iff] at e
          obtain ⟨o', ho, hd⟩ := e
          simp [ho, hd, q])
        simp only [putV, List.getD_eq_getElem?_getD]
        rw [List.getElem?_set_ne this]

theorem looks_op {o : Oper} {d : Option Tmp} (h : ∀ t, d = some t → t ∉ o.looksAt all.toArray) : ∀ x ∈ o.op.operands, ∀ t, d = some t → x ≠ .tmp t := by
  intro x hx t ht e
  refine h t ht ?_
  unfold Oper.looksAt
  refine List.mem_append.2 (.inl ?_)
  rw [List.mem_filterMap]
  exact ⟨x, by simpa using hx, by rw [e]⟩

theorem looks_guard {o : Oper} {d : Option Tmp} {j : Nat} {want : Bool} (hg : o.guard = some (j, want)) (h : ∀ t, d = some t → t ∉ o.looksAt all.toArray) : ∀ t, d = some t → (all[j]?).bind (·.dst) ≠ some t := by
  intro t ht e
  refine h t ht ?_
  unfold Oper.looksAt
  refine List.mem_append.2 (.inr ?_)
  simp only [hg, List.getElem?_toArray, e]
  simp

/-- An operation that does not look at a slot. -/
theorem stepD_put {i : Nat} {o : Oper} {env : List V} {σ : Store} {d : Option Tmp} {x : V} {K : V → Store → Prop} (h : ∀ t, d = some t → t ∉ o.looksAt all.toArray) :
    stepD P (all.map (·.dst)) es C KP i o (putV env d x) σ K ↔ stepD P (all.map (·.dst)) es C KP i o env σ K := by
  have h1 := looks_op h
  have e1 : ∀ τ K KP, opV P (evalV (putV env d x)) o τ K KP = opV P (evalV env) o τ K KP := fun τ K KP => opV_congr o (fun y hy => evalV_put (h1 y hy)) τ K KP
  have e2 : ∀ τ K KP, opG P (putV env d x) o τ K KP = opG P env o τ K KP := fun τ K KP => by
    cases hp : isPick o.op with
    | true =>
      obtain ⟨c, a, b, e⟩ := isPick_is hp
      have hc := evalV_put (env := env) (x := x) (h1 c (by rw [e]; simp [Op.operands]))
      have ha := evalV_put (env := env) (x := x) (h1 a (by rw [e]; simp [Op.operands]))
      have hb := evalV_put (env := env) (x := x) (h1 b (by rw [e]; simp [Op.operands]))
      unfold opG
      rw [e]
      simp only [hc, ha, hb]
    | false =>
      rw [opG_op hp, opG_op hp]
      exact opV_congr o (fun y hy => by rw [evalV_put (h1 y hy)]) τ K KP
  have e3 : flagsOf (putV env d x) o.op = flagsOf env o.op := by
    cases hp : isPick o.op with
    | true =>
      obtain ⟨c, a, b, e⟩ := isPick_is hp
      rw [e]
      have hc := evalV_put (env := env) (x := x) (h1 c (by rw [e]; simp [Op.operands]))
      unfold flagsOf
      simp only [hc]
    | false =>
      rw [flagsOf_op hp, flagsOf_op hp]
      exact List.map_congr_left fun y hy => by rw [evalV_put (h1 y (by simpa using hy))]
  unfold stepD
  split
  · simp only [e1]
  · cases hg : o.guard with
    | none => simp only [e1]
    | some g =>
      obtain ⟨j, want⟩ := g
      simp only [yieldV_put (looks_guard hg h), e2, e3]

theorem putV_comm {env : List V} {d e : Option Tmp} {x y : V} (h : ∀ t, d = some t → e ≠ some t) : putV (putV env d x) e y = putV (putV env e y) d x := by
  cases d with
  | none => rfl
  | some t =>
    cases e with
    | none => rfl
    | some u =>
      have : t ≠ u := fun q => h t rfl (by rw [q])
      simp only [putV]
      exact List.set_comm _ _ this

/-- A pure operation told with its value. -/
theorem stepD_pure {p : Nat} {o : Oper} {env : List V} {σ : Store} {K : V → Store → Prop} (hp : es.contains p = false) (h : stepD P (all.map (·.dst)) es C KP p o env σ K) :
    ∃ x, K x σ ∧ ∀ (τ : Store) (K' : V → Store → Prop), K' x τ → stepD P (all.map (·.dst)) es C KP p o env τ K' := by
  unfold stepD at h
  rw [hp] at h
  simp only [Bool.false_eq_true, if_false] at h
  cases hg : o.guard with
  | none =>
    simp only [hg] at h
    obtain ⟨x, h1, h2⟩ := h
    refine ⟨x, h2, fun τ K' hk => ?_⟩
    unfold stepD
    rw [hp]
    simp only [Bool.false_eq_true, if_false, hg]
    exact ⟨x, h1, hk⟩
  | some g =>
    obtain ⟨j, want⟩ := g
    simp only [hg] at h
    split at h
    · rename_i b hb
      obtain ⟨hf, x, h1, h2⟩ := h
      refine ⟨_, h2, fun τ K' hk => ?_⟩
      unfold stepD
      rw [hp]
      simp only [Bool.false_eq_true, if_false, hg, hb]
      exact ⟨hf, x, h1, hk⟩
    · exact h.elim

theorem stepD_mono {i : Nat} {o : Oper} {env : List V} {σ : Store} {K K' : V → Store → Prop} (hk : ∀ x σ', K x σ' → K' x σ') (h : stepD P (all.map (·.dst)) es C KP i o env σ K) : stepD P (all.map (·.dst)) es C KP i o env σ K' := by
  unfold stepD at h ⊢
  split
  · rename_i hi
    rw [if_pos hi] at h
    obtain ⟨h0, KE, KPE, h1, h2, h3⟩ := h
    exact ⟨h0, KE, KPE, h1, fun x σ' hx => ⟨(h2 x σ' hx).1, hk _ _ (h2 x σ' hx).2⟩, h3⟩
  · rename_i hi
    rw [if_neg hi] at h
    cases hg : o.guard with
    | none => simp only [hg] at h ⊢; obtain ⟨x, h1, h2⟩ := h; exact ⟨x, h1, hk _ _ h2⟩
    | some g =>
      obtain ⟨j, want⟩ := g
      simp only [hg] at h ⊢
      split at h
      · obtain ⟨hf, x, h1, h2⟩ := h; exact ⟨hf, x, h1, hk _ _ h2⟩
      · exact h.elim

/-- Whoever waits for none of those ahead may go first. -/
theorem pull {i : Nat} {oi : Oper} (hi : all[i]? = some oi) : ∀ (R1 R2 : List Nat) (env : List V) (σ : Store), (∀ p ∈ R1, es.contains p = false ∧ ∀ op, all[p]? = some op → op.apart all.toArray oi = true) →
    vcDraw P all (all.map (·.dst)) es C KN KP (R1 ++ i :: R2) env σ → stepD P (all.map (·.dst)) es C KP i oi env σ (fun x σ' => vcDraw P all (all.map (·.dst)) es C KN KP (R1 ++ R2) (putV env oi.dst x) σ') := by
  intro R1
  induction R1 with
  | nil => intro R2 env σ _ h; simp only [List.nil_append, vcDraw, hi] at h; exact h
  | cons p R1 ih =>
    intro R2 env σ hall h
    simp only [List.cons_append] at h ⊢
    unfold vcDraw at h
    split at h
    · rename_i op hop
      obtain ⟨hpe, hap⟩ := hall p (List.mem_cons_self ..)
      obtain ⟨a1, a2, a3⟩ := Oper.apart_spec (hap op hop)
      obtain ⟨x, hx, hany⟩ := stepD_pure hpe h
      have hstep := ih R2 _ σ (fun q hq => hall q (List.mem_cons_of_mem _ hq)) hx
      rw [stepD_put a1] at hstep
      refine stepD_mono (fun y σ' hy => ?_) hstep
      unfold vcDraw
      simp only [hop]
      rw [stepD_put (a3)]
      refine hany σ' _ ?_
      rw [putV_comm (fun t ht e => a2 t e ht)]
      exact hy
    · exact h.elim

/-- What is left. -/
structure Left (all : List Oper) (es : List Nat) (listed : Array Bool) (R : List Nat) : Prop where
  size : listed.size = all.length
  mem : ∀ i, i ∈ R ↔ i < all.length ∧ listed.getD i true = false
  nodup : R.Nodup
  rel : R.Pairwise (fun i j => relB all es i j = true)
  self : ∀ i < all.length, i ∉ targets all i ∧ ∀ t ∈ targets all i, t < all.length
  closed : ∀ j < all.length, j ∉ R → ∀ t ∈ targets all j, t ∉ R

theorem Left.bef {listed : Array Bool} {R : List Nat} (h : Left all es listed R) : ∀ (j i : Nat), j < all.length → (∀ t ∈ targets all j, t ∉ R) → befBit all i j = true → i ∉ R := by
  intro j
  induction j using Nat.strongRecOn with
  | _ j ih =>
    intro i hj ht hb
    rcases before_bit all j i hb with h1 | ⟨t, h1, h2, h3⟩
    · exact ht i h1
    · have htl := (h.self j hj).2 t h1
      exact ih t h2 i htl (h.closed t htl (ht t h1)) h3

theorem targets_ready {listed : Array Bool} {R : List Nat} (h : Left all es listed R) {i : Nat} (hi : i ∈ Region.ready .any all.toArray listed) : i ∈ R ∧ ∀ t ∈ targets all i, t ∉ R := by
  rw [mem_ready] at hi
  obtain ⟨h0, o, ho, hall⟩ := hi
  simp only [List.getElem?_toArray] at ho
  have hlt : i < all.length := (List.getElem?_eq_some_iff.1 ho).1
  refine ⟨(h.mem i).2 ⟨hlt, h0⟩, fun t ht hR => ?_⟩
  unfold targets at ht
  simp only [ho] at ht
  obtain ⟨e, he, rfl⟩ := List.mem_map.1 ht
  have he' := List.mem_filter.1 he
  have h1 := hall e (by simpa using he'.1) he'.2
  have h2 := ((h.mem e.on).1 hR)
  have hs := h.size
  rw [Array.getD_eq_getD_getElem?, Array.getElem?_eq_getElem (by omega)] at h1 h2
  simp only [Option.getD_some] at h1 h2
  rw [h1] at h2; simp at h2

theorem ready_of_first {listed : Array Bool} {i : Nat} {R : List Nat} (h : Left all es listed (i :: R)) : i ∈ Region.ready .any all.toArray listed := by
  have hm := (h.mem i).1 (List.mem_cons_self ..)
  rw [mem_ready]
  refine ⟨hm.2, all[i]'hm.1, by simp [hm.1], fun e he hb => ?_⟩
  have htm : e.on ∈ targets all i := by
    unfold targets
    simp only [List.getElem?_eq_getElem hm.1]
    exact List.mem_map.2 ⟨e, List.mem_filter.2 ⟨by simpa using he, hb⟩, rfl⟩
  have hlt := (h.self i hm.1).2 _ htm
  have hnot : e.on ∉ i :: R := by
    intro hin
    rcases List.mem_cons.1 hin with hh | hh
    · rw [hh] at htm; exact (h.self i hm.1).1 htm
    · have hr := (List.pairwise_cons.1 h.rel).1 _ hh
      simp only [relB, Bool.and_eq_true, Bool.not_eq_true', List.contains_eq_mem, decide_eq_false_iff_not] at hr
      exact hr.1 htm
  have hs := h.size
  have := fun hx => hnot ((h.mem e.on).2 ⟨hlt, hx⟩)
  rw [Array.getD_eq_getD_getElem?, Array.getElem?_eq_getElem (by omega)] at this ⊢
  simp only [Option.getD_some] at this ⊢
  cases hl : listed[e.on]
  · exact absurd hl this
  · rfl

theorem Left.take {listed : Array Bool} {R1 R2 : List Nat} {i : Nat} (h : Left all es listed (R1 ++ i :: R2)) (ht : ∀ t ∈ targets all i, t ∉ R1 ++ i :: R2) : Left all es (listed.setIfInBounds i true) (R1 ++ R2) := by
  have hnd := h.nodup
  have hi := (h.mem i).1 (by simp)
  have hsub : (R1 ++ R2).Sublist (R1 ++ i :: R2) := List.Sublist.append (List.Sublist.refl _) (List.sublist_cons_self i R2)
  have hmem : ∀ j, j ∈ R1 ++ R2 ↔ j ∈ R1 ++ i :: R2 ∧ j ≠ i := by
    intro j
    have hni : i ∉ R1 ∧ i ∉ R2 := by
      rw [List.nodup_append] at hnd
      obtain ⟨_, h2, h3⟩ := hnd
      exact ⟨fun hin => h3 i hin i (List.mem_cons_self ..) rfl, (List.nodup_cons.1 h2).1⟩
    constructor
    · intro hj
      refine ⟨hsub.subset hj, fun e => ?_⟩
      subst e
      rcases List.mem_append.1 hj with q | q
      · exact hni.1 q
      · exact hni.2 q
    · rintro ⟨hj, hne⟩
      simp only [List.mem_append, List.mem_cons] at hj ⊢
      rcases hj with q | q | q
      · exact .inl q
      · exact absurd q hne
      · exact .inr q
  refine ⟨by simpa using h.size, fun j => ?_, hnd.sublist hsub, h.rel.sublist hsub, h.self, fun j hj hn t htj => ?_⟩
  · rw [hmem]
    by_cases e : j = i
    · subst e
      have hs := h.size
      simp [Array.getD_eq_getD_getElem?, Array.getElem?_setIfInBounds, show j < listed.size by omega]
    · rw [h.mem j, getD_set_ne true (Ne.symm e)]
      exact ⟨fun q => q.1, fun q => ⟨q, e⟩⟩
  · by_cases e : j = i
    · subst e; exact fun hin => ht t htj (hsub.subset hin)
    · exact fun hin => h.closed j hj (fun q => hn ((hmem j).2 ⟨q, e⟩)) t htj (hsub.subset hin)

theorem stepD_ok {I0 I : Imm} {w0 w : World} {a : Act} {env : List V} {σ : Store} {i : Nat} {o : Oper} {K : V → Store → Prop} {KK : Act → World → Prop} (ho : all[i]? = some o) (hI : I0.le I) (hw : Bel w0 w) (hs : StR σ I w)
    (he : LR I env a.tmps.toList) (hd : a.defers = []) (hC : C.ok i σ) (hKP : ∀ p env σ, KP p σ → Q (.pan p) env σ) (h : stepD P (all.map (·.dst)) es C KP i o env σ K)
    (hk : ∀ I' w' x v σ', I.le I' → Bel w w' → StR σ' I' w' → VR I' x v → C.c σ' → (es.contains i = false → σ' = σ) → K x σ' → KK (a.put o.dst v) w') : wpOp P all.toArray (toQ I0 w0 Q) i KK a w := by
  unfold wpOp
  simp only [List.getElem?_toArray, ho]
  unfold stepD at h
  split at h
  · rename_i hes
    obtain ⟨hg, KE, KPE, h1, h2, h3⟩ := h
    rw [if_pos (by simp [Region.wanted, hg])]
    exact .inl (Upon.wp hI hw he hd (opV_ok (fun x => evalV_ok he x) o hs h1) (fun I' w' x v σ' g1 g2 g3 g4 g5 => hk I' w' x v σ' g1 g2 g3 g4 (h2 x σ' g5).1 (fun q => by rw [q] at hes; cases hes) (h2 x σ' g5).2) (fun p σ' g => hKP p env σ' (h3 p σ' g)))
  · split at h
    · rename_i hg
      obtain ⟨x, h1, h2⟩ := h
      rw [if_pos (by simp [Region.wanted, hg])]
      refine .inl (Upon.wp (Q := Q) hI hw he hd (opV_ok (fun x => evalV_ok he x) o hs (Cls.at_ok h1 hC)) (fun I' w' y v σ' g1 g2 g3 g4 g5 => ?_) (fun p σ' g => g.elim))
      obtain ⟨rfl, rfl⟩ := g5
      exact hk I' w' _ v _ g1 g2 g3 g4 hC.1 (fun _ => rfl) h2
    · rename_i j want hg
      split at h
      · rename_i c hc
        obtain ⟨hf, x, h1, h2⟩ := h
        rw [wanted_ok he hg hc]
        cases c with
        | true =>
          rw [if_pos rfl]
          refine .inl (Upon.wp (Q := Q) hI hw he hd (strip_ok he o (hf rfl) hs (Cls.at_ok (h1 rfl) hC)) (fun I' w' y v σ' g1 g2 g3 g4 g5 => ?_) (fun p σ' g => g.elim))
          obtain ⟨rfl, rfl⟩ := g5
          exact hk I' w' _ v _ g1 g2 g3 (.cndT _ _ g4) hC.1 (fun _ => rfl) h2
        | false =>
          rw [if_neg (by simp)]
          exact hk I w _ undef σ (Imm.le_refl I) (Bel.refl _) hs (.cndF _) hC.1 (fun _ => rfl) h2
      · exact h.elim

theorem draw_any {I0 : Imm} {w0 : World} (hEl : ∀ e ∈ es, ∀ p ∈ C.el, befBit all p e = true) (hKN : ∀ env σ, KN env σ → Q .normal env σ) (hKP : ∀ p env σ, KP p σ → Q (.pan p) env σ) : ∀ (R : List Nat) (listed : Array Bool) (a : Act) (w : World) (I : Imm) (env : List V) (σ : Store) (n : Nat), R.length = n → Left all es listed R → I0.le I → Bel w0 w → StR σ I w → LR I env a.tmps.toList → a.defers = [] →
    C.c σ → (∀ p ∈ R, C.el.contains p = true → σ = C.s0) → vcDraw P all (all.map (·.dst)) es C KN KP R env σ → wpAny P .any all.toArray (toQ I0 w0 Q) n listed a w := by
  intro R listed a w I env σ n
  induction n generalizing R listed a w I env σ with
  | zero =>
    intro hn hL hI hw hs he hd hC hE h
    obtain rfl : R = [] := List.eq_nil_of_length_eq_zero hn
    refine ⟨?_, hd, hw, I, σ, env, hI, hs, he, hKN _ _ h⟩
    cases hr : Region.ready .any all.toArray listed with
    | nil => rfl
    | cons i l =>
      have := (targets_ready hL (i := i) (by rw [hr]; exact List.mem_cons_self ..)).1
      simp at this
  | succ n ih =>
    intro hn hL hI hw hs he hd hC hE h
    refine ⟨fun h0 => ?_, fun i hi => ?_⟩
    · cases R with
      | nil => simp at hn
      | cons i R => have := ready_of_first hL; rw [h0] at this; simp at this
    · obtain ⟨hiR, ht⟩ := targets_ready hL hi
      obtain ⟨R1, R2, rfl⟩ := List.append_of_mem hiR
      have hlt := ((hL.mem i).1 hiR).1
      have hoi : all[i]? = some all[i] := List.getElem?_eq_getElem hlt
      have hall : ∀ p ∈ R1, es.contains p = false ∧ ∀ op, all[p]? = some op → op.apart all.toArray all[i] = true := by
        intro p hp
        have hpair := hL.rel
        rw [List.pairwise_append] at hpair
        have hr := hpair.2.2 p hp i (List.mem_cons_self ..)
        simp only [relB, Bool.and_eq_true, Bool.or_eq_true, Bool.not_eq_true'] at hr
        have hnb : befBit all p i = false := by
          cases hb : befBit all p i with
          | false => rfl
          | true => exact absurd (List.mem_append.2 (.inl hp)) (hL.bef i p hlt ht hb)
        rw [hnb] at hr
        have hr2 := hr.2.resolve_left (by simp)
        refine ⟨hr2.2, fun op hop => ?_⟩
        have e1 : all.getD p default = op := by rw [List.getD_eq_getElem?_getD, hop]; rfl
        have e2 : all.getD i default = all[i] := by rw [List.getD_eq_getElem?_getD, hoi]; rfl
        rw [← e1, ← e2]; exact hr2.1
      have hstep := pull hoi R1 R2 env σ hall h
      refine stepD_ok hoi hI hw hs he hd ⟨hC, hE i hiR⟩ hKP hstep (fun I' w' x v σ' g1 g2 g3 g4 g5 g5' g6 => ?_)
      refine ih (R1 ++ R2) _ _ w' I' _ σ' (by simp at hn ⊢; omega) (hL.take ht) (Imm.le_trans hI g1) (hw.trans g2) g3 (putV_ok (he.mono g1) _ g4) (by rw [put_defers']; exact hd) g5 (fun p hp hpe => ?_) g6
      have hpR : p ∈ R1 ++ i :: R2 := by
        rcases List.mem_append.1 hp with q | q
        · exact List.mem_append.2 (.inl q)
        · exact List.mem_append.2 (.inr (List.mem_cons_of_mem _ q))
      cases hie : es.contains i with
      | false => rw [g5' hie]; exact hE p hpR hpe
      | true => exact absurd hpR (hL.bef i p hlt ht (hEl i (by simpa using hie) p (by simpa using hpe)))

theorem HWp.region_draw {id : Nat} {ops : Array Oper} {env : List V} {σ : Store} (h : drawV P ops.toList env σ (fun env σ => Q .normal env σ) (fun p σ => ∀ env, Q (.pan p) env σ)) : HWp P (.region id ops true) Q env σ := by
  obtain ⟨hm, es, ord, C, hord, hea, hs0, hC, h⟩ := h
  intro I w a hs he hd
  refine wp_region_any hm ?_
  simp only [orderB, Bool.and_eq_true, List.all_eq_true, List.mem_range, decide_eq_true_eq] at hord
  obtain ⟨⟨⟨⟨⟨⟨h1, h2⟩, h3⟩, h4⟩, h5⟩, h6⟩, h7⟩ := hord
  have hnd : ord.Nodup := (pairB_spec h3).imp (fun h => by simpa using h)
  have hmem : ∀ i, i ∈ ord ↔ i < ops.toList.length := fun i => ⟨fun hi => h2 i hi, fun hi => by have := h1 i hi; simpa using this⟩
  have hlen : ord.length = ops.size := by simpa using h7
  have hL : Left ops.toList es (Array.replicate ops.size false) ord := by
    refine ⟨by simp, fun i => ?_, hnd, pairB_spec h6, fun i hi => ?_, fun j hj hn => absurd ((hmem j).2 hj) hn⟩
    · rw [hmem]
      constructor
      · intro hi; refine ⟨hi, ?_⟩
        simp only [Array.length_toList] at hi
        simp [Array.getD_eq_getD_getElem?, hi]
      · exact fun q => q.1
    · have := h5 i hi
      simp only [Bool.and_eq_true, Bool.not_eq_true', List.contains_eq_mem, decide_eq_false_iff_not, List.all_eq_true, decide_eq_true_eq] at this
      exact this
  have := draw_any (P := P) (Q := Q) (C := C) (I0 := I) (w0 := w) (fun e he p hp => by simp only [earlyB, List.all_eq_true] at hea; exact hea e he p hp) (fun _ _ h => h) (fun p env σ h => h env) ord (Array.replicate ops.size false) a { w with drawn := w.drawn + 1 } I env σ ops.size hlen hL (Imm.le_refl I) (Bel.refl w).drew
    (hs.keeps fun _ _ => rfl) he hd hC (fun _ _ _ => hs0.symm) h
  simpa using this

end
end Go.Proofs.Ytaldikplfcoahaa
