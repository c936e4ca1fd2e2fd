/- Told as less: cells, blocks, loops. -/
import Derived.Test.YtociliegljoldaaGreatG1
namespace Go.Proofs.YtociliegljoldaaGreat
set_option linter.unusedSimpArgs false
set_option linter.unusedVariables false
open Go.Proofs
attribute [local irreducible] vc vcOps vcDraw vcK vcKP vcDK vcDB HWp HCalls postV Ex.then Ex.inBlock stepD callV appendV guardC guardD exV effV opV loadV storeV indexAddrV indexV sliceV
set_option maxRecDepth 10000
set_option maxHeartbeats 4000000

/-- A cell of a block told as less. -/
theorem Weakens.cell {b j : Nat} {cs : List V} {y z x : V} {τ τ' : Store} (hb0 : τ b = some (.cells cs)) (hb : τ' b = some (.cells cs)) (hj : cs[j]? = some y) (h : Weakens y τ z τ') : Weakens x τ x (τ'.set b (.cells (cs.set j z))) := fun I w v hs hx => by
  obtain ⟨o, ho, hr⟩ := hs.own b _ hb0
  cases o with
  | cells arr el fr =>
    obtain ⟨hr1, hr2⟩ : (∀ j, j < arr.size → (decide (fr.1 ≤ j) && decide (j < fr.2)) = false) ∧ LR I cs arr.toList := hr
    have hjl : j < cs.length := (List.getElem?_eq_some_iff.1 hj).1
    have hl2 : j < arr.toList.length := by have := hr2.len; omega
    obtain ⟨J, j1, j2, j3⟩ := h I w _ hs (hr2.at_ j y arr.toList[j] hj (List.getElem?_eq_getElem hl2))
    refine ⟨J, j1, ⟨j2.imm, fun c k e => ?_, fun c k e => ?_⟩, hx.mono j1⟩
    · by_cases hc : c = b
      · subst hc
        rw [Store.set_same] at e
        cases e
        have := (hr2.mono j1).set j j3
        rw [List.set_getElem_self] at this
        exact ⟨_, ho, hr1, this⟩
      · rw [Store.set_other _ _ hc] at e
        exact j2.own c k e
    · by_cases hc : c = b
      · subst hc; exact j2.sep c _ hb
      · rw [Store.set_other _ _ hc] at e
        exact j2.sep c k e
  | _ => exact hr.elim
/-- All cells of a block told as less. -/
theorem Weakens.blk {b : Nat} {cs cs' : List V} {x : V} {τ : Store} (hb : τ b = some (.cells cs)) (h : ∀ (I : Imm) (vs : List Value), LR I cs vs → LR I cs' vs) : Weakens x τ x (τ.set b (.cells cs')) := fun I w v hs hx => by
  obtain ⟨o, ho, hr⟩ := hs.own b _ hb
  cases o with
  | cells arr el fr =>
    refine ⟨I, Imm.le_refl I, ⟨hs.imm, fun c k e => ?_, fun c k e => ?_⟩, hx⟩
    · by_cases hc : c = b
      · subst hc
        rw [Store.set_same] at e
        cases e
        exact ⟨_, ho, hr.1, h I _ hr.2⟩
      · rw [Store.set_other _ _ hc] at e
        exact hs.own c k e
    · by_cases hc : c = b
      · subst hc; exact hs.sep c _ hb
      · rw [Store.set_other _ _ hc] at e
        exact hs.sep c k e
  | _ => exact hr.elim
theorem nil_vr {I : Imm} {v : Value} {k : Nat} (h : VR I nilS v) : VR I (.lst k []) v := by cases h; exact .lnil k
theorem lr_nils {xs ys : List V} (hl : ys.length = xs.length) (h : ∀ (j : Nat) x y, xs[j]? = some x → ys[j]? = some y → y = x ∨ (x = nilS ∧ ∃ k, y = .lst k [])) (I : Imm) (vs : List Value) (hr : LR I xs vs) : LR I ys vs :=
  ⟨hl.trans hr.len, fun j y v hy hv => by
    have hj : j < xs.length := hl ▸ (List.getElem?_eq_some_iff.1 hy).1
    have hx := List.getElem?_eq_getElem hj
    have hv2 := hr.at_ j _ v hx hv
    rcases h j _ y hx hy with e | ⟨e, k, rfl⟩
    · rw [e]; exact hv2
    · rw [e] at hv2; exact nil_vr hv2⟩
theorem Weakens.tup_head {xs : List V} {y z : V} {τ σ : Store} (h : Weakens y τ z σ) : Weakens (.tup (y :: xs)) τ (.tup (z :: xs)) σ := fun I w v hs hv => by
  obtain ⟨vs, rfl, hl⟩ := hv.inv_tup
  obtain ⟨u, us, e⟩ : ∃ u us, vs.toList = u :: us := by
    cases e : vs.toList with
    | nil => rw [e] at hl; have := hl.len; simp at this
    | cons u us => exact ⟨u, us, rfl⟩
  rw [e] at hl
  obtain ⟨J, j1, j2, j3⟩ := h I w u hs hl.head
  refine ⟨J, j1, j2, ?_⟩
  have : VR J (.tup (z :: xs)) (.tuple (u :: us).toArray) := VR.mk_tup (LR.cons j3 (hl.tail.mono j1))
  have e2 : (u :: us).toArray = vs := by rw [← e]
  rw [e2] at this
  exact this
end Go.Proofs.YtociliegljoldaaGreat

namespace Go.Proofs.YtociliegljoldaaGreat
set_option linter.unusedSimpArgs false
set_option linter.unusedVariables false
open Go.Proofs

/-- What is known may be told as less. -/
def Tell (env : List V) (σ : Store) (env' : List V) (τ : Store) : Prop := ∀ (I : Imm) (w : World) (vs : List Value), StR σ I w → LR I env vs → ∃ J, I.le J ∧ StR τ J w ∧ LR J env' vs
theorem tell_weak {env env' : List V} {σ τ : Store} (hl : LeEnv env env') (h : Weakens (.val undef) σ (.val undef) τ) : Tell env σ env' τ := fun I w vs hs he => by
  obtain ⟨J, j1, j2, _⟩ := h I w undef hs (.val _)
  exact ⟨J, j1, j2, (he.le hl).mono j1⟩
theorem HWp.loopW {P : Program} {c : Code} {Q : Ex → List V → Store → Prop} {α : Type} (mk : α → List V) (inv : α → Store → Prop) (μ : α → Store → Nat) (a0 : α) {env : List V} {σ τ0 : Store}
    (h0 : Tell env σ (mk a0) τ0) (hi : inv a0 τ0)
    (round : ∀ a σ, inv a σ → HWp P c (Ex.then (fun env' σ' => ∃ a' τ, Tell env' σ' (mk a') τ ∧ inv a' τ ∧ μ a' τ < μ a σ) Q) (mk a) σ) : HWp P (.loop c) Q env σ := by
  intro ds I w a hs he hd b k cs
  have key : ∀ n x σ1 I w a, μ x σ1 = n → inv x σ1 → StR σ1 I w → LR I (mk x) a.tmps.toList → a.defers = ds →
      ∃ e a' w', toQ ds I w Q e a' w' ∧ Arrives P (lone (b.at a (.code c :: .inLoop c :: k)) cs w) b k cs e a' w' := by
    intro n
    induction n using Nat.strongRecOn with
    | _ n ih =>
      intro x σ1 I w a hn hinv hs he hd
      obtain ⟨e, a2, w2, hq, harr⟩ := round x σ1 hinv ds I w a hs he hd b (.inLoop c :: k) cs
      obtain ⟨h1, h2, I', σ', env', h3, h4, h5, h6⟩ := hq
      cases e with
      | normal =>
        obtain ⟨x', τ, htell, hinv', hlt⟩ := h6
        obtain ⟨J, j1, j2, j3⟩ := htell I' w2 _ h4 h5
        obtain ⟨e3, a3, w3, hq3, harr3⟩ := ih (μ x' τ) (hn ▸ hlt) x' τ J w2 a2 rfl hinv' j2 j3 h1
        exact ⟨e3, a3, w3, toQ_base (Imm.le_trans h3 j1) h2 hq3, .of_steps (Steps.trans harr (.one step_inLoop)) harr3⟩
      | exit id => exact ⟨_, a2, w2, ⟨h1, h2, I', σ', env', h3, h4, h5, h6⟩, .pass (x := .inLoop c) rfl (fun _ _ => .inl (by simp)) harr⟩
      | goto l => exact ⟨_, a2, w2, ⟨h1, h2, I', σ', env', h3, h4, h5, h6⟩, .pass (x := .inLoop c) rfl (fun _ _ => .inl (by simp)) harr⟩
      | ret => exact ⟨_, a2, w2, ⟨h1, h2, I', σ', env', h3, h4, h5, h6⟩, .pass (x := .inLoop c) rfl (fun _ _ => .inl (by simp)) harr⟩
      | panic ch => exact ⟨_, a2, w2, ⟨h1, h2, I', σ', env', h3, h4, h5, h6⟩, .pass (x := .inLoop c) rfl (fun _ _ => .inl (by simp)) harr⟩
      | outgrown => exact h6.elim
  obtain ⟨J, j1, j2, j3⟩ := h0 I w _ hs he
  obtain ⟨e, a', w', hq, harr⟩ := key _ a0 τ0 J w a rfl hi j2 j3 hd
  exact ⟨e, a', w', toQ_base j1 (Bel.refl _) hq, .of_steps (.one step_loop) harr⟩
theorem loopW {P : Program} {c : Code} {Q : Ex → List V → Store → Prop} {α : Type} (mk : α → List V) (inv : α → Store → Prop) (μ : α → Store → Nat) (a0 : α) {env : List V} {σ τ0 : Store}
    (h0 : Tell env σ (mk a0) τ0) (hi : inv a0 τ0)
    (round : ∀ a σ, inv a σ → vc P c (Ex.then (fun env' σ' => ∃ a' τ, Tell env' σ' (mk a') τ ∧ inv a' τ ∧ μ a' τ < μ a σ) Q) (mk a) σ) : HWp P (.loop c) Q env σ :=
  HWp.loopW mk inv μ a0 h0 hi fun a σ h => vc_ok _ _ _ _ (round a σ h)
theorem HWp.tellQ {P : Program} {c : Code} {Q : Ex → List V → Store → Prop} {env : List V} {σ : Store} (h : HWp P c (fun e env σ => ∃ env' τ, Tell env σ env' τ ∧ Q e env' τ) env σ) : HWp P c Q env σ :=
  fun ds I w a hs he hd => wp_mono (h ds I w a hs he hd) fun e a' w' ⟨q1, q2, I', σ', env', q3, q4, q5, q6⟩ => by
    cases e with
    | normal => obtain ⟨env2, τ, ht, q⟩ := q6; obtain ⟨J, j1, j2, j3⟩ := ht I' w' _ q4 q5; exact ⟨q1, q2, J, τ, env2, Imm.le_trans q3 j1, j2, j3, q⟩
    | exit id => obtain ⟨env2, τ, ht, q⟩ := q6; obtain ⟨J, j1, j2, j3⟩ := ht I' w' _ q4 q5; exact ⟨q1, q2, J, τ, env2, Imm.le_trans q3 j1, j2, j3, q⟩
    | goto l => obtain ⟨env2, τ, ht, q⟩ := q6; obtain ⟨J, j1, j2, j3⟩ := ht I' w' _ q4 q5; exact ⟨q1, q2, J, τ, env2, Imm.le_trans q3 j1, j2, j3, q⟩
    | ret => obtain ⟨env2, τ, ht, q⟩ := q6; obtain ⟨J, j1, j2, j3⟩ := ht I' w' _ q4 q5; exact ⟨q1, q2, J, τ, env2, Imm.le_trans q3 j1, j2, j3, q⟩
    | panic ch => obtain ⟨r, v, e1, e2, env2, τ, ht, q⟩ := q6; obtain ⟨J, j1, j2, j3⟩ := ht I' w' _ q4 q5; exact ⟨q1, q2, J, τ, env2, Imm.le_trans q3 j1, j2, j3, r, v, e1, e2.mono j1, q⟩
    | outgrown => exact q6.elim
theorem tell_refl {env : List V} {σ : Store} : Tell env σ env σ := fun I w vs hs he => ⟨I, Imm.le_refl I, hs, he⟩
/-- The memory is told as less. -/
theorem HWp.tell {P : Program} {c : Code} {Q : Ex → List V → Store → Prop} {env env' : List V} {σ τ : Store} (ht : Tell env σ env' τ) (h : HWp P c Q env' τ) : HWp P c Q env σ := fun ds I w a hs he hd => by
  obtain ⟨J, j1, j2, j3⟩ := ht I w _ hs he
  exact wp_mono (h ds J w a j2 j3 hd) fun _ _ _ q => toQ_base j1 (Bel.refl w) q
end Go.Proofs.YtociliegljoldaaGreat
