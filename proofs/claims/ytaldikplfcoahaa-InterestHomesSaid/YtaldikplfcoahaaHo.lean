/- Own framework, part o: jumps back to one label. -/
import Derived.Test.YtaldikplfcoahaaHn
import Derived.ScopeJumps
namespace Go.Proofs.Ytaldikplfcoahaa
set_option linter.unusedSimpArgs false
set_option linter.unusedVariables false
open Go.RowKit

def Ex.jump (l : Nat) (J : List V → Store → Prop) (Q : Ex → List V → Store → Prop) : Ex → List V → Store → Prop
  | .goto l', env, σ => l' = l ∧ J env σ
  | e, env, σ => Q e env σ

/-- A scope in which the run jumps back to one label. -/
theorem HWp.scope {P : Program} {c rest : Code} {Q : Ex → List V → Store → Prop} {α : Type} (l : Nat) (mk : α → List V) (inv : α → Store → Prop) (μ : α → Store → Nat) {env : List V} {σ : Store} (hf : findLabel c l = some rest)
    (first : HWp P c (Ex.jump l (fun env' σ' => ∃ a' τ, LeEnv env' (mk a') ∧ τ.le σ' ∧ inv a' τ) Q) env σ)
    (pass : ∀ a σ, inv a σ → HWp P rest (Ex.jump l (fun env' σ' => ∃ a' τ, LeEnv env' (mk a') ∧ τ.le σ' ∧ inv a' τ ∧ μ a' τ < μ a σ) Q) (mk a) σ) : HWp P (.scope c) Q env σ := by
  intro I w a hs he hd b k cs
  have hg : gotoIn l (.inScope c :: k) = some (.code rest :: .inScope c :: k) := by simp [gotoIn, hf]
  have key : ∀ n x σ1 I w a, μ x σ1 = n → inv x σ1 → StR σ1 I w → LR I (mk x) a.tmps.toList → a.defers = [] →
      ∃ e a' w', toQ I w Q e a' w' ∧ Arrives P (lone (b.at a (.code rest :: .inScope c :: k)) cs w) b k cs e a' w' := by
    intro n
    induction n using Nat.strongRecOn with
    | _ n ih =>
      intro x σ1 I w a hn hinv hs he hd
      obtain ⟨e, a2, w2, hq, harr⟩ := pass x σ1 hinv I w a hs he hd b (.inScope c :: k) cs
      obtain ⟨h1, h2, I', σ', env', h3, h4, h5, h6⟩ := hq
      cases e with
      | normal => exact ⟨.normal, a2, w2, ⟨h1, h2, I', σ', env', h3, h4, h5, h6⟩, Steps.trans harr (.one step_inScope)⟩
      | exit id => exact ⟨.exit id, a2, w2, ⟨h1, h2, I', σ', env', h3, h4, h5, h6⟩, fun k' hk => harr k' (by simp [exitTo, hk])⟩
      | goto l' =>
        obtain ⟨rfl, x', τ, hle, hsub, hinv', hlt⟩ := h6
        obtain ⟨e3, a3, w3, hq3, harr3⟩ := ih (μ x' τ) (hn ▸ hlt) x' τ I' w2 a2 rfl hinv' (h4.sub hsub) (h5.le hle) h1
        exact ⟨e3, a3, w3, toQ_base h3 h2 hq3, .of_steps (harr _ hg) harr3⟩
      | ret => exact ⟨.ret, a2, w2, ⟨h1, h2, I', σ', env', h3, h4, h5, h6⟩, harr⟩
      | panic ch => exact ⟨.panic ch, a2, w2, ⟨h1, h2, I', σ', env', h3, h4, h5, h6⟩, harr⟩
      | outgrown => exact h6.elim
  obtain ⟨e, a1, w1, hq, harr⟩ := first I w a hs he hd b (.inScope c :: k) cs
  obtain ⟨h1, h2, I', σ', env', h3, h4, h5, h6⟩ := hq
  cases e with
  | normal => exact ⟨.normal, a1, w1, ⟨h1, h2, I', σ', env', h3, h4, h5, h6⟩, .head step_scope (Steps.trans harr (.one step_inScope))⟩
  | exit id => exact ⟨.exit id, a1, w1, ⟨h1, h2, I', σ', env', h3, h4, h5, h6⟩, fun k' hk => .head step_scope (harr k' (by simp [exitTo, hk]))⟩
  | goto l' =>
    obtain ⟨rfl, x', τ, hle, hsub, hinv'⟩ := h6
    obtain ⟨e3, a3, w3, hq3, harr3⟩ := key _ x' τ I' w1 a1 rfl hinv' (h4.sub hsub) (h5.le hle) h1
    exact ⟨e3, a3, w3, toQ_base h3 h2 hq3, .of_steps (.head step_scope (harr _ hg)) harr3⟩
  | ret => exact ⟨.ret, a1, w1, ⟨h1, h2, I', σ', env', h3, h4, h5, h6⟩, .of_steps (.one step_scope) harr⟩
  | panic ch => exact ⟨.panic ch, a1, w1, ⟨h1, h2, I', σ', env', h3, h4, h5, h6⟩, .of_steps (.one step_scope) harr⟩
  | outgrown => exact h6.elim
/-- The same; who comes to the label at first may use what was shown of the passes. -/
theorem HWp.scope2 {P : Program} {c R : Code} {Q : Ex → List V → Store → Prop} {α : Type} (l : Nat) (mk : α → List V) (inv : α → Store → Prop) (μ : α → Store → Nat) {env : List V} {σ : Store} (hf : findLabel c l = some (.seq .skip R))
    (pass : ∀ a σ, inv a σ → HWp P R (Ex.jump l (fun env' σ' => ∃ a' τ, LeEnv env' (mk a') ∧ τ.le σ' ∧ inv a' τ ∧ μ a' τ < μ a σ) Q) (mk a) σ)
    (first : (∀ a τ env' σ', inv a τ → LeEnv env' (mk a) → τ.le σ' → HWp P R (Ex.jump l (fun env' σ' => ∃ a' τ, LeEnv env' (mk a') ∧ τ.le σ' ∧ inv a' τ) Q) env' σ') → HWp P c (Ex.jump l (fun env' σ' => ∃ a' τ, LeEnv env' (mk a') ∧ τ.le σ' ∧ inv a' τ) Q) env σ) : HWp P (.scope c) Q env σ :=
  HWp.scope l mk inv μ hf (first fun a τ env' σ' hi hl hs => HWp.le hl (HWp.sub hs ((pass a τ hi).mono fun e env σ h => by
    cases e with
    | goto l' => obtain ⟨e, a', τ', h1, h2, h3, _⟩ := h; exact ⟨e, a', τ', h1, h2, h3⟩
    | _ => exact h))) fun a σ hi => HWp.seq (HWp.skip (pass a σ hi))
theorem vc_scope {P : Program} {c : Code} {Q : Ex → List V → Store → Prop} {env : List V} {σ : Store} (h : HWp P (.scope c) Q env σ) : vc P (.scope c) Q env σ := h
theorem vc_goto {P : Program} {l : Nat} {Q : Ex → List V → Store → Prop} {env : List V} {σ : Store} (h : Q (.goto l) env σ) : vc P (.goto l) Q env σ := h
theorem vc_label {P : Program} {l : Nat} {Q : Ex → List V → Store → Prop} {env : List V} {σ : Store} (h : Q .normal env σ) : vc P (.label l) Q env σ := h
section
variable {Q : Ex → List V → Store → Prop} {J : List V → Store → Prop} {env : List V} {σ : Store} {l : Nat}
theorem jump_goto (h : J env σ) : Ex.jump l J Q (.goto l) env σ := ⟨rfl, h⟩
theorem jump_normal (h : Q .normal env σ) : Ex.jump l J Q .normal env σ := h
theorem jump_ret (h : Q .ret env σ) : Ex.jump l J Q .ret env σ := h
theorem then_goto {next : List V → Store → Prop} {m : Nat} (h : Q (.goto m) env σ) : Ex.then next Q (.goto m) env σ := h
theorem inBlock_goto {id m : Nat} (h : Q (.goto m) env σ) : Ex.inBlock id Q (.goto m) env σ := h
end
end Go.Proofs.Ytaldikplfcoahaa
