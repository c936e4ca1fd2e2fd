/- Own framework, part l: code as a condition; a call out of its body. -/
import Derived.Test.YtaldikplfcoahaaHk
namespace Go.Proofs.Ytaldikplfcoahaa
set_option linter.unusedSimpArgs false
set_option linter.unusedVariables false
open Go.RowKit

def condV (c : V) (A B : Prop) : Prop := match c with | .val (.bool b) => (b = true → A) ∧ (b = false → B) | _ => False

def vc (P : Program) : Code → (Ex → List V → Store → Prop) → List V → Store → Prop
  | .skip, Q, env, σ => Q .normal env σ
  | .region _ ops draw, Q, env, σ => match draw with
    | true => drawV P ops.toList env σ (fun env σ => Q .normal env σ) (fun p σ => ∀ env, Q (.pan p) env σ)
    | false => vcOps P (ops.toList.map (·.dst)) (fun env σ => Q .normal env σ) (fun p env σ => Q (.pan p) env σ) ops.toList env σ
  | .seq a b, Q, env, σ => vc P a (Ex.then (fun env σ => vc P b Q env σ) Q) env σ
  | .cond c x y, Q, env, σ => condV (evalV env c) (vc P x Q env σ) (vc P y Q env σ)
  | .block id c, Q, env, σ => vc P c (Ex.inBlock id Q) env σ
  | .loop c, Q, env, σ => HWp P (.loop c) Q env σ
  | .exit id, Q, env, σ => Q (.exit id) env σ
  | .label _, Q, env, σ => Q .normal env σ
  | .goto l, Q, env, σ => Q (.goto l) env σ
  | .ret, Q, env, σ => Q .ret env σ
  | c, Q, env, σ => HWp P c Q env σ

theorem vc_ok {P : Program} : ∀ (c : Code) (Q : Ex → List V → Store → Prop) (env : List V) (σ : Store), vc P c Q env σ → HWp P c Q env σ := by
  intro c
  induction c with
  | skip => intro Q env σ h; exact HWp.skip h
  | region id ops draw =>
    intro Q env σ h
    cases draw with
    | true => exact HWp.region_draw h
    | false => exact HWp.region h
  | seq a b iha ihb => intro Q env σ h; exact HWp.seq ((iha _ _ _ h).mono fun e env σ hq => by cases e <;> first | exact ihb _ _ _ hq | exact hq)
  | cond c x y ihx ihy =>
    intro Q env σ h
    simp only [vc, condV] at h
    split at h
    · rename_i b hb; exact HWp.cond hb (fun e => ihx _ _ _ (h.1 e)) (fun e => ihy _ _ _ (h.2 e))
    · exact h.elim
  | block id c ih => intro Q env σ h; exact HWp.block (ih _ _ _ h)
  | loop c _ => intro Q env σ h; exact h
  | rangeFunc f params assign body _ _ => intro Q env σ h; exact h
  | exit id => intro Q env σ h; exact HWp.exit h
  | scope c _ => intro Q env σ h; exact h
  | label l => intro Q env σ h; exact HWp.label h
  | goto l => intro Q env σ h; exact HWp.goto h
  | ret => intro Q env σ h; exact HWp.ret h
  | refuse why => intro Q env σ h; exact h

/-- The loop's rule, its round as a condition. -/
theorem loopV {P : Program} {c : Code} {Q : Ex → List V → Store → Prop} {α : Type} (mk : α → List V) (inv : α → Store → Prop) (μ : α → Store → Nat) (a0 : α) {env : List V} {σ : Store}
    (h0 : LeEnv env (mk a0)) (hi : inv a0 σ)
    (round : ∀ a σ, inv a σ → vc P c (Ex.then (fun env' σ' => ∃ a' τ, LeEnv env' (mk a') ∧ τ.le σ' ∧ inv a' τ ∧ μ a' τ < μ a σ) Q) (mk a) σ) : HWp P (.loop c) Q env σ :=
  HWp.loop mk inv μ a0 h0 hi fun a σ h => vc_ok _ _ _ _ (round a σ h)

/-- The results of a call. -/
def resV (P : Program) (env : List V) (σ : Store) : List ResultVar → (List V → Prop) → Prop
  | [], K => K []
  | .tmp t :: rs, K => resV P env σ rs fun xs => K (env.getD t .top :: xs)
  | .cell a t :: rs, K => loadV P t (env.getD a .top) σ fun x _ => resV P env σ rs fun xs => K (x :: xs)

def oneOf (xs : List V) : V := match xs with | [x] => x | xs => .tup xs

def postV (P : Program) (rs : List ResultVar) (Q : Res → Store → Prop) : Ex → List V → Store → Prop
  | .normal, env, σ => resV P env σ rs fun xs => Q (.ret (oneOf xs)) σ
  | .ret, env, σ => resV P env σ rs fun xs => Q (.ret (oneOf xs)) σ
  | .pan p, _, σ => Q (.pan p) σ
  | _, _, _ => False

section
variable {P : Program} {I : Imm} {w : World} {K : V → Store → Prop} {σ : Store}

theorem resV_ok (hs : StR σ I w) {env : List V} {tmps : Array Value} (he : LR I env tmps.toList) : ∀ (rs : List ResultVar) (KK : List V → Prop), resV P env σ rs KK →
    ∃ vs xs, (rs.mapM (fun (r : ResultVar) => match r with
      | .tmp t => (pure (tmps.getD t undef) : Sem Value)
      | .cell a t => do loadVar t (← asAddr (tmps.getD a undef)))).run P w = .ok vs w ∧ LR I xs vs ∧ KK xs := by
  intro rs
  have hget : ∀ t : Nat, VR I (env.getD t .top) (tmps.getD t undef) := fun t => by
    have := he.getD t undef
    simpa [Array.getD_eq_getD_getElem?, List.getD_eq_getElem?_getD] using this
  induction rs with
  | nil => intro KK h; exact ⟨[], [], rfl, LR.nil I, h⟩
  | cons r rs ih =>
    intro KK h
    cases r with
    | tmp t =>
      simp only [resV] at h
      obtain ⟨vs, xs, h1, h2, h3⟩ := ih _ h
      refine ⟨tmps.getD t undef :: vs, env.getD t .top :: xs, ?_, LR.cons (hget t) h2, h3⟩
      simp only [List.mapM_cons, Sem.run_bind, Sem.run_pure, Result.andThen_ok, h1]
    | cell a t =>
      simp only [resV] at h
      obtain ⟨ad, v, x, e, hrun, hx, hk⟩ := loadV_run hs (hget a) h
      obtain ⟨vs, xs, h1, h2, h3⟩ := ih _ hk
      refine ⟨v :: vs, x :: xs, ?_, LR.cons hx h2, h3⟩
      simp only [List.mapM_cons, Sem.run_bind]
      rw [e]
      have ha : (asAddr (.pointer (some ad))).run P w = .ok ad w := rfl
      simp only [ha, Result.andThen_ok, hrun]
      rw [h1]
      rfl

theorem results_ok (hs : StR σ I w) {env : List V} {a : Act} {fn : Func} (he : LR I env a.tmps.toList) {Q : Res → Store → Prop} (h : resV P env σ fn.results.toList fun xs => Q (.ret (oneOf xs)) σ) :
    ∃ v r, (results fn a.tmps).run P w = .ok v w ∧ VR I r v ∧ Q (.ret r) σ := by
  obtain ⟨vs, xs, h1, h2, h3⟩ := resV_ok hs he _ _ h
  refine ⟨if hv : vs.toArray.size = 1 then vs.toArray[0] else .tuple vs.toArray, oneOf xs, ?_, ?_, h3⟩
  · unfold results
    simp only [Sem.run_bind]
    rw [Array.mapM_eq_mapM_toList]
    simp only [Sem.run_map, Sem.run_pure]
    have e : ∀ (r r' : Result (List Value)), r = r' → ((r.andThen fun a w' => Result.ok a.toArray w').andThen fun (a : Array Value) w' => Result.ok (if h : a.size = 1 then a[0] else Value.tuple a) w') =
      ((r'.andThen fun a w' => Result.ok a.toArray w').andThen fun (a : Array Value) w' => Result.ok (if h : a.size = 1 then a[0] else Value.tuple a) w') := fun r r' q => by rw [q]
    exact e _ _ h1
  · have hl := h2.len
    cases xs with
    | nil =>
      obtain rfl : vs = [] := List.eq_nil_of_length_eq_zero (by simpa using hl.symm)
      exact VR.mk_tup (LR.nil I)
    | cons x xs =>
      cases vs with
      | nil => simp at hl
      | cons v vs =>
        cases xs with
        | nil =>
          obtain rfl : vs = [] := List.eq_nil_of_length_eq_zero (by simpa using hl.symm)
          exact h2.head
        | cons y ys =>
          cases vs with
          | nil => simp at hl
          | cons u us =>
            rw [dif_neg (by simp)]
            exact VR.mk_tup h2
end

/-- A CALL, OUT OF ITS BODY. -/
theorem HCalls.of_vc {P : Program} {f : FuncId} {fn : Func} {c : Code} {xs : List V} {σ : Store} {Q : Res → Store → Prop} (hf : P.funcs[f]? = some fn) (hb : fn.body = some c)
    (h : vc P c (postV P fn.results.toList Q) (xs ++ List.replicate (fn.ntmps - xs.length) .top) σ) : HCalls P f xs σ Q := by
  intro I w vs hs hv
  refine calls_of_wp hf hb ?_
  have he : LR I (xs ++ List.replicate (fn.ntmps - xs.length) .top) (vs ++ Array.replicate (fn.ntmps - vs.size) undef).toList := by
    have hl := hv.len
    simp only [Array.length_toList] at hl
    have := hv.spare (List.replicate (fn.ntmps - vs.size) undef) (fn.ntmps - xs.length) (by simp [hl])
    simpa using this
  refine wp_mono (vc_ok c _ _ _ h I w _ hs he rfl) ?_
  intro e a w' ⟨h1, h2, I', σ', env', h3, h4, h5, h6⟩
  cases e with
  | normal => obtain ⟨v, r, g1, g2, g3⟩ := results_ok h4 h5 h6; exact ⟨h1, v, g1, h2, I', σ', h3, h4, .inl ⟨r, v, rfl, g2, g3⟩⟩
  | ret => obtain ⟨v, r, g1, g2, g3⟩ := results_ok h4 h5 h6; exact ⟨h1, v, g1, h2, I', σ', h3, h4, .inl ⟨r, v, rfl, g2, g3⟩⟩
  | panic chain => obtain ⟨r, v, rfl, g2, g3⟩ := h6; exact ⟨h1, h2, I', σ', h3, h4, .inr ⟨r, v, rfl, g2, g3⟩⟩
  | exit id => exact h6.elim
  | goto l => exact h6.elim
  | outgrown => exact h6.elim

end Go.Proofs.Ytaldikplfcoahaa
