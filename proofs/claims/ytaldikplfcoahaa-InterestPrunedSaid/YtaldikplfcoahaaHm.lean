/- Own framework, part m: rules to walk by. -/
import Derived.Test.YtaldikplfcoahaaHl
namespace Go.Proofs.Ytaldikplfcoahaa
set_option linter.unusedSimpArgs false
set_option linter.unusedVariables false
open Go.RowKit

abbrev I64 (n : Int) : V := .val (.int .i64 n)
abbrev BV (b : Bool) : V := .val (.bool b)
abbrev nilS : V := .val (.slice none 0 0)
abbrev nilP : V := .val (.pointer none)

section
variable {P : Program} {Q : Ex → List V → Store → Prop} {env : List V} {σ : Store} {K KP : V → Store → Prop}

theorem vc_seq {a b : Code} (h : vc P a (Ex.then (fun env σ => vc P b Q env σ) Q) env σ) : vc P (.seq a b) Q env σ := h
theorem vc_block {id : Nat} {c : Code} (h : vc P c (Ex.inBlock id Q) env σ) : vc P (.block id c) Q env σ := h
theorem vc_skip (h : Q .normal env σ) : vc P .skip Q env σ := h
theorem vc_sub {c : Code} {τ : Store} (hs : τ.le σ) (h : HWp P c Q env τ) : HWp P c Q env σ := HWp.sub hs h
theorem vc_exit {id : Nat} (h : Q (.exit id) env σ) : vc P (.exit id) Q env σ := h
theorem vc_ret (h : Q .ret env σ) : vc P .ret Q env σ := h
theorem vc_loop {c : Code} (h : HWp P (.loop c) Q env σ) : vc P (.loop c) Q env σ := h
theorem vc_cond {c : Operand} {x y : Code} {b : Bool} (hc : evalV env c = .val (.bool b)) (ht : b = true → vc P x Q env σ) (hf : b = false → vc P y Q env σ) : vc P (.cond c x y) Q env σ := by
  show condV _ _ _
  rw [hc]; exact ⟨ht, hf⟩
theorem vc_region {id : Nat} {l : List Oper}
    (h : ∀ (K : List V → Store → Prop) (KP : V → List V → Store → Prop), (∀ env σ, Q .normal env σ → K env σ) → (∀ p env σ, Q (.pan p) env σ → KP p env σ) → vcOps P (l.map (·.dst)) K KP l env σ) : vc P (.region id l.toArray false) Q env σ := by
  show vcOps _ _ _ _ _ _ _
  simpa using h _ _ (fun _ _ h => h) (fun _ _ _ h => h)
theorem vc_draw {id : Nat} {l : List Oper} (hm : P.follows .mixedOrders = true) (es ord el : List Nat) (C : Store → Prop) (ho : orderB l es ord = true) (he : earlyB l es el = true) (hC : C σ)
    (h : ∀ (K : List V → Store → Prop) (KP : V → Store → Prop), (∀ env σ, Q .normal env σ → K env σ) → (∀ p σ, (∀ env, Q (.pan p) env σ) → KP p σ) → vcDraw P l (l.map (·.dst)) es ⟨el, σ, C⟩ K KP ord env σ) : vc P (.region id l.toArray true) Q env σ := by
  show drawV _ _ _ _ _ _
  exact ⟨hm, es, ord, ⟨el, σ, C⟩, by simpa using ho, by simpa using he, rfl, hC, by simpa using h _ _ (fun _ _ h => h) (fun _ _ h => h)⟩

theorem then_normal {next : List V → Store → Prop} (h : next env σ) : Ex.then next Q .normal env σ := h
theorem then_exit {next : List V → Store → Prop} {id : Nat} (h : Q (.exit id) env σ) : Ex.then next Q (.exit id) env σ := h
theorem then_ret {next : List V → Store → Prop} (h : Q .ret env σ) : Ex.then next Q .ret env σ := h
theorem then_pan {next : List V → Store → Prop} {p : V} (h : Q (.pan p) env σ) : Ex.then next Q (.pan p) env σ := h
theorem inBlock_normal {id : Nat} (h : Q .normal env σ) : Ex.inBlock id Q .normal env σ := h
theorem inBlock_ret {id : Nat} (h : Q .ret env σ) : Ex.inBlock id Q .ret env σ := h
theorem inBlock_pan {id : Nat} {p : V} (h : Q (.pan p) env σ) : Ex.inBlock id Q (.pan p) env σ := h
theorem inBlock_exit {id : Nat} (h : Q .normal env σ) : Ex.inBlock id Q (.exit id) env σ := by simpa [Ex.inBlock] using h
theorem inBlock_exit' {id id' : Nat} (hn : id' ≠ id) (h : Q (.exit id') env σ) : Ex.inBlock id Q (.exit id') env σ := by simpa [Ex.inBlock, hn] using h

/-- A call that only tells. -/
def HPure (P : Program) (f : FuncId) (xs : List V) (x : V) : Prop := entersB P f = true ∧ ∀ σ, HCalls P f xs σ (fun r σ' => r = .ret x ∧ σ' = σ)

theorem callV_of {g : FuncId} {ps qs xs : List V} {R : Res → Store → Prop} (he : entersB P g = true) (h : HCalls P g (ps ++ xs ++ qs) σ R)
    (hr : ∀ x σ', R (.ret x) σ' → K x σ') (hp : ∀ x σ', R (.pan x) σ' → KP x σ') : callV P (.fn (.func g) ps qs) xs σ K KP :=
  ⟨he, h.mono fun r σ' q => by cases r with | ret x => exact hr x σ' q | pan x => exact hp x σ' q⟩
theorem callV_pure {g : FuncId} {ps qs xs : List V} {x : V} (h : HPure P g (ps ++ xs ++ qs) x) (k : K x σ) : callV P (.fn (.func g) ps qs) xs σ K KP :=
  callV_of h.1 (h.2 σ) (fun y σ' ⟨e, f⟩ => by cases e; subst f; exact k) (fun y σ' ⟨e, _⟩ => by cases e)

theorem Store.le_trans {σ τ υ : Store} (h : σ.le τ) (k : τ.le υ) : σ.le υ := fun b c e => k b c (h b c e)
theorem Store.le_set {σ τ : Store} {b : Nat} {k : Blk} (hb : τ b = none) (h : σ.le τ) : σ.le (τ.set b k) := fun c l e => by
  have := h c l e
  have hne : c ≠ b := fun q => by rw [q, hb] at this; cases this
  rw [Store.set_other _ _ hne]; exact this
theorem Store.le_reset {σ τ : Store} {b : Nat} {k : Blk} (hb : σ b = none) (h : σ.le τ) : σ.le (τ.set b k) := fun c l e => by
  have hne : c ≠ b := fun q => by rw [q, hb] at e; cases e
  rw [Store.set_other _ _ hne]; exact h c l e
theorem Store.keep {σ : Store} {b c : Nat} {l : Blk} (hb : σ b = none) (hc : σ c = some l) (k : Blk) : (σ.set b k) c = some l := by
  rw [Store.set_other _ _ (fun e => by rw [e, hb] at hc; cases hc)]; exact hc
theorem Store.none_of_le {σ τ : Store} {b : Nat} (h : σ.le τ) (hb : τ b = none) : σ b = none := by
  cases e : σ b with
  | none => rfl
  | some k => rw [h b k e] at hb; cases hb

theorem Weakens.le {x : V} {τ : Store} (h : σ.le τ) : Weakens x τ x σ := fun I w v hs hx => ⟨I, Imm.le_refl I, hs.sub h, hx⟩
theorem Weakens.trans {x y z : V} {τ υ : Store} (h : Weakens x σ y τ) (k : Weakens y τ z υ) : Weakens x σ z υ := fun I w v hs hx =>
  let ⟨J, j1, j2, j3⟩ := h I w v hs hx
  let ⟨L, l1, l2, l3⟩ := k J w v j2 j3
  ⟨L, Imm.le_trans j1 l1, l2, l3⟩

/-- The end of a call that only tells: x, and the memory as it was. -/
def Ends (x : V) (σ : Store) : Res → Store → Prop := fun r σ' => ∃ y, r = .ret y ∧ Weakens y σ' x σ
theorem HPure.of {f : FuncId} {xs : List V} {x : V} (he : entersB P f = true) (h : ∀ σ, HCalls P f xs σ (Ends x σ)) : HPure P f xs x := ⟨he, fun σ =>
  (h σ).weaken (fun r σ' ⟨y, e, hw⟩ => by cases e; exact ⟨x, σ, hw, rfl, rfl⟩) (fun r σ' ⟨y, e, _⟩ => by cases e)⟩
/-- A call that only tells, in one memory. -/
def HQuiet (P : Program) (f : FuncId) (xs : List V) (σ : Store) (x : V) : Prop := HCalls P f xs σ (fun r σ' => r = .ret x ∧ σ' = σ)
theorem HQuiet.of {f : FuncId} {xs : List V} {x : V} (h : HCalls P f xs σ (Ends x σ)) : HQuiet P f xs σ x :=
  h.weaken (fun r σ' ⟨y, e, hw⟩ => by cases e; exact ⟨x, σ, hw, rfl, rfl⟩) (fun r σ' ⟨y, e, _⟩ => by cases e)
theorem callV_quiet {g : FuncId} {ps qs xs : List V} {x : V} (he : entersB P g = true) (h : HQuiet P g (ps ++ xs ++ qs) σ x) (k : K x σ) : callV P (.fn (.func g) ps qs) xs σ K KP :=
  callV_of he h (fun y σ' ⟨e, f⟩ => by cases e; subst f; exact k) (fun y σ' ⟨e, _⟩ => by cases e)
theorem Ends.mk {x y : V} {τ : Store} (h : Weakens y τ x σ) : Ends x σ (.ret y) τ := ⟨y, rfl, h⟩
theorem Ends.le {x y : V} {τ : Store} (e : y = x) (h : σ.le τ) : Ends x σ (.ret y) τ := by subst e; exact .mk (Weakens.le h)

theorem guardC_q {c : Bool} {flags : List Bool} {op : (V → Store → Prop) → Prop} {x : V} (hf : c = true → ∀ f ∈ flags, f = true) (h : c = true → op (fun y τ => y = x ∧ τ = σ)) (k : K (.cnd c x) σ) : guardC c flags op σ K :=
  ⟨hf, .inr ⟨x, h, k⟩⟩
theorem guardC_ret {c : Bool} {flags : List Bool} {x : V} (hf : c = true → ∀ f ∈ flags, f = true) (k : K (.cnd c x) σ) : guardC c flags (fun K => K x σ) σ K := guardC_q hf (fun _ => ⟨rfl, rfl⟩) k
theorem guardC_split {c : Bool} {flags : List Bool} {op : (V → Store → Prop) → Prop} (hf : c = true → ∀ f ∈ flags, f = true) (h : c = true → op K) (k : c = false → K (.val undef) σ) : guardC c flags op σ K :=
  ⟨hf, .inl ⟨h, k⟩⟩
@[congr] theorem guardC_congr {c c' : Bool} {flags flags' : List Bool} {op op' : (V → Store → Prop) → Prop} {σ' : Store} (h1 : c = c') (h2 : flags = flags') (h3 : ∀ K, op K = op' K) (h4 : σ = σ') : guardC c flags op σ K = guardC c' flags' op' σ' K := by
  subst h1 h2 h4; rw [funext h3]
@[congr] theorem callV_congr {f f' : V} {xs xs' : List V} {σ' : Store} (h1 : f = f') (h2 : xs = xs') (h3 : σ = σ') : callV P f xs σ K KP = callV P f' xs' σ' K KP := by subst h1 h2 h3; rfl
@[congr] theorem appendV_congr {t u : TypeId} {x x' y y' : V} {σ' : Store} (h1 : x = x') (h2 : y = y') (h3 : σ = σ') : appendV P t u x y σ K = appendV P t u x' y' σ' K := by subst h1 h2 h3; rfl
@[congr] theorem exV_congr {A A' B : V → Prop} (h : ∀ x, A x = A' x) : exV A B = exV A' B := by rw [funext h]
@[congr] theorem guardD_congr {c c' : Bool} {flags flags' : List Bool} {A A' B : V → Prop} (h1 : c = c') (h2 : flags = flags') (h : ∀ x, A x = A' x) : guardD c flags A B = guardD c' flags' A' B := by subst h1 h2; rw [funext h]
theorem exV_eq {c : V} {B : V → Prop} : exV (fun x => c = x) B = B c := by simp [exV]
theorem exV_intro {A B : V → Prop} (x : V) (h : A x) (k : B x) : exV A B := ⟨x, h, k⟩
theorem guardD_ret {c : Bool} {flags : List Bool} {x : V} {B : V → Prop} (hf : c = true → ∀ f ∈ flags, f = true) (k : B (.cnd c x)) : guardD c flags (fun y => x = y) B := ⟨hf, x, fun _ => rfl, k⟩
theorem guardD_q {c : Bool} {flags : List Bool} {x : V} {A B : V → Prop} (hf : c = true → ∀ f ∈ flags, f = true) (h : c = true → A x) (k : B (.cnd c x)) : guardD c flags A B := ⟨hf, x, h, k⟩
theorem guardD_no {flags : List Bool} {A B : V → Prop} (k : B (.cnd false .top)) : guardD false flags A B := ⟨fun h => (by cases h), .top, fun h => (by cases h), k⟩
theorem guardC_no {flags : List Bool} {op : (V → Store → Prop) → Prop} (k : K (.cnd false .top) σ) : guardC false flags op σ K := ⟨fun h => (by cases h), .inr ⟨.top, fun h => (by cases h), k⟩⟩
theorem Store.set_id {b : Nat} {k : Blk} (h : σ b = some k) : σ.set b k = σ := by
  funext c
  by_cases e : c = b
  · rw [e, Store.set_same, h]
  · rw [Store.set_other _ _ e]
theorem flags_nil {c : Bool} : c = true → ∀ f ∈ ([] : List Bool), f = true := fun _ _ h => by cases h
theorem flags_same {c : Bool} {fs : List Bool} (h : c = true → ∀ f ∈ fs, f = true) : c = true → ∀ f ∈ c :: fs, f = true := fun hc f hf => by
  rcases List.mem_cons.1 hf with e | e
  · rw [e]; exact hc
  · exact h hc f e
theorem flags_true {c : Bool} {fs : List Bool} (h : c = true → ∀ f ∈ fs, f = true) : c = true → ∀ f ∈ true :: fs, f = true := fun hc f hf => by
  rcases List.mem_cons.1 hf with e | e
  · exact e
  · exact h hc f e

theorem flags_cons {c f : Bool} {fs : List Bool} (h1 : c = true → f = true) (h : c = true → ∀ f ∈ fs, f = true) : c = true → ∀ g ∈ f :: fs, g = true := fun hc g hg => by
  rcases List.mem_cons.1 hg with e | e
  · rw [e]; exact h1 hc
  · exact h hc g e
theorem gC_true {c : Bool} {fs : List Bool} {op : (V → Store → Prop) → Prop} : guardC (c) (true :: fs) op σ K = guardC (c) fs op σ K := by
  have e : ((c) = true → ∀ f ∈ true :: fs, f = true) = ((c) = true → ∀ f ∈ fs, f = true) := propext ⟨fun h hc f hf => h hc f (List.mem_cons_of_mem _ hf), fun h hc f hf => by
    rcases List.mem_cons.1 hf with q | q
    · exact q
    · exact h hc f q⟩
  simp only [guardC, e]
theorem gC_same {c : Bool} {fs : List Bool} {op : (V → Store → Prop) → Prop} : guardC (c) (c :: fs) op σ K = guardC (c) fs op σ K := by
  have e : ((c) = true → ∀ f ∈ c :: fs, f = true) = ((c) = true → ∀ f ∈ fs, f = true) := propext ⟨fun h hc f hf => h hc f (List.mem_cons_of_mem _ hf), fun h hc f hf => by
    rcases List.mem_cons.1 hf with q | q
    · rw [q]; clear h hf q; revert hc; cases c <;> simp
    · exact h hc f q⟩
  simp only [guardC, e]
theorem gC_and1 {x y : Bool} {fs : List Bool} {op : (V → Store → Prop) → Prop} : guardC (x && y) (x :: fs) op σ K = guardC (x && y) fs op σ K := by
  have e : ((x && y) = true → ∀ f ∈ x :: fs, f = true) = ((x && y) = true → ∀ f ∈ fs, f = true) := propext ⟨fun h hc f hf => h hc f (List.mem_cons_of_mem _ hf), fun h hc f hf => by
    rcases List.mem_cons.1 hf with q | q
    · rw [q]; clear h hf q; revert hc; cases x <;> cases y <;> simp
    · exact h hc f q⟩
  simp only [guardC, e]
theorem gC_and2 {x y : Bool} {fs : List Bool} {op : (V → Store → Prop) → Prop} : guardC (x && y) (y :: fs) op σ K = guardC (x && y) fs op σ K := by
  have e : ((x && y) = true → ∀ f ∈ y :: fs, f = true) = ((x && y) = true → ∀ f ∈ fs, f = true) := propext ⟨fun h hc f hf => h hc f (List.mem_cons_of_mem _ hf), fun h hc f hf => by
    rcases List.mem_cons.1 hf with q | q
    · rw [q]; clear h hf q; revert hc; cases x <;> cases y <;> simp
    · exact h hc f q⟩
  simp only [guardC, e]
theorem gC_and3 {x y z : Bool} {fs : List Bool} {op : (V → Store → Prop) → Prop} : guardC (x && y && z) (x :: fs) op σ K = guardC (x && y && z) fs op σ K := by
  have e : ((x && y && z) = true → ∀ f ∈ x :: fs, f = true) = ((x && y && z) = true → ∀ f ∈ fs, f = true) := propext ⟨fun h hc f hf => h hc f (List.mem_cons_of_mem _ hf), fun h hc f hf => by
    rcases List.mem_cons.1 hf with q | q
    · rw [q]; clear h hf q; revert hc; cases x <;> cases y <;> cases z <;> simp
    · exact h hc f q⟩
  simp only [guardC, e]
theorem gC_and4 {x y z w : Bool} {fs : List Bool} {op : (V → Store → Prop) → Prop} : guardC (x && y && z && w) (x :: fs) op σ K = guardC (x && y && z && w) fs op σ K := by
  have e : ((x && y && z && w) = true → ∀ f ∈ x :: fs, f = true) = ((x && y && z && w) = true → ∀ f ∈ fs, f = true) := propext ⟨fun h hc f hf => h hc f (List.mem_cons_of_mem _ hf), fun h hc f hf => by
    rcases List.mem_cons.1 hf with q | q
    · rw [q]; clear h hf q; revert hc; cases x <;> cases y <;> cases z <;> cases w <;> simp
    · exact h hc f q⟩
  simp only [guardC, e]
theorem gC_and5 {x y z w : Bool} {fs : List Bool} {op : (V → Store → Prop) → Prop} : guardC (x && y && z && w) ((x && y) :: fs) op σ K = guardC (x && y && z && w) fs op σ K := by
  have e : ((x && y && z && w) = true → ∀ f ∈ (x && y) :: fs, f = true) = ((x && y && z && w) = true → ∀ f ∈ fs, f = true) := propext ⟨fun h hc f hf => h hc f (List.mem_cons_of_mem _ hf), fun h hc f hf => by
    rcases List.mem_cons.1 hf with q | q
    · rw [q]; clear h hf q; revert hc; cases x <;> cases y <;> cases z <;> cases w <;> simp
    · exact h hc f q⟩
  simp only [guardC, e]
theorem gD_true {c : Bool} {fs : List Bool} {A B : V → Prop} : guardD (c) (true :: fs) A B = guardD (c) fs A B := by
  have e : ((c) = true → ∀ f ∈ true :: fs, f = true) = ((c) = true → ∀ f ∈ fs, f = true) := propext ⟨fun h hc f hf => h hc f (List.mem_cons_of_mem _ hf), fun h hc f hf => by
    rcases List.mem_cons.1 hf with q | q
    · exact q
    · exact h hc f q⟩
  simp only [guardD, e]
theorem gD_same {c : Bool} {fs : List Bool} {A B : V → Prop} : guardD (c) (c :: fs) A B = guardD (c) fs A B := by
  have e : ((c) = true → ∀ f ∈ c :: fs, f = true) = ((c) = true → ∀ f ∈ fs, f = true) := propext ⟨fun h hc f hf => h hc f (List.mem_cons_of_mem _ hf), fun h hc f hf => by
    rcases List.mem_cons.1 hf with q | q
    · rw [q]; clear h hf q; revert hc; cases c <;> simp
    · exact h hc f q⟩
  simp only [guardD, e]
theorem gD_and1 {x y : Bool} {fs : List Bool} {A B : V → Prop} : guardD (x && y) (x :: fs) A B = guardD (x && y) fs A B := by
  have e : ((x && y) = true → ∀ f ∈ x :: fs, f = true) = ((x && y) = true → ∀ f ∈ fs, f = true) := propext ⟨fun h hc f hf => h hc f (List.mem_cons_of_mem _ hf), fun h hc f hf => by
    rcases List.mem_cons.1 hf with q | q
    · rw [q]; clear h hf q; revert hc; cases x <;> cases y <;> simp
    · exact h hc f q⟩
  simp only [guardD, e]
theorem gD_and2 {x y : Bool} {fs : List Bool} {A B : V → Prop} : guardD (x && y) (y :: fs) A B = guardD (x && y) fs A B := by
  have e : ((x && y) = true → ∀ f ∈ y :: fs, f = true) = ((x && y) = true → ∀ f ∈ fs, f = true) := propext ⟨fun h hc f hf => h hc f (List.mem_cons_of_mem _ hf), fun h hc f hf => by
    rcases List.mem_cons.1 hf with q | q
    · rw [q]; clear h hf q; revert hc; cases x <;> cases y <;> simp
    · exact h hc f q⟩
  simp only [guardD, e]
theorem gD_and3 {x y z : Bool} {fs : List Bool} {A B : V → Prop} : guardD (x && y && z) (x :: fs) A B = guardD (x && y && z) fs A B := by
  have e : ((x && y && z) = true → ∀ f ∈ x :: fs, f = true) = ((x && y && z) = true → ∀ f ∈ fs, f = true) := propext ⟨fun h hc f hf => h hc f (List.mem_cons_of_mem _ hf), fun h hc f hf => by
    rcases List.mem_cons.1 hf with q | q
    · rw [q]; clear h hf q; revert hc; cases x <;> cases y <;> cases z <;> simp
    · exact h hc f q⟩
  simp only [guardD, e]
theorem gD_and4 {x y z w : Bool} {fs : List Bool} {A B : V → Prop} : guardD (x && y && z && w) (x :: fs) A B = guardD (x && y && z && w) fs A B := by
  have e : ((x && y && z && w) = true → ∀ f ∈ x :: fs, f = true) = ((x && y && z && w) = true → ∀ f ∈ fs, f = true) := propext ⟨fun h hc f hf => h hc f (List.mem_cons_of_mem _ hf), fun h hc f hf => by
    rcases List.mem_cons.1 hf with q | q
    · rw [q]; clear h hf q; revert hc; cases x <;> cases y <;> cases z <;> cases w <;> simp
    · exact h hc f q⟩
  simp only [guardD, e]
theorem gD_and5 {x y z w : Bool} {fs : List Bool} {A B : V → Prop} : guardD (x && y && z && w) ((x && y) :: fs) A B = guardD (x && y && z && w) fs A B := by
  have e : ((x && y && z && w) = true → ∀ f ∈ (x && y) :: fs, f = true) = ((x && y && z && w) = true → ∀ f ∈ fs, f = true) := propext ⟨fun h hc f hf => h hc f (List.mem_cons_of_mem _ hf), fun h hc f hf => by
    rcases List.mem_cons.1 hf with q | q
    · rw [q]; clear h hf q; revert hc; cases x <;> cases y <;> cases z <;> cases w <;> simp
    · exact h hc f q⟩
  simp only [guardD, e]
theorem guardC_ret0 {c : Bool} {x : V} (k : K (.cnd c x) σ) : guardC c [] (fun K => K x σ) σ K := guardC_ret flags_nil k
theorem guardD_ret0 {c : Bool} {x : V} {B : V → Prop} (k : B (.cnd c x)) : guardD c [] (fun y => x = y) B := guardD_ret flags_nil k
theorem guardC_q0 {c : Bool} {op : (V → Store → Prop) → Prop} {x : V} (h : c = true → op (fun y τ => y = x ∧ τ = σ)) (k : K (.cnd c x) σ) : guardC c [] op σ K := guardC_q flags_nil h k
theorem guardD_q0 {c : Bool} {x : V} {A B : V → Prop} (h : c = true → A x) (k : B (.cnd c x)) : guardD c [] A B := guardD_q flags_nil h k

theorem loadL_s {t : TypeId} {cs : List V} {off : Nat} {K : V → Prop} (h : kindB P t = some false) : loadL P t cs off K = match cs[off]? with | none => False | some c => K c := by simp only [loadL, h]; cases cs[off]? <;> rfl
theorem loadL_a {t : TypeId} {cs : List V} {off : Nat} {K : V → Prop} (h : kindB P t = some true) : loadL P t cs off K = (off + P.cellsOf t ≤ cs.length ∧ K (.agg ((cs.drop off).take (P.cellsOf t)))) := by simp only [loadL, h]
theorem cells_agg (cs : List V) : (V.agg cs).cells = cs := rfl
theorem cells_int (k : IntKind) (n : Int) : (V.val (.int k n)).cells = [V.val (.int k n)] := rfl
theorem cells_bool (b : Bool) : (V.val (.bool b)).cells = [V.val (.bool b)] := rfl
theorem cells_str (b : ByteArray) : (V.val (.string b)).cells = [V.val (.string b)] := rfl
theorem cells_float (k : FloatKind) (b : Nat) : (V.val (.float k b)).cells = [V.val (.float k b)] := rfl
theorem cells_nilp (a : Option Addr) : (V.val (.pointer a)).cells = [V.val (.pointer a)] := rfl
theorem cells_nils (a : Option Addr) (n c : Nat) : (V.val (.slice a n c)).cells = [V.val (.slice a n c)] := rfl
theorem cells_nilf : (V.val .nilFunc).cells = [V.val .nilFunc] := rfl
theorem cells_nili : (V.val .nilIface).cells = [V.val .nilIface] := rfl
theorem cells_nilm (r : Option Nat) : (V.val (.map r)).cells = [V.val (.map r)] := rfl
theorem cells_ptr (b o : Nat) : (V.ptr b o).cells = [V.ptr b o] := rfl
theorem cells_sl (b o n c : Nat) : (V.sl b o n c).cells = [V.sl b o n c] := rfl
theorem cells_lst (k : Nat) (xs : List V) : (V.lst k xs).cells = [V.lst k xs] := rfl
theorem cells_ro (xs : List V) : (V.ro xs).cells = [V.ro xs] := rfl
theorem cells_tup (xs : List V) : (V.tup xs).cells = [V.tup xs] := rfl
theorem cells_fn (f : Fn) (ps qs : List V) : (V.fn f ps qs).cells = [V.fn f ps qs] := rfl
theorem cells_ifc (t : TypeId) (x : V) : (V.ifc t x).cells = [V.ifc t x] := rfl

def idxOf (o : Option Nat) : Int := match o with | some i => i | none => -1

theorem notB_imp (b : Bool) : (b = false → (!b) = true) = True := by cases b <;> simp
theorem ite_and (b p : Bool) : (if b = true then p else false) = (b && p) := by cases b <;> rfl
theorem ite_or (b p : Bool) : (if b = true then true else p) = (b || p) := by cases b <;> rfl

/-! The rest of a region as a name, so that simp does not walk into it. -/
def vcK (P : Program) (slots : List (Option Tmp)) (K : List V → Store → Prop) (KP : V → List V → Store → Prop) (rest : List Oper) (dst : Option Tmp) (env : List V) : V → Store → Prop := fun x σ' => vcOps P slots K KP rest (putV env dst x) σ'
def vcKP (KP : V → List V → Store → Prop) (env : List V) : V → Store → Prop := fun p σ' => KP p env σ'
def vcDK (P : Program) (all : List Oper) (slots : List (Option Tmp)) (es : List Nat) (C : Cls) (K : List V → Store → Prop) (KP : V → Store → Prop) (rest : List Nat) (dst : Option Tmp) (env : List V) : V → Store → Prop := fun x σ' => vcDraw P all slots es C K KP rest (putV env dst x) σ'
def vcDB (K : V → Store → Prop) (σ : Store) : V → Prop := fun x => K x σ
theorem vcK_app {slots : List (Option Tmp)} {K : List V → Store → Prop} {KP : V → List V → Store → Prop} {rest : List Oper} {dst : Option Tmp} {x : V} : vcK P slots K KP rest dst env x σ = vcOps P slots K KP rest (putV env dst x) σ := rfl
theorem vcKP_app {KP : V → List V → Store → Prop} {x : V} : vcKP KP env x σ = KP x env σ := rfl
theorem vcDK_app {all : List Oper} {slots : List (Option Tmp)} {es : List Nat} {C : Cls} {K : List V → Store → Prop} {rest : List Nat} {dst : Option Tmp} {x : V} : vcDK P all slots es C K KP rest dst env x σ = vcDraw P all slots es C K KP rest (putV env dst x) σ := rfl
theorem vcDB_app {x : V} : vcDB K σ x = K x σ := rfl
theorem vcOps_nil {slots : List (Option Tmp)} {K : List V → Store → Prop} {KP : V → List V → Store → Prop} : vcOps P slots K KP [] env σ = K env σ := rfl
theorem vcOps_cons {slots : List (Option Tmp)} {K : List V → Store → Prop} {KP : V → List V → Store → Prop} {d : Option Tmp} {op : Op} {ty : TypeId} {pos : String} {af : Array Edge} {rest : List Oper} : vcOps P slots K KP (⟨d, op, ty, pos, af, none⟩ :: rest) env σ = opV P (evalV env) ⟨d, op, ty, pos, af, none⟩ σ (vcK P slots K KP rest d env) (vcKP KP env) := rfl
theorem vcOps_consg {slots : List (Option Tmp)} {K : List V → Store → Prop} {KP : V → List V → Store → Prop} {d : Option Tmp} {op : Op} {j : Nat} {w : Bool} {ty : TypeId} {pos : String} {af : Array Edge} {rest : List Oper} : vcOps P slots K KP (⟨d, op, ty, pos, af, some (j, w)⟩ :: rest) env σ = guardV (yieldV slots env j) w (flagsOf env op) (fun K => opG P env ⟨d, op, ty, pos, af, some (j, w)⟩ σ K (vcKP KP env)) σ (vcK P slots K KP rest d env) := rfl
theorem vcDraw_nil {all : List Oper} {slots : List (Option Tmp)} {es : List Nat} {C : Cls} {K : List V → Store → Prop} : vcDraw P all slots es C K KP [] env σ = K env σ := rfl
theorem vcDraw_cons {all : List Oper} {slots : List (Option Tmp)} {es : List Nat} {C : Cls} {K : List V → Store → Prop} {i : Nat} {rest : List Nat} : vcDraw P all slots es C K KP (i :: rest) env σ = match all[i]? with
    | some o => stepD P slots es C KP i o env σ (vcDK P all slots es C K KP rest o.dst env)
    | none => False := rfl
def effV (f : (V → Store → Prop) → (V → Store → Prop) → Prop) (c : Store → Prop) (K KP : V → Store → Prop) : Prop := ∃ KE KPE, f KE KPE ∧ (∀ x σ', KE x σ' → c σ' ∧ K x σ') ∧ (∀ p σ', KPE p σ' → KP p σ')
theorem effV_intro {f : (V → Store → Prop) → (V → Store → Prop) → Prop} {c : Store → Prop} {K KP : V → Store → Prop} (h : f (fun x σ' => c σ' ∧ K x σ') KP) : effV f c K KP := ⟨_, _, h, fun _ _ q => q, fun _ _ q => q⟩
theorem effV_true {f : (V → Store → Prop) → (V → Store → Prop) → Prop} {K KP : V → Store → Prop} (h : f K KP) : effV f (fun _ => True) K KP := ⟨_, _, h, fun _ _ q => ⟨trivial, q⟩, fun _ _ q => q⟩
@[congr] theorem effV_congr {f f' : (V → Store → Prop) → (V → Store → Prop) → Prop} {c : Store → Prop} {K KP : V → Store → Prop} (h : ∀ a b, f a b = f' a b) : effV f c K KP = effV f' c K KP := by
  rw [show f = f' from funext fun a => funext fun b => h a b]
theorem stepD_eq {slots : List (Option Tmp)} {es : List Nat} {C : Cls} {i : Nat} {d : Option Tmp} {op : Op} {ty : TypeId} {pos : String} {af : Array Edge} : stepD P slots es C KP i ⟨d, op, ty, pos, af, none⟩ env σ K = if es.contains i = true then
    effV (fun KE KPE => opV P (evalV env) ⟨d, op, ty, pos, af, none⟩ σ KE KPE) C.c K KP
  else exV (fun x => C.at_ i fun τ => opV P (evalV env) ⟨d, op, ty, pos, af, none⟩ τ (fun y τ' => y = x ∧ τ' = τ) (fun _ _ => False)) (vcDB K σ) := by
  simp only [stepD, vcDB, effV]; simp; rfl
theorem stepD_eqg {slots : List (Option Tmp)} {es : List Nat} {C : Cls} {i : Nat} {d : Option Tmp} {op : Op} {j : Nat} {w : Bool} {ty : TypeId} {pos : String} {af : Array Edge} : stepD P slots es C KP i ⟨d, op, ty, pos, af, some (j, w)⟩ env σ K = if es.contains i = true then False else match condOf (yieldV slots env j) w with
      | some c => guardD c (flagsOf env op) (fun x => C.at_ i fun τ => opG P env ⟨d, op, ty, pos, af, some (j, w)⟩ τ (fun y τ' => y = x ∧ τ' = τ) (fun _ _ => False)) (vcDB K σ)
      | none => False := by
  simp only [stepD, vcDB]
  split
  · simp
  · rfl
theorem Cls.at_eq {el : List Nat} {s0 : Store} {c : Store → Prop} {i : Nat} {A : Store → Prop} : Cls.at_ ⟨el, s0, c⟩ i A = if el.contains i = true then A s0 else ∀ τ, c τ → A τ := rfl
theorem Cls.c_eq {el : List Nat} {s0 : Store} {c : Store → Prop} {σ : Store} : Cls.c ⟨el, s0, c⟩ σ = c σ := rfl
theorem all_store {p : Prop} : (∀ _ : Store, p) = p := propext ⟨fun h => h (fun _ => none), fun h _ => h⟩
theorem exV_eq' {c : V} {B : V → Prop} : exV (fun x => c = x) B = B c := by simp [exV]

def flagsL (env : List V) : List Operand → List Bool
  | [] => []
  | x :: xs => (evalV env x).flag :: flagsL env xs
theorem flagsL_nil : flagsL env [] = [] := rfl
theorem flagsL_cons {x : Operand} {xs : List Operand} : flagsL env (x :: xs) = (evalV env x).flag :: flagsL env xs := rfl
theorem flagsL_map : ∀ l : List Operand, l.map (fun x => (evalV env x).flag) = flagsL env l
  | [] => rfl
  | x :: xs => by rw [List.map_cons, flagsL_map xs]; rfl
theorem flagsOf_eq {op : Op} (h : isPick op = false) : flagsOf env op = flagsL env op.operands.toList := (flagsOf_op h).trans (flagsL_map _)
theorem isPick_def {o : Op} : isPick o = (match o with | .pick _ _ _ => true | _ => false) := rfl
theorem opG_def {o : Oper} {K KP : V → Store → Prop} : opG P env o σ K KP = (match o.op with | .pick c a b => pickV (evalV env c).strip (evalV env a) (evalV env b) σ K | _ => opV P (fun x => (evalV env x).strip) o σ K KP) := rfl
theorem flagsOf_def {o : Op} : flagsOf env o = (match o with | .pick c _ _ => flagsL env [c] | o => flagsL env o.operands.toList) := by
  cases h : isPick o with
  | true => obtain ⟨c, a, b, rfl⟩ := isPick_is h; rfl
  | false => rw [flagsOf_eq h]; cases o <;> first | rfl | cases h
theorem callops_v {f : Operand} {args : Array Operand} {ts : Array TypeId} : Call.operands ⟨.value f, args, ts⟩ = (f :: args.toList).toArray := by simp [Call.operands]
theorem callops_b {f : Builtin} {args : Array Operand} {ts : Array TypeId} : Call.operands ⟨.builtin f, args, ts⟩ = args.toList.toArray := by simp [Call.operands]

theorem repL_11 {a : V} : repL [a] 1 = [a] := rfl
theorem repL_12 {a : V} : repL [a] 2 = [a, a] := by simp [repL, List.range_succ]
theorem repL_13 {a : V} : repL [a] 3 = [a, a, a] := by simp [repL, List.range_succ]
theorem repL_22 {a b : V} : repL [a, b] 2 = [a, b] := rfl
theorem repL_24 {a b : V} : repL [a, b] 4 = [a, b, a, b] := by simp [repL, List.range_succ]
theorem repL_33 {a b c : V} : repL [a, b, c] 3 = [a, b, c] := rfl
theorem sl_ops1 {a b : Operand} : (#[a] ++ (none : Option Operand).toArray ++ (some b).toArray ++ (none : Option Operand).toArray).toList = [a, b] := rfl
theorem sl_ops2 {a b : Operand} : (#[a] ++ (some b).toArray ++ (none : Option Operand).toArray ++ (none : Option Operand).toArray).toList = [a, b] := rfl
theorem sl_ops3 {a b c : Operand} : (#[a] ++ (some b).toArray ++ (some c).toArray ++ (none : Option Operand).toArray).toList = [a, b, c] := rfl
theorem sl_ops4 {a : Operand} : (#[a] ++ (none : Option Operand).toArray ++ (none : Option Operand).toArray ++ (none : Option Operand).toArray).toList = [a] := rfl
theorem sl_ops5 {a b c : Operand} : (#[a] ++ (none : Option Operand).toArray ++ (some b).toArray ++ (some c).toArray).toList = [a, b, c] := rfl
theorem sl_ops6 {a b c d : Operand} : (#[a] ++ (some b).toArray ++ (some c).toArray ++ (some d).toArray).toList = [a, b, c, d] := rfl

/-! Arithmetic. -/
theorem i64_in {n : Int} (h0 : -9223372036854775808 ≤ n) (h1 : n ≤ 9223372036854775807) : IntKind.i64.wrap n = n := by
  simp only [IntKind.wrap, IntKind.signed, IntKind.bits]; simp; omega
theorem i64_succ {i n : Nat} (h : i < n) (hn : n ≤ 9223372036854775807) : IntKind.i64.wrap ((i : Int) + 1) = ((i + 1 : Nat) : Int) := by rw [i64_in (by omega) (by omega)]; omega
theorem u8_in {n : Int} (h0 : 0 ≤ n) (h1 : n ≤ 255) : IntKind.u8.wrap n = n := by
  simp only [IntKind.wrap, IntKind.signed, IntKind.bits, Bool.false_and, Bool.false_eq_true, if_false]; omega
theorem u32_in {n : Int} (h0 : 0 ≤ n) (h1 : n ≤ 4294967295) : IntKind.u32.wrap n = n := by
  simp only [IntKind.wrap, IntKind.signed, IntKind.bits, Bool.false_and, Bool.false_eq_true, if_false]; omega
theorem u64_in {n : Int} (h0 : 0 ≤ n) (h1 : n ≤ 18446744073709551615) : IntKind.u64.wrap n = n := by
  simp only [IntKind.wrap, IntKind.signed, IntKind.bits, Bool.false_and, Bool.false_eq_true, if_false]; omega

section
variable {t : TypeId} {k : IntKind} {a b : Int}
theorem bin_add : binV P .add t (.val (.int k a)) (.val (.int k b)) σ K = K (.val (.int k (k.wrap (a + b)))) σ := by simp [binV, isShift, binI]
theorem bin_sub : binV P .sub t (.val (.int k a)) (.val (.int k b)) σ K = K (.val (.int k (k.wrap (a - b)))) σ := by simp [binV, isShift, binI]
theorem bin_mul : binV P .mul t (.val (.int k a)) (.val (.int k b)) σ K = K (.val (.int k (k.wrap (a * b)))) σ := by simp [binV, isShift, binI]
theorem bin_quo : binV P .quo t (.val (.int k a)) (.val (.int k b)) σ K = (b ≠ 0 ∧ K (.val (.int k (k.wrap (a.tdiv b)))) σ) := by simp [binV, isShift, binI]
theorem bin_rem : binV P .rem t (.val (.int k a)) (.val (.int k b)) σ K = (b ≠ 0 ∧ K (.val (.int k (a.tmod b))) σ) := by simp [binV, isShift, binI]
theorem bin_and : binV P .and t (.val (.int k a)) (.val (.int k b)) σ K = K (.val (.int k (k.wrap (BitVec.ofInt k.bits a &&& BitVec.ofInt k.bits b).toNat))) σ := by simp [binV, isShift, binI]
theorem bin_or : binV P .or t (.val (.int k a)) (.val (.int k b)) σ K = K (.val (.int k (k.wrap (BitVec.ofInt k.bits a ||| BitVec.ofInt k.bits b).toNat))) σ := by simp [binV, isShift, binI]
theorem bin_xor : binV P .xor t (.val (.int k a)) (.val (.int k b)) σ K = K (.val (.int k (k.wrap (BitVec.ofInt k.bits a ^^^ BitVec.ofInt k.bits b).toNat))) σ := by simp [binV, isShift, binI]
theorem bin_eql : binV P .eql t (.val (.int k a)) (.val (.int k b)) σ K = K (BV (a == b)) σ := by simp [binV, isShift, binI]
theorem bin_neq : binV P .neq t (.val (.int k a)) (.val (.int k b)) σ K = K (BV (a != b)) σ := by simp [binV, isShift, binI]
theorem bin_lss : binV P .lss t (.val (.int k a)) (.val (.int k b)) σ K = K (BV (decide (a < b))) σ := by simp [binV, isShift, binI]
theorem bin_leq : binV P .leq t (.val (.int k a)) (.val (.int k b)) σ K = K (BV (decide (a ≤ b))) σ := by simp [binV, isShift, binI]
theorem bin_gtr : binV P .gtr t (.val (.int k a)) (.val (.int k b)) σ K = K (BV (decide (b < a))) σ := by simp [binV, isShift, binI]
theorem bin_geq : binV P .geq t (.val (.int k a)) (.val (.int k b)) σ K = K (BV (decide (b ≤ a))) σ := by simp [binV, isShift, binI]
theorem bin_shl {k' : IntKind} : binV P .shl t (.val (.int k a)) (.val (.int k' b)) σ K = (0 ≤ b ∧ K (.val (.int k (k.wrap (a * 2 ^ (min b.toNat k.bits))))) σ) := by simp [binV, isShift, shiftI]
theorem bin_shr {k' : IntKind} : binV P .shr t (.val (.int k a)) (.val (.int k' b)) σ K = (0 ≤ b ∧ K (.val (.int k (a.fdiv (2 ^ (min b.toNat k.bits))))) σ) := by simp [binV, isShift, shiftI]
end

theorem cond_val {b w : Bool} : condOf (BV b) w = some (b == w) := rfl
theorem cond_cnd {a b w : Bool} : condOf (.cnd a (BV b)) w = some (a && (b == w)) := rfl
theorem guardV_some {g : V} {w c : Bool} {flags : List Bool} {op : (V → Store → Prop) → Prop} (h : condOf g w = some c) : guardV g w flags op σ K = guardC c flags op σ K := by simp [guardV, h]
theorem guardV_eq {g : V} {w : Bool} {flags : List Bool} {op : (V → Store → Prop) → Prop} : guardV g w flags op σ K = match condOf g w with | some c => guardC c flags op σ K | none => False := rfl
end
end Go.Proofs.Ytaldikplfcoahaa
