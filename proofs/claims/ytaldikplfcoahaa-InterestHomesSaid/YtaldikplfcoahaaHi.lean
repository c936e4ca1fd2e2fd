/- Own framework, part i: every operation; a list of operations in the text's order; code; a call out of its body. -/
import Derived.Test.YtaldikplfcoahaaHh
import Derived.Orders
namespace Go.Proofs.Ytaldikplfcoahaa
set_option linter.unusedSimpArgs false
set_option linter.unusedVariables false
open Go.RowKit

section
variable {P : Program} {I : Imm} {w : World} {K KP : V → Store → Prop} {σ : Store}

theorem run_enter {g : FuncId} {args : Array Value} (h : entersB P g = true) : (callFunc g args).run P w = .ok (.enter g args) w := by
  unfold entersB at h
  cases e : P.funcs[g]? with
  | none => simp [e] at h
  | some fn =>
    simp only [e, Bool.and_eq_true, Bool.not_eq_true'] at h
    obtain ⟨h1, h2⟩ := h
    have h3 : fn.body.isNone = false := by cases hb : fn.body <;> simp_all
    simp only [callFunc, Sem.run_bind, run_program, Result.andThen_ok, e, h1, Bool.false_eq_true, if_false, h3, Sem.run_pure]

theorem call_ok {f : V} {xs : List V} {u : Value} {vs : Array Value} (hs : StR σ I w) (hf : VR I f u) (hx : LR I xs vs.toList) (h : callV P f xs σ K KP) :
    Upon P I w K KP ((do let d ← Deferred.ofValue u vs; invoke d.target d.args : Sem Next).run P w) := by
  unfold callV at h
  split at h
  · rename_i g ps qs
    obtain ⟨us, ws, rfl, hps, hqs⟩ := hf.inv_fn
    obtain ⟨he, hc⟩ := h
    simp only [Deferred.ofValue, Sem.run_bind, Sem.run_pure, Result.andThen_ok, invoke, run_enter he]
    refine ⟨Bel.refl _, (hc I w (us ++ vs ++ ws) hs (by simpa using (hps.append hx).append hqs)).mono fun e w' ⟨hb, I', σ', h1, h2, h3⟩ => ⟨hb, I', σ', h1, h2, h3⟩⟩
  · exact h.elim

theorem panic_ok {x : V} {u : Value} (hs : StR σ I w) (hx : VR I x u) (h : panicV x σ KP) : Upon P I w K KP ((do pure (.value (← Instr.panic u)) : Sem Next).run P w) := by
  unfold panicV at h
  split at h
  · cases hx with
    | ifc t x v hv =>
      simp only [Instr.panic, goPanic, Sem.run_bind, Sem.run_halt, Result.andThen_halt]
      exact ⟨Bel.refl _, I, _, σ, Imm.le_refl I, hs, .ifc _ _ _ hv, h⟩
  · exact h.elim

theorem maps_eq {ρ : Operand → V} {ρc : Operand → Value} {args : Array Operand} {xs : List V} (h : args.toList.map ρ = xs) : ∃ as : List Operand, args = as.toArray ∧ as.map ρ = xs := ⟨args.toList, by simp, h⟩

theorem builtin_ok {b : Builtin} {ts : Array TypeId} {ty : TypeId} {cs : Array Bool} {ρ : Operand → V} {ρc : Operand → Value} {args : Array Operand} (hs : StR σ I w) (hρ : ∀ x ∈ args, VR I (ρ x) (ρc x))
    (h : builtinV P b ts.toList (args.toList.map ρ) σ K) : Upon P I w K KP ((builtin b ts ty cs (args.map ρc)).run P w) := by
  obtain ⟨args⟩ := args
  obtain ⟨ts⟩ := ts
  unfold builtinV at h
  simp only [] at h
  split at h
  · rename_i t rest x e2
    obtain ⟨a, rfl, rfl⟩ := List.map_eq_singleton_iff.1 e2
    have := len_ok (P := P) (K := K) (KP := KP) (ts := (t :: rest).toArray) (t := t) (ty := ty) rfl hs (hρ a (by simp)) h
    simpa [builtin] using this
  · rename_i t u x y e2
    cases args with
    | nil => simp at e2
    | cons a as =>
      cases as with
      | nil => simp at e2
      | cons b as =>
        cases as with
        | cons c as => simp at e2
        | nil =>
          simp only [List.map_cons, List.map_nil, List.cons.injEq, and_true] at e2
          obtain ⟨rfl, rfl⟩ := e2
          have := append_ok (P := P) (K := K) (KP := KP) (ty := ty) hs (hρ a (by simp)) (hρ b (by simp)) h
          simpa [builtin] using this
  · split at h
    · rename_i x hm
      unfold minI at hm
      split at hm
      · rename_i k m k' n e2
        split at hm
        · rename_i ek; subst ek
          simp only [Option.some.injEq] at hm; subst hm
          cases args with
          | nil => simp at e2
          | cons a as =>
            cases as with
            | nil => simp at e2
            | cons b as =>
              cases as with
              | cons c as => simp at e2
              | nil =>
                simp only [List.map_cons, List.map_nil, List.cons.injEq, and_true] at e2
                have h1 := hρ a (by simp); have h2 := hρ b (by simp)
                rw [e2.1] at h1; rw [e2.2] at h2
                have e1' := h1.inv_val; have e2' := h2.inv_val
                refine Upon.valRun hs ?_ (.val _) h
                simp [Builtin.min_, e1', e2', Builtin.min2]
        · cases hm
      · cases hm
    · exact h.elim
  · split at h
    · rename_i x hm
      unfold maxI at hm
      split at hm
      · rename_i k m k' n e2
        split at hm
        · rename_i ek; subst ek
          simp only [Option.some.injEq] at hm; subst hm
          cases args with
          | nil => simp at e2
          | cons a as =>
            cases as with
            | nil => simp at e2
            | cons b as =>
              cases as with
              | cons c as => simp at e2
              | nil =>
                simp only [List.map_cons, List.map_nil, List.cons.injEq, and_true] at e2
                have h1 := hρ a (by simp); have h2 := hρ b (by simp)
                rw [e2.1] at h1; rw [e2.2] at h2
                have e1' := h1.inv_val; have e2' := h2.inv_val
                refine Upon.valRun hs ?_ (.val _) h
                simp [Builtin.max_, e1', e2', Builtin.max2]
        · cases hm
      · cases hm
    · exact h.elim
  · exact h.elim

theorem LR.mapMem {I : Imm} {α : Type} {f : α → V} {g : α → Value} {l : List α} (h : ∀ a ∈ l, VR I (f a) (g a)) : LR I (l.map f) (l.map g) := by
  induction l with
  | nil => exact LR.nil I
  | cons a l ih => exact LR.cons (h a (List.mem_cons_self ..)) (ih fun b hb => h b (List.mem_cons_of_mem _ hb))

/-- EVERY OPERATION. -/
theorem opV_ok {ρ : Operand → V} {ρc : Operand → Value} (hρ : ∀ x, VR I (ρ x) (ρc x)) (o : Oper) (hs : StR σ I w) (h : opV P ρ o σ K KP) : Upon P I w K KP ((execOp ρc o).run P w) := by
  obtain ⟨dst, op, type, pos, after, guard⟩ := o
  unfold opV at h
  cases op <;> simp only [] at h <;> first | exact h.elim | skip
  case move x => exact Upon.val hs (hρ x) h
  case assign x => exact Upon.val hs (hρ x) h
  case pick c a b => exact pick_ok hs (hρ c) (hρ a) (hρ b) h
  case alloc t => exact alloc_ok hs h
  case box t x => exact box_ok hs (hρ x) h
  case build t parts => exact build_ok hρ parts hs h
  case buildSlice t n parts => exact buildSlice_ok hρ parts hs h
  case load t a => exact load_ok hs (hρ a) h
  case store t a x => exact store_ok hs (hρ a) (hρ x) h
  case nilCheck x => exact nil_ok hs (hρ x) h _ _ _ _ _
  case binOp op t x y _ => exact bin_ok hs (hρ x) (hρ y) h
  case unOp op _ x => exact un_ok hs (hρ x) h
  case convert s d x => exact convert_ok hs (hρ x) h
  case makeInterface t x => exact iface_ok hs (hρ x) h
  case makeFunc f first captured => exact func_ok hρ hs h
  case makeSlice t l c => exact makeSlice_ok hs (hρ l) (hρ c) h
  case slice t x lo hi mx => exact slice_ok hs (hρ x) (OptR.map hρ lo) (OptR.map hρ hi) (OptR.map hρ mx) h
  case fieldAddr s x i => exact fieldAddr_ok hs (hρ x) h
  case field s x i => exact field_ok hs (hρ x) h
  case indexAddr t x i => exact indexAddr_ok hs (hρ x) (hρ i) h
  case index t x i => exact index_ok hs (hρ x) (hρ i) h
  case extract x i => exact extract_ok hs (hρ x) h
  case panic x => exact panic_ok hs (hρ x) h
  case call c =>
    split at h
    · rename_i f hf
      have := call_ok (P := P) (K := K) (KP := KP) (vs := c.args.map ρc) hs (hρ f) (by simpa using LR.map hρ c.args.toList) h
      simp only [execOp, resolve, hf]
      exact this
    · rename_i b hb
      have := builtin_ok (P := P) (K := K) (KP := KP) (ty := type) (cs := c.args.map fun | .const _ => true | _ => false) hs (fun x _ => hρ x) h
      simp only [execOp, resolve, hb, Sem.run_bind, Sem.run_pure, Result.andThen_ok, invoke]
      exact this
    · exact h.elim

theorem Upon.wp {Q : Ex → List V → Store → Prop} {I0 : Imm} {w0 : World} {o : Oper} {a : Act} {next : Act → World → Prop} {env : List V} (hI0 : I0.le I) (hw0 : Bel w0 w) (he : LR I env a.tmps.toList) (hd : a.defers = []) {r : Result Next}
    (hu : Upon P I w K KP r)
    (hk : ∀ I' w' x v σ', I.le I' → Bel w w' → StR σ' I' w' → VR I' x v → K x σ' → next (a.put o.dst v) w') (hp : ∀ p σ', KP p σ' → Q (.pan p) env σ') : o.upon P a next (toQ I0 w0 Q) r := by
  cases r with
  | ok n w' =>
    cases n with
    | value v => obtain ⟨h1, I', x, σ', h2, h3, h4, h5⟩ := hu; exact hk I' w' x v σ' h2 h1 h3 h4 h5
    | skip => obtain ⟨h1, I', σ', h2, h3, h5⟩ := hu; exact hk I' w' _ undef σ' h2 h1 h3 (.top _) h5
    | enter f args =>
      obtain ⟨h1, hc⟩ := hu
      refine hc.mono fun e w'' ⟨hb, I', σ', h2, h3, h4⟩ => ?_
      rcases h4 with ⟨r, v, rfl, hv, hr⟩ | ⟨r, v, rfl, hv, hr⟩
      · exact hk I' w'' r v σ' h2 (h1.trans hb) h3 hv hr
      · exact ⟨hd, (hw0.trans h1).trans hb, I', σ', env, Imm.le_trans hI0 h2, h3, he.mono h2, r, v, rfl, hv, hp r σ' hr⟩
    | _ => exact hu.elim
  | halt h w' =>
    cases h with
    | panic v =>
      obtain ⟨h1, I', x, σ', h2, h3, h4, h5⟩ := hu
      exact ⟨hd, hw0.trans h1, I', σ', env, Imm.le_trans hI0 h2, h3, he.mono h2, x, v, rfl, h4, hp x σ' h5⟩
    | _ => exact hu.elim

end

/-! What an operation does hangs on its operands alone. -/

theorem parts_congr {ρ ρ' : Operand → V} {ps : Array (Nat × Operand)} (h : ∀ x ∈ ps.map (·.2), ρ x = ρ' x) : (ps.toList.map fun (i, x) => (i, ρ x)) = ps.toList.map fun (i, x) => (i, ρ' x) :=
  List.map_congr_left fun p hm => by
    obtain ⟨i, x⟩ := p
    simp only [h x (Array.mem_map.2 ⟨(i, x), by simpa using hm, rfl⟩)]

theorem opV_congr {P : Program} {ρ ρ' : Operand → V} (o : Oper) (h : ∀ x ∈ o.op.operands, ρ x = ρ' x) (σ : Store) (K KP : V → Store → Prop) : opV P ρ o σ K KP = opV P ρ' o σ K KP := by
  obtain ⟨dst, op, type, pos, after, guard⟩ := o
  cases op <;> simp only [Op.operands] at h <;> simp only [opV]
  case build t ps => rw [parts_congr fun x hx => h x (by simpa using hx)]
  case buildSlice t n ps => rw [parts_congr fun x hx => h x (by simpa using hx)]
  case makeFunc fn first captured =>
    rw [List.map_congr_left (l := first.toList) fun x hx => h x (by simp at hx; simp [hx]), List.map_congr_left (l := captured.toList) fun x hx => h x (by simp at hx; simp [hx])]
  case call c =>
    have ha : c.args.toList.map ρ = c.args.toList.map ρ' := List.map_congr_left fun x hx => h x (by simp at hx; simp [Call.operands, hx])
    rw [ha]
    cases hc : c.callee with
    | value f => simp only []; rw [h f (by simp [Call.operands, hc])]
    | builtin b => rfl
    | invoke r m => rfl
  case slice t x lo hi mx => cases lo <;> cases hi <;> cases mx <;> simp_all
  all_goals (first | rfl | (simp_all; done))

section
variable {P : Program} {I : Imm} {w : World} {K KP : V → Store → Prop} {σ : Store}
/-! A list of operations, in the text's order. -/

def putV (env : List V) (d : Option Tmp) (x : V) : List V := match d with | some d => env.set d x | none => env
/-- What a value that may be absent is where it is there; and when. -/
def V.strip : V → V | .cnd _ y => y | x => x
def V.flag : V → Bool | .cnd g _ => g | _ => true
theorem VR.strip {x : V} {v : Value} (h : VR I x v) (hf : x.flag = true) : VR I x.strip v := by
  cases h with
  | cndT x v h => exact h
  | cndF x => simp [V.flag] at hf
  | val v => exact .val v
  | ptr b off => exact .ptr b off
  | sl b off len cap => exact .sl b off len cap
  | lnil k => exact .lnil k
  | lst0 k a => exact .lst0 k a
  | lst k xs b off cap arr el fr h hc hm hb hk hx => exact .lst k xs b off cap arr el fr h hc hm hb hk hx
  | ro cs b off arr el fr h hb hx => exact .ro cs b off arr el fr h hb hx
  | agg cs vs hl hx => exact .agg cs vs hl hx
  | tup cs vs hl hx => exact .tup cs vs hl hx
  | fn f ps qs us ws hl hx kl kx => exact .fn f ps qs us ws hl hx kl kx
  | ifc t x v h => exact .ifc t x v h
  | top v => exact .top v

/-- When an operation under a guard is carried out. -/
def condOf (g : V) (want : Bool) : Option Bool := match g with
  | .val (.bool b) => some (b == want)
  | .cnd a (.val (.bool b)) => some (a && (b == want))
  | _ => none

/-- An operation under a guard: either both ways are gone, or it is quiet and its value is told under the guard. -/
def guardC (c : Bool) (flags : List Bool) (op : (V → Store → Prop) → Prop) (σ : Store) (K : V → Store → Prop) : Prop :=
  (c = true → ∀ f ∈ flags, f = true) ∧ (((c = true → op K) ∧ (c = false → K (.val undef) σ)) ∨ ∃ x, (c = true → op (fun y τ => y = x ∧ τ = σ)) ∧ K (.cnd c x) σ)
def guardV (g : V) (want : Bool) (flags : List Bool) (op : (V → Store → Prop) → Prop) (σ : Store) (K : V → Store → Prop) : Prop :=
  match condOf g want with
  | some c => guardC c flags op σ K
  | none => False

def yieldV (slots : List (Option Tmp)) (env : List V) (j : Nat) : V := match slots[j]? with | some (some t) => env.getD t .top | _ => .top

/-- What must be there, if an operation under a guard is carried out; a choice looks at one of its two values alone. -/
def isPick : Op → Bool | .pick _ _ _ => true | _ => false
def flagsOf (env : List V) (o : Op) : List Bool := match o with
  | .pick c _ _ => [(evalV env c).flag]
  | o => o.operands.toList.map fun x => (evalV env x).flag
def opG (P : Program) (env : List V) (o : Oper) (σ : Store) (K KP : V → Store → Prop) : Prop := match o.op with
  | .pick c a b => pickV (evalV env c).strip (evalV env a) (evalV env b) σ K
  | _ => opV P (fun x => (evalV env x).strip) o σ K KP
theorem opG_op {P : Program} {env : List V} {o : Oper} {σ : Store} {K KP : V → Store → Prop} (h : isPick o.op = false) : opG P env o σ K KP = opV P (fun x => (evalV env x).strip) o σ K KP := by
  obtain ⟨d, op, t, p, af, g⟩ := o
  cases op <;> first | rfl | cases h
theorem flagsOf_op {env : List V} {o : Op} (h : isPick o = false) : flagsOf env o = o.operands.toList.map fun x => (evalV env x).flag := by
  cases o <;> first | rfl | cases h
theorem isPick_is {o : Op} (h : isPick o = true) : ∃ c a b, o = .pick c a b := by
  cases o <;> first | exact ⟨_, _, _, rfl⟩ | cases h

def vcOps (P : Program) (slots : List (Option Tmp)) (K : List V → Store → Prop) (KP : V → List V → Store → Prop) : List Oper → List V → Store → Prop
  | [], env, σ => K env σ
  | o :: rest, env, σ =>
    match o.guard with
    | none => opV P (evalV env) o σ (fun x σ' => vcOps P slots K KP rest (putV env o.dst x) σ') (fun p σ' => KP p env σ')
    | some (j, want) => guardV (yieldV slots env j) want (flagsOf env o.op) (fun K => opG P env o σ K (fun p σ' => KP p env σ')) σ (fun x σ' => vcOps P slots K KP rest (putV env o.dst x) σ')

theorem putV_ok {env : List V} {a : Act} (he : LR I env a.tmps.toList) (d : Option Tmp) {x : V} {v : Value} (hx : VR I x v) : LR I (putV env d x) (a.put d v).tmps.toList := by
  cases d with
  | none => exact he
  | some d => simp only [putV, Act.put, Array.toList_setIfInBounds]; exact he.set d hx

theorem put_defers' (a : Act) (d : Option Tmp) (v : Value) : (a.put d v).defers = a.defers := by cases d <;> rfl

theorem LR.at_slot {env : List V} {vs : List Value} (he : LR I env vs) (t : Nat) (h : env.getD t .top ≠ .top) : ∃ v, vs[t]? = some v ∧ VR I (env.getD t .top) v := by
  have hl := he.len
  by_cases ht : t < env.length
  · have h1 : env[t]? = some (env.getD t .top) := by rw [List.getD_eq_getElem?_getD, List.getElem?_eq_getElem ht]; rfl
    exact ⟨vs[t]'(by omega), by simp [show t < vs.length by omega], he.at_ t _ _ h1 (by simp [show t < vs.length by omega])⟩
  · rw [List.getD_eq_getElem?_getD, List.getElem?_eq_none (by omega)] at h; exact absurd rfl h

/-- Whether an operation under a guard is carried out. -/
theorem wanted_ok {all : List Oper} {env : List V} {a : Act} (he : LR I env a.tmps.toList) {o : Oper} {j : Nat} {want c : Bool} (hg : o.guard = some (j, want)) (h : condOf (yieldV (all.map (·.dst)) env j) want = some c) :
    Region.wanted o (yielded all.toArray a.tmps) = c := by
  have key : ∀ v, (yielded all.toArray a.tmps j = match v with | Value.bool b => some b | _ => none) → VR I (yieldV (all.map (·.dst)) env j) v → Region.wanted o (yielded all.toArray a.tmps) = c := by
    intro v hy hv
    unfold condOf at h
    split at h
    · rename_i b hb
      simp only [hb] at hv
      cases hv
      simp only [Option.some.injEq] at h
      simp only [Region.wanted, hg, hy, ← h]
      cases b <;> cases want <;> rfl
    · rename_i x b hb
      simp only [hb] at hv
      simp only [Option.some.injEq] at h
      cases hv with
      | cndT _ _ hv =>
        cases hv
        simp only [Region.wanted, hg, hy, ← h, Bool.true_and]
        cases b <;> cases want <;> rfl
      | cndF =>
        simp only [Region.wanted, hg, hy, ← h, Bool.false_and, undef]
        rfl
    · cases h
  unfold yieldV at key h
  cases e : (all.map (·.dst))[j]? with
  | none => simp [e, condOf] at h
  | some d =>
    cases d with
    | none => simp [e, condOf] at h
    | some t =>
      simp only [e] at key h
      have hne : env.getD t .top ≠ .top := by intro q; rw [q] at h; simp [condOf] at h
      obtain ⟨v, hv, hvr⟩ := he.at_slot t hne
      refine key v ?_ hvr
      unfold yielded
      have e1 : (all.toArray[j]?).bind (·.dst) = some t := by
        simp only [List.getElem?_map, Option.map_eq_some_iff] at e
        obtain ⟨o', ho, hd⟩ := e
        simp [ho, hd]
      rw [e1]
      simp only [Array.getElem?_toList] at hv
      simp only [Option.bind_some, hv]
      cases v <;> rfl

/-- Operands that are there. -/
theorem strip_ok {P : Program} {I : Imm} {w : World} {K KP : V → Store → Prop} {σ : Store} {env : List V} {a : Act} (he : LR I env a.tmps.toList) (o : Oper) (hf : ∀ f ∈ flagsOf env o.op, f = true) (hs : StR σ I w)
    (h : opG P env o σ K KP) : Upon P I w K KP ((execOp a.eval o).run P w) := by
  cases hp : isPick o.op with
  | true =>
    obtain ⟨d, op, t, p, af, g⟩ := o
    obtain ⟨c, x, y, e⟩ := isPick_is hp
    simp only at e
    subst e
    have hc : (evalV env c).flag = true := hf _ (by simp [flagsOf])
    exact pick_ok hs ((evalV_ok he c).strip hc) (evalV_ok he x) (evalV_ok he y) h
  | false =>
  rw [opG_op hp] at h
  rw [flagsOf_op hp] at hf
  let ρ : Operand → V := fun x => if (evalV env x).flag = true then (evalV env x).strip else .top
  have hρ : ∀ x, VR I (ρ x) (a.eval x) := by
    intro x
    by_cases hx : (evalV env x).flag = true
    · simp only [ρ, if_pos hx]; exact (evalV_ok he x).strip hx
    · simp only [ρ, if_neg hx]; exact .top _
  refine opV_ok hρ o hs ?_
  rw [opV_congr (ρ' := fun x => (evalV env x).strip) o (fun x hx => ?_)]
  · exact h
  · have : (evalV env x).flag = true := hf _ (List.mem_map.2 ⟨x, by simpa using hx, rfl⟩)
    simp only [ρ, if_pos this]

theorem vcOps_ok (all : List Oper) {Q : Ex → List V → Store → Prop} {K : List V → Store → Prop} {KP : V → List V → Store → Prop} (hK : ∀ env σ, K env σ → Q .normal env σ) (hKP : ∀ p env σ, KP p env σ → Q (.pan p) env σ) :
    ∀ (l : List Oper) (env : List V) (σ : Store) (I0 I : Imm) (w0 w : World) (a : Act), I0.le I → Bel w0 w → StR σ I w → LR I env a.tmps.toList → a.defers = [] →
    vcOps P (all.map (·.dst)) K KP l env σ → wpList P all.toArray (toQ I0 w0 Q) l a w := by
  intro l
  induction l with
  | nil => intro env σ I0 I w0 w a hI hw hs he hd h; exact ⟨hd, hw, I, σ, env, hI, hs, he, hK _ _ h⟩
  | cons o rest ih =>
    intro env σ I0 I w0 w a hI hw hs he hd h
    unfold vcOps at h
    unfold wpList
    have nextOk : ∀ I' w' x v σ', I.le I' → Bel w w' → StR σ' I' w' → VR I' x v → vcOps P (all.map (·.dst)) K KP rest (putV env o.dst x) σ' → wpList P all.toArray (toQ I0 w0 Q) rest (a.put o.dst v) w' :=
      fun I' w' x v σ' h1 h2 h3 h4 h5 => ih _ σ' I0 I' w0 w' _ (Imm.le_trans hI h1) (hw.trans h2) h3 (putV_ok (he.mono h1) o.dst h4) (by rw [put_defers']; exact hd) h5
    split at h
    · rename_i hg
      rw [if_pos (by simp [Region.wanted, hg])]
      exact .inl (Upon.wp hI hw he hd (opV_ok (fun x => evalV_ok he x) o hs h) nextOk (fun p σ' h => hKP _ _ _ h))
    · rename_i j want hg
      unfold guardV at h
      split at h
      · rename_i c hc
        rw [wanted_ok he hg hc]
        obtain ⟨hf, h⟩ := h
        cases c with
        | true =>
          rw [if_pos rfl]
          rcases h with ⟨h1, _⟩ | ⟨x, h1, h2⟩
          · exact .inl (Upon.wp hI hw he hd (strip_ok he o (hf rfl) hs (h1 rfl)) nextOk (fun p σ' h => hKP _ _ _ h))
          · refine .inl (Upon.wp (Q := Q) hI hw he hd (strip_ok he o (hf rfl) hs (h1 rfl)) (fun I' w' y v σ' g1 g2 g3 g4 g5 => ?_) (fun p σ' h => hKP _ _ _ h))
            obtain ⟨rfl, rfl⟩ := g5
            exact nextOk I' w' _ v _ g1 g2 g3 (.cndT _ _ g4) h2
        | false =>
          rw [if_neg (by simp)]
          rcases h with ⟨_, h1⟩ | ⟨x, _, h2⟩
          · exact nextOk I w _ undef σ (Imm.le_refl I) (Bel.refl _) hs (.val _) (h1 rfl)
          · exact nextOk I w _ undef σ (Imm.le_refl I) (Bel.refl _) hs (.cndF _) h2
      · exact h.elim

theorem HWp.region {id : Nat} {ops : Array Oper} {Q : Ex → List V → Store → Prop} {env : List V}
    (h : vcOps P (ops.toList.map (·.dst)) (fun env σ => Q .normal env σ) (fun p env σ => Q (.pan p) env σ) ops.toList env σ) : HWp P (.region id ops false) Q env σ :=
  fun I w a hs he hd => wp_region_list (by
    have := vcOps_ok (P := P) ops.toList (Q := Q) (fun _ _ h => h) (fun _ _ _ h => h) ops.toList env σ I I w w a (Imm.le_refl I) (Bel.refl _) hs he hd h
    simpa using this)

end
end Go.Proofs.Ytaldikplfcoahaa
