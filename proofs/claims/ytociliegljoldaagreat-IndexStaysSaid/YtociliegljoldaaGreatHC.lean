import Derived.Test.YtociliegljoldaaGreatHB
import Derived.ScopeJumps
/- Own framework, part n: slices that a call builds; telling them as lists. -/
namespace Go.Proofs.YtociliegljoldaaGreat
set_option linter.unusedSimpArgs false
set_option linter.unusedVariables false
open Go.RowKit

section
variable {P : Program} {σ : Store} {K KP : V → Store → Prop}

/-- x is a slice that was built: n elements, cell by cell cs; the memory is σ0 and its block. -/
def Bld (k : Nat) (σ0 σ : Store) (x : V) (cs : List V) (n : Nat) : Prop :=
  (x = nilS ∧ n = 0 ∧ cs = [] ∧ σ = σ0) ∨ ∃ b cap spare, x = .sl b 0 n cap ∧ σ0 b = none ∧ σ = σ0.set b (.cells (cs ++ spare)) ∧ cs.length = n * k ∧ (cap - n) * k ≤ spare.length ∧ n ≤ cap ∧ cap ≤ maxLen

theorem Bld.nil (k : Nat) (σ0 : Store) : Bld k σ0 σ0 nilS [] 0 := .inl ⟨rfl, rfl, rfl, rfl⟩
theorem Bld.base {k : Nat} {σ0 τ : Store} {x : V} {cs : List V} {n : Nat} (h : Bld k σ0 τ x cs n) : σ0.le τ := by
  rcases h with ⟨_, _, _, rfl⟩ | ⟨b, cap, spare, _, hb, rfl, _⟩
  · exact Store.le_refl _
  · exact Store.le_set hb (Store.le_refl _)
theorem Bld.len {k : Nat} {σ0 τ : Store} {x : V} {cs : List V} {n : Nat} (h : Bld k σ0 τ x cs n) : cs.length = n * k := by
  rcases h with ⟨_, rfl, rfl, _⟩ | ⟨_, _, _, _, _, _, h, _⟩
  · simp
  · exact h

theorem setL_append : ∀ (xs ys zs : List V), zs.length ≥ ys.length → setL (xs ++ zs) xs.length ys = xs ++ ys ++ zs.drop ys.length := by
  intro xs ys
  induction ys generalizing xs with
  | nil => intro zs _; simp [setL]
  | cons y ys ih =>
    intro zs hz
    cases zs with
    | nil => simp at hz
    | cons z zs =>
      have e : (xs ++ z :: zs).set xs.length y = (xs ++ [y]) ++ zs := by simp
      have := ih (xs ++ [y]) zs (by simpa using hz)
      simp only [List.length_append, List.length_cons, List.length_nil, Nat.zero_add] at this
      simp only [setL, e, this]
      simp

theorem maxLen_i : maxLen = 9223372036854775807 := rfl

/-- Appending to what was built. -/
theorem Bld.append {t u e : TypeId} {d : TypeDesc} {k : Nat} {σ0 τ : Store} {x y : V} {cs news : List V} {n m : Nat}
    (hu : P.underlying t = some (.slice e)) (hd : P.underlying u = some d) (hnd : noInt d) (hi : (P.info? e).isSome = true) (hk : P.cellsOf e = k) (hk0 : k ≠ 0) (hz : (zeroV P e).map List.length = some k)
    (hb : Bld k σ0 τ x cs n) (hle : τ.le σ) (hrow : ∀ KK : Nat → List V → Prop, KK m news → rowV k y σ KK) (hl : news.length = m * k) (h1 : ∀ c ∈ news, c.one = true) (hm : n + m ≤ maxLen) (hby : (n + m) * P.bytesOf e ≤ 140737488355328)
    (h : ∀ x' τ' σ', Bld k σ0 τ' x' (cs ++ news) (n + m) → τ'.le σ' → (∀ b, σ b = none → σ' b ≠ none → ∃ cap', x' = .sl b 0 (n + m) cap') → K x' σ') : appendV P t u x y σ K := by
  have hlen := hb.len
  unfold appendV
  rw [hu, hd]
  show _ ∧ _ ∧ _ ∧ rowV (P.cellsOf e) y σ _
  rw [hk]
  refine ⟨hnd, hi, hk0, hrow _ ⟨h1, ?_⟩⟩
  -- a new row, in any case
  have grow : ∀ (old : List V) (b' cap' : Nat), old = cs → σ b' = none → n + m ≤ cap' → cap' ≤ maxLen → K (.sl b' 0 (n + m) cap') (σ.set b' (.cells (old ++ news ++ List.replicate ((cap' - (n + m)) * k) .top))) := by
    intro old b' cap' ho hb' hc hcm
    subst ho
    have h0 : σ0 b' = none := Store.none_of_le hb.base (Store.none_of_le hle hb')
    refine h _ (σ0.set b' (.cells (old ++ news ++ List.replicate ((cap' - (n + m)) * k) .top))) _ (.inr ⟨b', cap', _, rfl, h0, rfl, ?_, by simp, hc, hcm⟩) ?_ ?_
    · rw [List.length_append, hlen, hl, Nat.add_mul]
    · intro c l e
      by_cases hcb : c = b'
      · rw [hcb] at e ⊢; rw [Store.set_same] at e ⊢; exact e
      · rw [Store.set_other _ _ hcb] at e ⊢; exact hle c l (hb.base c l e)
    · intro c hc0 hc1
      by_cases hcb : c = b'
      · subst hcb; exact ⟨cap', rfl⟩
      · rw [Store.set_other _ _ hcb] at hc1; exact absurd hc0 hc1
  rcases hb with ⟨rfl, rfl, rfl, rfl⟩ | ⟨b, cap, spare, rfl, hb0, rfl, hcl, hsl, hnc, hcm⟩
  · refine ⟨fun hm0 => ?_, fun hm0 => ⟨by omega, by simpa using hby, hz, fun b' cap' hb' hc hcm => ?_⟩⟩
    · subst hm0
      obtain rfl : news = [] := List.eq_nil_of_length_eq_zero (by simpa using hl)
      exact h _ _ _ (.inl ⟨rfl, rfl, rfl, rfl⟩) hle (fun c hc hn => absurd hc hn)
    · have := grow [] b' cap' rfl hb' (by omega) hcm
      simpa using this
  · have hσb : σ b = some (.cells (cs ++ spare)) := hle b _ (Store.set_same _ _ _)
    simp only [hσb, Nat.zero_add]
    have hsum : n * k + (cap - n) * k = cap * k := by rw [← Nat.add_mul]; congr 1; omega
    refine ⟨by simp only [List.length_append, hcl]; omega, hnc, hcm, fun hroom => ?_, fun hgrow => ⟨hm, hby, hz, fun b' cap' hb' hc hcm' => ?_⟩⟩
    · have hms : m * k ≤ spare.length := Nat.le_trans (Nat.mul_le_mul_right _ (by omega)) hsl
      have e : setL (cs ++ spare) (n * k) news = cs ++ news ++ spare.drop news.length := by rw [← hcl]; exact setL_append cs news spare (by omega)
      rw [e]
      refine h _ (σ0.set b (.cells (cs ++ news ++ spare.drop news.length))) _ (.inr ⟨b, cap, _, rfl, hb0, rfl, ?_, ?_, hroom, hcm⟩) ?_ ?_
      · rw [List.length_append, hcl, hl, Nat.add_mul]
      · rw [List.length_drop, hl, show cap - (n + m) = (cap - n) - m by omega, Nat.sub_mul]; omega
      · intro c l e'
        by_cases hcb : c = b
        · rw [hcb] at e' ⊢; rw [Store.set_same] at e' ⊢; exact e'
        · rw [Store.set_other _ _ hcb] at e' ⊢; exact hle c l (by rw [Store.set_other _ _ hcb]; exact e')
      · intro c hc0 hc1
        by_cases hcb : c = b
        · subst hcb; exact ⟨cap, rfl⟩
        · rw [Store.set_other _ _ hcb] at hc1; exact absurd hc0 hc1
    · have e : ((cs ++ spare).drop 0).take (n * k) = cs := by rw [List.drop_zero, ← hcl, List.take_left]
      rw [e]
      exact grow cs b' cap' rfl hb' hc hcm'

/-- Rows that may be appended. -/
theorem row_lit {k b n cap : Nat} {cs news : List V} (hb : σ b = some (.cells cs)) (hn : cs = news) (hl : cs.length = n * k) (KK : Nat → List V → Prop) (h : KK n news) : rowV k (.sl b 0 n cap) σ KK := by
  subst hn
  unfold rowV
  simp only [hb, List.drop_zero, Nat.zero_add]
  rw [show n * k = cs.length by omega, List.take_length]
  exact ⟨Nat.le_refl _, h⟩
theorem row_lst {k : Nat} {xs : List V} (KK : Nat → List V → Prop) (h : KK xs.length (xs.flatMap V.cells)) : rowV k (.lst k xs) σ KK := by unfold rowV; exact ⟨rfl, h⟩

theorem Bld.rebase {k : Nat} {σ0 τ : Store} {x : V} {cs : List V} {n : Nat} (h : σ.le σ0) (hb : Bld k σ0 τ x cs n) : ∃ υ, Bld k σ υ x cs n ∧ υ.le τ := by
  rcases hb with ⟨rfl, rfl, rfl, rfl⟩ | ⟨b, cap, spare, rfl, hb0, rfl, hcl, hsl, hnc, hcm⟩
  · exact ⟨σ, .inl ⟨rfl, rfl, rfl, rfl⟩, h⟩
  · refine ⟨σ.set b (.cells (cs ++ spare)), .inr ⟨b, cap, spare, rfl, Store.none_of_le h hb0, rfl, hcl, hsl, hnc, hcm⟩, fun c l e => ?_⟩
    by_cases hcb : c = b
    · rw [hcb] at e ⊢; rw [Store.set_same] at e ⊢; exact e
    · rw [Store.set_other _ _ hcb] at e ⊢; exact h c l e
/-- A built slice, cut to its first elements, its room as well. -/
theorem Bld.cut {k : Nat} {σ0 τ : Store} {b cap n m : Nat} {cs : List V} (hb : Bld k σ0 τ (.sl b 0 n cap) cs n) (hm : m ≤ n) : Bld k σ0 τ (.sl b 0 m m) (cs.take (m * k)) m := by
  rcases hb with ⟨h, _⟩ | ⟨b', cap', spare, h, hb0, rfl, hcl, hsl, hnc, hcm⟩
  · cases h
  · cases h
    refine .inr ⟨b, m, cs.drop (m * k) ++ spare, rfl, hb0, by rw [← List.append_assoc, List.take_append_drop], ?_, by simp, Nat.le_refl _, by omega⟩
    rw [List.length_take, hcl]; exact Nat.min_eq_left (Nat.mul_le_mul_right _ hm)
theorem callV_ends {f : FuncId} {ps qs xs : List V} {τ : Store} {x : V} (he : entersB P f = true) (h : HCalls P f (ps ++ xs ++ qs) σ (Ends x τ)) (k : K x τ) : callV P (.fn (.func f) ps qs) xs σ K KP :=
  callV_of he (R := fun r σ' => r = .ret x ∧ σ' = τ) (h.weaken (fun r σ' ⟨y, e, hw⟩ => by cases e; exact ⟨x, τ, hw, rfl, rfl⟩) (fun r σ' ⟨y, e, _⟩ => by cases e)) (fun y σ' ⟨e, f⟩ => by cases e; subst f; exact k) (fun y σ' ⟨e, _⟩ => by cases e)

/-- A loop that is left in its first round. -/
theorem loop_once {c : Code} {Q : Ex → List V → Store → Prop} {env : List V} (h : vc P c (Ex.then (fun _ _ => False) Q) env σ) : HWp P (.loop c) Q env σ :=
  HWp.loop (fun _ : Unit => env) (fun _ τ => τ = σ) (fun _ _ => 0) () (LeEnv.refl env) rfl fun _ τ e => by
    subst e
    exact (vc_ok _ _ _ _ h).mono fun e env σ hq => by cases e <;> first | exact hq.elim | exact hq

theorem Bld.push {k : Nat} {σ0 τ : Store} {x : V} {cs : List V} {n c : Nat} {kk : Blk} (hb : Bld k σ0 τ x cs n) (hc : τ c = none) : Bld k (σ0.set c kk) (τ.set c kk) x cs n := by
  rcases hb with ⟨rfl, rfl, rfl, rfl⟩ | ⟨b, cap, spare, rfl, hb0, rfl, hcl, hsl, hnc, hcm⟩
  · exact .inl ⟨rfl, rfl, rfl, rfl⟩
  · have hne : b ≠ c := fun e => by rw [e, Store.set_same] at hc; cases hc
    exact .inr ⟨b, cap, spare, rfl, by rw [Store.set_other _ _ hne]; exact hb0, Store.set_comm _ _ _ hne, hcl, hsl, hnc, hcm⟩
theorem Bld.at_ {k : Nat} {σ0 τ : Store} {x : V} {cs : List V} {n : Nat} (hb : Bld k σ0 τ x cs n) (hn : n ≠ 0) : ∃ b cap spare, x = .sl b 0 n cap ∧ τ b = some (.cells (cs ++ spare)) ∧ ∀ cs', cs'.length = cs.length → Bld k σ0 (τ.set b (.cells (cs' ++ spare))) (.sl b 0 n cap) cs' n := by
  rcases hb with ⟨_, h, _⟩ | ⟨b, cap, spare, rfl, hb0, rfl, hcl, hsl, hnc, hcm⟩
  · exact absurd h hn
  · exact ⟨b, cap, spare, rfl, Store.set_same _ _ _, fun cs' h => .inr ⟨b, cap, spare, rfl, hb0, Store.set_set _ _ _ _, by rw [h]; exact hcl, hsl, hnc, hcm⟩⟩

/-- What was built is told as a list, and its memory is gone. -/
theorem Bld.weakens {k : Nat} {σ0 τ : Store} {x : V} {cs : List V} {n : Nat} {xs : List V} (hb : Bld k σ0 τ x cs n) (hle : τ.le σ) (hn : n = xs.length) (hc : cs = xs.flatMap V.cells) (hk : ∀ x ∈ xs, x.cells.length = k) :
    Weakens x σ (.lst k xs) σ0 := by
  intro I w v hs hv
  subst hn hc
  rcases hb with ⟨rfl, h0, _, rfl⟩ | ⟨b, cap, spare, rfl, hb0, rfl, hcl, hsl, hnc, hcm⟩
  · obtain rfl : xs = [] := List.eq_nil_of_length_eq_zero h0
    cases hv
    exact ⟨I, Imm.le_refl I, hs.sub hle, .lnil k⟩
  · have hσb : σ b = some (.cells (xs.flatMap V.cells ++ spare)) := hle b _ (Store.set_same _ _ _)
    obtain ⟨o, ho, hk', hI, hst⟩ := hs.freeze hσb
    refine ⟨_, hI, hst.sub (fun c l e => ?_), ?_⟩
    · have hcb : c ≠ b := fun q => by rw [q, hb0] at e; cases e
      simp only [Store.del, if_neg hcb]
      exact hle c l (by rw [Store.set_other _ _ hcb]; exact e)
    · cases hv
      cases o with
      | cells arr el fr =>
        have hl := hk'.2
        have hlen := hl.len
        simp only [List.length_append, Array.length_toList] at hlen
        refine .lst k xs b 0 cap arr el fr (by simp) hnc hcm (by omega) hk fun i j x c v hx hc hv => ?_
        refine (hl.at_ (i * k + j) c v ?_ (by simpa [Nat.add_comm, Nat.add_assoc] using hv)).mono hI
        -- where the cell lies in the flat row
        have flat : ∀ (xs : List V) (i : Nat), (∀ x ∈ xs, x.cells.length = k) → xs[i]? = some x → (xs.flatMap V.cells)[i * k + j]? = some c := by
          intro xs
          induction xs with
          | nil => intro i _ h; simp at h
          | cons y ys ih =>
            intro i hall h
            have hy := hall y (List.mem_cons_self ..)
            rw [List.flatMap_cons]
            cases i with
            | zero =>
              simp only [List.getElem?_cons_zero, Option.some.injEq] at h
              subst h
              have hj := (List.getElem?_eq_some_iff.1 hc).1
              rw [Nat.zero_mul, Nat.zero_add, List.getElem?_append_left (by omega)]; exact hc
            | succ i =>
              simp only [List.getElem?_cons_succ] at h
              rw [List.getElem?_append_right (by rw [hy, Nat.add_mul]; omega), hy, Nat.add_mul, Nat.one_mul]
              rw [show i * k + k + j - k = i * k + j by omega]
              exact ih i (fun z hz => hall z (List.mem_cons_of_mem _ hz)) h
        have := flat xs i hk hx
        have hlt := (List.getElem?_eq_some_iff.1 this).1
        rw [List.getElem?_append_left hlt]; exact this
      | _ => exact hk'.elim

end
end Go.Proofs.YtociliegljoldaaGreat

/- Own framework, part o: jumps back to one label. -/
namespace Go.Proofs.YtociliegljoldaaGreat
set_option linter.unusedSimpArgs false
set_option linter.unusedVariables false
open Go.RowKit

def Ex.jump (l : Nat) (J : List V → Store → Prop) (Q : Ex → List V → Store → Prop) : Ex → List V → Store → Prop
  | .goto l', env, σ => l' = l ∧ J env σ
  | e, env, σ => Q e env σ

/-- A scope in which the run jumps back to one label. -/
theorem HWp.scope {P : Program} {c rest : Code} {Q : Ex → List V → Store → Prop} {α : Type} (l : Nat) (mk : α → List V) (inv : α → Store → Prop) (μ : α → Store → Nat) {env : List V} {σ : Store} (hf : findLabel c l = some rest)
    (first : HWp P c (Ex.jump l (fun env' σ' => ∃ a' τ, LeEnv env' (mk a') ∧ τ.le σ' ∧ inv a' τ) Q) env σ)
    (pass : ∀ a σ, inv a σ → HWp P rest (Ex.jump l (fun env' σ' => ∃ a' τ, LeEnv env' (mk a') ∧ τ.le σ' ∧ inv a' τ ∧ μ a' τ < μ a σ) Q) (mk a) σ) : HWp P (.scope c) Q env σ := by
  intro ds I w a hs he hd b k cs
  have hg : gotoIn l (.inScope c :: k) = some (.code rest :: .inScope c :: k) := by simp [gotoIn, hf]
  have key : ∀ n x σ1 I w a, μ x σ1 = n → inv x σ1 → StR σ1 I w → LR I (mk x) a.tmps.toList → a.defers = ds →
      ∃ e a' w', toQ ds I w Q e a' w' ∧ Arrives P (lone (b.at a (.code rest :: .inScope c :: k)) cs w) b k cs e a' w' := by
    intro n
    induction n using Nat.strongRecOn with
    | _ n ih =>
      intro x σ1 I w a hn hinv hs he hd
      obtain ⟨e, a2, w2, hq, harr⟩ := pass x σ1 hinv ds I w a hs he hd b (.inScope c :: k) cs
      obtain ⟨h1, h2, I', σ', env', h3, h4, h5, h6⟩ := hq
      cases e with
      | normal => exact ⟨.normal, a2, w2, ⟨h1, h2, I', σ', env', h3, h4, h5, h6⟩, Steps.trans harr (.one step_inScope)⟩
      | exit id => exact ⟨.exit id, a2, w2, ⟨h1, h2, I', σ', env', h3, h4, h5, h6⟩, fun k' hk => harr k' (by simp [exitTo, hk])⟩
      | goto l' =>
        obtain ⟨rfl, x', τ, hle, hsub, hinv', hlt⟩ := h6
        obtain ⟨e3, a3, w3, hq3, harr3⟩ := ih (μ x' τ) (hn ▸ hlt) x' τ I' w2 a2 rfl hinv' (h4.sub hsub) (h5.le hle) h1
        exact ⟨e3, a3, w3, toQ_base h3 h2 hq3, .of_steps (harr _ hg) harr3⟩
      | ret => exact ⟨.ret, a2, w2, ⟨h1, h2, I', σ', env', h3, h4, h5, h6⟩, harr⟩
      | panic ch => exact ⟨.panic ch, a2, w2, ⟨h1, h2, I', σ', env', h3, h4, h5, h6⟩, harr⟩
      | outgrown => exact h6.elim
  obtain ⟨e, a1, w1, hq, harr⟩ := first ds I w a hs he hd b (.inScope c :: k) cs
  obtain ⟨h1, h2, I', σ', env', h3, h4, h5, h6⟩ := hq
  cases e with
  | normal => exact ⟨.normal, a1, w1, ⟨h1, h2, I', σ', env', h3, h4, h5, h6⟩, .head step_scope (Steps.trans harr (.one step_inScope))⟩
  | exit id => exact ⟨.exit id, a1, w1, ⟨h1, h2, I', σ', env', h3, h4, h5, h6⟩, fun k' hk => .head step_scope (harr k' (by simp [exitTo, hk]))⟩
  | goto l' =>
    obtain ⟨rfl, x', τ, hle, hsub, hinv'⟩ := h6
    obtain ⟨e3, a3, w3, hq3, harr3⟩ := key _ x' τ I' w1 a1 rfl hinv' (h4.sub hsub) (h5.le hle) h1
    exact ⟨e3, a3, w3, toQ_base h3 h2 hq3, .of_steps (.head step_scope (harr _ hg)) harr3⟩
  | ret => exact ⟨.ret, a1, w1, ⟨h1, h2, I', σ', env', h3, h4, h5, h6⟩, .of_steps (.one step_scope) harr⟩
  | panic ch => exact ⟨.panic ch, a1, w1, ⟨h1, h2, I', σ', env', h3, h4, h5, h6⟩, .of_steps (.one step_scope) harr⟩
  | outgrown => exact h6.elim
/-- The same; who comes to the label at first may use what was shown of the passes. -/
theorem HWp.scope2 {P : Program} {c R : Code} {Q : Ex → List V → Store → Prop} {α : Type} (l : Nat) (mk : α → List V) (inv : α → Store → Prop) (μ : α → Store → Nat) {env : List V} {σ : Store} (hf : findLabel c l = some (.seq .skip R))
    (pass : ∀ a σ, inv a σ → HWp P R (Ex.jump l (fun env' σ' => ∃ a' τ, LeEnv env' (mk a') ∧ τ.le σ' ∧ inv a' τ ∧ μ a' τ < μ a σ) Q) (mk a) σ)
    (first : (∀ a τ env' σ', inv a τ → LeEnv env' (mk a) → τ.le σ' → HWp P R (Ex.jump l (fun env' σ' => ∃ a' τ, LeEnv env' (mk a') ∧ τ.le σ' ∧ inv a' τ) Q) env' σ') → HWp P c (Ex.jump l (fun env' σ' => ∃ a' τ, LeEnv env' (mk a') ∧ τ.le σ' ∧ inv a' τ) Q) env σ) : HWp P (.scope c) Q env σ :=
  HWp.scope l mk inv μ hf (first fun a τ env' σ' hi hl hs => HWp.le hl (HWp.sub hs ((pass a τ hi).mono fun e env σ h => by
    cases e with
    | goto l' => obtain ⟨e, a', τ', h1, h2, h3, _⟩ := h; exact ⟨e, a', τ', h1, h2, h3⟩
    | _ => exact h))) fun a σ hi => HWp.seq (HWp.skip (pass a σ hi))
theorem vc_scope {P : Program} {c : Code} {Q : Ex → List V → Store → Prop} {env : List V} {σ : Store} (h : HWp P (.scope c) Q env σ) : vc P (.scope c) Q env σ := h
theorem vc_goto {P : Program} {l : Nat} {Q : Ex → List V → Store → Prop} {env : List V} {σ : Store} (h : Q (.goto l) env σ) : vc P (.goto l) Q env σ := h
theorem vc_label {P : Program} {l : Nat} {Q : Ex → List V → Store → Prop} {env : List V} {σ : Store} (h : Q .normal env σ) : vc P (.label l) Q env σ := h
section
variable {Q : Ex → List V → Store → Prop} {J : List V → Store → Prop} {env : List V} {σ : Store} {l : Nat}
theorem jump_goto (h : J env σ) : Ex.jump l J Q (.goto l) env σ := ⟨rfl, h⟩
theorem jump_normal (h : Q .normal env σ) : Ex.jump l J Q .normal env σ := h
theorem jump_ret (h : Q .ret env σ) : Ex.jump l J Q .ret env σ := h
theorem then_goto {next : List V → Store → Prop} {m : Nat} (h : Q (.goto m) env σ) : Ex.then next Q (.goto m) env σ := h
theorem inBlock_goto {id m : Nat} (h : Q (.goto m) env σ) : Ex.inBlock id Q (.goto m) env σ := h
end
end Go.Proofs.YtociliegljoldaaGreat

/- Own framework, part p: several slices that a call builds, side by side; cut at their front. -/
namespace Go.Proofs.YtociliegljoldaaGreat
set_option linter.unusedSimpArgs false
set_option linter.unusedVariables false
open Go.RowKit

section
variable {P : Program} {σ : Store} {K KP : V → Store → Prop}

/-- x is a slice in a block of this call (ob): n elements, cell by cell cs. -/
def Own (k : Nat) (σ0 τ : Store) (x : V) (cs : List V) (n : Nat) (ob : Option Nat) : Prop :=
  (x = nilS ∧ n = 0 ∧ cs = [] ∧ ob = none) ∨ ∃ b cap pre spare, ob = some b ∧ x = .sl b pre.length n cap ∧ σ0 b = none ∧ τ b = some (.cells (pre ++ cs ++ spare)) ∧ cs.length = n * k ∧ (cap - n) * k ≤ spare.length ∧ n ≤ cap ∧ cap ≤ maxLen

theorem Own.keep {k : Nat} {σ0 τ : Store} {x : V} {cs : List V} {n : Nat} {ob : Option Nat} (h : Own k σ0 τ x cs n ob) (hk : ∀ b l, ob = some b → τ b = some l → σ b = some l) : Own k σ0 σ x cs n ob := by
  rcases h with h | ⟨b, cap, pre, spare, h1, h2, h3, h4, h5⟩
  · exact .inl h
  · exact .inr ⟨b, cap, pre, spare, h1, h2, h3, hk b _ h1 h4, h5⟩

/-- Appending: the block is the old one or a new one; the others stay. -/
theorem Own.append {t u e : TypeId} {d : TypeDesc} {k : Nat} {σ0 τ : Store} {x y : V} {cs news : List V} {n m : Nat} {ob : Option Nat}
    (hu : P.underlying t = some (.slice e)) (hd : P.underlying u = some d) (hnd : noInt d) (hi : (P.info? e).isSome = true) (hk : P.cellsOf e = k) (hk0 : k ≠ 0) (hz : (zeroV P e).map List.length = some k)
    (hb : Own k σ0 τ x cs n ob) (hle : τ.le σ) (h0 : σ0.le σ) (hrow : ∀ KK : Nat → List V → Prop, KK m news → rowV k y σ KK) (hl : news.length = m * k) (h1 : ∀ c ∈ news, c.one = true) (hm : n + m ≤ maxLen) (hby : (n + m) * P.bytesOf e ≤ 140737488355328)
    (h : ∀ x' ob' σ', Own k σ0 σ' x' (cs ++ news) (n + m) ob' → (∀ c l, σ c = some l → some c ≠ ob → σ' c = some l) → (∀ c, ob' = some c → ob = some c ∨ σ c = none) → K x' σ') : appendV P t u x y σ K := by
  unfold appendV
  rw [hu, hd]
  show _ ∧ _ ∧ _ ∧ rowV (P.cellsOf e) y σ _
  rw [hk]
  refine ⟨hnd, hi, hk0, hrow _ ⟨h1, ?_⟩⟩
  -- a new row, in any case
  have grow : ∀ (b' cap' : Nat), cs.length = n * k → σ b' = none → n + m ≤ cap' → cap' ≤ maxLen → K (.sl b' 0 (n + m) cap') (σ.set b' (.cells (cs ++ news ++ List.replicate ((cap' - (n + m)) * k) .top))) := by
    intro b' cap' hcl hb' hc hcm
    refine h _ (some b') _ (.inr ⟨b', cap', [], _, rfl, rfl, Store.none_of_le h0 hb', Store.set_same _ _ _, ?_, by simp, hc, hcm⟩) (fun c l hc' _ => Store.keep hb' hc' _) (fun c q => by cases q; exact .inr hb')
    rw [List.length_append, hcl, hl, Nat.add_mul]
  rcases hb with ⟨rfl, rfl, rfl, rfl⟩ | ⟨b, cap, pre, spare, rfl, rfl, hb0, hτb, hcl, hsl, hnc, hcm⟩
  · refine ⟨fun hm0 => ?_, fun hm0 => ⟨by omega, by simpa using hby, hz, fun b' cap' hb' hc hcm => ?_⟩⟩
    · subst hm0
      obtain rfl : news = [] := List.eq_nil_of_length_eq_zero (by simpa using hl)
      exact h _ none _ (.inl ⟨rfl, rfl, rfl, rfl⟩) (fun c l q _ => q) (fun c q => by cases q)
    · have := grow b' cap' (by simp) hb' (by omega) hcm
      simpa using this
  · have hσb := hle b _ hτb
    simp only [hσb]
    have hsum : n * k + (cap - n) * k = cap * k := by rw [← Nat.add_mul]; congr 1; omega
    refine ⟨by simp only [List.length_append, hcl]; omega, hnc, hcm, fun hroom => ?_, fun hgrow => ⟨hm, hby, hz, fun b' cap' hb' hc hcm' => ?_⟩⟩
    · have hms : m * k ≤ spare.length := Nat.le_trans (Nat.mul_le_mul_right _ (by omega)) hsl
      have e : setL (pre ++ cs ++ spare) (pre.length + n * k) news = pre ++ (cs ++ news) ++ spare.drop news.length := by
        rw [← hcl, ← List.length_append, setL_append (pre ++ cs) news spare (by omega)]; simp
      rw [e]
      refine h _ (some b) _ (.inr ⟨b, cap, pre, _, rfl, rfl, hb0, Store.set_same _ _ _, ?_, ?_, hroom, hcm⟩) (fun c l q hne => ?_) (fun c q => .inl q)
      · rw [List.length_append, hcl, hl, Nat.add_mul]
      · rw [List.length_drop, hl, show cap - (n + m) = (cap - n) - m by omega, Nat.sub_mul]; omega
      · rw [Store.set_other _ _ (fun q => hne (by rw [q]))]; exact q
    · have e : ((pre ++ cs ++ spare).drop pre.length).take (n * k) = cs := by
        rw [List.append_assoc, List.drop_left, ← hcl, List.take_left]
      rw [e]
      exact grow b' cap' hcl hb' hc hcm'
/-- Cut by its first element. -/
theorem Own.tail {k : Nat} {σ0 τ : Store} {b off n cap : Nat} {c cs : List V} {ob : Option Nat} (h : Own k σ0 τ (.sl b off n cap) (c ++ cs) n ob) (hc : c.length = k) (hn : 1 ≤ n) :
    Own k σ0 τ (.sl b (if cap = 1 then off else off + 1 * k) (n - 1) (cap - 1)) cs (n - 1) ob := by
  rcases h with ⟨h, _⟩ | ⟨b', cap', pre, spare, h1, h2, h3, h4, h5, h6, h7, h8⟩
  · cases h
  · cases h2
    rw [List.length_append, hc] at h5
    have h5' : cs.length = (n - 1) * k := by rw [Nat.sub_mul, Nat.one_mul]; omega
    by_cases h1' : cap = 1
    · have hn1 : n = 1 := by omega
      subst h1' hn1
      have hcs : cs = [] := List.eq_nil_of_length_eq_zero (by simpa using h5')
      subst hcs
      rw [if_pos rfl]
      exact .inr ⟨b, 0, pre, c ++ spare, h1, rfl, h3, by rw [h4]; simp, by simp, by simp, Nat.le_refl _, by simp [maxLen_i]⟩
    · rw [if_neg h1']
      refine .inr ⟨b, cap - 1, pre ++ c, spare, h1, ?_, h3, by rw [h4]; simp, h5', ?_, by omega, by omega⟩
      · rw [List.length_append, hc, Nat.one_mul]
      · rw [show cap - 1 - (n - 1) = cap - n by omega]; exact h6
theorem Own.base_ne {k : Nat} {σ0 τ : Store} {x : V} {cs : List V} {n b : Nat} {l : Blk} (h : Own k σ0 τ x cs n (some b)) (hb : σ0 b = some l) : False := by
  rcases h with ⟨_, _, _, q⟩ | ⟨b', _, _, _, q, _, h3, _⟩
  · cases q
  · cases q; rw [h3] at hb; cases hb
/-- Cut at its end. -/
theorem Own.take {k : Nat} {σ0 τ : Store} {b off n cap m : Nat} {cs : List V} {ob : Option Nat} (h : Own k σ0 τ (.sl b off n cap) cs n ob) (hm : m ≤ n) : Own k σ0 τ (.sl b off m cap) (cs.take (m * k)) m ob := by
  rcases h with ⟨h, _⟩ | ⟨b', cap', pre, spare, h1, h2, h3, h4, h5, h6, h7, h8⟩
  · cases h
  · cases h2
    refine .inr ⟨b, cap, pre, cs.drop (m * k) ++ spare, h1, rfl, h3, ?_, ?_, ?_, by omega, h8⟩
    · rw [h4]; congr 2; rw [List.append_assoc, List.append_assoc]; congr 1; rw [← List.append_assoc, List.take_append_drop]
    · rw [List.length_take, h5]; exact Nat.min_eq_left (Nat.mul_le_mul_right _ hm)
    · rw [List.length_append, List.length_drop, h5]
      have e : (cap - m) * k = (n * k - m * k) + (cap - n) * k := by rw [← Nat.sub_mul, ← Nat.add_mul]; congr 1; omega
      omega
theorem flag_val {v : Value} : V.flag (.val v) = true := rfl
theorem flag_cnd {g : Bool} {x : V} : V.flag (.cnd g x) = g := rfl
theorem strip_val {v : Value} : V.strip (.val v) = .val v := rfl
theorem strip_cnd {g : Bool} {x : V} : V.strip (.cnd g x) = x := rfl
theorem Own.flag {k : Nat} {σ0 τ : Store} {x : V} {cs : List V} {n : Nat} {ob : Option Nat} (h : Own k σ0 τ x cs n ob) : x.flag = true ∧ x.strip = x := by
  rcases h with ⟨rfl, _⟩ | ⟨b, cap, pre, spare, _, rfl, _⟩ <;> exact ⟨rfl, rfl⟩
theorem Own.lenV {t e : TypeId} {k : Nat} {σ0 τ : Store} {x : V} {cs : List V} {n : Nat} {ob : Option Nat} (h : Own k σ0 τ x cs n ob) (hu : P.underlying t = some (.slice e)) {υ : Store} {K : V → Store → Prop} : lenV P t x υ K = K (I64 n) υ := by
  rcases h with ⟨rfl, rfl, _⟩ | ⟨b, cap, pre, spare, _, rfl, _⟩
  · unfold Go.Proofs.YtociliegljoldaaGreat.lenV; rw [hu]
  · unfold Go.Proofs.YtociliegljoldaaGreat.lenV; rw [hu]
/-- x[:m]. -/
theorem Own.upto {t e : TypeId} {k : Nat} {σ0 τ : Store} {x : V} {cs : List V} {n m : Nat} {ob : Option Nat} (h : Own k σ0 τ x cs n ob) (hu : P.underlying t = some (.slice e)) (hi : (P.info? e).isSome = true) (hk : P.cellsOf e = k) (hm : m ≤ n) :
    ∃ x', Own k σ0 τ x' (cs.take (m * k)) m ob ∧ ∀ (υ : Store) (K : V → Store → Prop), K x' υ → sliceV P t x none (some (I64 m)) none υ K := by
  rcases h with ⟨rfl, rfl, rfl, rfl⟩ | h
  · refine ⟨nilS, .inl ⟨rfl, by omega, by simp, rfl⟩, fun υ K hK => ?_⟩
    unfold sliceV; rw [hu]
    simp only [sliceOk, numOf]
    exact ⟨hi, by omega, by omega, by omega, by omega, by simp, hK⟩
  · obtain ⟨b, cap, pre, spare, h1, rfl, h3, h4, h5, h6, h7, h8⟩ := h
    refine ⟨_, (Own.take (.inr ⟨b, cap, pre, spare, h1, rfl, h3, h4, h5, h6, h7, h8⟩) hm), fun υ K hK => ?_⟩
    unfold sliceV; rw [hu]
    simp only [sliceOk, numOf]
    refine ⟨hi, by omega, by omega, by omega, by omega, by simp, ?_⟩
    simpa using hK
/-- What was built is told as a list, and its memory is gone. -/
theorem Own.weakens {k : Nat} {σ0 τ : Store} {x : V} {cs : List V} {n : Nat} {xs : List V} {ob : Option Nat} (hb : Own k σ0 τ x cs n ob) (hle : τ.le σ) (h0 : σ0.le σ) (hn : n = xs.length) (hc : cs = xs.flatMap V.cells) (hk : ∀ x ∈ xs, x.cells.length = k) :
    Weakens x σ (.lst k xs) σ0 := by
  intro I w v hs hv
  subst hn hc
  rcases hb with ⟨rfl, hx0, _, rfl⟩ | ⟨b, cap, pre, spare, rfl, rfl, hb0, hτb, hcl, hsl, hnc, hcm⟩
  · obtain rfl : xs = [] := List.eq_nil_of_length_eq_zero hx0
    cases hv
    exact ⟨I, Imm.le_refl I, hs.sub h0, .lnil k⟩
  · have hσb := hle b _ hτb
    obtain ⟨o, ho, hk', hI, hst⟩ := hs.freeze hσb
    refine ⟨_, hI, hst.sub (fun c l e => ?_), ?_⟩
    · have hcb : c ≠ b := fun q => by rw [q, hb0] at e; cases e
      simp only [Store.del, if_neg hcb]
      exact h0 c l e
    · cases hv
      cases o with
      | cells arr el fr =>
        have hl := hk'.2
        have hlen := hl.len
        simp only [List.length_append, Array.length_toList] at hlen
        refine .lst k xs b pre.length cap arr el fr (by simp) hnc hcm (by omega) hk fun i j x c v hx hc hv => ?_
        refine (hl.at_ (pre.length + i * k + j) c v ?_ (by simpa using hv)).mono hI
        have flat : ∀ (xs : List V) (i : Nat), (∀ x ∈ xs, x.cells.length = k) → xs[i]? = some x → (xs.flatMap V.cells)[i * k + j]? = some c := by
          intro xs
          induction xs with
          | nil => intro i _ h; simp at h
          | cons y ys ih =>
            intro i hall h
            have hy := hall y (List.mem_cons_self ..)
            rw [List.flatMap_cons]
            cases i with
            | zero =>
              simp only [List.getElem?_cons_zero, Option.some.injEq] at h
              subst h
              have hj := (List.getElem?_eq_some_iff.1 hc).1
              rw [Nat.zero_mul, Nat.zero_add, List.getElem?_append_left (by omega)]; exact hc
            | succ i =>
              simp only [List.getElem?_cons_succ] at h
              rw [List.getElem?_append_right (by rw [hy, Nat.add_mul]; omega), hy, Nat.add_mul, Nat.one_mul]
              rw [show i * k + k + j - k = i * k + j by omega]
              exact ih i (fun z hz => hall z (List.mem_cons_of_mem _ hz)) h
        have := flat xs i hk hx
        have hlt := (List.getElem?_eq_some_iff.1 this).1
        rw [List.append_assoc, List.getElem?_append_right (by omega), List.getElem?_append_left (by omega)]
        rw [show pre.length + i * k + j - pre.length = i * k + j by omega]; exact this
      | _ => exact hk'.elim
theorem guardC_yes {flags : List Bool} {op : (V → Store → Prop) → Prop} (hf : ∀ f ∈ flags, f = true) (h : op K) : guardC true flags op σ K := guardC_split (fun _ => hf) (fun _ => h) (fun e => by cases e)
theorem guardC_yes0 {op : (V → Store → Prop) → Prop} (h : op K) : guardC true [] op σ K := guardC_yes (by simp) h
end
end Go.Proofs.YtociliegljoldaaGreat

/- Own framework, part s: the set by which my walks simplify. -/
namespace Go.Proofs.YtociliegljoldaaGreat
set_option linter.unusedSimpArgs false
set_option linter.unusedVariables false
open Go.RowKit
attribute [go_sem]
 vcOps_nil vcOps_cons vcOps_consg vcK_app vcKP_app vcDraw_nil vcDraw_cons vcDK_app vcDB_app stepD_eq stepD_eqg gC_true gC_same gC_and1 gC_and2 gC_and3 gC_and4 gC_and5 gD_true gD_same gD_and1 gD_and2 gD_and3 gD_and4 gD_and5
 Cls.at_eq Cls.c_eq Cls.e_eq Cls.im_eq indexV_arr indexV_str all_store Nat.reduceBEq Bool.or_false Bool.true_or Bool.false_or opV evalV putV List.getD_cons_succ List.getD_cons_zero List.set_cons_succ List.set_cons_zero List.map_cons List.map_nil List.getElem?_cons_succ
 List.getElem?_cons_zero List.length_cons List.length_nil boxV newV V.plain cells_agg cells_int cells_bool cells_str cells_float cells_nilp cells_nils cells_nilf cells_nili cells_nilm cells_ptr cells_sl cells_lst cells_ro cells_tup
 cells_fn cells_ifc loadL_s setL allocV buildV placesB fillV buildSliceV repL_11 repL_12 repL_13 repL_22 repL_24 repL_33 Nat.reducePow pickV boolV V.unF nilCheckV fieldAddrV ptrAdd fieldV indexV
 extractV sliceOk numOf makeSliceV builtinV minI maxI unV panicV typeAssertV List.append_eq bin_ptr bin_ro bin_sl bin_fn bin_ifc bin_cons bin_bool bin_nilp bin_nils bin_nilf bin_empty eqK_def eqV bin_add bin_sub bin_mul bin_quo bin_rem bin_and bin_or bin_xor bin_eql bin_neq bin_lss bin_leq bin_gtr bin_geq bin_shl bin_shr
 List.getElem?_toArray yieldV cond_val cond_cnd flagsOf_def opG_def flagsL_nil flagsL_cons callops_v callops_b sl_ops1 sl_ops2 sl_ops3 sl_ops4 sl_ops5 sl_ops6 Op.operands V.one true_and and_true Bool.false_eq_true Bool.true_eq_false if_false
 if_true Option.map_some Option.map_none Store.set_same Store.set_set Nat.reduceAdd Nat.reduceSub Nat.reduceMul Nat.reduceLT Nat.reduceLeDiff Nat.reduceEqDiff Nat.one_ne_zero Nat.add_zero Nat.zero_add Nat.zero_mul Nat.mul_one ne_eq
 not_false_eq_true not_true_eq_false List.mem_cons List.not_mem_nil or_false forall_eq_or_imp forall_eq forall_eq_apply_imp_iff false_implies implies_true Nat.le_refl List.drop_succ_cons List.drop_zero List.take_succ_cons
 List.take_zero List.take_nil List.cons_append List.nil_append List.append_nil List.contains_cons List.contains_nil exV_eq exists_eq_left' beq_true beq_false Bool.and_true Bool.true_and Option.isSome_some Option.isSome_none
 Option.isSome_map List.all_cons List.all_nil Bool.not_true Bool.not_false decide_true decide_false allEq eqPrimV imp_self notB_imp ite_and ite_or List.cons.injEq and_self true_implies guardV_eq List.replicate

/- One step on: the rule is found by the shape of the goal. -/
attribute [go_sem] capV appendN.eq_def lenV.eq_def indexAddrV.eq_def loadV.eq_def storeV.eq_def sliceV.eq_def convertV.eq_def V.flag V.strip
class Stp (G : Prop) (H : outParam Prop) : Prop where
  s : H → G
class Stg (G : Prop) (H : outParam Prop) : Prop where
  s : H → G
section
variable {P : Program} {Q : Ex → List V → Store → Prop} {env : List V} {σ : Store} {K KP : V → Store → Prop} {next : List V → Store → Prop} {J : List V → Store → Prop} {c : Bool} {x v p : V} {A B : V → Prop} {C : Store → Prop} {flags : List Bool} {op : (V → Store → Prop) → Prop} {id l m : Nat}
instance {a b : Code} : Stp (vc P (.seq a b) Q env σ) (vc P a (Ex.then (fun env σ => vc P b Q env σ) Q) env σ) := ⟨vc_seq⟩
instance {a : Code} : Stp (vc P (.block id a) Q env σ) (vc P a (Ex.inBlock id Q) env σ) := ⟨vc_block⟩
instance : Stp (vc P .skip Q env σ) (Q .normal env σ) := ⟨vc_skip⟩
instance : Stp (vc P (.exit id) Q env σ) (Q (.exit id) env σ) := ⟨vc_exit⟩
instance : Stp (vc P .ret Q env σ) (Q .ret env σ) := ⟨vc_ret⟩
instance : Stp (vc P (.goto l) Q env σ) (Q (.goto l) env σ) := ⟨vc_goto⟩
instance : Stp (Ex.then next Q .normal env σ) (next env σ) := ⟨then_normal⟩
instance : Stp (Ex.then next Q .ret env σ) (Q .ret env σ) := ⟨then_ret⟩
instance : Stp (Ex.then next Q (.exit id) env σ) (Q (.exit id) env σ) := ⟨then_exit⟩
instance : Stp (Ex.then next Q (.pan p) env σ) (Q (.pan p) env σ) := ⟨then_pan⟩
instance : Stp (Ex.then next Q (.goto m) env σ) (Q (.goto m) env σ) := ⟨then_goto⟩
instance : Stp (Ex.inBlock id Q .normal env σ) (Q .normal env σ) := ⟨inBlock_normal⟩
instance : Stp (Ex.inBlock id Q .ret env σ) (Q .ret env σ) := ⟨inBlock_ret⟩
instance : Stp (Ex.inBlock id Q (.pan p) env σ) (Q (.pan p) env σ) := ⟨inBlock_pan⟩
instance : Stp (Ex.inBlock id Q (.goto m) env σ) (Q (.goto m) env σ) := ⟨inBlock_goto⟩
instance : Stp (Ex.inBlock id Q (.exit id) env σ) (Q .normal env σ) := ⟨inBlock_exit⟩
instance : Stp (Ex.jump l J Q (.goto l) env σ) (J env σ) := ⟨jump_goto⟩
instance : Stp (Ex.jump l J Q .normal env σ) (Q .normal env σ) := ⟨jump_normal⟩
instance : Stp (Ex.jump l J Q .ret env σ) (Q .ret env σ) := ⟨jump_ret⟩
theorem exV_const (h : B v) : exV (fun x => ∀ τ, C τ → v = x) B := exV_intro v (fun _ _ => rfl) h
theorem guardD_const (h : B (.cnd c v)) : guardD c [] (fun x => ∀ τ, C τ → v = x) B := guardD_q flags_nil (fun _ _ _ => rfl) h
instance : Stg (guardC c [] (fun K => K x σ) σ K) (K (.cnd c x) σ) := ⟨guardC_ret0⟩
instance : Stg (guardC true [] op σ K) (op K) := ⟨guardC_yes0⟩
instance : Stg (guardC false flags op σ K) (K (.cnd false .top) σ) := ⟨guardC_no⟩
instance : Stg (guardD false flags A B) (B (.cnd false .top)) := ⟨guardD_no⟩
instance : Stg (guardD c [] (fun y => x = y) B) (B (.cnd c x)) := ⟨guardD_ret0⟩
instance : Stg (exV (fun x => ∀ τ, C τ → v = x) B) (B v) := ⟨exV_const⟩
instance : Stg (guardD c [] (fun x => ∀ τ, C τ → v = x) B) (B (.cnd c v)) := ⟨guardD_const⟩
instance {f : (V → Store → Prop) → (V → Store → Prop) → Prop} : Stg (effV f (fun _ => True) K KP) (f K KP) := ⟨effV_true⟩
end
end Go.Proofs.YtociliegljoldaaGreat

