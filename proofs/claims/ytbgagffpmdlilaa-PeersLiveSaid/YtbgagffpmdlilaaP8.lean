/- Subscriptions: what may be; read from bytes. -/
import Derived.Test.YtbgagffpmdlilaaP7
import Derived.Test.YtbgagffpmdlilaaWR
namespace Go.Proofs.Ytbgagffpmdlilaa
set_option linter.unusedSimpArgs false
set_option linter.unusedVariables false
open Go.Proofs

/-- What is known may be told as less. -/
def Tell (env : List V) (σ : Store) (env' : List V) (τ : Store) : Prop := ∀ (I : Imm) (w : World) (vs : List Value), StR σ I w → LR I env vs → ∃ J, I.le J ∧ StR τ J w ∧ LR J env' vs
theorem tell_weak {env env' : List V} {σ τ : Store} (hl : LeEnv env env') (h : Weakens (.val undef) σ (.val undef) τ) : Tell env σ env' τ := fun I w vs hs he => by
  obtain ⟨J, j1, j2, _⟩ := h I w undef hs (.val _)
  exact ⟨J, j1, j2, (he.le hl).mono j1⟩
theorem HWp.loopW {P : Program} {c : Code} {Q : Ex → List V → Store → Prop} {α : Type} (mk : α → List V) (inv : α → Store → Prop) (μ : α → Store → Nat) (a0 : α) {env : List V} {σ τ0 : Store}
    (h0 : Tell env σ (mk a0) τ0) (hi : inv a0 τ0)
    (round : ∀ a σ, inv a σ → HWp P c (Ex.then (fun env' σ' => ∃ a' τ, Tell env' σ' (mk a') τ ∧ inv a' τ ∧ μ a' τ < μ a σ) Q) (mk a) σ) : HWp P (.loop c) Q env σ := by
  intro ds I w a hs he hd b k cs
  have key : ∀ n x σ1 I w a, μ x σ1 = n → inv x σ1 → StR σ1 I w → LR I (mk x) a.tmps.toList → a.defers = ds →
      ∃ e a' w', toQ ds I w Q e a' w' ∧ Arrives P (lone (b.at a (.code c :: .inLoop c :: k)) cs w) b k cs e a' w' := by
    intro n
    induction n using Nat.strongRecOn with
    | _ n ih =>
      intro x σ1 I w a hn hinv hs he hd
      obtain ⟨e, a2, w2, hq, harr⟩ := round x σ1 hinv ds I w a hs he hd b (.inLoop c :: k) cs
      obtain ⟨h1, h2, I', σ', env', h3, h4, h5, h6⟩ := hq
      cases e with
      | normal =>
        obtain ⟨x', τ, htell, hinv', hlt⟩ := h6
        obtain ⟨J, j1, j2, j3⟩ := htell I' w2 _ h4 h5
        obtain ⟨e3, a3, w3, hq3, harr3⟩ := ih (μ x' τ) (hn ▸ hlt) x' τ J w2 a2 rfl hinv' j2 j3 h1
        exact ⟨e3, a3, w3, toQ_base (Imm.le_trans h3 j1) h2 hq3, .of_steps (Steps.trans harr (.one step_inLoop)) harr3⟩
      | exit id => exact ⟨_, a2, w2, ⟨h1, h2, I', σ', env', h3, h4, h5, h6⟩, .pass (x := .inLoop c) rfl (fun _ _ => .inl (by simp)) harr⟩
      | goto l => exact ⟨_, a2, w2, ⟨h1, h2, I', σ', env', h3, h4, h5, h6⟩, .pass (x := .inLoop c) rfl (fun _ _ => .inl (by simp)) harr⟩
      | ret => exact ⟨_, a2, w2, ⟨h1, h2, I', σ', env', h3, h4, h5, h6⟩, .pass (x := .inLoop c) rfl (fun _ _ => .inl (by simp)) harr⟩
      | panic ch => exact ⟨_, a2, w2, ⟨h1, h2, I', σ', env', h3, h4, h5, h6⟩, .pass (x := .inLoop c) rfl (fun _ _ => .inl (by simp)) harr⟩
      | outgrown => exact h6.elim
  obtain ⟨J, j1, j2, j3⟩ := h0 I w _ hs he
  obtain ⟨e, a', w', hq, harr⟩ := key _ a0 τ0 J w a rfl hi j2 j3 hd
  exact ⟨e, a', w', toQ_base j1 (Bel.refl _) hq, .of_steps (.one step_loop) harr⟩
theorem loopW {P : Program} {c : Code} {Q : Ex → List V → Store → Prop} {α : Type} (mk : α → List V) (inv : α → Store → Prop) (μ : α → Store → Nat) (a0 : α) {env : List V} {σ τ0 : Store}
    (h0 : Tell env σ (mk a0) τ0) (hi : inv a0 τ0)
    (round : ∀ a σ, inv a σ → vc P c (Ex.then (fun env' σ' => ∃ a' τ, Tell env' σ' (mk a') τ ∧ inv a' τ ∧ μ a' τ < μ a σ) Q) (mk a) σ) : HWp P (.loop c) Q env σ :=
  HWp.loopW mk inv μ a0 h0 hi fun a σ h => vc_ok _ _ _ _ (round a σ h)
end Go.Proofs.Ytbgagffpmdlilaa

namespace Go.Proofs.Ytbgagffpmdlilaa
set_option linter.unusedSimpArgs false
set_option linter.unusedVariables false
open Go.Proofs
attribute [local irreducible] vc vcOps vcDraw vcK vcKP vcDK vcDB HWp HCalls postV Ex.then Ex.inBlock stepD callV appendV guardC guardD exV effV opV loadV storeV indexAddrV indexV sliceV
set_option maxRecDepth 10000
set_option maxHeartbeats 4000000

def ascB (n : Int) : List Int → Bool
  | [] => true
  | [y] => nodeB y && y != n
  | y :: z :: l => (nodeB y && y != n) && (decide (y < z) && ascB n (z :: l))
def otherB (n y : Int) : Bool := nodeB y && y != n
def stepB (n : Int) (l : List Int) (i : Nat) : Bool := otherB n (l.getD i 0) && !(decide (0 < (i : Int)) && decide (l.getD i 0 ≤ l.getD (i - 1) 0))
def rightS (n : Int) (p : Int × List Int) : Bool := (List.range p.2.length).all (stepB n p.2) && (if p.1 = 0 then p.2.length == 0 else if p.1 = 2 then true else p.2.length == 1)
theorem pRight (b : Nat) (σ : Store) (n : Int) (s : Subs) (h : σ b = some (.cells (peC n s))) (hn : 0 < n) (u : Int) (L : List Int) (hL : L.length ≤ 1000) :
    HQuiet Try.prog 161 [.ptr b 0, .agg [I64 u, ints L]] σ (BV (rightS n (u, L))) := by
  refine HQuiet.of ?_; (refine HCalls.of_vc Try.func161 rfl ?_; rw [Try.ntmps161, Try.results161]; simp only [List.length_cons, List.length_nil, Nat.reduceAdd, Nat.reduceSub, List.replicate, List.cons_append, List.nil_append])
  (repeat (first | refine Stp.s ?_ | refine inBlock_exit' (by decide) ?_ | ((first | refine vc_region fun K KP hK hKP => ?_ | refine Stg.s ?_ | refine guardD_ret0 ?_ | refine exV_intro _ rfl ?_); (try simp only [go_sem, loadL_a]); try ((first | refine hK _ _ ?_ | refine hKP _ _ _ ?_ | refine hKP _ _ (fun _ => ?_)); clear hK hKP K KP))))
  intro c hc
  have hb2 := Store.keep hc h (.cells [I64 u, ints L])
  have hcc := Store.set_same σ c (.cells [I64 u, ints L])
  have hle := Store.le_set hc (Store.le_refl σ) (k := .cells [I64 u, ints L])
  generalize σ.set c _ = σ2 at *
  ((try simp only [go_sem, loadL_a, hcc, List.length_map]); refine hK _ _ ?_; clear hK hKP K KP; repeat (first | refine Stp.s ?_ | refine inBlock_exit' (by decide) ?_ | ((first | refine vc_region fun K KP hK hKP => ?_ | refine Stg.s ?_ | refine guardD_ret0 ?_ | refine exV_intro _ rfl ?_); (try simp only [go_sem, loadL_a, hcc, List.length_map]); try ((first | refine hK _ _ ?_ | refine hKP _ _ _ ?_ | refine hKP _ _ (fun _ => ?_)); clear hK hKP K KP))))
  refine vc_loop (loopV (fun (i : Nat) => [.ptr b 0, .agg [I64 u, ints L], .top, .ptr c 0, BV false, .top, .top, .top, ints L, I64 L.length, I64 i, .top, .top, .top, .top, .top, .top, .top, .top, .top, .top, .top, .top, .top, .top, .top, .top, .top, .top, .top, .top, .top, .top, .top, .top, .top, .top, .top, .top, .top, .top, .top, .top, .top, .top, .top, .top, .top]) (fun i τ => i ≤ L.length ∧ τ = σ2 ∧ (List.range i).all (stepB n L) = true) (fun i _ => L.length - i) 0 (by repeat (first | exact LeEnv.nil | refine LeEnv.same ?_ | refine LeEnv.top ?_)) ⟨Nat.zero_le _, rfl, rfl⟩ ?_)
  rintro i τ ⟨hi, rfl, hall⟩
  (repeat (first | refine Stp.s ?_ | refine inBlock_exit' (by decide) ?_ | ((first | refine vc_region fun K KP hK hKP => ?_ | refine Stg.s ?_ | refine guardD_ret0 ?_ | refine exV_intro _ rfl ?_); (try simp only [go_sem, loadL_a]); try ((first | refine hK _ _ ?_ | refine hKP _ _ _ ?_ | refine hKP _ _ (fun _ => ?_)); clear hK hKP K KP))))
  refine vc_cond rfl (fun hc1 => ?_) (fun hc1 => ?_)
  · have hlt : i < L.length := by simpa using hc1
    have g0 := le_eq (show (0 : Int) ≤ i by omega)
    have g1 := lt_eq (show (i : Int) < L.length by omega)
    have hx : (L.map I64).getD i .top = I64 (L.getD i 0) := by rw [getD_map I64 L i hlt]; simp [hlt]
    have hw : IntKind.i64.wrap ((i : Int) - 1) = (i : Int) - 1 := i64_in (by omega) (by omega)
    have hst : stepB n L i = ((nodeB (L.getD i 0) && L.getD i 0 != n) && !(decide (0 < (i : Int)) && decide (L.getD i 0 ≤ L.getD (i - 1) 0))) := rfl
    (repeat (first | refine Stp.s ?_ | refine inBlock_exit' (by decide) ?_ | ((first | refine vc_region fun K KP hK hKP => ?_ | refine Stg.s ?_ | refine guardD_ret0 ?_ | refine exV_intro _ rfl ?_); (try simp only [go_sem, loadL_a, g0, g1, hx, Int.toNat_natCast, List.length_map]); try ((first | refine hK _ _ ?_ | refine hKP _ _ _ ?_ | refine hKP _ _ (fun _ => ?_)); clear hK hKP K KP))))
    ((try simp only [go_sem, loadL_a]); refine callV_quiet en109 (pOther b τ n s hb2 hn _) ?_)
    ((try simp only [go_sem, loadL_a, hcc, hw, List.length_map]); (try ((first | refine hK _ _ ?_ | refine hKP _ _ _ ?_ | refine hKP _ _ (fun _ => ?_)); clear hK hKP K KP)); repeat (first | refine Stp.s ?_ | refine inBlock_exit' (by decide) ?_ | ((first | refine vc_region fun K KP hK hKP => ?_ | refine Stg.s ?_ | refine guardD_ret0 ?_ | refine exV_intro _ rfl ?_); (try simp only [go_sem, loadL_a, hcc, hw, List.length_map]); try ((first | refine hK _ _ ?_ | refine hKP _ _ _ ?_ | refine hKP _ _ (fun _ => ?_)); clear hK hKP K KP))))
    refine guardC_q0 (x := .ro [I64 (L.getD (i - 1) 0)]) (fun hq => ?_) ?_
    · have hi0 : 0 < i := by simp at hq; omega
      refine ⟨by omega, by omega, ?_, rfl⟩
      rw [show ((i : Int) - 1).toNat = i - 1 by omega, getD_map I64 L (i - 1) (by omega)]
      simp [V.cells, Value.cells, show i - 1 < L.length by omega]
    ((try simp only [go_sem, loadL_a]); (try ((first | refine hK _ _ ?_ | refine hKP _ _ _ ?_ | refine hKP _ _ (fun _ => ?_)); clear hK hKP K KP)); repeat (first | refine Stp.s ?_ | refine inBlock_exit' (by decide) ?_ | ((first | refine vc_region fun K KP hK hKP => ?_ | refine Stg.s ?_ | refine guardD_ret0 ?_ | refine exV_intro _ rfl ?_); (try simp only [go_sem, loadL_a]); try ((first | refine hK _ _ ?_ | refine hKP _ _ _ ?_ | refine hKP _ _ (fun _ => ?_)); clear hK hKP K KP))))
    refine guardC_q0 (x := BV (decide (0 < (i : Int)) && decide (L.getD i 0 ≤ L.getD (i - 1) 0))) (fun hq => ⟨fun h => by rw [hq, h]; rfl, rfl, rfl⟩) ?_
    ((try simp only [go_sem, loadL_a]); (try ((first | refine hK _ _ ?_ | refine hKP _ _ _ ?_ | refine hKP _ _ (fun _ => ?_)); clear hK hKP K KP)); repeat (first | refine Stp.s ?_ | refine inBlock_exit' (by decide) ?_ | ((first | refine vc_region fun K KP hK hKP => ?_ | refine Stg.s ?_ | refine guardD_ret0 ?_ | refine exV_intro _ rfl ?_); (try simp only [go_sem, loadL_a]); try ((first | refine hK _ _ ?_ | refine hKP _ _ _ ?_ | refine hKP _ _ (fun _ => ?_)); clear hK hKP K KP))))
    refine vc_cond rfl (fun hq => ?_) (fun hq => ?_)
    · (repeat (first | refine Stp.s ?_ | refine inBlock_exit' (by decide) ?_ | ((first | refine vc_region fun K KP hK hKP => ?_ | refine Stg.s ?_ | refine guardD_ret0 ?_ | refine exV_intro _ rfl ?_); (try simp only [go_sem, loadL_a]); try ((first | refine hK _ _ ?_ | refine hKP _ _ _ ?_ | refine hKP _ _ (fun _ => ?_)); clear hK hKP K KP))))
      (simp only [postV, resV, oneOf, List.getD_cons_succ, List.getD_cons_zero, and_true, true_and])
      refine Ends.le (congrArg BV (Eq.symm ?_)) hle
      have hf : stepB n L i = false := by
        rw [hst]
        generalize (nodeB (L.getD i 0) && L.getD i 0 != n) = p1 at *
        generalize (decide (0 < (i : Int)) && decide (L.getD i 0 ≤ L.getD (i - 1) 0)) = p2 at *
        cases p1 <;> cases p2 <;> simp_all
      unfold rightS
      have : (List.range L.length).all (stepB n L) = false := by
        rw [List.all_eq_false]
        exact ⟨i, List.mem_range.2 hlt, by rw [hf]; decide⟩
      simp only [this, Bool.false_and]
    · have ht : stepB n L i = true := by
        rw [hst]
        generalize (nodeB (L.getD i 0) && L.getD i 0 != n) = p1 at *
        generalize (decide (0 < (i : Int)) && decide (L.getD i 0 ≤ L.getD (i - 1) 0)) = p2 at *
        cases p1 <;> cases p2 <;> simp_all
      (repeat (first | refine Stp.s ?_ | refine inBlock_exit' (by decide) ?_ | ((first | refine vc_region fun K KP hK hKP => ?_ | refine Stg.s ?_ | refine guardD_ret0 ?_ | refine exV_intro _ rfl ?_); (try simp only [go_sem, loadL_a, i64_nsucc (show i < 1000000 by omega)]); try ((first | refine hK _ _ ?_ | refine hKP _ _ _ ?_ | refine hKP _ _ (fun _ => ?_)); clear hK hKP K KP))))
      refine ⟨i + 1, _, (by repeat (first | exact LeEnv.nil | refine LeEnv.same ?_ | refine LeEnv.top ?_)), Store.le_refl _, ⟨hlt, rfl, ?_⟩, by omega⟩
      rw [List.range_succ, List.all_append, hall]
      simp [ht]
  · have hii : i = L.length := by simp at hc1; omega
    subst hii
    have hR : rightS n (u, L) = (if u = 0 then L.length == 0 else if u = 2 then true else L.length == 1) := by
      unfold rightS; simp only [hall, Bool.true_and]
    (repeat (first | refine Stp.s ?_ | refine inBlock_exit' (by decide) ?_ | ((first | refine vc_region fun K KP hK hKP => ?_ | refine Stg.s ?_ | refine guardD_ret0 ?_ | refine exV_intro _ rfl ?_); (try simp only [go_sem, loadL_a, hcc]); try ((first | refine hK _ _ ?_ | refine hKP _ _ _ ?_ | refine hKP _ _ (fun _ => ?_)); clear hK hKP K KP))))
    refine vc_cond rfl (fun h0 => ?_) (fun h0 => ?_)
    · have h0 : u = 0 := by simpa using h0
      (repeat (first | refine Stp.s ?_ | refine inBlock_exit' (by decide) ?_ | ((first | refine vc_region fun K KP hK hKP => ?_ | refine Stg.s ?_ | refine guardD_ret0 ?_ | refine exV_intro _ rfl ?_); (try simp only [go_sem, loadL_a, hcc, List.length_map]); try ((first | refine hK _ _ ?_ | refine hKP _ _ _ ?_ | refine hKP _ _ (fun _ => ?_)); clear hK hKP K KP))))
      (simp only [postV, resV, oneOf, List.getD_cons_succ, List.getD_cons_zero, and_true, true_and])
      refine Ends.le (congrArg BV ?_) hle
      rw [hR, if_pos h0]
      exact beq_int _ 0
    · have h0 : u ≠ 0 := by simpa using h0
      (repeat (first | refine Stp.s ?_ | refine inBlock_exit' (by decide) ?_ | ((first | refine vc_region fun K KP hK hKP => ?_ | refine Stg.s ?_ | refine guardD_ret0 ?_ | refine exV_intro _ rfl ?_); (try simp only [go_sem, loadL_a]); try ((first | refine hK _ _ ?_ | refine hKP _ _ _ ?_ | refine hKP _ _ (fun _ => ?_)); clear hK hKP K KP))))
      refine vc_cond rfl (fun h2 => ?_) (fun h2 => ?_)
      · have h2 : u = 2 := by simpa using h2
        (repeat (first | refine Stp.s ?_ | refine inBlock_exit' (by decide) ?_ | ((first | refine vc_region fun K KP hK hKP => ?_ | refine Stg.s ?_ | refine guardD_ret0 ?_ | refine exV_intro _ rfl ?_); (try simp only [go_sem, loadL_a]); try ((first | refine hK _ _ ?_ | refine hKP _ _ _ ?_ | refine hKP _ _ (fun _ => ?_)); clear hK hKP K KP))))
        (simp only [postV, resV, oneOf, List.getD_cons_succ, List.getD_cons_zero, and_true, true_and])
        refine Ends.le (congrArg BV ?_) hle
        rw [hR, if_neg h0, if_pos h2]
      · have h2 : u ≠ 2 := by simpa using h2
        (repeat (first | refine Stp.s ?_ | refine inBlock_exit' (by decide) ?_ | ((first | refine vc_region fun K KP hK hKP => ?_ | refine Stg.s ?_ | refine guardD_ret0 ?_ | refine exV_intro _ rfl ?_); (try simp only [go_sem, loadL_a, hcc, List.length_map]); try ((first | refine hK _ _ ?_ | refine hKP _ _ _ ?_ | refine hKP _ _ (fun _ => ?_)); clear hK hKP K KP))))
        (simp only [postV, resV, oneOf, List.getD_cons_succ, List.getD_cons_zero, and_true, true_and])
        refine Ends.le (congrArg BV ?_) hle
        rw [hR, if_neg h0, if_neg h2]
        exact beq_int _ 1
end Go.Proofs.Ytbgagffpmdlilaa
