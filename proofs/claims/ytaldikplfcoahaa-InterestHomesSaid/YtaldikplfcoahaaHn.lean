/- Own framework, part n: slices that a call builds; telling them as lists. -/
import Derived.Test.YtaldikplfcoahaaHm
namespace Go.Proofs.Ytaldikplfcoahaa
set_option linter.unusedSimpArgs false
set_option linter.unusedVariables false
open Go.RowKit

section
variable {P : Program} {σ : Store} {K KP : V → Store → Prop}

/-- x is a slice that was built: n elements, cell by cell cs; the memory is σ0 and its block. -/
def Bld (k : Nat) (σ0 σ : Store) (x : V) (cs : List V) (n : Nat) : Prop :=
  (x = nilS ∧ n = 0 ∧ cs = [] ∧ σ = σ0) ∨ ∃ b cap spare, x = .sl b 0 n cap ∧ σ0 b = none ∧ σ = σ0.set b (.cells (cs ++ spare)) ∧ cs.length = n * k ∧ (cap - n) * k ≤ spare.length ∧ n ≤ cap ∧ cap ≤ maxLen

theorem Bld.nil (k : Nat) (σ0 : Store) : Bld k σ0 σ0 nilS [] 0 := .inl ⟨rfl, rfl, rfl, rfl⟩
theorem Bld.base {k : Nat} {σ0 τ : Store} {x : V} {cs : List V} {n : Nat} (h : Bld k σ0 τ x cs n) : σ0.le τ := by
  rcases h with ⟨_, _, _, rfl⟩ | ⟨b, cap, spare, _, hb, rfl, _⟩
  · exact Store.le_refl _
  · exact Store.le_set hb (Store.le_refl _)
theorem Bld.len {k : Nat} {σ0 τ : Store} {x : V} {cs : List V} {n : Nat} (h : Bld k σ0 τ x cs n) : cs.length = n * k := by
  rcases h with ⟨_, rfl, rfl, _⟩ | ⟨_, _, _, _, _, _, h, _⟩
  · simp
  · exact h

theorem setL_append : ∀ (xs ys zs : List V), zs.length ≥ ys.length → setL (xs ++ zs) xs.length ys = xs ++ ys ++ zs.drop ys.length := by
  intro xs ys
  induction ys generalizing xs with
  | nil => intro zs _; simp [setL]
  | cons y ys ih =>
    intro zs hz
    cases zs with
    | nil => simp at hz
    | cons z zs =>
      have e : (xs ++ z :: zs).set xs.length y = (xs ++ [y]) ++ zs := by simp
      have := ih (xs ++ [y]) zs (by simpa using hz)
      simp only [List.length_append, List.length_cons, List.length_nil, Nat.zero_add] at this
      simp only [setL, e, this]
      simp

theorem maxLen_i : maxLen = 9223372036854775807 := rfl

/-- Appending to what was built. -/
theorem Bld.append {t u e : TypeId} {d : TypeDesc} {k : Nat} {σ0 τ : Store} {x y : V} {cs news : List V} {n m : Nat}
    (hu : P.underlying t = some (.slice e)) (hd : P.underlying u = some d) (hnd : noInt d) (hi : (P.info? e).isSome = true) (hk : P.cellsOf e = k) (hk0 : k ≠ 0) (hz : (zeroV P e).map List.length = some k)
    (hb : Bld k σ0 τ x cs n) (hle : τ.le σ) (hrow : ∀ KK : Nat → List V → Prop, KK m news → rowV k y σ KK) (hl : news.length = m * k) (h1 : ∀ c ∈ news, c.one = true) (hm : n + m ≤ maxLen) (hby : (n + m) * P.bytesOf e ≤ 140737488355328)
    (h : ∀ x' τ' σ', Bld k σ0 τ' x' (cs ++ news) (n + m) → τ'.le σ' → (∀ b, σ b = none → σ' b ≠ none → ∃ cap', x' = .sl b 0 (n + m) cap') → K x' σ') : appendV P t u x y σ K := by
  have hlen := hb.len
  unfold appendV
  rw [hu, hd]
  show _ ∧ _ ∧ _ ∧ rowV (P.cellsOf e) y σ _
  rw [hk]
  refine ⟨hnd, hi, hk0, hrow _ ⟨h1, ?_⟩⟩
  -- a new row, in any case
  have grow : ∀ (old : List V) (b' cap' : Nat), old = cs → σ b' = none → n + m ≤ cap' → cap' ≤ maxLen → K (.sl b' 0 (n + m) cap') (σ.set b' (.cells (old ++ news ++ List.replicate ((cap' - (n + m)) * k) .top))) := by
    intro old b' cap' ho hb' hc hcm
    subst ho
    have h0 : σ0 b' = none := Store.none_of_le hb.base (Store.none_of_le hle hb')
    refine h _ (σ0.set b' (.cells (old ++ news ++ List.replicate ((cap' - (n + m)) * k) .top))) _ (.inr ⟨b', cap', _, rfl, h0, rfl, ?_, by simp, hc, hcm⟩) ?_ ?_
    · rw [List.length_append, hlen, hl, Nat.add_mul]
    · intro c l e
      by_cases hcb : c = b'
      · rw [hcb] at e ⊢; rw [Store.set_same] at e ⊢; exact e
      · rw [Store.set_other _ _ hcb] at e ⊢; exact hle c l (hb.base c l e)
    · intro c hc0 hc1
      by_cases hcb : c = b'
      · subst hcb; exact ⟨cap', rfl⟩
      · rw [Store.set_other _ _ hcb] at hc1; exact absurd hc0 hc1
  rcases hb with ⟨rfl, rfl, rfl, rfl⟩ | ⟨b, cap, spare, rfl, hb0, rfl, hcl, hsl, hnc, hcm⟩
  · refine ⟨fun hm0 => ?_, fun hm0 => ⟨by omega, by simpa using hby, hz, fun b' cap' hb' hc hcm => ?_⟩⟩
    · subst hm0
      obtain rfl : news = [] := List.eq_nil_of_length_eq_zero (by simpa using hl)
      exact h _ _ _ (.inl ⟨rfl, rfl, rfl, rfl⟩) hle (fun c hc hn => absurd hc hn)
    · have := grow [] b' cap' rfl hb' (by omega) hcm
      simpa using this
  · have hσb : σ b = some (.cells (cs ++ spare)) := hle b _ (Store.set_same _ _ _)
    simp only [hσb, Nat.zero_add]
    have hsum : n * k + (cap - n) * k = cap * k := by rw [← Nat.add_mul]; congr 1; omega
    refine ⟨by simp only [List.length_append, hcl]; omega, hnc, hcm, fun hroom => ?_, fun hgrow => ⟨hm, hby, hz, fun b' cap' hb' hc hcm' => ?_⟩⟩
    · have hms : m * k ≤ spare.length := Nat.le_trans (Nat.mul_le_mul_right _ (by omega)) hsl
      have e : setL (cs ++ spare) (n * k) news = cs ++ news ++ spare.drop news.length := by rw [← hcl]; exact setL_append cs news spare (by omega)
      rw [e]
      refine h _ (σ0.set b (.cells (cs ++ news ++ spare.drop news.length))) _ (.inr ⟨b, cap, _, rfl, hb0, rfl, ?_, ?_, hroom, hcm⟩) ?_ ?_
      · rw [List.length_append, hcl, hl, Nat.add_mul]
      · rw [List.length_drop, hl, show cap - (n + m) = (cap - n) - m by omega, Nat.sub_mul]; omega
      · intro c l e'
        by_cases hcb : c = b
        · rw [hcb] at e' ⊢; rw [Store.set_same] at e' ⊢; exact e'
        · rw [Store.set_other _ _ hcb] at e' ⊢; exact hle c l (by rw [Store.set_other _ _ hcb]; exact e')
      · intro c hc0 hc1
        by_cases hcb : c = b
        · subst hcb; exact ⟨cap, rfl⟩
        · rw [Store.set_other _ _ hcb] at hc1; exact absurd hc0 hc1
    · have e : ((cs ++ spare).drop 0).take (n * k) = cs := by rw [List.drop_zero, ← hcl, List.take_left]
      rw [e]
      exact grow cs b' cap' rfl hb' hc hcm'

/-- Rows that may be appended. -/
theorem row_lit {k b n cap : Nat} {cs news : List V} (hb : σ b = some (.cells cs)) (hn : cs = news) (hl : cs.length = n * k) (KK : Nat → List V → Prop) (h : KK n news) : rowV k (.sl b 0 n cap) σ KK := by
  subst hn
  unfold rowV
  simp only [hb, List.drop_zero, Nat.zero_add]
  rw [show n * k = cs.length by omega, List.take_length]
  exact ⟨Nat.le_refl _, h⟩
theorem row_lst {k : Nat} {xs : List V} (KK : Nat → List V → Prop) (h : KK xs.length (xs.flatMap V.cells)) : rowV k (.lst k xs) σ KK := by unfold rowV; exact ⟨rfl, h⟩

theorem Bld.rebase {k : Nat} {σ0 τ : Store} {x : V} {cs : List V} {n : Nat} (h : σ.le σ0) (hb : Bld k σ0 τ x cs n) : ∃ υ, Bld k σ υ x cs n ∧ υ.le τ := by
  rcases hb with ⟨rfl, rfl, rfl, rfl⟩ | ⟨b, cap, spare, rfl, hb0, rfl, hcl, hsl, hnc, hcm⟩
  · exact ⟨σ, .inl ⟨rfl, rfl, rfl, rfl⟩, h⟩
  · refine ⟨σ.set b (.cells (cs ++ spare)), .inr ⟨b, cap, spare, rfl, Store.none_of_le h hb0, rfl, hcl, hsl, hnc, hcm⟩, fun c l e => ?_⟩
    by_cases hcb : c = b
    · rw [hcb] at e ⊢; rw [Store.set_same] at e ⊢; exact e
    · rw [Store.set_other _ _ hcb] at e ⊢; exact h c l e
/-- A built slice, cut to its first elements, its room as well. -/
theorem Bld.cut {k : Nat} {σ0 τ : Store} {b cap n m : Nat} {cs : List V} (hb : Bld k σ0 τ (.sl b 0 n cap) cs n) (hm : m ≤ n) : Bld k σ0 τ (.sl b 0 m m) (cs.take (m * k)) m := by
  rcases hb with ⟨h, _⟩ | ⟨b', cap', spare, h, hb0, rfl, hcl, hsl, hnc, hcm⟩
  · cases h
  · cases h
    refine .inr ⟨b, m, cs.drop (m * k) ++ spare, rfl, hb0, by rw [← List.append_assoc, List.take_append_drop], ?_, by simp, Nat.le_refl _, by omega⟩
    rw [List.length_take, hcl]; exact Nat.min_eq_left (Nat.mul_le_mul_right _ hm)
theorem callV_ends {f : FuncId} {ps qs xs : List V} {τ : Store} {x : V} (he : entersB P f = true) (h : HCalls P f (ps ++ xs ++ qs) σ (Ends x τ)) (k : K x τ) : callV P (.fn (.func f) ps qs) xs σ K KP :=
  callV_of he (R := fun r σ' => r = .ret x ∧ σ' = τ) (h.weaken (fun r σ' ⟨y, e, hw⟩ => by cases e; exact ⟨x, τ, hw, rfl, rfl⟩) (fun r σ' ⟨y, e, _⟩ => by cases e)) (fun y σ' ⟨e, f⟩ => by cases e; subst f; exact k) (fun y σ' ⟨e, _⟩ => by cases e)

/-- A loop that is left in its first round. -/
theorem loop_once {c : Code} {Q : Ex → List V → Store → Prop} {env : List V} (h : vc P c (Ex.then (fun _ _ => False) Q) env σ) : HWp P (.loop c) Q env σ :=
  HWp.loop (fun _ : Unit => env) (fun _ τ => τ = σ) (fun _ _ => 0) () (LeEnv.refl env) rfl fun _ τ e => by
    subst e
    exact (vc_ok _ _ _ _ h).mono fun e env σ hq => by cases e <;> first | exact hq.elim | exact hq

theorem Bld.push {k : Nat} {σ0 τ : Store} {x : V} {cs : List V} {n c : Nat} {kk : Blk} (hb : Bld k σ0 τ x cs n) (hc : τ c = none) : Bld k (σ0.set c kk) (τ.set c kk) x cs n := by
  rcases hb with ⟨rfl, rfl, rfl, rfl⟩ | ⟨b, cap, spare, rfl, hb0, rfl, hcl, hsl, hnc, hcm⟩
  · exact .inl ⟨rfl, rfl, rfl, rfl⟩
  · have hne : b ≠ c := fun e => by rw [e, Store.set_same] at hc; cases hc
    exact .inr ⟨b, cap, spare, rfl, by rw [Store.set_other _ _ hne]; exact hb0, Store.set_comm _ _ _ hne, hcl, hsl, hnc, hcm⟩
theorem Bld.at_ {k : Nat} {σ0 τ : Store} {x : V} {cs : List V} {n : Nat} (hb : Bld k σ0 τ x cs n) (hn : n ≠ 0) : ∃ b cap spare, x = .sl b 0 n cap ∧ τ b = some (.cells (cs ++ spare)) ∧ ∀ cs', cs'.length = cs.length → Bld k σ0 (τ.set b (.cells (cs' ++ spare))) (.sl b 0 n cap) cs' n := by
  rcases hb with ⟨_, h, _⟩ | ⟨b, cap, spare, rfl, hb0, rfl, hcl, hsl, hnc, hcm⟩
  · exact absurd h hn
  · exact ⟨b, cap, spare, rfl, Store.set_same _ _ _, fun cs' h => .inr ⟨b, cap, spare, rfl, hb0, Store.set_set _ _ _ _, by rw [h]; exact hcl, hsl, hnc, hcm⟩⟩

/-- What was built is told as a list, and its memory is gone. -/
theorem Bld.weakens {k : Nat} {σ0 τ : Store} {x : V} {cs : List V} {n : Nat} {xs : List V} (hb : Bld k σ0 τ x cs n) (hle : τ.le σ) (hn : n = xs.length) (hc : cs = xs.flatMap V.cells) (hk : ∀ x ∈ xs, x.cells.length = k) :
    Weakens x σ (.lst k xs) σ0 := by
  intro I w v hs hv
  subst hn hc
  rcases hb with ⟨rfl, h0, _, rfl⟩ | ⟨b, cap, spare, rfl, hb0, rfl, hcl, hsl, hnc, hcm⟩
  · obtain rfl : xs = [] := List.eq_nil_of_length_eq_zero h0
    cases hv
    exact ⟨I, Imm.le_refl I, hs.sub hle, .lnil k⟩
  · have hσb : σ b = some (.cells (xs.flatMap V.cells ++ spare)) := hle b _ (Store.set_same _ _ _)
    obtain ⟨o, ho, hk', hI, hst⟩ := hs.freeze hσb
    refine ⟨_, hI, hst.sub (fun c l e => ?_), ?_⟩
    · have hcb : c ≠ b := fun q => by rw [q, hb0] at e; cases e
      simp only [Store.del, if_neg hcb]
      exact hle c l (by rw [Store.set_other _ _ hcb]; exact e)
    · cases hv
      cases o with
      | cells arr el fr =>
        have hl := hk'.2
        have hlen := hl.len
        simp only [List.length_append, Array.length_toList] at hlen
        refine .lst k xs b 0 cap arr el fr (by simp) hnc hcm (by omega) hk fun i j x c v hx hc hv => ?_
        refine (hl.at_ (i * k + j) c v ?_ (by simpa [Nat.add_comm, Nat.add_assoc] using hv)).mono hI
        -- where the cell lies in the flat row
        have flat : ∀ (xs : List V) (i : Nat), (∀ x ∈ xs, x.cells.length = k) → xs[i]? = some x → (xs.flatMap V.cells)[i * k + j]? = some c := by
          intro xs
          induction xs with
          | nil => intro i _ h; simp at h
          | cons y ys ih =>
            intro i hall h
            have hy := hall y (List.mem_cons_self ..)
            rw [List.flatMap_cons]
            cases i with
            | zero =>
              simp only [List.getElem?_cons_zero, Option.some.injEq] at h
              subst h
              have hj := (List.getElem?_eq_some_iff.1 hc).1
              rw [Nat.zero_mul, Nat.zero_add, List.getElem?_append_left (by omega)]; exact hc
            | succ i =>
              simp only [List.getElem?_cons_succ] at h
              rw [List.getElem?_append_right (by rw [hy, Nat.add_mul]; omega), hy, Nat.add_mul, Nat.one_mul]
              rw [show i * k + k + j - k = i * k + j by omega]
              exact ih i (fun z hz => hall z (List.mem_cons_of_mem _ hz)) h
        have := flat xs i hk hx
        have hlt := (List.getElem?_eq_some_iff.1 this).1
        rw [List.getElem?_append_left hlt]; exact this
      | _ => exact hk'.elim

end
end Go.Proofs.Ytaldikplfcoahaa
