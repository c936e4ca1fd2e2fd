/- Own framework, part g: slices: cutting, making, appending; calls; all operations. -/
import Derived.Test.YtaldikplfcoahaaHf
namespace Go.Proofs.Ytaldikplfcoahaa
set_option linter.unusedSimpArgs false
set_option linter.unusedVariables false
open Go.RowKit

section
variable {P : Program} {I : Imm} {w : World} {K KP : V → Store → Prop} {σ : Store}

/-- An operand that may be absent. -/
def OptR (I : Imm) (x : Option V) (v : Option Value) : Prop := (x = none ∧ v = none) ∨ ∃ a u, x = some a ∧ v = some u ∧ VR I a u

theorem OptR.map {ρ : Operand → V} {ρc : Operand → Value} (hρ : ∀ x, VR I (ρ x) (ρc x)) (o : Option Operand) : OptR I (o.map ρ) (o.map ρc) := by
  cases o with
  | none => exact .inl ⟨rfl, rfl⟩
  | some x => exact .inr ⟨_, _, rfl, rfl, hρ x⟩

theorem numOf_run {d : Nat} {x : Option V} {v : Option Value} {n : Int} (h : OptR I x v) (hn : numOf d x = some n) : (x = none ∧ v = none ∧ n = d) ∨ ∃ k, v = some (.int k n) ∧ x.isSome = true := by
  rcases h with ⟨rfl, rfl⟩ | ⟨a, u, rfl, rfl, hau⟩
  · left; simp [numOf] at hn; exact ⟨rfl, rfl, hn.symm⟩
  · right
    unfold numOf at hn
    split at hn
    · rename_i e; cases e
    · rename_i k m e
      simp only [Option.some.injEq] at hn e
      subst hn; subst e; cases hau
      exact ⟨k, rfl, rfl⟩
    · cases hn

theorem run_sliceBound {k : IntKind} {n : Int} {y : Nat} {code : BoundsCode} (h0 : 0 ≤ n) (h1 : n ≤ y) : (Instr.sliceBound (.int k n) y code).run P w = .ok n.toNat w := by
  simp only [Instr.sliceBound, asIntOf, Sem.run_bind, Sem.run_pure, Result.andThen_ok, Sem.run_ite, if_pos (show 0 ≤ n ∧ n ≤ (y : Int) from ⟨h0, h1⟩)]

theorem run_sliceBounds {isS : Bool} {len cap : Nat} {lo hi mx : Option V} {lo' hi' mx' : Option Value} {KK : Nat → Nat → Nat → Prop} (hlo : OptR I lo lo') (hhi : OptR I hi hi') (hmx : OptR I mx mx')
    (h : sliceOk len cap lo hi mx KK) : ∃ l h m, (Instr.sliceBounds isS len cap lo' hi' mx').run P w = .ok (l, h, m) w ∧ KK l h m ∧ l ≤ h ∧ h ≤ m ∧ m ≤ cap := by
  unfold sliceOk at h
  split at h
  · rename_i l h' m el eh em
    obtain ⟨h0, h1, h2, h3, h4, hk⟩ := h
    refine ⟨l.toNat, h'.toNat, m.toNat, ?_, hk, by omega, by omega, by omega⟩
    rcases numOf_run hmx em with ⟨e1, rfl, rfl⟩ | ⟨km, rfl, hms⟩
    · rcases numOf_run hhi eh with ⟨_, rfl, rfl⟩ | ⟨kh, rfl, _⟩
      · rcases numOf_run hlo el with ⟨_, rfl, rfl⟩ | ⟨kl, rfl, _⟩
        · simp only [Instr.sliceBounds, Sem.run_bind, Sem.run_pure, Result.andThen_ok]; rfl
        · have b1 := run_sliceBound (P := P) (w := w) (k := kl) (n := l) (y := len) (code := .sliceB) (by omega) (by omega)
          simp only [Instr.sliceBounds, Sem.run_bind, Sem.run_pure, Result.andThen_ok, Option.isSome_none, Bool.false_eq_true, if_false, b1]; rfl
      · have b2 := fun c => run_sliceBound (P := P) (w := w) (k := kh) (n := h') (y := cap) (code := c) (by omega) (by omega)
        rcases numOf_run hlo el with ⟨_, rfl, rfl⟩ | ⟨kl, rfl, _⟩
        · simp only [Instr.sliceBounds, Sem.run_bind, Sem.run_pure, Result.andThen_ok, b2]; rfl
        · have b1 := run_sliceBound (P := P) (w := w) (k := kl) (n := l) (y := h'.toNat) (code := .sliceB) (by omega) (by omega)
          simp only [Instr.sliceBounds, Sem.run_bind, Sem.run_pure, Result.andThen_ok, Option.isSome_none, Bool.false_eq_true, if_false, b2, b1]; rfl
    · have b3 := fun c => run_sliceBound (P := P) (w := w) (k := km) (n := m) (y := cap) (code := c) (by omega) (by omega)
      rcases numOf_run hhi eh with ⟨e2, rfl, rfl⟩ | ⟨kh, rfl, _⟩
      · have := h4 hms; rw [e2] at this; cases this
      · have b2 := fun c => run_sliceBound (P := P) (w := w) (k := kh) (n := h') (y := m.toNat) (code := c) (by omega) (by omega)
        rcases numOf_run hlo el with ⟨_, rfl, rfl⟩ | ⟨kl, rfl, _⟩
        · simp only [Instr.sliceBounds, Sem.run_bind, Sem.run_pure, Result.andThen_ok, b3, b2]; rfl
        · have b1 := run_sliceBound (P := P) (w := w) (k := kl) (n := l) (y := h'.toNat) (code := .slice3C) (by omega) (by omega)
          simp only [Instr.sliceBounds, Sem.run_bind, Sem.run_pure, Result.andThen_ok, Option.isSome_some, if_true, b3, b2, b1]
  · exact h.elim

theorem addr_lit_ite (b off l s : Nat) (c : Prop) [Decidable c] : (if c then (⟨b, off, none⟩ : Addr) else (⟨b, off, none⟩ : Addr).add (l * s)) = ⟨b, if c then off else off + l * s, none⟩ := by
  split
  · rfl
  · rw [Addr.add_lit]

theorem slice_ok {t : TypeId} {x : V} {u : Value} {lo hi mx : Option V} {lo' hi' mx' : Option Value} (hs : StR σ I w) (hx : VR I x u) (hlo : OptR I lo lo') (hhi : OptR I hi hi') (hmx : OptR I mx mx')
    (h : sliceV P t x lo hi mx σ K) : Upon P I w K KP ((do pure (.value (← Instr.sliceAt t u lo' hi' mx')) : Sem Next).run P w) := by
  unfold sliceV at h
  split at h
  · rename_i e hu
    obtain ⟨h1, h⟩ := h
    split at h
    · rename_i b off len cap
      cases hx
      obtain ⟨l, hh, m, hrun, hk, _⟩ := run_sliceBounds (P := P) (w := w) (isS := true) hlo hhi hmx h
      refine Upon.valRun hs ?_ (.sl _ _ _ _) hk
      simp only [Instr.sliceAt, Instr.slice, Sem.run_bind, run_underlying hu, Result.andThen_ok, hrun, run_sizeOf' h1, Sem.run_pure, Option.map_some]
      congr 2
      split
      · rfl
      · rw [Addr.add_lit]
    · rename_i k xs
      obtain ⟨rfl, h⟩ := h
      split at h
      · -- no third bound
        obtain rfl : mx' = none := by rcases hmx with ⟨_, rfl⟩ | ⟨_, _, e, _⟩ <;> simp_all
        cases hx with
        | lnil =>
          obtain ⟨l, hh, m, hrun, hk, h2, h3, h4⟩ := run_sliceBounds (P := P) (w := w) (isS := true) hlo hhi (.inl ⟨rfl, rfl⟩) h
          simp only [List.length_nil] at h4 hrun
          obtain rfl : m = 0 := by omega
          obtain rfl : hh = 0 := by omega
          obtain rfl : l = 0 := by omega
          refine Upon.valRun hs ?_ (.lnil (P.cellsOf e)) hk
          simp only [Instr.sliceAt, Instr.slice, Sem.run_bind, run_underlying hu, Result.andThen_ok, hrun, run_sizeOf' h1, Sem.run_pure]
          rfl
        | lst0 _ a =>
          obtain ⟨l, hh, m, hrun, hk, h2, h3, h4⟩ := run_sliceBounds (P := P) (w := w) (isS := true) hlo hhi (.inl ⟨rfl, rfl⟩) h
          simp only [List.length_nil] at h4 hrun
          obtain rfl : m = 0 := by omega
          obtain rfl : hh = 0 := by omega
          obtain rfl : l = 0 := by omega
          refine Upon.valRun hs ?_ (.lst0 (P.cellsOf e) a) hk
          simp only [Instr.sliceAt, Instr.slice, Sem.run_bind, run_underlying hu, Result.andThen_ok, hrun, run_sizeOf' h1, Sem.run_pure]
          rfl
        | lst _ _ b off cap arr el fr g1 g2 g3 g4 g5 g6 =>
          -- the same bounds serve the greater capacity
          have hcap : sliceOk xs.length cap lo hi none (fun l h m => m = cap ∧ l ≤ h ∧ h ≤ xs.length ∧ K (.lst (P.cellsOf e) ((xs.drop l).take (h - l))) σ) := by
            unfold sliceOk at h ⊢
            split at h
            · rename_i a b c ea eb ec
              simp only [numOf, Option.some.injEq] at ec
              have : numOf cap none = some (cap : Int) := rfl
              simp only [ea, eb, this]
              obtain ⟨q0, q1, q2, q3, q4, q5⟩ := h
              refine ⟨q0, q1, by omega, by omega, by simp, by omega, by omega, by omega, q5⟩
            · exact h.elim
          obtain ⟨l, hh, m, hrun, ⟨rfl, h2, h3, hk⟩, _⟩ := run_sliceBounds (P := P) (w := w) (isS := true) hlo hhi (.inl ⟨rfl, rfl⟩) hcap
          have hlen : ((xs.drop l).take (hh - l)).length = hh - l := by simp; omega
          have hoff : off + (if m = l then 0 else l * P.cellsOf e) + (hh - l) * P.cellsOf e ≤ arr.size := by
            have h5 : l * P.cellsOf e + (hh - l) * P.cellsOf e ≤ xs.length * P.cellsOf e := by rw [← Nat.add_mul]; exact Nat.mul_le_mul_right _ (by omega)
            split
            · rename_i e0; have : hh - l = 0 := by omega
              rw [this]; omega
            · omega
          have hvr := VR.lst (I := I) (P.cellsOf e) ((xs.drop l).take (hh - l)) b (off + (if m = l then 0 else l * P.cellsOf e)) (m - l) arr el fr g1 (by rw [hlen]; omega) (by omega) (by rw [hlen]; exact hoff)
            (fun x hx => g5 x (List.mem_of_mem_drop (List.mem_of_mem_take hx)))
            (fun i j x c v hx hc hv => by
              rw [List.getElem?_take] at hx
              split at hx
              · rename_i hi'
                rw [List.getElem?_drop] at hx
                rw [if_neg (by omega)] at hv
                exact g6 (l + i) j x c v hx hc (by rw [show off + (l + i) * P.cellsOf e + j = off + l * P.cellsOf e + i * P.cellsOf e + j by rw [Nat.add_mul]; omega]; exact hv)
              · cases hx)
          rw [hlen] at hvr
          refine Upon.valRun hs ?_ hvr hk
          simp only [Instr.sliceAt, Instr.slice, Sem.run_bind, run_underlying hu, Result.andThen_ok, hrun, run_sizeOf' h1, Sem.run_pure, Option.map_some]
          congr 2
          split
          · rfl
          · rw [Addr.add_lit]
      · exact h.elim
    · cases hx
      obtain ⟨l, hh, m, hrun, hk, h2, h3, h4⟩ := run_sliceBounds (P := P) (w := w) (isS := true) hlo hhi hmx h
      obtain rfl : m = 0 := by omega
      obtain rfl : hh = 0 := by omega
      obtain rfl : l = 0 := by omega
      refine Upon.valRun hs ?_ (.val _) hk
      simp only [Instr.sliceAt, Instr.slice, Sem.run_bind, run_underlying hu, Result.andThen_ok, hrun, run_sizeOf' h1, Sem.run_pure]
      rfl
    · exact h.elim
  · rename_i hu
    split at h
    · rename_i s
      cases hx
      obtain ⟨rfl, h⟩ := h
      obtain rfl : mx' = none := by rcases hmx with ⟨_, rfl⟩ | ⟨_, _, e, _⟩ <;> simp_all
      obtain ⟨l, hh, m, hrun, hk, h2, h3, h4⟩ := run_sliceBounds (P := P) (w := w) (isS := false) hlo hhi (.inl ⟨rfl, rfl⟩) h
      refine Upon.valRun hs ?_ (.val _) hk
      simp only [Instr.sliceAt, Instr.slice, Sem.run_bind, run_underlying hu, Result.andThen_ok, Option.isSome_none, Bool.false_eq_true, if_false, Sem.run_pure, hrun]
    · exact h.elim
  · rename_i n e hu
    obtain ⟨h1, h⟩ := h
    split at h
    · rename_i b off
      cases hx
      obtain ⟨l, hh, m, hrun, hk, h2, h3, h4⟩ := run_sliceBounds (P := P) (w := w) (isS := false) hlo hhi hmx h
      refine Upon.valRun hs ?_ (.sl _ _ _ _) hk
      simp only [Instr.sliceAt, Sem.run_bind, run_underlying hu, Result.andThen_ok, Instr.sureAddr, Sem.run_pure, hrun, run_sizeOf' h1]
      rw [addr_lit_ite]
    · exact h.elim
  · exact h.elim

end
end Go.Proofs.Ytaldikplfcoahaa
