/- Own framework, part d: the model does what part b says, more operations. -/
import Derived.Test.YtaldikplfcoahaaHc
namespace Go.Proofs.Ytaldikplfcoahaa
set_option linter.unusedSimpArgs false
set_option linter.unusedVariables false
open Go.RowKit

section
variable {P : Program} {I : Imm} {w : World} {K KP : V → Store → Prop} {σ : Store}

theorem LR.toArray {cs : List V} {vs : Array Value} (h : LR I cs vs.toList) : cs.length = vs.size := by simpa using h.len

theorem repL_ok {z : List V} {zs : Array Value} (hl : LR I z zs.toList) (n : Nat) : LR I (repL z n) ((Array.range n).map (fun i => zs[i % zs.size]!)).toList := by
  have hlen := hl.len
  refine ⟨by simp [repL], fun j x v hx hv => ?_⟩
  simp only [repL, List.getElem?_map, Array.toList_map, Array.toList_range] at hx hv
  cases e : (List.range n)[j]? with
  | none => simp [e] at hx
  | some a =>
    simp only [e, Option.map_some, Option.some.injEq] at hx hv
    subst hx; subst hv
    have := hl.getD (a % z.length) default
    simp only [Array.length_toList] at hlen
    rw [hlen] at this ⊢
    simpa [List.getD_eq_getElem?_getD, Array.getElem!_eq_getD, Array.getD_eq_getD_getElem?] using this

theorem buildSlice_ok {t : TypeId} {n : Nat} {ρ : Operand → V} {ρc : Operand → Value} (hρ : ∀ x, VR I (ρ x) (ρc x)) (parts : Array (Nat × Operand)) (hs : StR σ I w)
    (h : buildSliceV P t n (parts.toList.map fun (i, x) => (i, ρ x)) σ K) : Upon P I w K KP ((do pure (.value (← Instr.buildSlice t n (parts.map fun (i, x) => (i, ρc x)))) : Sem Next).run P w) := by
  unfold buildSliceV at h
  split at h
  · rename_i e hu
    obtain ⟨hi, hsz, h⟩ := h
    split at h
    · rename_i z hz
      obtain ⟨zv, hrun, hl, hlen⟩ := zeroV_run (I := I) (w := w) hz
      split at h
      · rename_i cs hf
        by_cases h0 : n * P.cellsOf e = 0
        · have hrl : LR I (repL z (n * P.cellsOf e)) ((Array.range (n * P.cellsOf e)).map (fun i => (#[] : Array Value)[i % (#[] : Array Value).size]!)).toList := by
            rw [h0]; exact ⟨by simp [repL], fun j x v hx _ => by simp [repL] at hx⟩
          obtain ⟨us, hfill, hlr⟩ := fill_ok (I := I) _ _ _ _ _ _ hrl (parts_map hρ parts) hf
          simp only [Instr.buildSlice, Sem.run_bind, run_underlying hu, Result.andThen_ok, run_sizeOf' hi, if_neg (show ¬ (n * P.cellsOf e > 2 ^ 24) by omega), Sem.run_pure, if_pos h0, hfill, newRow, run_newObj]
          exact ⟨below_alloc w, I, _, _, Imm.le_refl I, hs.new e hlr, .sl _ _ _ _, h _ hs.fresh_own⟩
        · have hrl := repL_ok hl (n * P.cellsOf e)
          obtain ⟨us, hfill, hlr⟩ := fill_ok (I := I) _ _ _ _ _ _ hrl (parts_map hρ parts) hf
          simp only [Instr.buildSlice, Sem.run_bind, run_underlying hu, Result.andThen_ok, run_sizeOf' hi, if_neg (show ¬ (n * P.cellsOf e > 2 ^ 24) by omega), Sem.run_pure, if_neg h0, hrun, hfill, newRow, run_newObj]
          exact ⟨below_alloc w, I, _, _, Imm.le_refl I, hs.new e hlr, .sl _ _ _ _, h _ hs.fresh_own⟩
      · exact h.elim
    · exact h.elim
  · exact h.elim

theorem world_lt {b : Nat} {o : Obj} (h : w.heap[b]? = some o) : b < w.heap.size := (Array.getElem?_eq_some_iff.1 h).1

/-- One store into an owned block. -/
theorem StR.setCell {cs : List V} {b j : Nat} {x : V} {v : Value} (hs : StR σ I w) (hb : σ b = some (.cells cs)) (hx : VR I x v) :
    StR (σ.set b (.cells (cs.set j x))) I (w.setCell ⟨b, j, none⟩ v) := by
  obtain ⟨o, ho, hk⟩ := hs.own b _ hb
  cases o with
  | cells arr el fr =>
    have hne : ∀ c, c ≠ b → (w.setCell ⟨b, j, none⟩ v).heap[c]? = w.heap[c]? := fun c hc => Below.heap_setCell w ⟨b, j, none⟩ v c hc
    have hnew : (w.setCell ⟨b, j, none⟩ v).heap[b]? = some (.cells (arr.setIfInBounds j v) el fr) := by
      simp [World.setCell, Array.getElem?_modify, ho]
    refine ⟨fun c o' e => ?_, fun c k e => ?_, fun c k e => ?_⟩
    · by_cases hc : c = b
      · rw [hc, hs.sep b _ hb] at e; cases e
      · rw [hne c hc]; exact hs.imm c o' e
    · simp only [Store.set] at e
      split at e
      · rename_i hc; cases e; rw [hc]
        refine ⟨_, hnew, fun i hi => hk.1 i (by simpa using hi), ?_⟩
        have := hk.2.set j hx
        simpa using this
      · rename_i hc; obtain ⟨o', h1, h2⟩ := hs.own c k e; exact ⟨o', by rw [hne c hc]; exact h1, h2⟩
    · simp only [Store.set] at e
      split at e
      · rename_i hc; rw [hc]; exact hs.sep b _ hb
      · exact hs.sep c k e
  | _ => exact hk.elim

theorem below_setCell (w : World) (a : Addr) (v : Value) : Bel w (w.setCell a v) := (Bel.refl w).setCell a v

theorem frozenB {cs : List V} {b j : Nat} (hs : StR σ I w) (hb : σ b = some (.cells cs)) (hj : j < cs.length) : w.frozen? ⟨b, j, none⟩ = false := by
  obtain ⟨o, ho, hk⟩ := hs.own b _ hb
  cases o with
  | cells arr el fr =>
    have hl := hk.2.len
    simp only [Array.length_toList] at hl
    simp only [World.frozen?, ho]
    exact hk.1 j (by omega)
  | _ => exact hk.elim

theorem run_storeCells_own {b : Nat} : ∀ (ys : List V) (us : List Value) (off i : Nat) (cs : List V) (σ : Store) (w : World), StR σ I w → σ b = some (.cells cs) → LR I ys us →
    (∀ c ∈ ys, c.one = true) → off + i + ys.length ≤ cs.length → ∃ w', (storeCells ⟨b, off, none⟩ us i).run P w = .ok () w' ∧ StR (σ.set b (.cells (setL cs (off + i) ys))) I w' ∧ Bel w w' := by
  intro ys
  induction ys with
  | nil =>
    intro us off i cs σ w hs hb hl _ _
    obtain rfl : us = [] := List.eq_nil_of_length_eq_zero (by simpa using hl.len.symm)
    refine ⟨w, rfl, ?_, Bel.refl _⟩
    simp only [setL]
    refine hs.sub fun c k e => ?_
    simp only [Store.set] at e; split at e
    · rename_i hc; rw [hc, hb, ← e]
    · exact e
  | cons y ys ih =>
    intro us off i cs σ w hs hb hl h1 hlen
    cases us with
    | nil => have := hl.len; simp at this
    | cons u us =>
      simp only [List.length_cons] at hlen
      have hj : off + i < cs.length := by omega
      obtain ⟨v0, hc0, _⟩ := loadB hs hb (List.getElem?_eq_getElem hj)
      have hs' := hs.setCell (j := off + i) hb hl.head
      obtain ⟨w', hrun, hst, hbel⟩ := ih us off (i + 1) (cs.set (off + i) y) _ _ hs' (Store.set_same _ _ _) hl.tail (fun c hc => h1 c (List.mem_cons_of_mem _ hc)) (by simp; omega)
      refine ⟨w', ?_, ?_, (below_setCell w _ u).trans hbel⟩
      · simp only [storeCells, Sem.run_bind, Addr.add_lit]
        rw [run_store P w _ u _ (hl.head.one (h1 y (List.mem_cons_self ..)))]
        simp only [hc0, frozenB hs hb hj, Bool.false_eq_true, if_false, Result.andThen_ok]
        exact hrun
      · rw [Store.set_set] at hst
        simpa [setL, Nat.add_assoc] using hst

theorem store_ok {t : TypeId} {a x : V} {va vx : Value} (hs : StR σ I w) (ha : VR I a va) (hx : VR I x vx) (h : storeV P t a x σ K) :
    Upon P I w K KP ((do Instr.storeAt t va vx; pure .skip : Sem Next).run P w) := by
  unfold storeV at h
  split at h
  · rename_i b off
    cases ha
    split at h
    · rename_i cs hb
      obtain ⟨h1, h2, h3, h4, h5, h6⟩ := h
      have hc := hx.cells h1
      have hcl := hc.len
      simp only [Array.length_toList] at hcl
      obtain ⟨w', hrun, hst, hbel⟩ := run_storeCells_own (P := P) (I := I) (b := b) x.cells _ off 0 cs σ w hs hb hc h4 (by omega)
      simp only [Instr.storeAt, Instr.sureAddr, storeVar, Sem.run_bind, Sem.run_pure, Result.andThen_ok, run_sizeOf' h3, Sem.run_ite]
      rw [if_neg (by simp; omega)]
      simp only [Sem.run_pure, Result.andThen_ok, hrun]
      exact ⟨hbel, I, _, Imm.le_refl I, by simpa using hst, h6⟩
    · exact h.elim
  · exact h.elim

end
end Go.Proofs.Ytaldikplfcoahaa
