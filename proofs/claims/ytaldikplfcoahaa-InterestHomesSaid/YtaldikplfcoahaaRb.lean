/- Own framework: a law's arguments. -/
import Derived.Test.YtaldikplfcoahaaRa
namespace Go.Proofs.Ytaldikplfcoahaa
set_option linter.unusedSimpArgs false
set_option linter.unusedVariables false
open Go.ChangeShapes Go.WideShapes Go.ChangeAt Go.RowKit

section
variable {H : Type} {enc : TypeId × Value → H} {P : Program} {W : World} {base : Nat} {v : Value} {d : DataW H} {ps : List MemPlace} {t : TypeId}

theorem arg_int {k : IntKind} (ht : P.underlying t = some (.int k)) (hval : Value.okWide P W .any base t v) (h : DataW.Trod enc P W 0 (fun _ => true) true t v d ps) : ∃ n, v = .int k n ∧ k.min ≤ n ∧ n ≤ k.max := by
  obtain ⟨n, h1, _, _, h4⟩ := open_int ht hval h
  exact ⟨n, h1, wf_range h4⟩
theorem arg_bool (ht : P.underlying t = some .bool) (hval : Value.okWide P W .any base t v) (h : DataW.Trod enc P W 0 (fun _ => true) true t v d ps) : ∃ b, v = .bool b := by
  obtain ⟨n, h1, _⟩ := open_bool ht hval h
  exact ⟨n, h1⟩
theorem arg_agg (ht : (∃ fs, P.underlying t = some (.struct fs)) ∨ ∃ n e, P.underlying t = some (.array n e)) (hval : Value.okWide P W .any base t v) (h : DataW.Trod enc P W 0 (fun _ => true) true t v d ps) : ∃ vs, v = .agg vs ∧ Rd enc P W t vs.toList := by
  obtain ⟨fuel, h⟩ := h
  have hv : ∃ vs, v = .agg vs := by
    unfold Value.okWide at hval
    rcases ht with ⟨fs, ht⟩ | ⟨n, e, ht⟩ <;> rw [ht] at hval <;> exact ⟨_, hval.choose_spec.1⟩
  obtain ⟨vs, rfl⟩ := hv
  exact ⟨vs, rfl, fuel, _, h⟩
/-- One cell, no bundle. -/
theorem arg_one (ht : ∀ cs, ¬ Value.okWide P W .any base t (.agg cs)) (hval : Value.okWide P W .any base t v) (h : DataW.Trod enc P W 0 (fun _ => true) true t v d ps) : v.cells = #[v] ∧ Rd enc P W t [v] := by
  have e : v.cells = #[v] := Value.cells_of_ne_agg fun cs q => ht cs (q ▸ hval)
  obtain ⟨fuel, h⟩ := h
  rw [e] at h
  exact ⟨e, fuel, _, h⟩
end

theorem lr_ints {I : Imm} {k : IntKind} (l : List Int) : LR I (l.map fun n => V.val (.int k n)) (l.map fun n => Value.int k n) := LR.map (fun n => VR.val _) l
section
variable {H : Type} {enc : TypeId × Value → H} {P : Program} {W : World}
theorem rd_ints {t e : TypeId} {m : Nat} {k : IntKind} {cs : List Value} (ht : P.underlying t = some (.array m e)) (he : P.underlying e = some (.int k)) (hc : P.cellsOf e = 1) (hn : P.cellsOf t = m) (h : Rd enc P W t cs) :
    ∃ l : List Int, l.length = m ∧ cs = l.map (fun n => Value.int k n) ∧ ∀ n ∈ l, k.min ≤ n ∧ n ≤ k.max := by
  obtain ⟨h1, h2⟩ := rd_array ht h
  rw [hn] at h1
  obtain ⟨l, l1, l2⟩ := choose_lt (m := m) (p := fun i n => cs[i]? = some (Value.int k n) ∧ k.min ≤ n ∧ n ≤ k.max) (fun i hi => by
    have := h2 i hi
    rw [hc, Nat.mul_one] at this
    obtain ⟨n, e1, e2⟩ := rd_int he this
    have e3 : (List.take 1 (List.drop i cs))[0]? = some (Value.int k n) := by rw [e1]; rfl
    rw [List.getElem?_take, if_pos (by omega), List.getElem?_drop] at e3
    exact ⟨n, e3, e2⟩)
  refine ⟨l, l1, List.ext_getElem? fun i => ?_, fun n hn => ?_⟩
  · by_cases hi : i < m
    · rw [(l2 i (by omega)).1]; simp [show i < l.length by omega]
    · rw [List.getElem?_eq_none (by omega), List.getElem?_eq_none (by simp; omega)]
  · obtain ⟨i, hi, rfl⟩ := List.mem_iff_getElem.1 hn
    exact (l2 i hi).2
end
end Go.Proofs.Ytaldikplfcoahaa
