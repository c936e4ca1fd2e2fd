/- Own framework, part j: regions that draw their order. -/
import Derived.Test.YtaldikplfcoahaaHi
namespace Go.Proofs.Ytaldikplfcoahaa
set_option linter.unusedSimpArgs false
set_option linter.unusedVariables false
open Go.RowKit

/-- Which must come ahead. -/
def targets (all : List Oper) (i : Nat) : List Nat := match all[i]? with | some o => (o.after.toList.filter (Region.binds .any ·)).map (·.on) | none => []

def befBit (all : List Oper) (i j : Nat) : Bool := ((Region.before all.toArray).getD j 0).testBit i

def relB (all : List Oper) (es : List Nat) (i j : Nat) : Bool :=
  !(targets all i).contains j && (befBit all i j || ((all.getD i default).apart all.toArray (all.getD j default) && !es.contains i))

def pairB (r : Nat → Nat → Bool) : List Nat → Bool
  | [] => true
  | i :: rest => rest.all (r i) && pairB r rest

/-- 'ord' is an order of all operations in which each waits for what must come ahead, and a pure one comes ahead of every effect for which it need not wait; two that are not apart are ordered; so are effects. -/
def orderB (all : List Oper) (es ord : List Nat) : Bool :=
  (List.range all.length).all (fun i => ord.contains i) && ord.all (fun i => decide (i < all.length)) && pairB (fun i j => i != j) ord &&
  (all.all fun o => match o.op with | .select _ _ => false | _ => true) && (List.range all.length).all (fun i => !(targets all i).contains i && (targets all i).all (fun t => decide (t < all.length))) &&
  pairB (relB all es) ord && ord.length == all.length

theorem pairB_spec {r : Nat → Nat → Bool} : ∀ {l : List Nat}, pairB r l = true → l.Pairwise (fun i j => r i j = true)
  | [], _ => .nil
  | i :: rest, h => by
    simp only [pairB, Bool.and_eq_true, List.all_eq_true] at h
    exact .cons h.1 (pairB_spec h.2)

/-- A bit of 'before' comes along an edge. -/
theorem before_bit (all : List Oper) : ∀ (j i : Nat), befBit all i j = true → i ∈ targets all j ∨ ∃ t ∈ targets all j, t < j ∧ befBit all i t = true := by
  unfold befBit Region.before targets
  rw [← Array.foldl_toList]
  simp only []
  have gen : ∀ (l done : List Oper) (acc : Array Nat), acc.size = done.length → ∀ (j i : Nat),
      ((l.foldl (fun acc o => acc.push (o.after.foldl (fun s e => if Region.binds .any e then s ||| 2 ^ e.on ||| acc.getD e.on 0 else s) 0)) acc).getD j 0).testBit i = true →
      (j < done.length ∧ (acc.getD j 0).testBit i = true) ∨ (done.length ≤ j ∧ ∃ o, l[j - done.length]? = some o ∧ (i ∈ (o.after.toList.filter (Region.binds .any ·)).map (·.on) ∨
        ∃ t ∈ (o.after.toList.filter (Region.binds .any ·)).map (·.on), t < j ∧ ((l.foldl (fun acc o => acc.push (o.after.foldl (fun s e => if Region.binds .any e then s ||| 2 ^ e.on ||| acc.getD e.on 0 else s) 0)) acc).getD t 0).testBit i = true)) := by
    intro l
    induction l with
    | nil =>
      intro done acc hsz j i h
      simp only [List.foldl_nil] at h
      by_cases hj : j < acc.size
      · exact .inl ⟨by omega, h⟩
      · rw [Array.getD_eq_getD_getElem?, Array.getElem?_eq_none (by omega)] at h; simp at h
    | cons o l ih =>
      intro done acc hsz j i h
      simp only [List.foldl_cons] at h ⊢
      have keep : ∀ (l : List Oper) (acc : Array Nat) (t : Nat), t < acc.size → (l.foldl (fun acc o => acc.push (o.after.foldl (fun s e => if Region.binds .any e then s ||| 2 ^ e.on ||| acc.getD e.on 0 else s) 0)) acc).getD t 0 = acc.getD t 0 := by
        intro l
        induction l with
        | nil => intro acc t _; rfl
        | cons o l ih2 => intro acc t ht; simp only [List.foldl_cons]; rw [ih2 _ t (by simp; omega)]; simp [Array.getD_eq_getD_getElem?, Array.getElem?_push, show t ≠ acc.size by omega]
      rcases ih (done ++ [o]) _ (by simp [hsz]) j i h with ⟨h1, h2⟩ | ⟨h1, o', h2, h3⟩
      · simp only [List.length_append, List.length_cons, List.length_nil] at h1
        by_cases hj : j < done.length
        · left; refine ⟨hj, ?_⟩
          simpa [Array.getD_eq_getD_getElem?, Array.getElem?_push, show j ≠ acc.size by omega] using h2
        · right
          obtain rfl : j = done.length := by omega
          refine ⟨Nat.le_refl _, o, by simp, ?_⟩
          have h4 : (o.after.foldl (fun s e => if Region.binds .any e then s ||| 2 ^ e.on ||| acc.getD e.on 0 else s) 0).testBit i = true := by
            simpa [Array.getD_eq_getD_getElem?, Array.getElem?_push, ← hsz] using h2
          have fold : ∀ (l : List Edge) (s : Nat), (l.foldl (fun s e => if Region.binds .any e then s ||| 2 ^ e.on ||| acc.getD e.on 0 else s) s).testBit i = true →
              s.testBit i = true ∨ ∃ e ∈ l, Region.binds .any e = true ∧ (e.on = i ∨ (acc.getD e.on 0).testBit i = true) := by
            intro l
            induction l with
            | nil => intro s h; exact .inl h
            | cons e l ih3 =>
              intro s h
              simp only [List.foldl_cons] at h
              rcases ih3 _ h with h | ⟨e', he', h5⟩
              · split at h
                · rename_i hb
                  simp only [Nat.testBit_or, Bool.or_eq_true, Nat.testBit_two_pow, decide_eq_true_eq] at h
                  rcases h with (h | h) | h
                  · exact .inl h
                  · exact .inr ⟨e, List.mem_cons_self .., hb, .inl h⟩
                  · exact .inr ⟨e, List.mem_cons_self .., hb, .inr h⟩
                · exact .inl h
              · exact .inr ⟨e', List.mem_cons_of_mem _ he', h5⟩
          rw [← Array.foldl_toList] at h4
          rcases fold _ _ h4 with h5 | ⟨e, he, hb, h5⟩
          · simp at h5
          · have hmem : e.on ∈ (o.after.toList.filter (Region.binds .any ·)).map (·.on) := List.mem_map.2 ⟨e, List.mem_filter.2 ⟨he, hb⟩, rfl⟩
            rcases h5 with rfl | h5
            · exact .inl hmem
            · right
              have hlt : e.on < acc.size := by
                rcases Nat.lt_or_ge e.on acc.size with h | h
                · exact h
                · rw [Array.getD_eq_getD_getElem?, Array.getElem?_eq_none h] at h5; simp at h5
              refine ⟨e.on, hmem, by omega, ?_⟩
              rw [keep _ _ _ (by simp; omega)]
              simpa [Array.getD_eq_getD_getElem?, Array.getElem?_push, show e.on ≠ acc.size by omega] using h5
      · right
        simp only [List.length_append, List.length_cons, List.length_nil] at h1 h2
        refine ⟨by omega, o', ?_, h3⟩
        rw [show j - done.length = (j - (done.length + 1)) + 1 by omega, List.getElem?_cons_succ]; exact h2
  intro j i h
  rcases gen all [] #[] rfl j i h with ⟨h1, _⟩ | ⟨_, o, h2, h3⟩
  · simp at h1
  · simp only [List.length_nil, Nat.sub_zero] at h2
    simp only [h2]
    exact h3

end Go.Proofs.Ytaldikplfcoahaa
