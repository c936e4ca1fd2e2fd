/- Plain: what is beyond the neighbours of a node, and that node, are all nodes, each once. -/
import Derived.Test.YtbgagffpmdlilaaPQ
namespace Go.Proofs.Ytbgagffpmdlilaa
set_option linter.unusedSimpArgs false
set_option linter.unusedVariables false
open Go.Proofs

variable {t : Tr}
theorem beyond_nd (x m : Int) : (t.beyond x m).Nodup := by
  unfold Tr.beyond
  split
  · unfold Tr.wset
    exact List.Pairwise.filter _ (show nums.Pairwise (· ≠ ·) by decide)
  · exact List.nodup_nil
noncomputable def Tr.parts (t : Tr) (n : Int) : List Int := (t.next n).flatMap (t.beyond n)
theorem mem_parts (g : Good t) {n x : Int} (hn : t.there n = true) : x ∈ t.parts n ++ [n] ↔ t.there x = true := by
  rw [List.mem_append, List.mem_singleton]
  unfold Tr.parts
  rw [List.mem_flatMap]
  constructor
  · rintro (⟨m, hm, hx⟩ | rfl)
    · obtain ⟨h1, h2⟩ := mem_beyond.1 hx
      exact h2.th (adj_there h1)
    · exact hn
  · intro hx
    by_cases e : x = n
    · exact .inr e
    · obtain ⟨m, h1, h2⟩ := g.via hn hx e
      exact .inl ⟨m, mem_next.2 h1, mem_beyond.2 ⟨h1, h2⟩⟩
theorem next_nd (t : Tr) (n : Int) : (t.next n).Nodup := by
  unfold Tr.next; exact List.Pairwise.filter _ (show nums.Pairwise (· ≠ ·) by decide)
theorem parts_nd (g : Good t) (n : Int) : (t.parts n ++ [n]).Nodup := by
  unfold List.Nodup
  rw [List.pairwise_append]
  refine ⟨?_, List.pairwise_singleton _ _, fun x hx y hy => ?_⟩
  · unfold Tr.parts
    rw [List.pairwise_flatMap]
    refine ⟨fun m _ => beyond_nd n m, ?_⟩
    refine (List.Pairwise.and_mem.1 (next_nd t n)).imp fun {a b} h x hx y hy e => ?_
    subst e
    obtain ⟨h1, h2⟩ := mem_beyond.1 hx
    obtain ⟨k1, k2⟩ := mem_beyond.1 hy
    exact h.2.2 (g.uniq h1 k1 h2 k2)
  · rw [List.mem_singleton] at hy
    subst hy
    unfold Tr.parts at hx
    rw [List.mem_flatMap] at hx
    obtain ⟨m, _, hx⟩ := hx
    obtain ⟨h1, h2⟩ := mem_beyond.1 hx
    exact h2.ne (adj_ne h1)
theorem count_nd {l : List Int} (h : l.Nodup) (x : Int) : l.count x = if x ∈ l then 1 else 0 := by
  induction l with
  | nil => simp
  | cons a l ih =>
    rw [List.nodup_cons] at h
    rw [List.count_cons, ih h.2]
    by_cases e : a = x
    · subst e; simp [h.1]
    · have e' : x ≠ a := fun q => e q.symm
      simp [e, e']
theorem parts_count (hr : t.right = true) {n : Int} (hn : t.there n = true) (k : Int) : (t.parts n ++ [n]).count k = if t.there k = true then 1 else 0 := by
  have g := Tr.right_good hr
  rw [count_nd (parts_nd g n)]
  by_cases h : t.there k = true
  · rw [if_pos h, if_pos ((mem_parts g hn).2 h)]
  · rw [if_neg h, if_neg fun q => h ((mem_parts g hn).1 q)]
theorem kind_low (hr : t.right = true) (k : Int) : 0 ≤ t.kind k ∧ t.kind k ≤ 3 := by
  unfold Tr.right at hr
  simp only [Bool.and_eq_true] at hr
  have hk := hr.1.1.1
  unfold Tr.kindsOk at hk
  rw [Bool.not_eq_true', List.any_eq_false] at hk
  unfold Tr.kind
  split
  · rw [List.getD_eq_getElem?_getD]
    cases h : t.kinds[(k - 1).toNat]? with
    | none => simp
    | some v =>
      have := hk v (List.mem_of_getElem? h)
      simp at this
      simp
      omega
  · simp
theorem kind_pos (hr : t.right = true) (k : Int) : decide (0 < t.kind k) = t.there k := by
  have h := kind_low hr k
  unfold Tr.there isKd
  rw [Bool.eq_iff_iff]
  simp
  omega
/-- How often each number stands in a row. -/
def tally (s : List Int) : List V := (List.range 13).map fun (k : Nat) => I64 ((s.count (k : Int) : Nat) : Int)
theorem tally_len (s : List Int) : (tally s).length = 13 := by simp [tally]
theorem tally_get (s : List Int) {x : Int} (h : 0 ≤ x ∧ x ≤ 12) : (tally s)[x.toNat]? = some (I64 ((s.count x : Nat) : Int)) := by
  unfold tally
  rw [List.getElem?_map, List.getElem?_range (by omega)]
  simp only [Option.map_some]
  congr 5
  omega
theorem tally_set (s : List Int) {x : Int} (h : 0 ≤ x ∧ x ≤ 12) : (tally s).set x.toNat (I64 ((s.count x + 1 : Nat) : Int)) = tally (s ++ [x]) := by
  refine List.ext_getElem? fun j => ?_
  rw [List.getElem?_set]
  by_cases hj : j < 13
  · have e1 : (tally (s ++ [x]))[j]? = some (I64 (((s ++ [x]).count (j : Int) : Nat) : Int)) := by
      have := tally_get (s ++ [x]) (x := (j : Int)) (by omega)
      simpa using this
    have e2 : (tally s)[j]? = some (I64 ((s.count (j : Int) : Nat) : Int)) := by
      have := tally_get s (x := (j : Int)) (by omega)
      simpa using this
    rw [e1]
    by_cases e : x.toNat = j
    · have ex : (j : Int) = x := by omega
      rw [if_pos e, if_pos (by rw [tally_len]; omega), ex, List.count_append]
      simp
    · have ex : ¬x = (j : Int) := by omega
      rw [if_neg e, e2, List.count_append]
      simp [List.count_cons, ex]
  · rw [if_neg (by omega), List.getElem?_eq_none (by rw [tally_len]; omega), List.getElem?_eq_none (by rw [tally_len]; omega)]
theorem count_le (s : List Int) (x : Int) (m : Nat) (h : s.length ≤ m) : s.count x ≤ m := Nat.le_trans List.count_le_length h
theorem flat_le {α β : Type} (f : α → List β) (m : Nat) (h : ∀ a, (f a).length ≤ m) : ∀ l : List α, (l.flatMap f).length ≤ m * l.length
  | [] => by simp
  | a :: l => by
    have := flat_le f m h l
    have := h a
    rw [List.flatMap_cons, List.length_append, List.length_cons, Nat.mul_add]
    omega
end Go.Proofs.Ytbgagffpmdlilaa
