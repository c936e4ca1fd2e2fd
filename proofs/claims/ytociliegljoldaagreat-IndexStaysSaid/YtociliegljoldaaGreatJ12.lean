/- What came in stays. -/
import Derived.Test.YtociliegljoldaaGreatJ11
namespace Go.Proofs.YtociliegljoldaaGreat
set_option linter.unusedSimpArgs false
set_option linter.unusedVariables false
open Go.Proofs
attribute [local irreducible] vc vcOps vcDraw vcK vcKP vcDK vcDB HWp HCalls postV Ex.then Ex.inBlock stepD callV appendV guardC guardD exV effV opV loadV storeV indexAddrV indexV sliceV
set_option maxRecDepth 10000
set_option maxHeartbeats 4000000

theorem zero_at (i : Nat) : zeroN.getD i 0 = 0 := by
  unfold zeroN
  rw [List.getD_eq_getElem?_getD, List.getElem?_replicate]
  split <;> rfl
theorem cov_iff {a c : List Nat} (ha : a.length = 12) : coversB a c = true ↔ ∀ i, i < 12 → c.getD i 0 ≤ a.getD i 0 := by
  unfold coversB
  rw [decide_eq_true_eq]
  have hat : ∀ i, i < 12 → (joinV (joinV zeroN a) c).getD i 0 = max (a.getD i 0) (c.getD i 0) := fun i hi => by
    unfold joinV
    rw [jnV_at _ _ _ _ hi, if_pos hi, jnV_at _ _ _ _ hi, if_pos hi, zero_at]
    simp
  constructor
  · intro h i hi
    have := hat i hi
    rw [h] at this; omega
  · intro h
    refine vec_ext (jnV_len _ _ _) ha fun i hi => ?_
    rw [hat i hi]
    have := h i hi; omega
theorem with_le {v : List Nat} (nd : Int) (k i : Nat) : v.getD i 0 ≤ (withV v nd k).getD i 0 := by
  unfold withV
  split
  · rw [List.getD_eq_getElem?_getD, List.getD_eq_getElem?_getD, List.getElem?_set]
    split
    · rename_i h
      subst h
      split
      · rename_i hl
        rw [List.getElem?_eq_getElem hl]
        show _ ≤ max (v.getD _ 0) k
        rw [List.getD_eq_getElem?_getD, List.getElem?_eq_getElem hl]
        exact Nat.le_max_left _ _
      · rename_i hl
        rw [List.getElem?_eq_none (by omega)]
        exact Nat.zero_le _
    · exact Nat.le_refl _
  · exact Nat.le_refl _
/-- n more entries behind the ones that there were; the vector grows alone. -/
structure Stays (x y : Ix) (n : Nat) : Prop where
  l : ∃ ys, y.l = x.l ++ ys ∧ ys.length = n
  v : ∀ i, i < 12 → x.v.getD i 0 ≤ y.v.getD i 0
  z : n = 0 → y.v = x.v
theorem Stays.refl {x y : Ix} (hl : y.l = x.l) (hv : y.v = x.v) : Stays x y 0 := ⟨⟨[], by rw [hl, List.append_nil], rfl⟩, fun i _ => by rw [hv]; exact Nat.le_refl _, fun _ => hv⟩
theorem runI_stays : ∀ (f : Nat) (x : Ix), Stays x (runI f x).2 (runI f x).1
  | 0, x => .refl rfl rfl
  | f + 1, x => by
    unfold runI
    cases hx : x.nxt with
    | none => exact .refl rfl rfl
    | some i =>
      obtain ⟨⟨ys, h1, h2⟩, h3, h4⟩ := runI_stays f (x.take i)
      refine ⟨⟨entOf (x.w.getD i default) :: ys, ?_, by rw [List.length_cons, h2]⟩, fun j hj => ?_, fun h => by cases h⟩
      · show (runI f (x.take i)).2.l = _
        rw [h1]
        show (x.l ++ [_]) ++ ys = _
        rw [List.append_assoc]; rfl
      · exact Nat.le_trans (with_le _ _ j) (h3 j hj)
theorem addR_stays (x : Ix) (l : LbI) : ∃ n : Nat, (addR x l).1 = (n : Int) ∧ Stays x (addR x l).2.2 n ∧ ((addR x l).2.1 ≠ 0 → n = 0) := by
  unfold addR
  split
  · exact ⟨0, rfl, .refl rfl rfl, fun _ => rfl⟩
  · split
    · exact ⟨0, rfl, .refl rfl rfl, fun _ => rfl⟩
    · split
      · exact ⟨0, rfl, .refl rfl rfl, fun _ => rfl⟩
      · split
        · exact ⟨0, rfl, .refl rfl rfl, fun _ => rfl⟩
        · refine ⟨(runA (x.put l)).1, rfl, ?_, fun h => absurd rfl h⟩
          have h := runI_stays ((x.put l).w.length + 1) (x.put l)
          exact ⟨h.l, h.v, h.z⟩
end Go.Proofs.YtociliegljoldaaGreat
