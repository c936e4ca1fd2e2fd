/- Relays, plainly: what went came from others. -/
import Derived.Test.YtbgagffpmdlilaaK4
namespace Go.Proofs.Ytbgagffpmdlilaa
set_option linter.unusedSimpArgs false
set_option linter.unusedVariables false
open Go.Proofs

def idx (m : Int) : Nat := (m - 1).toNat
theorem idx_inj {a b : Int} (ha : 1 ≤ a) (hb : 1 ≤ b) (h : idx a = idx b) : a = b := by unfold idx at h; omega
theorem setWents_at : ∀ (L : List Int) (c : Cnt) (j : Nat), L.Nodup → (∀ m ∈ L, 1 ≤ m) → (setWents c L j).1 = (c j).1 ∧ (setWents c L j).2 = (c j).2 + (if ((j : Int) + 1) ∈ L then 1 else 0)
  | [], c, j, _, _ => by simp [setWents]
  | m :: L, c, j, hn, hb => by
    have hn2 := List.nodup_cons.1 hn
    have ih := setWents_at L (setWent c (idx m) ((c (idx m)).2 + 1)) j hn2.2 fun x hx => hb x (by simp [hx])
    have e : setWents c (m :: L) = setWents (setWent c (idx m) ((c (idx m)).2 + 1)) L := rfl
    have h1 := hb m (by simp)
    rw [e, ih.1, ih.2]
    unfold setWent
    by_cases hj : j = idx m
    · subst hj
      have hm : ((idx m : Nat) : Int) + 1 = m := by unfold idx; omega
      rw [hm, if_pos rfl, if_neg hn2.1, if_pos (by simp)]
      exact ⟨rfl, rfl⟩
    · have hm : (j : Int) + 1 ≠ m := fun q => hj (by unfold idx; omega)
      rw [if_neg hj]
      refine ⟨rfl, ?_⟩
      congr 1
      simp [hm]
theorem setCame_at (c : Cnt) (i j x : Nat) : (setCame c i x j).1 = (if j = i then x else (c j).1) ∧ (setCame c i x j).2 = (c j).2 := by
  unfold setCame; split <;> exact ⟨rfl, rfl⟩
def sumC (c : Cnt) (l : List Int) : Nat := (l.map fun m => (c (idx m)).1).sum
theorem sumC_up (c c' : Cnt) (f : Int) : ∀ l : List Int, l.Nodup → (∀ m ∈ l, (c' (idx m)).1 = (c (idx m)).1 + (if m = f then 1 else 0)) → sumC c' l = sumC c l + (if f ∈ l then 1 else 0)
  | [], _, _ => by simp [sumC]
  | m :: l, hn, h => by
    have hn2 := List.nodup_cons.1 hn
    have ih := sumC_up c c' f l hn2.2 fun x hx => h x (by simp [hx])
    have hm := h m (by simp)
    unfold sumC at ih ⊢
    simp only [List.map_cons, List.sum_cons]
    rw [ih, hm]
    by_cases e : m = f
    · subst e
      rw [if_pos rfl, if_neg hn2.1, if_pos (by simp)]; omega
    · rw [if_neg e]
      have : (f ∈ m :: l) ↔ f ∈ l := by rw [List.mem_cons]; exact ⟨fun q => q.resolve_left (fun q => e q.symm), .inr⟩
      simp only [this]; omega
/-- What went to a neighbour, and what came from it, is never more than what came in all. -/
def Fair (t : Tr) (n : Int) (c : Cnt) : Prop := ∀ m ∈ t.next n, (c (idx m)).2 + (c (idx m)).1 ≤ sumC c (t.next n)
theorem next_nodup (t : Tr) (n : Int) : (t.next n).Nodup := List.Pairwise.filter _ (show nums.Pairwise (· ≠ ·) by decide)
theorem toward_nodup (t : Tr) (n fr cart : Int) : (t.toward n fr cart).Nodup := (next_nodup t n).filter _
theorem toward_ne {t : Tr} {n fr cart m : Int} (h : m ∈ t.toward n fr cart) : m ≠ fr := by
  have := (List.mem_filter.1 h).2
  simp only [Bool.and_eq_true, bne_iff_ne] at this
  exact this.1
theorem toward_asc (t : Tr) (n fr cart : Int) : (t.toward n fr cart).Pairwise (· < ·) := (List.Pairwise.filter _ (List.Pairwise.filter _ (show nums.Pairwise (· < ·) by decide)))
theorem fair_hear {t : Tr} {n : Int} {c : Cnt} {fr : Int} {l : Lb} (h : Fair t n c) : Fair t n (rlHear t n c fr l).2.2 := by
  unfold rlHear
  split
  · rename_i hf
    split
    · simp only
      intro m hm
      have hmb := next_bnd hm
      have hfb := next_bnd hf
      have hc : ∀ x, 1 ≤ x → (hearC c fr (t.toward n fr l.cart) (idx x)).1 = (c (idx x)).1 + (if x = fr then 1 else 0) ∧ (hearC c fr (t.toward n fr l.cart) (idx x)).2 = (c (idx x)).2 + (if x ∈ t.toward n fr l.cart then 1 else 0) := fun x hx => by
        unfold hearC
        have := setWents_at (t.toward n fr l.cart) (setCame c (fr - 1).toNat ((c (fr - 1).toNat).1 + 1)) (idx x) (toward_nodup t n fr l.cart) (fun m hm => (next_bnd (toward_next hm)).1)
        have hx2 : ((idx x : Nat) : Int) + 1 = x := by unfold idx; omega
        rw [hx2] at this
        rw [this.1, this.2, (setCame_at _ _ _ _).1, (setCame_at _ _ _ _).2]
        refine ⟨?_, rfl⟩
        by_cases e : x = fr
        · subst e; rw [if_pos rfl, if_pos (show idx x = (x - 1).toNat from rfl)]; rfl
        · rw [if_neg e, if_neg (show ¬ idx x = (fr - 1).toNat from fun q => e (idx_inj hx hfb.1 q))]; rfl
      have hs := sumC_up c (hearC c fr (t.toward n fr l.cart)) fr (t.next n) (next_nodup t n) fun m hm => (hc m (next_bnd hm).1).1
      rw [if_pos hf] at hs
      rw [(hc m hmb.1).1, (hc m hmb.1).2, hs]
      have := h m hm
      by_cases e : m = fr
      · subst e
        rw [if_pos rfl, if_neg (fun q => toward_ne q rfl)]; omega
      · rw [if_neg e]; split <;> omega
    · exact h
  · exact h
noncomputable def hearN (t : Tr) (n : Int) (l : List (Int × Lb)) : Cnt := l.foldl (fun c p => (rlHear t n c p.1 p.2).2.2) Cnt0
theorem hearN_snoc (t : Tr) (n : Int) (l : List (Int × Lb)) (p : Int × Lb) : hearN t n (l ++ [p]) = (rlHear t n (hearN t n l) p.1 p.2).2.2 := by
  unfold hearN; rw [List.foldl_append]; rfl
theorem rlHear_le {t : Tr} {n : Int} {c : Cnt} {fr : Int} {l : Lb} {M : Nat} (h : ∀ j, (c j).1 ≤ M ∧ (c j).2 ≤ M) : ∀ j, ((rlHear t n c fr l).2.2 j).1 ≤ M + 13 ∧ ((rlHear t n c fr l).2.2 j).2 ≤ M + 13 := fun j => by
  unfold rlHear
  split
  · split
    · have := hearC_le (fr := fr) (l := t.toward n fr l.cart) h j
      have h2 := toward_len t n fr l.cart
      simp only; omega
    · have := h j; simp only; omega
  · have := h j; simp only; omega
theorem foldl_inv {α β : Type} (f : β → α → β) (P : Nat → β → Prop) (hs : ∀ k b a, P k b → P (k + 1) (f b a)) : ∀ (l : List α) (k : Nat) (b : β), P k b → P (k + l.length) (l.foldl f b)
  | [], k, b, h => h
  | a :: l, k, b, h => by
    have := foldl_inv f P hs l (k + 1) (f b a) (hs k b a h)
    rw [List.length_cons, show k + (l.length + 1) = k + 1 + l.length by omega]; exact this
theorem hearN_le (t : Tr) (n : Int) (l : List (Int × Lb)) : ∀ j, ((hearN t n l) j).1 ≤ 13 * l.length ∧ ((hearN t n l) j).2 ≤ 13 * l.length := by
  have := foldl_inv (fun c (p : Int × Lb) => (rlHear t n c p.1 p.2).2.2) (fun k c => ∀ j, (c j).1 ≤ 13 * k ∧ (c j).2 ≤ 13 * k) (fun k c p h j => by have := rlHear_le (t := t) (n := n) (fr := p.1) (l := p.2) h j; omega) l 0 Cnt0 (fun j => ⟨Nat.le_refl _, Nat.le_refl _⟩)
  rw [Nat.zero_add] at this
  exact this
theorem hearN_fair (t : Tr) (n : Int) (l : List (Int × Lb)) : Fair t n (hearN t n l) := by
  have := foldl_inv (fun c (p : Int × Lb) => (rlHear t n c p.1 p.2).2.2) (fun _ c => Fair t n c) (fun k c p h => fair_hear h) l 0 Cnt0 (fun m _ => by show 0 + 0 ≤ _; omega)
  exact this
theorem sumC_take (c : Cnt) (l : List Int) (i : Nat) (hi : i < l.length) : sumC c (l.take (i + 1)) = sumC c (l.take i) + (c (idx l[i])).1 := by
  unfold sumC; rw [List.take_succ_eq_append_getElem hi, List.map_append, List.sum_append]; simp only [List.map_cons, List.map_nil, List.sum_cons, List.sum_nil, Nat.add_zero]
theorem sumC_le (c : Cnt) (M : Nat) (h : ∀ j, (c j).1 ≤ M ∧ (c j).2 ≤ M) : ∀ l : List Int, sumC c l ≤ M * l.length
  | [] => by simp [sumC]
  | m :: l => by
    have := sumC_le c M h l
    unfold sumC at this ⊢
    have := (h (idx m)).1
    simp only [List.map_cons, List.sum_cons, List.length_cons, Nat.mul_succ]; omega
theorem sumC_mem {c : Cnt} {l : List Int} {m : Int} (h : m ∈ l) : (c (idx m)).1 ≤ sumC c l := by
  induction l with
  | nil => cases h
  | cons x l ih =>
    unfold sumC at ih ⊢
    simp only [List.map_cons, List.sum_cons]
    rcases List.mem_cons.1 h with rfl | h
    · omega
    · have := ih h; omega
end Go.Proofs.Ytbgagffpmdlilaa
