/- Plain: pruned; homes. -/
import Derived.Test.YtaldikplfcoahaaT18
namespace Go.Proofs.Ytaldikplfcoahaa
set_option linter.unusedSimpArgs false
set_option linter.unusedVariables false

variable {t : Tr} {s cart n m : Int}
theorem pruned_plain (hr : t.right = true) (n cart : Int) (y : Int) (hy : y ∈ t.reach n cart) :
    ((t.homes cart).any (· == y) || (t.next y).any fun m => !(t.beyond y m).any (· == n) && (t.homes cart).any fun x => (t.beyond y m).any (· == x)) = true := by
  cases hs : t.there n with
  | false => rw [reach_of_nil (toward_none hs)] at hy; cases hy
  | true =>
    have g := Tr.right_good hr
    have W := reach_ok (cart := cart) hr hs
    obtain ⟨p, p1, _, _, h, h1, h2⟩ := W.par y hy
    rw [Bool.or_eq_true]
    rcases h2.out with e | ⟨k, k1, k2, k3, _⟩
    · left; exact List.any_eq_true.2 ⟨h, h1, by simp [e]⟩
    · right
      refine List.any_eq_true.2 ⟨k, mem_next.2 k1, ?_⟩
      rw [Bool.and_eq_true, Bool.not_eq_true', List.any_eq_false]
      refine ⟨fun z hz e => ?_, List.any_eq_true.2 ⟨h, h1, List.any_eq_true.2 ⟨h, mem_beyond.2 ⟨k1, k3⟩, by simp⟩⟩⟩
      rw [beq_iff_eq] at e
      subst e
      have hz := (mem_beyond.1 hz).2
      have hyp := adj_comm p1.1
      rcases p1.2 with q | q
      · subst q; exact k2 (g.one y k _ k1 hyp hz)
      · exact k2 (g.uniq k1 hyp hz q)

theorem toward_plain (hm : m ∈ t.toward n s cart) : m ≠ s ∧ (t.next n).any (· == m) = true ∧ t.wants n m cart = true := by
  unfold Tr.toward at hm
  rw [List.mem_filter, Bool.and_eq_true, bne_iff_ne] at hm
  exact ⟨hm.2.1, List.any_eq_true.2 ⟨m, hm.1, by simp⟩, hm.2.2⟩
theorem reach_one {x : Int} (h : t.homes cart = [x]) : t.reach x cart = [] := by
  refine reach_of_nil (List.eq_nil_iff_forall_not_mem.2 fun m hm => ?_)
  obtain ⟨h1, _, y, h2, h3⟩ := mem_toward.1 hm
  rw [h] at h2
  simp at h2
  subst h2
  exact h3.ne (adj_ne h1) rfl
theorem nodes_nd (t : Tr) (k : Int) : (t.nodes k).Nodup := by
  unfold Tr.nodes; exact List.Pairwise.filter _ (show nums.Pairwise (· ≠ ·) by decide)
theorem homes_shape (t : Tr) (cart : Int) : t.homes cart = [] ∨ (∃ x, t.homes cart = [x]) ∨ ∃ a b, t.homes cart = [a, b] ∧ a ≠ b := by
  unfold Tr.homes
  split
  · exact .inl rfl
  · rename_i h0
    split
    · rename_i h1
      right; left
      cases hl : t.nodes 1 with
      | nil => rw [hl] at h1; cases h1
      | cons x l => cases l with
        | nil => exact ⟨x, rfl⟩
        | cons y l => rw [hl] at h1; simp at h1
    · rename_i h1
      right; right
      have hp : 1 < (t.nodes 1).length := by omega
      refine ⟨_, _, rfl, fun e => ?_⟩
      have hi := Nat.mod_lt cart.toNat (show 0 < (t.nodes 1).length by omega)
      generalize hc : cart.toNat % (t.nodes 1).length = c at *
      have hj := Nat.mod_lt (c + 1) (show 0 < (t.nodes 1).length by omega)
      have hne : c ≠ (c + 1) % (t.nodes 1).length := fun q => by
        by_cases hlt : c + 1 < (t.nodes 1).length
        · rw [Nat.mod_eq_of_lt hlt] at q; omega
        · have : c + 1 = (t.nodes 1).length := by omega
          rw [this, Nat.mod_self] at q; omega
      rw [List.getD_eq_getElem?_getD, List.getElem?_eq_getElem hi, List.getD_eq_getElem?_getD, List.getElem?_eq_getElem hj] at e
      have hnd := List.pairwise_iff_getElem.1 (nodes_nd t 1)
      simp only [Option.getD_some] at e
      rcases Nat.lt_or_gt_of_ne hne with q | q
      · exact hnd _ _ hi hj q e
      · exact hnd _ _ hj hi q e.symm
theorem homes_plain (hr : t.right = true) {a b : Int} (h : t.homes cart = [a, b]) (hab : a ≠ b) :
    b ∈ t.reach a cart ∧ a ∉ t.reach a cart ∧ (t.reach a cart).length + 1 = (t.reach b cart).length + 1 ∧ a ∈ t.reach b cart ∧ b ∉ t.reach b cart := by
  have g := Tr.right_good hr
  have ha : t.there a = true := home_there (cart := cart) (by rw [h]; simp)
  have hb : t.there b = true := home_there (cart := cart) (by rw [h]; simp)
  have Wa := reach_ok (cart := cart) hr ha
  have Wb := reach_ok (cart := cart) hr hb
  have h1 : b ∈ t.reach a cart := reach_home hr ha (by rw [h]; simp) hb hab.symm
  have h2 : a ∈ t.reach b cart := reach_home hr hb (by rw [h]; simp) ha hab
  have half : ∀ a b : Int, a ≠ b → t.homes cart = [a, b] ∨ t.homes cart = [b, a] → t.there a = true → t.there b = true → ∀ y, (y ∈ t.reach a cart ∨ y = a) ↔ (t.there y = true ∧ ∀ k, t.adj y k = true → Rch t y k a → Rch t y k b → False) := by
    intro a b hab hh ha hb y
    have hmem : ∀ x, x ∈ t.homes cart ↔ x = a ∨ x = b := fun x => by
      rcases hh with e | e <;> rw [e] <;> simp [or_comm]
    have W := reach_ok (cart := cart) hr ha
    have hbin : b ∈ t.reach a cart := reach_home hr ha ((hmem b).2 (.inr rfl)) hb hab.symm
    constructor
    · rintro (hy | rfl)
      · obtain ⟨p, p1, _, _, x, x1, x2⟩ := W.par y hy
        have hyp := adj_comm p1.1
        refine ⟨adj_there p1.1, fun k k1 k2 k3 => ?_⟩
        have hkp : k = p := by
          rcases p1.2 with q | q
          · subst q; exact g.one y k _ k1 hyp k2
          · exact g.uniq k1 hyp k2 q
        subst hkp
        rcases (hmem x).1 x1 with rfl | rfl
        · exact g.apart k1 k2 x2
        · exact g.apart k1 k3 x2
      · exact ⟨ha, fun k k1 k2 _ => k2.ne (adj_ne k1) rfl⟩
    · rintro ⟨hy, hno⟩
      apply Classical.byContradiction
      intro hn
      rw [not_or] at hn
      obtain ⟨k, k1, k2⟩ := g.via hy ha (fun e => hn.2 e.symm)
      exact hno k k1 k2 (k2.trans (W.way b hbin y hn.1 hn.2))
  refine ⟨h1, Wa.ns, ?_, h2, Wb.ns⟩
  have e : ∀ y, y ∈ a :: t.reach a cart ↔ y ∈ b :: t.reach b cart := fun y => by
    rw [List.mem_cons, List.mem_cons, or_comm, half a b hab (.inl h) ha hb y, or_comm, half b a hab.symm (.inr h) hb ha y]
    exact ⟨fun q => ⟨q.1, fun k k1 k2 k3 => q.2 k k1 k3 k2⟩, fun q => ⟨q.1, fun k k1 k2 k3 => q.2 k k1 k3 k2⟩⟩
  have hp : (a :: t.reach a cart).Perm (b :: t.reach b cart) := (List.perm_ext_iff_of_nodup (List.nodup_cons.2 ⟨Wa.ns, Wa.nd⟩) (List.nodup_cons.2 ⟨Wb.ns, Wb.nd⟩)).2 e
  exact hp.length_eq
end Go.Proofs.Ytaldikplfcoahaa
