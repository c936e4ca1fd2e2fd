import Derived.Test.YtociliegljoldaaGreatPP
import Derived.Test.YtociliegljoldaaGreatWA
namespace Go.Proofs.YtociliegljoldaaGreat
set_option linter.unusedSimpArgs false
set_option linter.unusedVariables false
open Go.Proofs
attribute [local irreducible] vc vcOps vcDraw vcK vcKP vcDK vcDB HWp HCalls postV Ex.then Ex.inBlock stepD callV appendV guardC guardD exV effV opV loadV storeV indexAddrV indexV sliceV
attribute [local irreducible] Ex.jump
set_option maxRecDepth 10000
set_option maxHeartbeats 4000000

theorem Weakens.agg_last {xs : List V} {y z : V} {τ σ : Store} (h : Weakens y τ z σ) : Weakens (.agg (xs ++ [y])) τ (.agg (xs ++ [z])) σ := by
  intro I w v hs hv
  obtain ⟨vs, rfl, hl⟩ := hv.inv_agg
  have hlen := hl.len
  simp only [List.length_append, List.length_cons, List.length_nil, Array.length_toList] at hlen
  have hy := hl.at_ xs.length y (vs.toList.getD xs.length undef) (by simp) (by simp [show xs.length < vs.size by omega])
  obtain ⟨J, j1, j2, j3⟩ := h I w _ hs hy
  refine ⟨J, j1, j2, .agg _ _ (by simp; omega) fun j c v hc hv => ?_⟩
  rw [List.getElem?_append] at hc
  split at hc
  · rename_i hj
    exact (hl.at_ j c v (by rw [List.getElem?_append_left hj]; exact hc) (by simpa using hv)).mono j1
  · rename_i hj
    have : j = xs.length := by
      have := (List.getElem?_eq_some_iff.1 hc).1; simp at this; omega
    subst this
    simp at hc; subst hc
    have e : vs.toList.getD xs.length undef = v := by simp [List.getD_eq_getElem?_getD, hv]
    rw [← e]; exact j3
end Go.Proofs.YtociliegljoldaaGreat

namespace Go.Proofs.YtociliegljoldaaGreat
set_option linter.unusedSimpArgs false
set_option linter.unusedVariables false
open Go.Proofs
attribute [local irreducible] vc vcOps vcDraw vcK vcKP vcDK vcDB HWp HCalls postV Ex.then Ex.inBlock stepD callV appendV guardC guardD exV effV opV loadV storeV indexAddrV indexV sliceV
attribute [local irreducible] Ex.jump
set_option maxRecDepth 10000
set_option maxHeartbeats 4000000

theorem lt_eq {a b : Int} (h : a < b) : (a < b) = True := eq_true h
theorem le_eq {a b : Int} (h : a ≤ b) : (a ≤ b) = True := eq_true h
variable {t : Tr}



theorem there_of_kind (hr : t.right = true) {n : Int} (h : ¬t.kind n = 0) : t.there n = true := by
  unfold Tr.right Tr.kindsOk at hr
  simp only [Bool.and_eq_true, Bool.not_eq_true', List.any_eq_false] at hr
  unfold Tr.there isKd
  have : 0 ≤ t.kind n ∧ t.kind n ≤ 3 := by
    unfold Tr.kind
    split
    · by_cases hj : (n - 1).toNat < t.kinds.length
      · have := hr.1.1.1 (t.kinds.getD (n - 1).toNat 0) (by rw [List.getD_eq_getElem?_getD, List.getElem?_eq_getElem hj]; exact List.getElem_mem hj)
        simp only [Bool.or_eq_true, decide_eq_true_eq, not_or] at this
        omega
      · rw [List.getD_eq_getElem?_getD, List.getElem?_eq_none (by omega)]; decide
    · omega
  simp; omega
theorem reach_len (hr : t.right = true) (n cart : Int) : (t.reach n cart).length ≤ 12 := by
  cases h : t.there n with
  | true => exact (reach_ok hr h).len
  | false => rw [reach_of_nil (toward_none h)]; simp
theorem kind_there {n : Int} (h : t.there n = true) : ¬t.kind n = 0 := fun e => by unfold Tr.there at h; rw [e] at h; cases h
theorem home_node {cart h : Int} (hh : h ∈ t.homes cart) : h ∈ t.nodes 1 := by
  unfold Tr.homes at hh
  split at hh
  · cases hh
  · rename_i h0
    have hp : 0 < (t.nodes 1).length := by omega
    split at hh
    · exact hh
    · have key : ∀ j, j < (t.nodes 1).length → (t.nodes 1).getD j 0 ∈ t.nodes 1 := fun j hj => by
        rw [List.getD_eq_getElem?_getD, List.getElem?_eq_getElem hj]; exact List.getElem_mem hj
      simp only [List.mem_cons, List.not_mem_nil, or_false] at hh
      rcases hh with rfl | rfl <;> exact key _ (Nat.mod_lt _ hp)
theorem home_there {cart h : Int} (hh : h ∈ t.homes cart) : t.there h = true := by
  have := home_node hh
  unfold Tr.nodes at this
  have h2 := (List.mem_filter.1 this).2
  simp only [Bool.and_eq_true, beq_iff_eq] at h2
  unfold Tr.there; rw [h2.2]; exact h2.1
theorem once_plain (hr : t.right = true) {n : Int} (hk : ¬t.kind n = 0) (cart : Int) :
    (∀ i, (hi : i < (t.reach n cart).length) → ((t.reach n cart).take i).any (· == (t.reach n cart)[i]) = false ∧ (t.reach n cart)[i] ≠ n ∧ t.kind (t.reach n cart)[i] ≠ 0) ∧
    (∀ x ∈ t.homes cart, x ≠ n → x ∈ t.reach n cart) ∧ (t.homes cart = [] → t.reach n cart = []) := by
  have hs := there_of_kind hr hk
  have W := reach_ok (cart := cart) hr hs
  refine ⟨fun i hi => ⟨?_, fun e => W.ns (by have := List.getElem_mem hi; rw [e] at this; exact this), ?_⟩, fun x hx hne => reach_home hr hs hx (home_there hx) hne, fun he => ?_⟩
  · rw [List.any_eq_false]
    intro x hx he
    rw [beq_iff_eq] at he
    rw [List.mem_take_iff_getElem] at hx
    obtain ⟨j, hj, rfl⟩ := hx
    exact List.pairwise_iff_getElem.1 W.nd j i (by omega) hi (by omega) he
  · obtain ⟨p, p1, _⟩ := W.par _ (List.getElem_mem hi)
    exact kind_there (adj_there p1.1)
  · cases hl : t.reach n cart with
    | nil => rfl
    | cons y l =>
      obtain ⟨p, _, _, _, h, h1, _⟩ := W.par y (by rw [hl]; simp)
      rw [he] at h1; cases h1
end Go.Proofs.YtociliegljoldaaGreat

/- Plain: pruned; homes. -/
namespace Go.Proofs.YtociliegljoldaaGreat
set_option linter.unusedSimpArgs false
set_option linter.unusedVariables false

variable {t : Tr} {s cart n m : Int}
theorem pruned_plain (hr : t.right = true) (n cart : Int) (y : Int) (hy : y ∈ t.reach n cart) :
    ((t.homes cart).any (· == y) || (t.next y).any fun m => !(t.beyond y m).any (· == n) && (t.homes cart).any fun x => (t.beyond y m).any (· == x)) = true := by
  cases hs : t.there n with
  | false => rw [reach_of_nil (toward_none hs)] at hy; cases hy
  | true =>
    have g := Tr.right_good hr
    have W := reach_ok (cart := cart) hr hs
    obtain ⟨p, p1, _, _, h, h1, h2⟩ := W.par y hy
    rw [Bool.or_eq_true]
    rcases h2.out with e | ⟨k, k1, k2, k3, _⟩
    · left; exact List.any_eq_true.2 ⟨h, h1, by simp [e]⟩
    · right
      refine List.any_eq_true.2 ⟨k, mem_next.2 k1, ?_⟩
      rw [Bool.and_eq_true, Bool.not_eq_true', List.any_eq_false]
      refine ⟨fun z hz e => ?_, List.any_eq_true.2 ⟨h, h1, List.any_eq_true.2 ⟨h, mem_beyond.2 ⟨k1, k3⟩, by simp⟩⟩⟩
      rw [beq_iff_eq] at e
      subst e
      have hz := (mem_beyond.1 hz).2
      have hyp := adj_comm p1.1
      rcases p1.2 with q | q
      · subst q; exact k2 (g.one y k _ k1 hyp hz)
      · exact k2 (g.uniq k1 hyp hz q)

theorem toward_plain (hm : m ∈ t.toward n s cart) : m ≠ s ∧ (t.next n).any (· == m) = true ∧ t.wants n m cart = true := by
  unfold Tr.toward at hm
  rw [List.mem_filter, Bool.and_eq_true, bne_iff_ne] at hm
  exact ⟨hm.2.1, List.any_eq_true.2 ⟨m, hm.1, by simp⟩, hm.2.2⟩
theorem reach_one {x : Int} (h : t.homes cart = [x]) : t.reach x cart = [] := by
  refine reach_of_nil (List.eq_nil_iff_forall_not_mem.2 fun m hm => ?_)
  obtain ⟨h1, _, y, h2, h3⟩ := mem_toward.1 hm
  rw [h] at h2
  simp at h2
  subst h2
  exact h3.ne (adj_ne h1) rfl
theorem nodes_nd (t : Tr) (k : Int) : (t.nodes k).Nodup := by
  unfold Tr.nodes; exact List.Pairwise.filter _ (show nums.Pairwise (· ≠ ·) by decide)
theorem homes_shape (t : Tr) (cart : Int) : t.homes cart = [] ∨ (∃ x, t.homes cart = [x]) ∨ ∃ a b, t.homes cart = [a, b] ∧ a ≠ b := by
  unfold Tr.homes
  split
  · exact .inl rfl
  · rename_i h0
    split
    · rename_i h1
      right; left
      cases hl : t.nodes 1 with
      | nil => rw [hl] at h1; cases h1
      | cons x l => cases l with
        | nil => exact ⟨x, rfl⟩
        | cons y l => rw [hl] at h1; simp at h1
    · rename_i h1
      right; right
      have hp : 1 < (t.nodes 1).length := by omega
      refine ⟨_, _, rfl, fun e => ?_⟩
      have hi := Nat.mod_lt cart.toNat (show 0 < (t.nodes 1).length by omega)
      generalize hc : cart.toNat % (t.nodes 1).length = c at *
      have hj := Nat.mod_lt (c + 1) (show 0 < (t.nodes 1).length by omega)
      have hne : c ≠ (c + 1) % (t.nodes 1).length := fun q => by
        by_cases hlt : c + 1 < (t.nodes 1).length
        · rw [Nat.mod_eq_of_lt hlt] at q; omega
        · have : c + 1 = (t.nodes 1).length := by omega
          rw [this, Nat.mod_self] at q; omega
      rw [List.getD_eq_getElem?_getD, List.getElem?_eq_getElem hi, List.getD_eq_getElem?_getD, List.getElem?_eq_getElem hj] at e
      have hnd := List.pairwise_iff_getElem.1 (nodes_nd t 1)
      simp only [Option.getD_some] at e
      rcases Nat.lt_or_gt_of_ne hne with q | q
      · exact hnd _ _ hi hj q e
      · exact hnd _ _ hj hi q e.symm
theorem homes_plain (hr : t.right = true) {a b : Int} (h : t.homes cart = [a, b]) (hab : a ≠ b) :
    b ∈ t.reach a cart ∧ a ∉ t.reach a cart ∧ (t.reach a cart).length + 1 = (t.reach b cart).length + 1 ∧ a ∈ t.reach b cart ∧ b ∉ t.reach b cart := by
  have g := Tr.right_good hr
  have ha : t.there a = true := home_there (cart := cart) (by rw [h]; simp)
  have hb : t.there b = true := home_there (cart := cart) (by rw [h]; simp)
  have Wa := reach_ok (cart := cart) hr ha
  have Wb := reach_ok (cart := cart) hr hb
  have h1 : b ∈ t.reach a cart := reach_home hr ha (by rw [h]; simp) hb hab.symm
  have h2 : a ∈ t.reach b cart := reach_home hr hb (by rw [h]; simp) ha hab
  have half : ∀ a b : Int, a ≠ b → t.homes cart = [a, b] ∨ t.homes cart = [b, a] → t.there a = true → t.there b = true → ∀ y, (y ∈ t.reach a cart ∨ y = a) ↔ (t.there y = true ∧ ∀ k, t.adj y k = true → Rch t y k a → Rch t y k b → False) := by
    intro a b hab hh ha hb y
    have hmem : ∀ x, x ∈ t.homes cart ↔ x = a ∨ x = b := fun x => by
      rcases hh with e | e <;> rw [e] <;> simp [or_comm]
    have W := reach_ok (cart := cart) hr ha
    have hbin : b ∈ t.reach a cart := reach_home hr ha ((hmem b).2 (.inr rfl)) hb hab.symm
    constructor
    · rintro (hy | rfl)
      · obtain ⟨p, p1, _, _, x, x1, x2⟩ := W.par y hy
        have hyp := adj_comm p1.1
        refine ⟨adj_there p1.1, fun k k1 k2 k3 => ?_⟩
        have hkp : k = p := by
          rcases p1.2 with q | q
          · subst q; exact g.one y k _ k1 hyp k2
          · exact g.uniq k1 hyp k2 q
        subst hkp
        rcases (hmem x).1 x1 with rfl | rfl
        · exact g.apart k1 k2 x2
        · exact g.apart k1 k3 x2
      · exact ⟨ha, fun k k1 k2 _ => k2.ne (adj_ne k1) rfl⟩
    · rintro ⟨hy, hno⟩
      apply Classical.byContradiction
      intro hn
      rw [not_or] at hn
      obtain ⟨k, k1, k2⟩ := g.via hy ha (fun e => hn.2 e.symm)
      exact hno k k1 k2 (k2.trans (W.way b hbin y hn.1 hn.2))
  refine ⟨h1, Wa.ns, ?_, h2, Wb.ns⟩
  have e : ∀ y, y ∈ a :: t.reach a cart ↔ y ∈ b :: t.reach b cart := fun y => by
    rw [List.mem_cons, List.mem_cons, or_comm, half a b hab (.inl h) ha hb y, or_comm, half b a hab.symm (.inr h) hb ha y]
    exact ⟨fun q => ⟨q.1, fun k k1 k2 k3 => q.2 k k1 k3 k2⟩, fun q => ⟨q.1, fun k k1 k2 k3 => q.2 k k1 k3 k2⟩⟩
  have hp : (a :: t.reach a cart).Perm (b :: t.reach b cart) := (List.perm_ext_iff_of_nodup (List.nodup_cons.2 ⟨Wa.ns, Wa.nd⟩) (List.nodup_cons.2 ⟨Wb.ns, Wb.nd⟩)).2 e
  exact hp.length_eq
end Go.Proofs.YtociliegljoldaaGreat

/- Plain: what neighbours and homes are. -/
namespace Go.Proofs.YtociliegljoldaaGreat
set_option linter.unusedSimpArgs false
set_option linter.unusedVariables false

variable {t : Tr}
theorem next_any (a b : Int) : ((t.next a).any fun m => m == b) = t.adj a b := by
  rw [Bool.eq_iff_iff, List.any_eq_true]
  constructor
  · rintro ⟨x, hx, e⟩
    have : x = b := by simpa using e
    subst this
    exact mem_next.1 hx
  · exact fun h => ⟨b, mem_next.2 h, by simp⟩
theorem next_sym (a b : Int) : ((t.next a).any fun m => m == b) = ((t.next b).any fun m => m == a) := by rw [next_any, next_any, adj_symm]
theorem leaf_plain (hr : t.right = true) {a : Int} (hk : t.kind a = 1 ∨ t.kind a = 2) : ∃ x, t.next a = [x] ∧ t.kind x = 3 := by
  have hth : t.there a = true := by
    unfold Tr.there isKd
    rcases hk with h | h <;> rw [h] <;> decide
  unfold Tr.right at hr
  simp only [Bool.and_eq_true] at hr
  have hh := hr.1.2
  rw [List.all_eq_true] at hh
  have := hh a (there_nums hth)
  unfold Tr.hung at this
  have hl : t.leaf a = true := by
    rcases hk with h | h <;> simp [h] at this <;> exact this
  unfold Tr.leaf at hl
  split at hl
  · rename_i x hx; exact ⟨x, hx, by simpa using hl⟩
  · cases hl
theorem home_kind {cart h : Int} (hh : h ∈ t.homes cart) : t.kind h = 1 := by
  have := home_node hh
  unfold Tr.nodes at this
  rw [List.mem_filter] at this
  simpa [isKd] using this.2
theorem homes_nd (t : Tr) (cart : Int) : (t.homes cart).Nodup := by
  rcases homes_shape t cart with h | ⟨x, h⟩ | ⟨a, b, h, hab⟩ <;> rw [h]
  · exact List.nodup_nil
  · simp
  · simp [hab]
theorem homes_two (t : Tr) (cart : Int) : (t.homes cart).length ≤ 2 := by
  rcases homes_shape t cart with h | ⟨x, h⟩ | ⟨a, b, h, hab⟩ <;> rw [h] <;> simp
end Go.Proofs.YtociliegljoldaaGreat

