/- Plain: trees that may be. -/
import Derived.Test.YtaldikplfcoahaaT16
namespace Go.Proofs.Ytaldikplfcoahaa
set_option linter.unusedSimpArgs false
set_option linter.unusedVariables false

variable {t : Tr} {w s x y z m k : Int}

theorem edge_symm (t : Tr) (a b : Int) : t.edge a b = t.edge b a := by
  unfold Tr.edge; congr 1; funext e; exact Bool.or_comm _ _
theorem adj_symm (t : Tr) (a b : Int) : t.adj a b = t.adj b a := by
  unfold Tr.adj
  have e : (b != a) = (a != b) := by rw [Bool.eq_iff_iff, bne_iff_ne, bne_iff_ne]; exact ne_comm
  rw [edge_symm t a b, e]
  cases (a != b) <;> cases t.there a <;> cases t.there b <;> rfl
theorem adj_comm (h : t.adj x y = true) : t.adj y x = true := by rw [adj_symm]; exact h
theorem adj_ne (h : t.adj x y = true) : y ≠ x := by
  unfold Tr.adj at h; simp only [Bool.and_eq_true, bne_iff_ne] at h; exact h.1.1.1
theorem adj_there (h : t.adj x y = true) : t.there y = true := by
  unfold Tr.adj at h; simp only [Bool.and_eq_true, bne_iff_ne] at h; exact h.1.1.2

theorem Rch.ne (h : Rch t w s x) (hs : s ≠ w) : x ≠ w := by cases h with | refl => exact hs | step _ _ hw => exact hw
theorem Rch.trans (h : Rch t w s x) (k : Rch t w x y) : Rch t w s y := by
  induction k with
  | refl => exact h
  | step _ ha hw ih => exact .step ih ha hw
theorem Rch.back (h : Rch t w s x) (hs : s ≠ w) : Rch t w x s := by
  induction h with
  | refl => exact .refl
  | step hx ha hw ih => exact Rch.trans (.step .refl (adj_comm ha) (hx.ne hs)) ih
theorem Rch.th (h : Rch t w s x) (hs : t.there s = true) : t.there x = true := by
  cases h with | refl => exact hs | step _ ha _ => exact adj_there ha
/-- One that is no node is met never. -/
theorem Rch.none (h : Rch t w s x) (hw : t.there w = false) (v : Int) (hv : t.there v = false) : Rch t v s x := by
  induction h with
  | refl => exact .refl
  | step _ ha _ ih => exact .step ih ha (fun e => by have := adj_there ha; rw [e, hv] at this; cases this)
/-- What one comes to is the start, or beyond a neighbour of it. -/
theorem Rch.out (h : Rch t w s x) : x = s ∨ ∃ m, t.adj s m = true ∧ m ≠ w ∧ Rch t s m x ∧ x ≠ s := by
  induction h with
  | refl => exact .inl rfl
  | @step y z hy ha hw ih =>
    by_cases hz : z = s
    · exact .inl hz
    · rcases ih with e | ⟨m, h1, h2, h3, h4⟩
      · subst e; exact .inr ⟨z, ha, hw, .refl, hz⟩
      · exact .inr ⟨m, h1, h2, .step h3 ha hz, hz⟩

theorem mem_wset : x ∈ t.wset w s ↔ x ∈ nums ∧ Rch t w s x := by
  unfold Tr.wset; rw [List.mem_filter]; simp

/-- How many one comes to: at most one more than there are edges. -/
structure Grown (t : Tr) (c : Int) (l : List Int) (F : List (Int × Int)) : Prop where
  nd : l.Nodup
  has : c ∈ l
  fnd : F.Nodup
  fe : ∀ e ∈ F, e ∈ t.edges ∧ e.1 ∈ l ∧ e.2 ∈ l
  len : l.length = F.length + 1
  sub : ∀ x ∈ l, x ∈ nums
theorem nodup_le' {α : Type} [DecidableEq α] : ∀ (l m : List α), l.Nodup → (∀ x ∈ l, x ∈ m) → l.length ≤ m.length
  | [], _, _, _ => by simp
  | a :: l, m, h, hs => by
    have ha := hs a (List.mem_cons_self ..)
    have h2 := List.nodup_cons.1 h
    have := nodup_le' l (m.erase a) h2.2 fun x hx => (List.mem_erase_of_ne (fun e => h2.1 (by rw [← e]; exact hx))).2 (hs x (List.mem_cons_of_mem _ hx))
    rw [List.length_erase_of_mem ha] at this
    have := List.length_pos_of_mem ha
    simp only [List.length_cons]; omega
theorem Grown.le {c : Int} {l : List Int} {F : List (Int × Int)} (h : Grown t c l F) : l.length ≤ t.edges.length + 1 := by
  have := nodup_le' F t.edges h.fnd fun e he => (h.fe e he).1
  have := h.len; omega
theorem Grown.step {c : Int} {l : List Int} {F : List (Int × Int)} (h : Grown t c l F) (hx : x ∈ l) (ha : t.adj x y = true) (hy : y ∉ l) : ∃ F', Grown t c (y :: l) F' := by
  have he : t.edge x y = true := by unfold Tr.adj at ha; simp only [Bool.and_eq_true] at ha; exact ha.2
  unfold Tr.edge at he
  rw [List.any_eq_true] at he
  obtain ⟨e, h1, h2⟩ := he
  have h3 : e = (x, y) ∨ e = (y, x) := by simpa using h2
  refine ⟨e :: F, List.nodup_cons.2 ⟨hy, h.nd⟩, List.mem_cons_of_mem _ h.has, List.nodup_cons.2 ⟨fun q => ?_, h.fnd⟩, fun f hf => ?_, by simp [h.len], fun z hz => ?_⟩
  · have := h.fe e q
    rcases h3 with e' | e' <;> subst e'
    · exact hy this.2.2
    · exact hy this.2.1
  · rcases List.mem_cons.1 hf with q | q
    · subst q
      refine ⟨h1, ?_⟩
      rcases h3 with e' | e' <;> subst e' <;> simp [hx]
    · have := h.fe f q; exact ⟨this.1, List.mem_cons_of_mem _ this.2.1, List.mem_cons_of_mem _ this.2.2⟩
  · rcases List.mem_cons.1 hz with q | q
    · subst q; exact adj_nums ha
    · exact h.sub z q
theorem Grown.full {c : Int} : ∀ (n : Nat) {l : List Int} {F : List (Int × Int)}, Grown t c l F → l.length + n = 13 → ∃ l' F', Grown t c l' F' ∧ ∀ x ∈ l', ∀ y, t.adj x y = true → y ∈ l' := by
  intro n
  induction n with
  | zero => intro l F h hl; have := nodup_le _ _ h.nd h.sub; simp [nums] at this; omega
  | succ n ih =>
    intro l F h hl
    by_cases hc : ∀ x ∈ l, ∀ y, t.adj x y = true → y ∈ l
    · exact ⟨l, F, h, hc⟩
    · obtain ⟨x, hx⟩ := Classical.not_forall.1 hc
      obtain ⟨hx1, hx⟩ := Classical.not_imp.1 hx
      obtain ⟨y, hy⟩ := Classical.not_forall.1 hx
      obtain ⟨hy1, hy⟩ := Classical.not_imp.1 hy
      obtain ⟨F', h'⟩ := h.step hx1 hy1 hy
      exact ih h' (by simp; omega)
theorem wset_le {c : Int} (hc : c ∈ nums) : (t.wset 0 c).length ≤ t.edges.length + 1 := by
  have h0 : Grown t c [c] [] := ⟨by simp, by simp, by simp, by simp, rfl, by simpa using hc⟩
  obtain ⟨l, F, h, hcl⟩ := h0.full 12 rfl
  refine Nat.le_trans (nodup_le' _ l ?_ fun x hx => ?_) h.le
  · unfold Tr.wset; exact List.Pairwise.filter _ (show nums.Pairwise (· ≠ ·) by decide)
  · have hr := (mem_wset.1 hx).2
    clear hx
    induction hr with
    | refl => exact h.has
    | step _ ha _ ih => exact hcl _ ih _ ha

/-- All nodes hang together, and there is no circle. -/
structure Good (t : Tr) : Prop where
  con : ∀ x y, t.there x = true → t.there y = true → Rch t 0 x y
  one : ∀ x m k, t.adj x m = true → t.adj x k = true → Rch t x m k → m = k

theorem node3_there {c : Int} {l : List Int} (h : t.nodes 3 = c :: l) : c ∈ nums ∧ t.there c = true := by
  have : c ∈ t.nodes 3 := by rw [h]; simp
  unfold Tr.nodes at this
  rw [List.mem_filter] at this
  refine ⟨this.1, ?_⟩
  have h2 := this.2
  simp only [Bool.and_eq_true, beq_iff_eq] at h2
  unfold Tr.there; rw [h2.2]; exact h2.1
theorem Tr.right_good (h : t.right = true) : Good t := by
  unfold Tr.right at h
  simp only [Bool.and_eq_true] at h
  have h := h.2
  cases hn : t.nodes 3 with
  | nil =>
    rw [hn] at h
    have h0 : (nums.filter t.there).length = 0 := by simpa [Tr.all] using h
    have hno : ∀ x, t.there x = false := fun x => by
      cases e : t.there x with
      | false => rfl
      | true =>
        have : x ∈ nums.filter t.there := List.mem_filter.2 ⟨there_nums e, e⟩
        rw [List.eq_nil_of_length_eq_zero h0] at this; cases this
    exact ⟨fun x y hx => (by rw [hno] at hx; cases hx), fun x m k hm => (by have := adj_there hm; rw [hno] at this; cases this)⟩
  | cons c l =>
    rw [hn] at h
    simp only [Bool.and_eq_true, beq_iff_eq] at h
    obtain ⟨h1, h2⟩ := h
    obtain ⟨hc, hct⟩ := node3_there hn
    have hzero : t.there 0 = false := by
      cases e : t.there 0 with
      | false => rfl
      | true => exact absurd (there_nums e) (by decide)
    -- whoever is there is come to
    have hall : ∀ x, t.there x = true → Rch t 0 c x := fun x hx => by
      apply Classical.byContradiction
      intro hno
      have hsub : ∀ y ∈ x :: t.wset 0 c, y ∈ nums.filter t.there := fun y hy => by
        rcases List.mem_cons.1 hy with e | e
        · subst e; exact List.mem_filter.2 ⟨there_nums hx, hx⟩
        · exact List.mem_filter.2 ⟨(mem_wset.1 e).1, (mem_wset.1 e).2.th hct⟩
      have := nodup_le _ _ (List.nodup_cons.2 ⟨fun e => hno (mem_wset.1 e).2, by unfold Tr.wset; exact List.Pairwise.filter _ (show nums.Pairwise (· ≠ ·) by decide)⟩) hsub
      rw [List.length_cons, h2] at this
      unfold Tr.all at this; omega
    have hcon : ∀ x y, t.there x = true → t.there y = true → Rch t 0 x y := fun x y hx hy =>
      ((hall x hx).back (fun e => by rw [e, hzero] at hct; cases hct)).trans (hall y hy)
    refine ⟨hcon, fun x m k hm hk hr => ?_⟩
    apply Classical.byContradiction
    intro hmk
    -- without the edge from x to m
    have he : t.edge x m = true := by unfold Tr.adj at hm; simp only [Bool.and_eq_true] at hm; exact hm.2
    unfold Tr.edge at he
    rw [List.any_eq_true] at he
    obtain ⟨e, e1, e2⟩ := he
    have e3 : e = (x, m) ∨ e = (m, x) := by simpa using e2
    let u : Tr := ⟨t.kinds, t.edges.erase e⟩
    have hth : ∀ y, u.there y = t.there y := fun y => rfl
    have hadj : ∀ a b, t.adj a b = true → ¬((a = x ∧ b = m) ∨ (a = m ∧ b = x)) → u.adj a b = true := fun a b hab hno => by
      unfold Tr.adj at hab ⊢
      simp only [Bool.and_eq_true] at hab ⊢
      refine ⟨hab.1, ?_⟩
      have := hab.2
      unfold Tr.edge at this ⊢
      rw [List.any_eq_true] at this ⊢
      obtain ⟨f, f1, f2⟩ := this
      refine ⟨f, (List.mem_erase_of_ne (fun q => hno ?_)).2 f1, f2⟩
      have f3 : f = (a, b) ∨ f = (b, a) := by simpa using f2
      rw [q] at f3
      rcases e3 with q3 | q3 <;> rcases f3 with p3 | p3 <;> rw [q3] at p3 <;> simp only [Prod.mk.injEq] at p3
      · exact .inl ⟨p3.1.symm, p3.2.symm⟩
      · exact .inr ⟨p3.2.symm, p3.1.symm⟩
      · exact .inr ⟨p3.1.symm, p3.2.symm⟩
      · exact .inl ⟨p3.2.symm, p3.1.symm⟩
    have hxm := adj_ne hm
    have hxk := adj_ne hk
    -- the way from m to k leaves x out
    have hmk' : Rch u 0 m k := by
      have : ∀ z, Rch t x m z → Rch u 0 m z := fun z hz => by
        induction hz with
        | refl => exact .refl
        | @step y z hy ha hw ih =>
          have hyx := hy.ne hxm
          exact .step ih (hadj _ _ ha (fun q => by rcases q with q | q; exact hyx q.1; exact hw q.2)) (fun e => by rw [e] at ha; have := adj_there ha; rw [hzero] at this; cases this)
      exact this k hr
    have hu0 : u.there 0 = false := hzero
    have hmx : Rch u 0 m x := .step hmk' (hadj _ _ (adj_comm hk) (fun q => by
      rcases q with q | q
      · exact hxk q.1
      · exact hmk q.1.symm)) (fun e => by rw [e] at hm; have := adj_there (adj_comm hm); rw [hzero] at this; cases this)
    have hm0 : m ≠ 0 := fun e => by rw [e] at hm; have := adj_there hm; rw [hzero] at this; cases this
    have hxm' : Rch u 0 x m := hmx.back hm0
    have hall' : ∀ y, Rch t 0 c y → Rch u 0 c y := fun y hy => by
      induction hy with
      | refl => exact .refl
      | @step y z hy ha hw ih =>
        by_cases q : (y = x ∧ z = m) ∨ (y = m ∧ z = x)
        · rcases q with ⟨rfl, rfl⟩ | ⟨rfl, rfl⟩
          · exact ih.trans hxm'
          · exact ih.trans hmx
        · exact .step ih (hadj _ _ ha q) hw
    have hle := wset_le (t := u) hc
    have hlen : (t.wset 0 c).length ≤ (u.wset 0 c).length := nodup_le _ _ (by unfold Tr.wset; exact List.Pairwise.filter _ (show nums.Pairwise (· ≠ ·) by decide)) fun y hy => mem_wset.2 ⟨(mem_wset.1 hy).1, hall' y (mem_wset.1 hy).2⟩
    have hel : u.edges.length = t.edges.length - 1 := List.length_erase_of_mem e1
    have := List.length_pos_of_mem e1
    omega

/-- Beyond an edge is not before it. -/
theorem Good.apart (g : Good t) (ha : t.adj x m = true) (h1 : Rch t x m z) (h2 : Rch t m x z) : False := by
  have hzm := h2.ne (adj_ne ha).symm
  rcases h1.out with e | ⟨k, k1, k2, k3, _⟩
  · exact hzm e
  · exact k2 (g.one m k x k1 (adj_comm ha) (k3.trans (h2.back (adj_ne ha).symm)))
/-- One is beyond one neighbour alone. -/
theorem Good.uniq (g : Good t) (hm : t.adj x m = true) (hk : t.adj x k = true) (h1 : Rch t x m z) (h2 : Rch t x k z) : m = k :=
  g.one x m k hm hk (h1.trans (h2.back (adj_ne hk)))
/-- All others are beyond a neighbour. -/
theorem Good.via (g : Good t) (hx : t.there x = true) (hz : t.there z = true) (hne : z ≠ x) : ∃ m, t.adj x m = true ∧ Rch t x m z := by
  rcases (g.con x z hx hz).out with e | ⟨m, h1, _, h3, _⟩
  · exact absurd e hne
  · exact ⟨m, h1, h3⟩
end Go.Proofs.Ytaldikplfcoahaa
