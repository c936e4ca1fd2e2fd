import Derived.Test.YtociliegljoldaaGreatTC
/- Plain: trees that may be. -/
namespace Go.Proofs.YtociliegljoldaaGreat
set_option linter.unusedSimpArgs false
set_option linter.unusedVariables false

variable {t : Tr} {w s x y z m k : Int}

theorem edge_symm (t : Tr) (a b : Int) : t.edge a b = t.edge b a := by
  unfold Tr.edge; congr 1; funext e; exact Bool.or_comm _ _
theorem adj_symm (t : Tr) (a b : Int) : t.adj a b = t.adj b a := by
  unfold Tr.adj
  have e : (b != a) = (a != b) := by rw [Bool.eq_iff_iff, bne_iff_ne, bne_iff_ne]; exact ne_comm
  rw [edge_symm t a b, e]
  cases (a != b) <;> cases t.there a <;> cases t.there b <;> rfl
theorem adj_comm (h : t.adj x y = true) : t.adj y x = true := by rw [adj_symm]; exact h
theorem adj_ne (h : t.adj x y = true) : y ≠ x := by
  unfold Tr.adj at h; simp only [Bool.and_eq_true, bne_iff_ne] at h; exact h.1.1.1
theorem adj_there (h : t.adj x y = true) : t.there y = true := by
  unfold Tr.adj at h; simp only [Bool.and_eq_true, bne_iff_ne] at h; exact h.1.1.2

theorem Rch.ne (h : Rch t w s x) (hs : s ≠ w) : x ≠ w := by cases h with | refl => exact hs | step _ _ hw => exact hw
theorem Rch.trans (h : Rch t w s x) (k : Rch t w x y) : Rch t w s y := by
  induction k with
  | refl => exact h
  | step _ ha hw ih => exact .step ih ha hw
theorem Rch.back (h : Rch t w s x) (hs : s ≠ w) : Rch t w x s := by
  induction h with
  | refl => exact .refl
  | step hx ha hw ih => exact Rch.trans (.step .refl (adj_comm ha) (hx.ne hs)) ih
theorem Rch.th (h : Rch t w s x) (hs : t.there s = true) : t.there x = true := by
  cases h with | refl => exact hs | step _ ha _ => exact adj_there ha
/-- One that is no node is met never. -/
theorem Rch.none (h : Rch t w s x) (hw : t.there w = false) (v : Int) (hv : t.there v = false) : Rch t v s x := by
  induction h with
  | refl => exact .refl
  | step _ ha _ ih => exact .step ih ha (fun e => by have := adj_there ha; rw [e, hv] at this; cases this)
/-- What one comes to is the start, or beyond a neighbour of it. -/
theorem Rch.out (h : Rch t w s x) : x = s ∨ ∃ m, t.adj s m = true ∧ m ≠ w ∧ Rch t s m x ∧ x ≠ s := by
  induction h with
  | refl => exact .inl rfl
  | @step y z hy ha hw ih =>
    by_cases hz : z = s
    · exact .inl hz
    · rcases ih with e | ⟨m, h1, h2, h3, h4⟩
      · subst e; exact .inr ⟨z, ha, hw, .refl, hz⟩
      · exact .inr ⟨m, h1, h2, .step h3 ha hz, hz⟩

theorem mem_wset : x ∈ t.wset w s ↔ x ∈ nums ∧ Rch t w s x := by
  unfold Tr.wset; rw [List.mem_filter]; simp

/-- How many one comes to: at most one more than there are edges. -/
structure Grown (t : Tr) (c : Int) (l : List Int) (F : List (Int × Int)) : Prop where
  nd : l.Nodup
  has : c ∈ l
  fnd : F.Nodup
  fe : ∀ e ∈ F, e ∈ t.edges ∧ e.1 ∈ l ∧ e.2 ∈ l
  len : l.length = F.length + 1
  sub : ∀ x ∈ l, x ∈ nums
theorem nodup_le' {α : Type} [DecidableEq α] : ∀ (l m : List α), l.Nodup → (∀ x ∈ l, x ∈ m) → l.length ≤ m.length
  | [], _, _, _ => by simp
  | a :: l, m, h, hs => by
    have ha := hs a (List.mem_cons_self ..)
    have h2 := List.nodup_cons.1 h
    have := nodup_le' l (m.erase a) h2.2 fun x hx => (List.mem_erase_of_ne (fun e => h2.1 (by rw [← e]; exact hx))).2 (hs x (List.mem_cons_of_mem _ hx))
    rw [List.length_erase_of_mem ha] at this
    have := List.length_pos_of_mem ha
    simp only [List.length_cons]; omega
theorem Grown.le {c : Int} {l : List Int} {F : List (Int × Int)} (h : Grown t c l F) : l.length ≤ t.edges.length + 1 := by
  have := nodup_le' F t.edges h.fnd fun e he => (h.fe e he).1
  have := h.len; omega
theorem Grown.step {c : Int} {l : List Int} {F : List (Int × Int)} (h : Grown t c l F) (hx : x ∈ l) (ha : t.adj x y = true) (hy : y ∉ l) : ∃ F', Grown t c (y :: l) F' := by
  have he : t.edge x y = true := by unfold Tr.adj at ha; simp only [Bool.and_eq_true] at ha; exact ha.2
  unfold Tr.edge at he
  rw [List.any_eq_true] at he
  obtain ⟨e, h1, h2⟩ := he
  have h3 : e = (x, y) ∨ e = (y, x) := by simpa using h2
  refine ⟨e :: F, List.nodup_cons.2 ⟨hy, h.nd⟩, List.mem_cons_of_mem _ h.has, List.nodup_cons.2 ⟨fun q => ?_, h.fnd⟩, fun f hf => ?_, by simp [h.len], fun z hz => ?_⟩
  · have := h.fe e q
    rcases h3 with e' | e' <;> subst e'
    · exact hy this.2.2
    · exact hy this.2.1
  · rcases List.mem_cons.1 hf with q | q
    · subst q
      refine ⟨h1, ?_⟩
      rcases h3 with e' | e' <;> subst e' <;> simp [hx]
    · have := h.fe f q; exact ⟨this.1, List.mem_cons_of_mem _ this.2.1, List.mem_cons_of_mem _ this.2.2⟩
  · rcases List.mem_cons.1 hz with q | q
    · subst q; exact adj_nums ha
    · exact h.sub z q
theorem Grown.full {c : Int} : ∀ (n : Nat) {l : List Int} {F : List (Int × Int)}, Grown t c l F → l.length + n = 13 → ∃ l' F', Grown t c l' F' ∧ ∀ x ∈ l', ∀ y, t.adj x y = true → y ∈ l' := by
  intro n
  induction n with
  | zero => intro l F h hl; have := nodup_le _ _ h.nd h.sub; simp [nums] at this; omega
  | succ n ih =>
    intro l F h hl
    by_cases hc : ∀ x ∈ l, ∀ y, t.adj x y = true → y ∈ l
    · exact ⟨l, F, h, hc⟩
    · obtain ⟨x, hx⟩ := Classical.not_forall.1 hc
      obtain ⟨hx1, hx⟩ := Classical.not_imp.1 hx
      obtain ⟨y, hy⟩ := Classical.not_forall.1 hx
      obtain ⟨hy1, hy⟩ := Classical.not_imp.1 hy
      obtain ⟨F', h'⟩ := h.step hx1 hy1 hy
      exact ih h' (by simp; omega)
theorem wset_le {c : Int} (hc : c ∈ nums) : (t.wset 0 c).length ≤ t.edges.length + 1 := by
  have h0 : Grown t c [c] [] := ⟨by simp, by simp, by simp, by simp, rfl, by simpa using hc⟩
  obtain ⟨l, F, h, hcl⟩ := h0.full 12 rfl
  refine Nat.le_trans (nodup_le' _ l ?_ fun x hx => ?_) h.le
  · unfold Tr.wset; exact List.Pairwise.filter _ (show nums.Pairwise (· ≠ ·) by decide)
  · have hr := (mem_wset.1 hx).2
    clear hx
    induction hr with
    | refl => exact h.has
    | step _ ha _ ih => exact hcl _ ih _ ha

/-- All nodes hang together, and there is no circle. -/
structure Good (t : Tr) : Prop where
  con : ∀ x y, t.there x = true → t.there y = true → Rch t 0 x y
  one : ∀ x m k, t.adj x m = true → t.adj x k = true → Rch t x m k → m = k

theorem node3_there {c : Int} {l : List Int} (h : t.nodes 3 = c :: l) : c ∈ nums ∧ t.there c = true := by
  have : c ∈ t.nodes 3 := by rw [h]; simp
  unfold Tr.nodes at this
  rw [List.mem_filter] at this
  refine ⟨this.1, ?_⟩
  have h2 := this.2
  simp only [Bool.and_eq_true, beq_iff_eq] at h2
  unfold Tr.there; rw [h2.2]; exact h2.1
theorem Tr.right_good (h : t.right = true) : Good t := by
  unfold Tr.right at h
  simp only [Bool.and_eq_true] at h
  have h := h.2
  cases hn : t.nodes 3 with
  | nil =>
    rw [hn] at h
    have h0 : (nums.filter t.there).length = 0 := by simpa [Tr.all] using h
    have hno : ∀ x, t.there x = false := fun x => by
      cases e : t.there x with
      | false => rfl
      | true =>
        have : x ∈ nums.filter t.there := List.mem_filter.2 ⟨there_nums e, e⟩
        rw [List.eq_nil_of_length_eq_zero h0] at this; cases this
    exact ⟨fun x y hx => (by rw [hno] at hx; cases hx), fun x m k hm => (by have := adj_there hm; rw [hno] at this; cases this)⟩
  | cons c l =>
    rw [hn] at h
    simp only [Bool.and_eq_true, beq_iff_eq] at h
    obtain ⟨h1, h2⟩ := h
    obtain ⟨hc, hct⟩ := node3_there hn
    have hzero : t.there 0 = false := by
      cases e : t.there 0 with
      | false => rfl
      | true => exact absurd (there_nums e) (by decide)
    -- whoever is there is come to
    have hall : ∀ x, t.there x = true → Rch t 0 c x := fun x hx => by
      apply Classical.byContradiction
      intro hno
      have hsub : ∀ y ∈ x :: t.wset 0 c, y ∈ nums.filter t.there := fun y hy => by
        rcases List.mem_cons.1 hy with e | e
        · subst e; exact List.mem_filter.2 ⟨there_nums hx, hx⟩
        · exact List.mem_filter.2 ⟨(mem_wset.1 e).1, (mem_wset.1 e).2.th hct⟩
      have := nodup_le _ _ (List.nodup_cons.2 ⟨fun e => hno (mem_wset.1 e).2, by unfold Tr.wset; exact List.Pairwise.filter _ (show nums.Pairwise (· ≠ ·) by decide)⟩) hsub
      rw [List.length_cons, h2] at this
      unfold Tr.all at this; omega
    have hcon : ∀ x y, t.there x = true → t.there y = true → Rch t 0 x y := fun x y hx hy =>
      ((hall x hx).back (fun e => by rw [e, hzero] at hct; cases hct)).trans (hall y hy)
    refine ⟨hcon, fun x m k hm hk hr => ?_⟩
    apply Classical.byContradiction
    intro hmk
    -- without the edge from x to m
    have he : t.edge x m = true := by unfold Tr.adj at hm; simp only [Bool.and_eq_true] at hm; exact hm.2
    unfold Tr.edge at he
    rw [List.any_eq_true] at he
    obtain ⟨e, e1, e2⟩ := he
    have e3 : e = (x, m) ∨ e = (m, x) := by simpa using e2
    let u : Tr := ⟨t.kinds, t.edges.erase e⟩
    have hth : ∀ y, u.there y = t.there y := fun y => rfl
    have hadj : ∀ a b, t.adj a b = true → ¬((a = x ∧ b = m) ∨ (a = m ∧ b = x)) → u.adj a b = true := fun a b hab hno => by
      unfold Tr.adj at hab ⊢
      simp only [Bool.and_eq_true] at hab ⊢
      refine ⟨hab.1, ?_⟩
      have := hab.2
      unfold Tr.edge at this ⊢
      rw [List.any_eq_true] at this ⊢
      obtain ⟨f, f1, f2⟩ := this
      refine ⟨f, (List.mem_erase_of_ne (fun q => hno ?_)).2 f1, f2⟩
      have f3 : f = (a, b) ∨ f = (b, a) := by simpa using f2
      rw [q] at f3
      rcases e3 with q3 | q3 <;> rcases f3 with p3 | p3 <;> rw [q3] at p3 <;> simp only [Prod.mk.injEq] at p3
      · exact .inl ⟨p3.1.symm, p3.2.symm⟩
      · exact .inr ⟨p3.2.symm, p3.1.symm⟩
      · exact .inr ⟨p3.1.symm, p3.2.symm⟩
      · exact .inl ⟨p3.2.symm, p3.1.symm⟩
    have hxm := adj_ne hm
    have hxk := adj_ne hk
    -- the way from m to k leaves x out
    have hmk' : Rch u 0 m k := by
      have : ∀ z, Rch t x m z → Rch u 0 m z := fun z hz => by
        induction hz with
        | refl => exact .refl
        | @step y z hy ha hw ih =>
          have hyx := hy.ne hxm
          exact .step ih (hadj _ _ ha (fun q => by rcases q with q | q; exact hyx q.1; exact hw q.2)) (fun e => by rw [e] at ha; have := adj_there ha; rw [hzero] at this; cases this)
      exact this k hr
    have hu0 : u.there 0 = false := hzero
    have hmx : Rch u 0 m x := .step hmk' (hadj _ _ (adj_comm hk) (fun q => by
      rcases q with q | q
      · exact hxk q.1
      · exact hmk q.1.symm)) (fun e => by rw [e] at hm; have := adj_there (adj_comm hm); rw [hzero] at this; cases this)
    have hm0 : m ≠ 0 := fun e => by rw [e] at hm; have := adj_there hm; rw [hzero] at this; cases this
    have hxm' : Rch u 0 x m := hmx.back hm0
    have hall' : ∀ y, Rch t 0 c y → Rch u 0 c y := fun y hy => by
      induction hy with
      | refl => exact .refl
      | @step y z hy ha hw ih =>
        by_cases q : (y = x ∧ z = m) ∨ (y = m ∧ z = x)
        · rcases q with ⟨rfl, rfl⟩ | ⟨rfl, rfl⟩
          · exact ih.trans hxm'
          · exact ih.trans hmx
        · exact .step ih (hadj _ _ ha q) hw
    have hle := wset_le (t := u) hc
    have hlen : (t.wset 0 c).length ≤ (u.wset 0 c).length := nodup_le _ _ (by unfold Tr.wset; exact List.Pairwise.filter _ (show nums.Pairwise (· ≠ ·) by decide)) fun y hy => mem_wset.2 ⟨(mem_wset.1 hy).1, hall' y (mem_wset.1 hy).2⟩
    have hel : u.edges.length = t.edges.length - 1 := List.length_erase_of_mem e1
    have := List.length_pos_of_mem e1
    omega

/-- Beyond an edge is not before it. -/
theorem Good.apart (g : Good t) (ha : t.adj x m = true) (h1 : Rch t x m z) (h2 : Rch t m x z) : False := by
  have hzm := h2.ne (adj_ne ha).symm
  rcases h1.out with e | ⟨k, k1, k2, k3, _⟩
  · exact hzm e
  · exact k2 (g.one m k x k1 (adj_comm ha) (k3.trans (h2.back (adj_ne ha).symm)))
/-- One is beyond one neighbour alone. -/
theorem Good.uniq (g : Good t) (hm : t.adj x m = true) (hk : t.adj x k = true) (h1 : Rch t x m z) (h2 : Rch t x k z) : m = k :=
  g.one x m k hm hk (h1.trans (h2.back (adj_ne hk)))
/-- All others are beyond a neighbour. -/
theorem Good.via (g : Good t) (hx : t.there x = true) (hz : t.there z = true) (hne : z ≠ x) : ∃ m, t.adj x m = true ∧ Rch t x m z := by
  rcases (g.con x z hx hz).out with e | ⟨m, h1, _, h3, _⟩
  · exact absurd e hne
  · exact ⟨m, h1, h3⟩
end Go.Proofs.YtociliegljoldaaGreat

/- Plain: to whom a label comes, of a tree that may be. -/
namespace Go.Proofs.YtociliegljoldaaGreat
set_option linter.unusedSimpArgs false
set_option linter.unusedVariables false

variable {t : Tr} {s cart n fr m : Int} {q : List (Int × Int)} {out : List Int}

theorem Rch.num {w s x : Int} (h : Rch t w s x) (hs : s ∈ nums) : x ∈ nums := by
  cases h with | refl => exact hs | step _ ha _ => exact adj_nums ha
theorem mem_beyond {x m y : Int} : y ∈ t.beyond x m ↔ t.adj x m = true ∧ Rch t x m y := by
  unfold Tr.beyond
  by_cases h : t.adj x m = true
  · rw [if_pos h, mem_wset]; exact ⟨fun q => ⟨h, q.2⟩, fun q => ⟨q.2.num (adj_nums h), q.2⟩⟩
  · rw [if_neg h]; exact ⟨fun q => (by cases q), fun q => absurd q.1 h⟩
theorem wants_iff : t.wants n m cart = true ↔ ∃ h ∈ t.homes cart, t.adj n m = true ∧ Rch t n m h := by
  unfold Tr.wants
  rw [List.any_eq_true]
  constructor
  · rintro ⟨h, h1, h2⟩
    rw [List.any_eq_true] at h2
    obtain ⟨y, y1, y2⟩ := h2
    rw [beq_iff_eq] at y2; subst y2
    exact ⟨h, h1, mem_beyond.1 y1⟩
  · rintro ⟨h, h1, h2⟩
    exact ⟨h, h1, List.any_eq_true.2 ⟨h, mem_beyond.2 h2, by simp⟩⟩
theorem mem_toward : m ∈ t.toward n fr cart ↔ t.adj n m = true ∧ m ≠ fr ∧ ∃ h ∈ t.homes cart, Rch t n m h := by
  unfold Tr.toward
  rw [List.mem_filter, mem_next, Bool.and_eq_true, wants_iff, bne_iff_ne]
  exact ⟨fun ⟨a, b, h, c, _, d⟩ => ⟨a, b, h, c, d⟩, fun ⟨a, b, h, c, d⟩ => ⟨a, b, h, c, a, d⟩⟩
theorem toward_nd : (t.toward n fr cart).Nodup := by
  unfold Tr.toward Tr.next
  exact List.Pairwise.filter _ (List.Pairwise.filter _ (show nums.Pairwise (· ≠ ·) by decide))

/-- p is the next one from y on to s. -/
def Up (t : Tr) (s y p : Int) : Prop := t.adj p y = true ∧ (s = p ∨ Rch t y p s)
theorem Up.uniq (g : Good t) {y p r : Int} (h : Up t s y p) (k : Up t s y r) : p = r := by
  have a := adj_comm h.1
  have b := adj_comm k.1
  rcases h.2 with rfl | h2 <;> rcases k.2 with e | k2
  · exact e
  · exact (g.one y r s b a k2).symm
  · subst e; exact g.one y p s a b h2
  · exact g.uniq a b h2 k2
theorem Up.ne (g : Good t) {y p : Int} (h : Up t s y p) : y ≠ s := fun e => by
  subst e
  rcases h.2 with q | q
  · exact adj_ne h.1 q
  · exact q.ne (fun e => adj_ne h.1 e.symm) rfl
/-- Whoever is next, but not on the way back, has this one as its next one. -/
theorem Up.down (g : Good t) {y p m : Int} (h : Up t s y p) (ha : t.adj y m = true) (hm : m ≠ p) : Up t s m y := by
  refine ⟨ha, .inr ?_⟩
  have hp := adj_comm h.1
  have hyp : Rch t m y p := .step .refl hp hm.symm
  rcases h.2 with e | h2
  · rw [e]; exact hyp
  · have : ∀ z, Rch t y p z → Rch t m p z := fun z hz => by
      induction hz with
      | refl => exact .refl
      | @step a b hy ha' hw ih => exact .step ih ha' (fun e => hm (g.one y p m hp ha (e ▸ .step hy ha' hw)).symm)
    exact hyp.trans (this s h2)

structure Wk (t : Tr) (s cart : Int) (q : List (Int × Int)) (out : List Int) : Prop where
  nd : out.Nodup
  ns : s ∉ out
  qn : (q.map Prod.fst).Nodup
  qe : ∀ e ∈ q, e = (s, 0) ∨ (e.1 ∈ out ∧ Up t s e.1 e.2)
  fresh : ∀ e ∈ q, ∀ m, t.adj e.1 m = true → m ≠ e.2 → m ∉ out
  par : ∀ y ∈ out, ∃ p, Up t s y p ∧ (p ∈ out ∨ p = s) ∧ p ∉ q.map Prod.fst ∧ ∃ h ∈ t.homes cart, Rch t p y h
  done : ∀ y, (y ∈ out ∨ y = s) → y ∉ q.map Prod.fst → ∀ m, t.adj y m = true → (∃ h ∈ t.homes cart, Rch t y m h) → m ∈ out ∨ Up t s y m
  way : ∀ z ∈ out, ∀ y, y ∉ out → y ≠ s → Rch t y s z

theorem Wk.first (hs : t.there s = true) : Wk t s cart [(s, 0)] [] where
  nd := by simp
  ns := by simp
  qn := by simp
  qe := by simp
  fresh := by simp
  par := by simp
  done := by intro y hy hn; simp at hy hn; exact absurd hy hn
  way := by simp

theorem Wk.step (g : Good t) (hs : t.there s = true) (h : Wk t s cart ((n, fr) :: q) out) : Wk t s cart (q ++ (t.toward n fr cart).map fun m => (m, n)) (out ++ t.toward n fr cart) := by
  have hq := h.qn
  rw [List.map_cons, List.nodup_cons] at hq
  have hn := h.qe (n, fr) (List.mem_cons_self ..)
  have hfr := h.fresh (n, fr) (List.mem_cons_self ..)
  have hnin : n ∈ out ∨ n = s := by
    rcases hn with e | e
    · simp only [Prod.mk.injEq] at e; exact .inr e.1
    · exact .inl e.1
  have hup : ∀ m, t.adj n m = true → m ≠ fr → Up t s m n := fun m ha hm => by
    rcases hn with e | ⟨_, e⟩
    · simp only [Prod.mk.injEq] at e; exact ⟨ha, .inl e.1.symm⟩
    · exact e.down g ha hm
  have htow : ∀ m ∈ t.toward n fr cart, t.adj n m = true ∧ m ≠ fr ∧ m ∉ out ∧ m ≠ s ∧ Up t s m n := fun m hm => by
    obtain ⟨a, b, _⟩ := mem_toward.1 hm
    have u := hup m a b
    exact ⟨a, b, hfr m a b, u.ne g, u⟩
  have hmap : (q ++ (t.toward n fr cart).map fun m => (m, n)).map Prod.fst = q.map Prod.fst ++ t.toward n fr cart := by simp [List.map_map, Function.comp_def]
  have hq1 : ∀ e ∈ q, e.1 ∈ out ∨ e.1 = s := fun e he => by
    rcases h.qe e (List.mem_cons_of_mem _ he) with e' | e'
    · rw [e']; exact .inr rfl
    · exact .inl e'.1
  refine ⟨?_, ?_, ?_, ?_, ?_, ?_, ?_, ?_⟩
  · rw [List.nodup_append]
    exact ⟨h.nd, toward_nd, fun a ha b hb e => by subst e; exact (htow a hb).2.2.1 ha⟩
  · rw [List.mem_append]
    rintro (e | e)
    · exact h.ns e
    · exact (htow s e).2.2.2.1 rfl
  · rw [hmap, List.nodup_append]
    refine ⟨hq.2, toward_nd, fun a ha b hb e => ?_⟩
    subst e
    obtain ⟨e, he, rfl⟩ := List.mem_map.1 ha
    rcases hq1 e he with q1 | q1
    · exact (htow _ hb).2.2.1 q1
    · exact (htow _ hb).2.2.2.1 q1
  · intro e he
    rcases List.mem_append.1 he with he | he
    · rcases h.qe e (List.mem_cons_of_mem _ he) with e' | e'
      · exact .inl e'
      · exact .inr ⟨List.mem_append.2 (.inl e'.1), e'.2⟩
    · obtain ⟨m, hm, rfl⟩ := List.mem_map.1 he
      exact .inr ⟨List.mem_append.2 (.inr hm), (htow m hm).2.2.2.2⟩
  · intro e he c hc hce hco
    rcases List.mem_append.1 he with he | he
    · rcases List.mem_append.1 hco with hco | hco
      · exact h.fresh e (List.mem_cons_of_mem _ he) c hc hce hco
      · have u1 := (htow c hco).2.2.2.2
        have u2 : Up t s c e.1 := by
          rcases h.qe e (List.mem_cons_of_mem _ he) with e' | ⟨_, e'⟩
          · rw [e'] at hc; exact ⟨by rw [e']; exact hc, .inl (by rw [e'])⟩
          · exact e'.down g hc hce
        exact hq.1 (List.mem_map.2 ⟨e, he, (u1.uniq g u2).symm⟩)
    · obtain ⟨m, hm, rfl⟩ := List.mem_map.1 he
      have hm' := htow m hm
      have u2 : Up t s c m := hm'.2.2.2.2.down g hc hce
      rcases List.mem_append.1 hco with hco | hco
      · obtain ⟨p, p1, p2, _⟩ := h.par c hco
        have := p1.uniq g u2
        subst this
        rcases p2 with p2 | p2
        · exact hm'.2.2.1 p2
        · exact hm'.2.2.2.1 p2
      · have := (htow c hco).2.2.2.2.uniq g u2
        exact adj_ne hm'.1 this.symm
  · intro y hy
    rw [hmap]
    rcases List.mem_append.1 hy with hy | hy
    · obtain ⟨p, p1, p2, p3, p4⟩ := h.par y hy
      rw [List.map_cons] at p3
      refine ⟨p, p1, p2.imp (fun q => List.mem_append.2 (.inl q)) id, fun hp => ?_, p4⟩
      rcases List.mem_append.1 hp with hp | hp
      · exact p3 (List.mem_cons_of_mem _ hp)
      · rcases p2 with p2 | p2
        · exact (htow p hp).2.2.1 p2
        · exact (htow p hp).2.2.2.1 p2
    · have hy' := htow y hy
      refine ⟨n, hy'.2.2.2.2, hnin.imp (fun q => List.mem_append.2 (.inl q)) id, fun hp => ?_, (mem_toward.1 hy).2.2⟩
      rcases List.mem_append.1 hp with hp | hp
      · exact hq.1 hp
      · exact adj_ne (htow n hp).1 rfl
  · intro y hy hyq m hm hh
    rw [hmap] at hyq
    by_cases hyn : y = n
    · subst hyn
      by_cases hmf : m = fr
      · right
        rcases hn with e | e
        · simp only [Prod.mk.injEq] at e
          have := adj_nums hm
          rw [hmf, e.2] at this
          exact absurd this (by decide)
        · rw [hmf]; exact e.2
      · left; exact List.mem_append.2 (.inr (mem_toward.2 ⟨hm, hmf, hh⟩))
    · have hyo : y ∈ out ∨ y = s := by
        rcases hy with hy | hy
        · rcases List.mem_append.1 hy with hy | hy
          · exact .inl hy
          · exact absurd (List.mem_append.2 (.inr hy)) hyq
        · exact .inr hy
      rcases h.done y hyo (fun hp => by
        rw [List.map_cons] at hp
        rcases List.mem_cons.1 hp with hp | hp
        · exact hyn hp
        · exact hyq (List.mem_append.2 (.inl hp))) m hm hh with q1 | q1
      · exact .inl (List.mem_append.2 (.inl q1))
      · exact .inr q1
  · intro z hz y hy hys
    rw [List.mem_append, not_or] at hy
    rcases List.mem_append.1 hz with hz | hz
    · exact h.way z hz y hy.1 hys
    · have hz' := htow z hz
      refine .step (?_ : Rch t y s n) hz'.1 (fun e => hy.2 (e ▸ hz))
      rcases hnin with e | e
      · exact h.way n e y hy.1 hys
      · rw [e]; exact .refl

theorem Wk.len (h : Wk t s cart q out) : out.length ≤ 12 := nodup_le out nums h.nd fun x hx => by
  obtain ⟨p, p1, _⟩ := h.par x hx
  exact adj_nums p1.1
theorem bfs_cons (f : Nat) : t.bfs cart (f + 1) ((n, fr) :: q) out = if 0 < (q ++ (t.toward n fr cart).map fun m => (m, n)).length ∧ (out ++ t.toward n fr cart).length < 144 then t.bfs cart f (q ++ (t.toward n fr cart).map fun m => (m, n)) (out ++ t.toward n fr cart) else out ++ t.toward n fr cart := rfl
theorem bfs_ok (g : Good t) (hs : t.there s = true) : ∀ (f : Nat) (q : List (Int × Int)) (out : List Int), q ≠ [] → Wk t s cart q out → q.length + 12 ≤ f + out.length → Wk t s cart [] (t.bfs cart f q out) := by
  intro f
  induction f with
  | zero =>
    intro q out hq h hf
    have := h.len
    have := List.length_pos_iff.2 hq
    omega
  | succ f ih =>
    intro q out hq h hf
    obtain ⟨⟨n, fr⟩, q, rfl⟩ : ∃ e r, q = e :: r := by cases q with | nil => exact absurd rfl hq | cons e r => exact ⟨e, r, rfl⟩
    have h' := h.step g hs
    rw [bfs_cons]
    by_cases hc : 0 < (q ++ List.map (fun m => (m, n)) (t.toward n fr cart)).length ∧ (out ++ t.toward n fr cart).length < 144
    · rw [if_pos hc]
      refine ih _ _ (fun e => by rw [e] at hc; simp at hc) h' ?_
      simp only [List.length_append, List.length_map, List.length_cons] at hf ⊢
      omega
    · rw [if_neg hc]
      have hl := h'.len
      have : (q ++ (t.toward n fr cart).map fun m => (m, n)) = [] := by
        apply List.eq_nil_of_length_eq_zero
        omega
      rw [this] at h'
      exact h'
theorem reach_ok (hr : t.right = true) (hs : t.there s = true) : Wk t s cart [] (t.reach s cart) := by
  have g := Tr.right_good hr
  have := bfs_ok (cart := cart) g hs 1000 [(s, 0)] [] (by simp) (Wk.first hs) (by simp)
  unfold Tr.reach
  rw [if_pos hr, List.take_of_length_le (by have := this.len; omega)]
  exact this
theorem next_none (hs : t.there s = false) : t.next s = [] := by
  unfold Tr.next
  rw [List.filter_eq_nil_iff]
  intro b _ h
  unfold Tr.adj at h
  simp [hs] at h
theorem toward_none (hs : t.there s = false) : t.toward s fr cart = [] := by
  unfold Tr.toward; rw [next_none hs]; rfl
theorem reach_of_nil (h : t.toward s 0 cart = []) : t.reach s cart = [] := by
  unfold Tr.reach
  split
  · rw [show (1000 : Nat) = 999 + 1 from rfl, bfs_cons, h]
    simp
  · rfl
/-- Each home is come to. -/
theorem reach_home (hr : t.right = true) (hs : t.there s = true) {h : Int} (hh : h ∈ t.homes cart) (ht : t.there h = true) (hne : h ≠ s) : h ∈ t.reach s cart := by
  have g := Tr.right_good hr
  have W := reach_ok (cart := cart) hr hs
  generalize t.reach s cart = out at W ⊢
  apply Classical.byContradiction
  intro hno
  have key : ∀ z, Rch t 0 h z → (∃ y m, (y ∈ out ∨ y = s) ∧ m ∉ out ∧ m ≠ s ∧ t.adj m y = true ∧ Rch t y h m) ∨ (z ∉ out ∧ z ≠ s ∧ ∀ y, (y ∈ out ∨ y = s) → Rch t y h z) := fun z hz => by
    induction hz with
    | refl => exact .inr ⟨hno, hne, fun y _ => .refl⟩
    | @step a b ha hab hw ih =>
      rcases ih with ih | ⟨i1, i2, i3⟩
      · exact .inl ih
      · by_cases hb : b ∈ out ∨ b = s
        · exact .inl ⟨b, a, hb, i1, i2, hab, i3 b hb⟩
        · refine .inr ⟨fun e => hb (.inl e), fun e => hb (.inr e), fun y hy => .step (i3 y hy) hab (fun e => hb (e ▸ hy))⟩
  rcases key s (g.con h s ht hs) with ⟨y, m, h1, h2, h3, h4, h5⟩ | ⟨_, h2, _⟩
  · have hyh : h ≠ y := fun e => by
      rcases h1 with h1 | h1
      · exact hno (e ▸ h1)
      · exact hne (e.trans h1)
    rcases W.done y h1 (by simp) m (adj_comm h4) ⟨h, hh, h5.back hyh⟩ with q | q
    · exact h2 q
    · -- the way back is among those
      have hys := q.ne g
      rcases h1 with h1 | h1
      · obtain ⟨p, p1, p2, _⟩ := W.par y h1
        have := p1.uniq g q
        subst this
        rcases p2 with p2 | p2
        · exact h2 p2
        · exact h3 p2
      · exact hys h1
  · exact h2 rfl
end Go.Proofs.YtociliegljoldaaGreat

/- Plain: the nodes one comes to, reckoned. -/
namespace Go.Proofs.YtociliegljoldaaGreat
set_option linter.unusedSimpArgs false
set_option linter.unusedVariables false

variable {t : Tr} {w s x y : Int}
def Tr.grow (t : Tr) (w : Int) (S : List Int) : List Int := nums.filter fun y => S.any (· == y) || (y != w && S.any fun x => t.adj x y)
def Tr.clo (t : Tr) (w s : Int) : Nat → List Int
  | 0 => nums.filter (· == s)
  | k + 1 => t.grow w (t.clo w s k)
theorem mem_grow {S : List Int} : y ∈ t.grow w S ↔ y ∈ nums ∧ (y ∈ S ∨ y ≠ w ∧ ∃ x ∈ S, t.adj x y = true) := by
  unfold Tr.grow
  rw [List.mem_filter, Bool.or_eq_true, Bool.and_eq_true, bne_iff_ne, List.any_eq_true, List.any_eq_true]
  simp
theorem clo_nums {k : Nat} (h : y ∈ t.clo w s k) : y ∈ nums := by
  cases k with
  | zero => exact (List.mem_filter.1 h).1
  | succ k => exact (mem_grow.1 h).1
theorem clo_nd (k : Nat) : (t.clo w s k).Nodup := by
  cases k <;> exact List.Pairwise.filter _ (show nums.Pairwise (· ≠ ·) by decide)
theorem clo_rch {k : Nat} : ∀ {y : Int}, y ∈ t.clo w s k → Rch t w s y := by
  induction k with
  | zero => intro y h; have := (List.mem_filter.1 h).2; rw [beq_iff_eq] at this; rw [this]; exact .refl
  | succ k ih =>
    intro y h
    rcases (mem_grow.1 h).2 with q | ⟨q, x, hx, ha⟩
    · exact ih q
    · exact .step (ih hx) ha q
theorem clo_up {k : Nat} (h : y ∈ t.clo w s k) : y ∈ t.clo w s (k + 1) := mem_grow.2 ⟨clo_nums h, .inl h⟩
theorem clo_le {j k : Nat} (hjk : j ≤ k) (h : y ∈ t.clo w s j) : y ∈ t.clo w s k := by
  induction hjk with
  | refl => exact h
  | step _ ih => exact clo_up ih
theorem clo_fix : ∃ k, k ≤ 12 ∧ ∀ y, y ∈ t.clo w s (k + 1) → y ∈ t.clo w s k := by
  apply Classical.byContradiction
  intro hno
  have key : ∀ k, k ≤ 13 → k ≤ (t.clo w s k).length := by
    intro k
    induction k with
    | zero => intro _; omega
    | succ k ih =>
      intro hk
      have h1 := ih (by omega)
      have h2 : ∃ y, y ∈ t.clo w s (k + 1) ∧ y ∉ t.clo w s k := by
        apply Classical.byContradiction
        intro h
        exact hno ⟨k, by omega, fun y hy => Classical.byContradiction fun hn => h ⟨y, hy, hn⟩⟩
      obtain ⟨y, y1, y2⟩ := h2
      have := nodup_le (y :: t.clo w s k) (t.clo w s (k + 1)) (List.nodup_cons.2 ⟨y2, clo_nd k⟩) fun z hz => by
        rcases List.mem_cons.1 hz with q | q
        · rw [q]; exact y1
        · exact clo_up q
      rw [List.length_cons] at this; omega
  have h1 := key 13 (by omega)
  have h2 := nodup_le _ nums (clo_nd (t := t) (w := w) (s := s) 13) fun _ h => clo_nums h
  simp [nums] at h2; omega
theorem wset_clo (hs : s ∈ nums) : t.wset w s = t.clo w s 12 := by
  obtain ⟨k, hk, hf⟩ := clo_fix (t := t) (w := w) (s := s)
  have hin : ∀ x, Rch t w s x → x ∈ t.clo w s k := fun x hx => by
    induction hx with
    | refl => exact clo_le (Nat.zero_le k) (List.mem_filter.2 ⟨hs, by simp⟩)
    | step _ ha hw ih => exact hf _ (mem_grow.2 ⟨adj_nums ha, .inr ⟨hw, _, ih, ha⟩⟩)
  rw [show t.clo w s 12 = t.grow w (t.clo w s 11) from rfl]
  unfold Tr.wset Tr.grow
  refine List.filter_congr fun x hx => ?_
  rw [Bool.eq_iff_iff]
  refine Iff.trans (by simp) (?_ : Rch t w s x ↔ _)
  have e : x ∈ t.clo w s 12 ↔ (((t.clo w s 11).any (· == x) || (x != w && (t.clo w s 11).any fun z => t.adj z x)) = true) := by
    rw [show t.clo w s 12 = t.grow w (t.clo w s 11) from rfl]
    unfold Tr.grow
    rw [List.mem_filter]; exact ⟨fun q => q.2, fun q => ⟨hx, q⟩⟩
  rw [← e]
  exact ⟨fun h => clo_le hk (hin x h), clo_rch⟩
theorem beyond_clo (n m : Int) : t.beyond n m = if t.adj n m = true then t.clo n m 12 else [] := by
  unfold Tr.beyond
  by_cases h : t.adj n m = true
  · rw [if_pos h, if_pos h, wset_clo (adj_nums h)]
  · rw [if_neg h, if_neg h]
def Tr.wantsC (t : Tr) (n m cart : Int) : Bool := (t.homes cart).any fun h => (if t.adj n m = true then t.clo n m 12 else []).any (h == ·)
theorem wants_clo (n m cart : Int) : t.wants n m cart = t.wantsC n m cart := by unfold Tr.wants Tr.wantsC; rw [beyond_clo]
def Tr.towardC (t : Tr) (n fr cart : Int) : List Int := (t.next n).filter fun m => (m != fr) && t.wantsC n m cart
theorem toward_clo (n fr cart : Int) : t.toward n fr cart = t.towardC n fr cart := by unfold Tr.toward Tr.towardC; simp only [wants_clo]
def Tr.rightC (t : Tr) : Bool := t.kindsOk && t.edgesOk && (nums.all t.hung) && (match t.nodes 3 with
  | [] => t.all == 0
  | s :: _ => ((t.edges.length : Int) == (t.all : Int) - 1) && (t.clo 0 s 12).length == t.all)
theorem right_clo : t.right = t.rightC := by
  unfold Tr.right Tr.rightC
  cases h : t.nodes 3 with
  | nil => rfl
  | cons c l => simp only [wset_clo (node3_there h).1]
def Tr.bfsC (t : Tr) (cart : Int) : Nat → List (Int × Int) → List Int → List Int
  | 0, _, out => out
  | f + 1, q, out => let r := t.pass (fun n fr => t.towardC n fr cart) q out
    if 0 < r.1.length ∧ r.2.length < 144 then Tr.bfsC t cart f r.1 r.2 else r.2
theorem bfs_clo (cart : Int) : ∀ f q out, t.bfs cart f q out = t.bfsC cart f q out := by
  intro f
  induction f with
  | zero => intro q out; rfl
  | succ f ih =>
    intro q out
    have e : (fun n fr => t.toward n fr cart) = (fun n fr => t.towardC n fr cart) := funext fun n => funext fun fr => toward_clo n fr cart
    unfold Tr.bfs Tr.bfsC
    simp only [e, ih]
def Tr.reachC (t : Tr) (s cart : Int) : List Int := if t.rightC = true then (t.bfsC cart 1000 [(s, 0)] []).take 144 else []
theorem reach_clo (s cart : Int) : t.reach s cart = t.reachC s cart := by unfold Tr.reach Tr.reachC; rw [right_clo, bfs_clo]

/-- A home 1, a shard 2, a serializer 3. -/
def small : Tr := ⟨[1, 2, 3, 0, 0, 0, 0, 0, 0, 0, 0, 0], [(1, 3), (2, 3)]⟩
theorem small_ok : small.Ok := ⟨rfl, by decide⟩
theorem small1 : small.toward 3 2 1 = [1] := by rw [toward_clo]; decide
theorem small2 : small.reach 2 1 = [3, 1] := by rw [reach_clo]; decide
theorem small3 : small.wants 2 3 1 = true := by rw [wants_clo]; decide
theorem small4 : small.wants 3 2 1 = false := by rw [wants_clo]; decide
theorem small5 : small.reach 1 1 = [] := by rw [reach_clo]; decide
theorem small6 : small.right = true := by rw [right_clo]; decide
end Go.Proofs.YtociliegljoldaaGreat

