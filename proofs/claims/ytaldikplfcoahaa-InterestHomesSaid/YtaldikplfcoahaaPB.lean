/- Plain: to whom a label comes, of a tree that may be. -/
import Derived.Test.YtaldikplfcoahaaPA
namespace Go.Proofs.Ytaldikplfcoahaa
set_option linter.unusedSimpArgs false
set_option linter.unusedVariables false

variable {t : Tr} {s cart n fr m : Int} {q : List (Int × Int)} {out : List Int}

theorem Rch.num {w s x : Int} (h : Rch t w s x) (hs : s ∈ nums) : x ∈ nums := by
  cases h with | refl => exact hs | step _ ha _ => exact adj_nums ha
theorem mem_beyond {x m y : Int} : y ∈ t.beyond x m ↔ t.adj x m = true ∧ Rch t x m y := by
  unfold Tr.beyond
  by_cases h : t.adj x m = true
  · rw [if_pos h, mem_wset]; exact ⟨fun q => ⟨h, q.2⟩, fun q => ⟨q.2.num (adj_nums h), q.2⟩⟩
  · rw [if_neg h]; exact ⟨fun q => (by cases q), fun q => absurd q.1 h⟩
theorem wants_iff : t.wants n m cart = true ↔ ∃ h ∈ t.homes cart, t.adj n m = true ∧ Rch t n m h := by
  unfold Tr.wants
  rw [List.any_eq_true]
  constructor
  · rintro ⟨h, h1, h2⟩
    rw [List.any_eq_true] at h2
    obtain ⟨y, y1, y2⟩ := h2
    rw [beq_iff_eq] at y2; subst y2
    exact ⟨h, h1, mem_beyond.1 y1⟩
  · rintro ⟨h, h1, h2⟩
    exact ⟨h, h1, List.any_eq_true.2 ⟨h, mem_beyond.2 h2, by simp⟩⟩
theorem mem_toward : m ∈ t.toward n fr cart ↔ t.adj n m = true ∧ m ≠ fr ∧ ∃ h ∈ t.homes cart, Rch t n m h := by
  unfold Tr.toward
  rw [List.mem_filter, mem_next, Bool.and_eq_true, wants_iff, bne_iff_ne]
  exact ⟨fun ⟨a, b, h, c, _, d⟩ => ⟨a, b, h, c, d⟩, fun ⟨a, b, h, c, d⟩ => ⟨a, b, h, c, a, d⟩⟩
theorem toward_nd : (t.toward n fr cart).Nodup := by
  unfold Tr.toward Tr.next
  exact List.Pairwise.filter _ (List.Pairwise.filter _ (show nums.Pairwise (· ≠ ·) by decide))

/-- p is the next one from y on to s. -/
def Up (t : Tr) (s y p : Int) : Prop := t.adj p y = true ∧ (s = p ∨ Rch t y p s)
theorem Up.uniq (g : Good t) {y p r : Int} (h : Up t s y p) (k : Up t s y r) : p = r := by
  have a := adj_comm h.1
  have b := adj_comm k.1
  rcases h.2 with rfl | h2 <;> rcases k.2 with e | k2
  · exact e
  · exact (g.one y r s b a k2).symm
  · subst e; exact g.one y p s a b h2
  · exact g.uniq a b h2 k2
theorem Up.ne (g : Good t) {y p : Int} (h : Up t s y p) : y ≠ s := fun e => by
  subst e
  rcases h.2 with q | q
  · exact adj_ne h.1 q
  · exact q.ne (fun e => adj_ne h.1 e.symm) rfl
/-- Whoever is next, but not on the way back, has this one as its next one. -/
theorem Up.down (g : Good t) {y p m : Int} (h : Up t s y p) (ha : t.adj y m = true) (hm : m ≠ p) : Up t s m y := by
  refine ⟨ha, .inr ?_⟩
  have hp := adj_comm h.1
  have hyp : Rch t m y p := .step .refl hp hm.symm
  rcases h.2 with e | h2
  · rw [e]; exact hyp
  · have : ∀ z, Rch t y p z → Rch t m p z := fun z hz => by
      induction hz with
      | refl => exact .refl
      | @step a b hy ha' hw ih => exact .step ih ha' (fun e => hm (g.one y p m hp ha (e ▸ .step hy ha' hw)).symm)
    exact hyp.trans (this s h2)

structure Wk (t : Tr) (s cart : Int) (q : List (Int × Int)) (out : List Int) : Prop where
  nd : out.Nodup
  ns : s ∉ out
  qn : (q.map Prod.fst).Nodup
  qe : ∀ e ∈ q, e = (s, 0) ∨ (e.1 ∈ out ∧ Up t s e.1 e.2)
  fresh : ∀ e ∈ q, ∀ m, t.adj e.1 m = true → m ≠ e.2 → m ∉ out
  par : ∀ y ∈ out, ∃ p, Up t s y p ∧ (p ∈ out ∨ p = s) ∧ p ∉ q.map Prod.fst ∧ ∃ h ∈ t.homes cart, Rch t p y h
  done : ∀ y, (y ∈ out ∨ y = s) → y ∉ q.map Prod.fst → ∀ m, t.adj y m = true → (∃ h ∈ t.homes cart, Rch t y m h) → m ∈ out ∨ Up t s y m
  way : ∀ z ∈ out, ∀ y, y ∉ out → y ≠ s → Rch t y s z

theorem Wk.first (hs : t.there s = true) : Wk t s cart [(s, 0)] [] where
  nd := by simp
  ns := by simp
  qn := by simp
  qe := by simp
  fresh := by simp
  par := by simp
  done := by intro y hy hn; simp at hy hn; exact absurd hy hn
  way := by simp

theorem Wk.step (g : Good t) (hs : t.there s = true) (h : Wk t s cart ((n, fr) :: q) out) : Wk t s cart (q ++ (t.toward n fr cart).map fun m => (m, n)) (out ++ t.toward n fr cart) := by
  have hq := h.qn
  rw [List.map_cons, List.nodup_cons] at hq
  have hn := h.qe (n, fr) (List.mem_cons_self ..)
  have hfr := h.fresh (n, fr) (List.mem_cons_self ..)
  have hnin : n ∈ out ∨ n = s := by
    rcases hn with e | e
    · simp only [Prod.mk.injEq] at e; exact .inr e.1
    · exact .inl e.1
  have hup : ∀ m, t.adj n m = true → m ≠ fr → Up t s m n := fun m ha hm => by
    rcases hn with e | ⟨_, e⟩
    · simp only [Prod.mk.injEq] at e; exact ⟨ha, .inl e.1.symm⟩
    · exact e.down g ha hm
  have htow : ∀ m ∈ t.toward n fr cart, t.adj n m = true ∧ m ≠ fr ∧ m ∉ out ∧ m ≠ s ∧ Up t s m n := fun m hm => by
    obtain ⟨a, b, _⟩ := mem_toward.1 hm
    have u := hup m a b
    exact ⟨a, b, hfr m a b, u.ne g, u⟩
  have hmap : (q ++ (t.toward n fr cart).map fun m => (m, n)).map Prod.fst = q.map Prod.fst ++ t.toward n fr cart := by simp [List.map_map, Function.comp_def]
  have hq1 : ∀ e ∈ q, e.1 ∈ out ∨ e.1 = s := fun e he => by
    rcases h.qe e (List.mem_cons_of_mem _ he) with e' | e'
    · rw [e']; exact .inr rfl
    · exact .inl e'.1
  refine ⟨?_, ?_, ?_, ?_, ?_, ?_, ?_, ?_⟩
  · rw [List.nodup_append]
    exact ⟨h.nd, toward_nd, fun a ha b hb e => by subst e; exact (htow a hb).2.2.1 ha⟩
  · rw [List.mem_append]
    rintro (e | e)
    · exact h.ns e
    · exact (htow s e).2.2.2.1 rfl
  · rw [hmap, List.nodup_append]
    refine ⟨hq.2, toward_nd, fun a ha b hb e => ?_⟩
    subst e
    obtain ⟨e, he, rfl⟩ := List.mem_map.1 ha
    rcases hq1 e he with q1 | q1
    · exact (htow _ hb).2.2.1 q1
    · exact (htow _ hb).2.2.2.1 q1
  · intro e he
    rcases List.mem_append.1 he with he | he
    · rcases h.qe e (List.mem_cons_of_mem _ he) with e' | e'
      · exact .inl e'
      · exact .inr ⟨List.mem_append.2 (.inl e'.1), e'.2⟩
    · obtain ⟨m, hm, rfl⟩ := List.mem_map.1 he
      exact .inr ⟨List.mem_append.2 (.inr hm), (htow m hm).2.2.2.2⟩
  · intro e he c hc hce hco
    rcases List.mem_append.1 he with he | he
    · rcases List.mem_append.1 hco with hco | hco
      · exact h.fresh e (List.mem_cons_of_mem _ he) c hc hce hco
      · have u1 := (htow c hco).2.2.2.2
        have u2 : Up t s c e.1 := by
          rcases h.qe e (List.mem_cons_of_mem _ he) with e' | ⟨_, e'⟩
          · rw [e'] at hc; exact ⟨by rw [e']; exact hc, .inl (by rw [e'])⟩
          · exact e'.down g hc hce
        exact hq.1 (List.mem_map.2 ⟨e, he, (u1.uniq g u2).symm⟩)
    · obtain ⟨m, hm, rfl⟩ := List.mem_map.1 he
      have hm' := htow m hm
      have u2 : Up t s c m := hm'.2.2.2.2.down g hc hce
      rcases List.mem_append.1 hco with hco | hco
      · obtain ⟨p, p1, p2, _⟩ := h.par c hco
        have := p1.uniq g u2
        subst this
        rcases p2 with p2 | p2
        · exact hm'.2.2.1 p2
        · exact hm'.2.2.2.1 p2
      · have := (htow c hco).2.2.2.2.uniq g u2
        exact adj_ne hm'.1 this.symm
  · intro y hy
    rw [hmap]
    rcases List.mem_append.1 hy with hy | hy
    · obtain ⟨p, p1, p2, p3, p4⟩ := h.par y hy
      rw [List.map_cons] at p3
      refine ⟨p, p1, p2.imp (fun q => List.mem_append.2 (.inl q)) id, fun hp => ?_, p4⟩
      rcases List.mem_append.1 hp with hp | hp
      · exact p3 (List.mem_cons_of_mem _ hp)
      · rcases p2 with p2 | p2
        · exact (htow p hp).2.2.1 p2
        · exact (htow p hp).2.2.2.1 p2
    · have hy' := htow y hy
      refine ⟨n, hy'.2.2.2.2, hnin.imp (fun q => List.mem_append.2 (.inl q)) id, fun hp => ?_, (mem_toward.1 hy).2.2⟩
      rcases List.mem_append.1 hp with hp | hp
      · exact hq.1 hp
      · exact adj_ne (htow n hp).1 rfl
  · intro y hy hyq m hm hh
    rw [hmap] at hyq
    by_cases hyn : y = n
    · subst hyn
      by_cases hmf : m = fr
      · right
        rcases hn with e | e
        · simp only [Prod.mk.injEq] at e
          have := adj_nums hm
          rw [hmf, e.2] at this
          exact absurd this (by decide)
        · rw [hmf]; exact e.2
      · left; exact List.mem_append.2 (.inr (mem_toward.2 ⟨hm, hmf, hh⟩))
    · have hyo : y ∈ out ∨ y = s := by
        rcases hy with hy | hy
        · rcases List.mem_append.1 hy with hy | hy
          · exact .inl hy
          · exact absurd (List.mem_append.2 (.inr hy)) hyq
        · exact .inr hy
      rcases h.done y hyo (fun hp => by
        rw [List.map_cons] at hp
        rcases List.mem_cons.1 hp with hp | hp
        · exact hyn hp
        · exact hyq (List.mem_append.2 (.inl hp))) m hm hh with q1 | q1
      · exact .inl (List.mem_append.2 (.inl q1))
      · exact .inr q1
  · intro z hz y hy hys
    rw [List.mem_append, not_or] at hy
    rcases List.mem_append.1 hz with hz | hz
    · exact h.way z hz y hy.1 hys
    · have hz' := htow z hz
      refine .step (?_ : Rch t y s n) hz'.1 (fun e => hy.2 (e ▸ hz))
      rcases hnin with e | e
      · exact h.way n e y hy.1 hys
      · rw [e]; exact .refl

theorem Wk.len (h : Wk t s cart q out) : out.length ≤ 12 := nodup_le out nums h.nd fun x hx => by
  obtain ⟨p, p1, _⟩ := h.par x hx
  exact adj_nums p1.1
theorem bfs_cons (f : Nat) : t.bfs cart (f + 1) ((n, fr) :: q) out = if 0 < (q ++ (t.toward n fr cart).map fun m => (m, n)).length ∧ (out ++ t.toward n fr cart).length < 144 then t.bfs cart f (q ++ (t.toward n fr cart).map fun m => (m, n)) (out ++ t.toward n fr cart) else out ++ t.toward n fr cart := rfl
theorem bfs_ok (g : Good t) (hs : t.there s = true) : ∀ (f : Nat) (q : List (Int × Int)) (out : List Int), q ≠ [] → Wk t s cart q out → q.length + 12 ≤ f + out.length → Wk t s cart [] (t.bfs cart f q out) := by
  intro f
  induction f with
  | zero =>
    intro q out hq h hf
    have := h.len
    have := List.length_pos_iff.2 hq
    omega
  | succ f ih =>
    intro q out hq h hf
    obtain ⟨⟨n, fr⟩, q, rfl⟩ : ∃ e r, q = e :: r := by cases q with | nil => exact absurd rfl hq | cons e r => exact ⟨e, r, rfl⟩
    have h' := h.step g hs
    rw [bfs_cons]
    by_cases hc : 0 < (q ++ List.map (fun m => (m, n)) (t.toward n fr cart)).length ∧ (out ++ t.toward n fr cart).length < 144
    · rw [if_pos hc]
      refine ih _ _ (fun e => by rw [e] at hc; simp at hc) h' ?_
      simp only [List.length_append, List.length_map, List.length_cons] at hf ⊢
      omega
    · rw [if_neg hc]
      have hl := h'.len
      have : (q ++ (t.toward n fr cart).map fun m => (m, n)) = [] := by
        apply List.eq_nil_of_length_eq_zero
        omega
      rw [this] at h'
      exact h'
theorem reach_ok (hr : t.right = true) (hs : t.there s = true) : Wk t s cart [] (t.reach s cart) := by
  have g := Tr.right_good hr
  have := bfs_ok (cart := cart) g hs 1000 [(s, 0)] [] (by simp) (Wk.first hs) (by simp)
  unfold Tr.reach
  rw [if_pos hr, List.take_of_length_le (by have := this.len; omega)]
  exact this
theorem next_none (hs : t.there s = false) : t.next s = [] := by
  unfold Tr.next
  rw [List.filter_eq_nil_iff]
  intro b _ h
  unfold Tr.adj at h
  simp [hs] at h
theorem toward_none (hs : t.there s = false) : t.toward s fr cart = [] := by
  unfold Tr.toward; rw [next_none hs]; rfl
theorem reach_of_nil (h : t.toward s 0 cart = []) : t.reach s cart = [] := by
  unfold Tr.reach
  split
  · rw [show (1000 : Nat) = 999 + 1 from rfl, bfs_cons, h]
    simp
  · rfl
/-- Each home is come to. -/
theorem reach_home (hr : t.right = true) (hs : t.there s = true) {h : Int} (hh : h ∈ t.homes cart) (ht : t.there h = true) (hne : h ≠ s) : h ∈ t.reach s cart := by
  have g := Tr.right_good hr
  have W := reach_ok (cart := cart) hr hs
  generalize t.reach s cart = out at W ⊢
  apply Classical.byContradiction
  intro hno
  have key : ∀ z, Rch t 0 h z → (∃ y m, (y ∈ out ∨ y = s) ∧ m ∉ out ∧ m ≠ s ∧ t.adj m y = true ∧ Rch t y h m) ∨ (z ∉ out ∧ z ≠ s ∧ ∀ y, (y ∈ out ∨ y = s) → Rch t y h z) := fun z hz => by
    induction hz with
    | refl => exact .inr ⟨hno, hne, fun y _ => .refl⟩
    | @step a b ha hab hw ih =>
      rcases ih with ih | ⟨i1, i2, i3⟩
      · exact .inl ih
      · by_cases hb : b ∈ out ∨ b = s
        · exact .inl ⟨b, a, hb, i1, i2, hab, i3 b hb⟩
        · refine .inr ⟨fun e => hb (.inl e), fun e => hb (.inr e), fun y hy => .step (i3 y hy) hab (fun e => hb (e ▸ hy))⟩
  rcases key s (g.con h s ht hs) with ⟨y, m, h1, h2, h3, h4, h5⟩ | ⟨_, h2, _⟩
  · have hyh : h ≠ y := fun e => by
      rcases h1 with h1 | h1
      · exact hno (e ▸ h1)
      · exact hne (e.trans h1)
    rcases W.done y h1 (by simp) m (adj_comm h4) ⟨h, hh, h5.back hyh⟩ with q | q
    · exact h2 q
    · -- the way back is among those
      have hys := q.ne g
      rcases h1 with h1 | h1
      · obtain ⟨p, p1, p2, _⟩ := W.par y h1
        have := p1.uniq g q
        subst this
        rcases p2 with p2 | p2
        · exact h2 p2
        · exact h3 p2
      · exact hys h1
  · exact h2 rfl
end Go.Proofs.Ytaldikplfcoahaa
