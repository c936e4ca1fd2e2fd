/- Sorting, plainly: what swaps within a window keep; sorted; heaps; rows of elements. -/
import Derived.Test.YtociliegljoldaaGreatG1
namespace Go.Proofs.YtociliegljoldaaGreat
set_option linter.unusedSimpArgs false
set_option linter.unusedVariables false
open Go.Proofs

section
variable {α : Type} [Inhabited α]
abbrev at0 (m : List α) (i : Nat) : α := m.getD i default
def swp (m : List α) (i j : Nat) : List α := (m.set i (at0 m j)).set j (at0 m i)
theorem swp_len (m : List α) (i j : Nat) : (swp m i j).length = m.length := by simp [swp]
theorem at0_set (m : List α) (i p : Nat) (x : α) (h : i < m.length) : at0 (m.set i x) p = if p = i then x else at0 m p := by
  unfold at0
  rw [List.getD_eq_getElem?_getD, List.getD_eq_getElem?_getD, List.getElem?_set]
  by_cases e : i = p
  · subst e; rw [if_pos rfl, if_pos h, if_pos rfl]; rfl
  · rw [if_neg e, if_neg (Ne.symm e)]
theorem at0_swp (m : List α) (i j p : Nat) (hi : i < m.length) (hj : j < m.length) : at0 (swp m i j) p = if p = j then at0 m i else if p = i then at0 m j else at0 m p := by
  unfold swp
  rw [at0_set _ _ _ _ (by simpa using hj), at0_set _ _ _ _ hi]
theorem swp_perm (m : List α) (i j : Nat) (hi : i < m.length) (hj : j < m.length) : (swp m i j).Perm m := by
  have e1 : at0 m j = m[j] := by unfold at0; rw [List.getD_eq_getElem?_getD, List.getElem?_eq_getElem hj]; rfl
  have e2 : at0 m i = m[i] := by unfold at0; rw [List.getD_eq_getElem?_getD, List.getElem?_eq_getElem hi]; rfl
  unfold swp
  rw [e1, e2]
  exact List.set_set_perm hi hj
/-- The same elements, moved within a window. -/
structure WP (a b : Nat) (m m' : List α) : Prop where
  perm : m'.Perm m
  out : ∀ i, i < a ∨ b ≤ i → at0 m' i = at0 m i
  mem : ∀ i, a ≤ i → i < b → ∃ j, a ≤ j ∧ j < b ∧ at0 m' i = at0 m j
theorem WP.refl (a b : Nat) (m : List α) : WP a b m m := ⟨.refl _, fun _ _ => rfl, fun i h1 h2 => ⟨i, h1, h2, rfl⟩⟩
theorem WP.trans {a b : Nat} {m n o : List α} (h : WP a b m n) (k : WP a b n o) : WP a b m o :=
  ⟨k.perm.trans h.perm, fun i q => (k.out i q).trans (h.out i q), fun i h1 h2 => by
    obtain ⟨j, j1, j2, e⟩ := k.mem i h1 h2
    obtain ⟨l, l1, l2, f⟩ := h.mem j j1 j2
    exact ⟨l, l1, l2, e.trans f⟩⟩
theorem WP.len {a b : Nat} {m n : List α} (h : WP a b m n) : n.length = m.length := h.perm.length_eq
theorem WP.wide {a b c d : Nat} {m n : List α} (h : WP a b m n) (h1 : c ≤ a) (h2 : b ≤ d) : WP c d m n :=
  ⟨h.perm, fun i q => h.out i (by omega), fun i q1 q2 => by
    by_cases hi : a ≤ i ∧ i < b
    · obtain ⟨j, j1, j2, e⟩ := h.mem i hi.1 hi.2; exact ⟨j, by omega, by omega, e⟩
    · exact ⟨i, q1, q2, h.out i (by omega)⟩⟩
theorem WP.swap {a b i j : Nat} {m : List α} (h : b ≤ m.length) (hi : a ≤ i ∧ i < b) (hj : a ≤ j ∧ j < b) : WP a b m (swp m i j) :=
  ⟨swp_perm m i j (by omega) (by omega), fun p q => by rw [at0_swp m i j p (by omega) (by omega), if_neg (by omega), if_neg (by omega)], fun p q1 q2 => by
    rw [at0_swp m i j p (by omega) (by omega)]
    split
    · exact ⟨i, hi.1, hi.2, rfl⟩
    · split
      · exact ⟨j, hj.1, hj.2, rfl⟩
      · exact ⟨p, q1, q2, rfl⟩⟩
variable (key : α → Nat)
abbrev ky (m : List α) (i : Nat) : Nat := key (at0 m i)
theorem ky_swp (m : List α) (i j p : Nat) (hi : i < m.length) (hj : j < m.length) : ky key (swp m i j) p = if p = j then ky key m i else if p = i then ky key m j else ky key m p := by
  unfold ky; rw [at0_swp m i j p hi hj]; split; rfl; split <;> rfl
def Srtd (a b : Nat) (m : List α) : Prop := ∀ p q, a ≤ p → p < q → q < b → ky key m p ≤ ky key m q
/-- All of a window lie at or above a bound (below it). -/
def Abv (a b : Nat) (x : Nat) (m : List α) : Prop := ∀ i, a ≤ i → i < b → x ≤ ky key m i
def Blw (a b : Nat) (x : Nat) (m : List α) : Prop := ∀ i, a ≤ i → i < b → ky key m i ≤ x
theorem Abv.wp {a b x : Nat} {m n : List α} (h : Abv key a b x m) (w : WP a b m n) : Abv key a b x n := fun i h1 h2 => by
  obtain ⟨j, j1, j2, e⟩ := w.mem i h1 h2
  show x ≤ key (at0 n i); rw [e]; exact h j j1 j2
theorem Blw.wp {a b x : Nat} {m n : List α} (h : Blw key a b x m) (w : WP a b m n) : Blw key a b x n := fun i h1 h2 => by
  obtain ⟨j, j1, j2, e⟩ := w.mem i h1 h2
  show key (at0 n i) ≤ x; rw [e]; exact h j j1 j2
/-- A window is sorted but for one element that is on its way down to its place. -/
def OrdW (a : Nat) (m : List α) (i j : Nat) : Prop := (∀ p q, a ≤ p → p < q → q ≤ i → q ≠ j → ky key m p ≤ ky key m q)
theorem OrdW.swap {a : Nat} {m : List α} {i k : Nat} (ho : OrdW key a m i (k + 1)) (ha : a ≤ k) (hki : k + 1 ≤ i) (hi : i < m.length) (hlt : ky key m (k + 1) < ky key m k) : OrdW key a (swp m (k + 1) k) i k := by
  intro p q h0 h1 h2 h3
  rw [ky_swp key m _ _ _ (by omega) (by omega), ky_swp key m _ _ _ (by omega) (by omega)]
  by_cases e1 : p = k
  · rw [if_pos e1]
    by_cases e2 : q = k
    · omega
    · rw [if_neg e2]
      by_cases e3 : q = k + 1
      · rw [if_pos e3]; omega
      · rw [if_neg e3]
        have := ho k q ha (by omega) h2 e3
        omega
  · rw [if_neg e1]
    by_cases e2 : p = k + 1
    · rw [if_pos e2]
      rw [if_neg h3, if_neg (by omega)]
      exact ho k q ha (by omega) h2 (by omega)
    · rw [if_neg e2, if_neg h3]
      by_cases e3 : q = k + 1
      · rw [if_pos e3]; exact ho p k h0 (by omega) (by omega) (by omega)
      · rw [if_neg e3]; exact ho p q h0 h1 h2 e3
theorem OrdW.done {a : Nat} {m : List α} {i k : Nat} (ho : OrdW key a m i (k + 1)) (ha : a ≤ k) (hki : k + 1 ≤ i) (hle : ky key m k ≤ ky key m (k + 1)) : Srtd key a (i + 1) m := by
  intro p q h0 h1 h2
  by_cases e : q = k + 1
  · subst e
    by_cases e2 : p = k
    · rw [e2]; exact hle
    · exact Nat.le_trans (ho p k h0 (by omega) (by omega) (by omega)) hle
  · exact ho p q h0 h1 (by omega) e
theorem OrdW.first {a : Nat} {m : List α} {i : Nat} (ho : OrdW key a m i a) : Srtd key a (i + 1) m := fun p q h0 h1 h2 => ho p q h0 h1 (by omega) (by omega)
theorem OrdW.start {a : Nat} {m : List α} {i : Nat} (h : Srtd key a i m) : OrdW key a m i i := fun p q h0 h1 h2 h3 => h p q h0 h1 (by omega)
/-- From lo on each is at least as great as those below it, but maybe at r. -/
def Hp (f lo hi : Nat) (r : Nat) (m : List α) : Prop := ∀ i c, lo ≤ i → i ≠ r → (c = 2 * i + 1 ∨ c = 2 * i + 2) → c < hi → ky key m (f + c) ≤ ky key m (f + i)
/-- The one above r is at least as great as those below r. -/
def HUp (f lo hi : Nat) (r : Nat) (m : List α) : Prop := ∀ i c, lo ≤ i → (r = 2 * i + 1 ∨ r = 2 * i + 2) → (c = 2 * r + 1 ∨ c = 2 * r + 2) → c < hi → ky key m (f + c) ≤ ky key m (f + i)
theorem Hp.sift {f lo hi r c : Nat} {m : List α} (h : Hp key f lo hi r m) (u : HUp key f lo hi r m) (hc : c = 2 * r + 1 ∨ c = 2 * r + 2) (hlo : lo ≤ r) (hchi : c < hi) (hl : f + hi ≤ m.length)
    (hbig : ∀ d, (d = 2 * r + 1 ∨ d = 2 * r + 2) → d < hi → ky key m (f + d) ≤ ky key m (f + c)) (hlt : ky key m (f + r) < ky key m (f + c)) : Hp key f lo hi c (swp m (f + r) (f + c)) ∧ HUp key f lo hi c (swp m (f + r) (f + c)) := by
  have kc : ky key (swp m (f + r) (f + c)) (f + c) = ky key m (f + r) := by rw [ky_swp key m _ _ _ (by omega) (by omega), if_pos rfl]
  have kr : ky key (swp m (f + r) (f + c)) (f + r) = ky key m (f + c) := by rw [ky_swp key m _ _ _ (by omega) (by omega), if_neg (by omega), if_pos rfl]
  have ko : ∀ p, p ≠ c → p ≠ r → ky key (swp m (f + r) (f + c)) (f + p) = ky key m (f + p) := fun p q1 q2 => by rw [ky_swp key m _ _ _ (by omega) (by omega), if_neg (by omega), if_neg (by omega)]
  constructor
  · intro i d h1 h2 h3 h4
    by_cases e1 : i = r
    · subst e1
      rw [kr]
      by_cases e2 : d = c
      · rw [e2, kc]; omega
      · rw [ko d e2 (by omega)]; exact hbig d h3 h4
    · rw [ko i h2 e1]
      by_cases e2 : d = c
      · omega
      · by_cases e3 : d = r
        · subst e3; rw [kr]; exact u i c h1 h3 hc hchi
        · rw [ko d e2 e3]; exact h i d h1 e1 h3 h4
  · intro i d h1 h2 h3 h4
    have e : i = r := by omega
    subst e
    rw [kr, ko d (by omega) (by omega)]
    exact h c d (by omega) (by omega) h3 h4
theorem Hp.rest {f lo hi r : Nat} {m : List α} (h : Hp key f lo hi r m) (hr : ∀ c, (c = 2 * r + 1 ∨ c = 2 * r + 2) → c < hi → ky key m (f + c) ≤ ky key m (f + r)) (x : Nat) : Hp key f lo hi x m := fun i c h1 _ h3 h4 => by
  by_cases e : i = r
  · subst e; exact hr c h3 h4
  · exact h i c h1 e h3 h4
/-- The first one of a heap is its greatest. -/
theorem Hp.top {f hi : Nat} {m : List α} (h : Hp key f 0 hi hi m) : ∀ i, i < hi → ky key m (f + i) ≤ ky key m f := by
  intro i
  induction i using Nat.strongRecOn with
  | _ i ih =>
    intro hi'
    rcases Nat.eq_zero_or_pos i with rfl | hp
    · exact Nat.le_refl _
    · have := h ((i - 1) / 2) i (Nat.zero_le _) (by omega) (by omega) hi'
      exact Nat.le_trans this (ih ((i - 1) / 2) (by omega) (by omega))
/-- Sorted, in one row. -/
theorem Srtd.join {a b c : Nat} {m : List α} {x : Nat} (h1 : Srtd key a b m) (h2 : Srtd key b c m) (hb : Blw key a b x m) (ha : Abv key b c x m) : Srtd key a c m := fun p q hp hq hc => by
  by_cases e1 : q < b
  · exact h1 p q hp hq e1
  · by_cases e2 : b ≤ p
    · exact h2 p q e2 hq hc
    · exact Nat.le_trans (hb p hp (by omega)) (ha q (by omega) hc)
theorem Srtd.out {a b c d : Nat} {m n : List α} (h : Srtd key a b m) (w : WP c d m n) (hd : d ≤ a ∨ b ≤ c) : Srtd key a b n := fun p q hp hq hb => by
  unfold ky; rw [w.out p (by omega), w.out q (by omega)]; exact h p q hp hq hb
theorem Abv.out {a b c d x : Nat} {m n : List α} (h : Abv key a b x m) (w : WP c d m n) (hd : d ≤ a ∨ b ≤ c) : Abv key a b x n := fun i h1 h2 => by
  show x ≤ key (at0 n i); rw [w.out i (by omega)]; exact h i h1 h2
theorem Blw.out {a b c d x : Nat} {m n : List α} (h : Blw key a b x m) (w : WP c d m n) (hd : d ≤ a ∨ b ≤ c) : Blw key a b x n := fun i h1 h2 => by
  show key (at0 n i) ≤ x; rw [w.out i (by omega)]; exact h i h1 h2
/-- All pairs stand in order but those within a window. -/
def OutW (A B a b : Nat) (m : List α) : Prop := ∀ p q, A ≤ p → p < q → q < B → (a ≤ p ∧ q < b) ∨ ky key m p ≤ ky key m q
theorem OutW.start (A B : Nat) (m : List α) : OutW key A B A B m := fun p q h1 h2 h3 => .inl ⟨h1, h3⟩
theorem OutW.wp {A B a b : Nat} {m n : List α} (h : OutW key A B a b m) (w : WP a b m n) (ha : A ≤ a) (hb : b ≤ B) : OutW key A B a b n := fun p q h1 h2 h3 => by
  by_cases hp : a ≤ p ∧ p < b
  · by_cases hq : q < b
    · exact .inl ⟨hp.1, hq⟩
    · right
      obtain ⟨j, j1, j2, e⟩ := w.mem p hp.1 hp.2
      show key (at0 n p) ≤ key (at0 n q)
      rw [e, w.out q (by omega)]
      rcases h j q (by omega) (by omega) h3 with r | r
      · omega
      · exact r
  · by_cases hq : a ≤ q ∧ q < b
    · right
      obtain ⟨j, j1, j2, e⟩ := w.mem q hq.1 hq.2
      show key (at0 n p) ≤ key (at0 n q)
      rw [e, w.out p (by omega)]
      rcases h p j h1 (by omega) (by omega) with r | r
      · omega
      · exact r
    · right
      show key (at0 n p) ≤ key (at0 n q)
      rw [w.out p (by omega), w.out q (by omega)]
      rcases h p q h1 h2 h3 with r | r
      · omega
      · exact r
theorem OutW.partL {A B a b mid : Nat} {m : List α} (h : OutW key A B a b m) (h1 : Blw key a mid (ky key m mid) m) (h2 : Abv key (mid + 1) b (ky key m mid) m) (hs : Srtd key a mid m) : OutW key A B (mid + 1) b m := fun p q q1 q2 q3 => by
  rcases h p q q1 q2 q3 with r | r
  · by_cases e1 : mid < p
    · exact .inl ⟨e1, r.2⟩
    · right
      by_cases e2 : q < mid
      · exact hs p q r.1 q2 e2
      · by_cases e3 : q = mid
        · subst e3; exact h1 p r.1 q2
        · by_cases e4 : p = mid
          · subst e4; exact h2 q (by omega) r.2
          · exact Nat.le_trans (h1 p r.1 (by omega)) (h2 q (by omega) r.2)
  · exact .inr r
theorem OutW.partR {A B a b mid : Nat} {m : List α} (h : OutW key A B a b m) (h1 : Blw key a mid (ky key m mid) m) (h2 : Abv key (mid + 1) b (ky key m mid) m) (hs : Srtd key (mid + 1) b m) : OutW key A B a mid m := fun p q q1 q2 q3 => by
  rcases h p q q1 q2 q3 with r | r
  · by_cases e2 : q < mid
    · exact .inl ⟨r.1, e2⟩
    · right
      by_cases e3 : q = mid
      · subst e3; exact h1 p r.1 q2
      · by_cases e4 : p = mid
        · subst e4; exact h2 q (by omega) r.2
        · by_cases e5 : p < mid
          · exact Nat.le_trans (h1 p r.1 e5) (h2 q (by omega) r.2)
          · exact hs p q (by omega) q2 r.2
  · exact .inr r
theorem OutW.eq {A B a b mid x : Nat} {m : List α} (h : OutW key A B a b m) (h1 : Blw key a mid x m) (h2 : Abv key a b x m) : OutW key A B mid b m := fun p q q1 q2 q3 => by
  rcases h p q q1 q2 q3 with r | r
  · by_cases e1 : p < mid
    · exact .inr (Nat.le_trans (h1 p r.1 e1) (h2 q (by omega) r.2))
    · exact .inl ⟨by omega, r.2⟩
  · exact .inr r
theorem OutW.done {A B a b : Nat} {m : List α} (h : OutW key A B a b m) (hs : Srtd key a b m) : Srtd key A B m := fun p q h1 h2 h3 => by
  rcases h p q h1 h2 h3 with r | r
  · exact hs p q r.1 h2 r.2
  · exact r
theorem OutW.low {A B a b : Nat} {m : List α} (h : OutW key A B a b m) (ha : A ≤ a) (hb : b ≤ B) (h0 : 0 < A → Abv key A B (ky key m (A - 1)) m) (hp : 0 < a) : Abv key a b (ky key m (a - 1)) m := fun i h1 h2 => by
  by_cases e : a = A
  · subst e; exact h0 hp i h1 (by omega)
  · rcases h (a - 1) i (by omega) (by omega) (by omega) with r | r
    · omega
    · exact r
theorem Abv.low {A B : Nat} {m n : List α} (h0 : 0 < A → Abv key A B (ky key m (A - 1)) m) (w : WP A B m n) : 0 < A → Abv key A B (ky key n (A - 1)) n := fun hp => by
  have := (h0 hp).wp key w
  show Abv key A B (key (at0 n (A - 1))) n
  rw [w.out (A - 1) (by omega)]; exact this
/-- A window on its way to be parted: those that B takes to the left, all others to the right; the one at a is the one by which. -/
structure Part (B : Nat → Bool) (a e i j x : Nat) (m0 m : List α) : Prop where
  i1 : a + 1 ≤ i
  ij : i ≤ j + 1
  j1 : j + 1 ≤ e
  w : WP a e m0 m
  at_ : ky key m a = x
  lo : ∀ p, a < p → p < i → B (ky key m p) = true
  hi : ∀ p, j < p → p < e → B (ky key m p) = false
theorem Part.up {B : Nat → Bool} {a e i j x : Nat} {m0 m : List α} (h : Part key B a e i j x m0 m) (hij : i ≤ j) (hb : B (ky key m i) = true) : Part key B a e (i + 1) j x m0 m :=
  ⟨by have := h.i1; omega, by omega, h.j1, h.w, h.at_, fun p q1 q2 => by
    by_cases e : p = i
    · subst e; exact hb
    · exact h.lo p q1 (by omega), h.hi⟩
theorem Part.down {B : Nat → Bool} {a e i j x : Nat} {m0 m : List α} (h : Part key B a e i j x m0 m) (hij : i ≤ j) (hb : B (ky key m j) = false) : Part key B a e i (j - 1) x m0 m :=
  ⟨h.i1, by omega, by have := h.j1; omega, h.w, h.at_, h.lo, fun p q1 q2 => by
    by_cases e : p = j
    · subst e; exact hb
    · exact h.hi p (by omega) q2⟩
theorem Part.swap {B : Nat → Bool} {a e i j x : Nat} {m0 m : List α} (h : Part key B a e i j x m0 m) (he : e ≤ m0.length) (hij : i ≤ j) (hb : B (ky key m i) = false) (hc : B (ky key m j) = true) : Part key B a e (i + 1) (j - 1) x m0 (swp m i j) := by
  have hml := h.w.len
  have i1 := h.i1
  have j1 := h.j1
  have hne : i ≠ j := fun q => by subst q; rw [hb] at hc; cases hc
  refine ⟨by omega, by omega, by omega, h.w.trans (WP.swap (by omega) (by omega) (by omega)), ?_, fun p q1 q2 => ?_, fun p q1 q2 => ?_⟩
  · rw [ky_swp key m _ _ _ (by omega) (by omega), if_neg (by omega), if_neg (by omega)]; exact h.at_
  · rw [ky_swp key m _ _ _ (by omega) (by omega), if_neg (by omega)]
    split
    · exact hc
    · exact h.lo p q1 (by omega)
  · rw [ky_swp key m _ _ _ (by omega) (by omega)]
    split
    · exact hb
    · rw [if_neg (by omega)]; exact h.hi p (by omega) q2
theorem Part.done {a e i j x : Nat} {m0 m : List α} (h : Part key (fun k => decide (k < x)) a e i j x m0 m) (he : e ≤ m0.length) (hij : j < i) :
    WP a e m0 (swp m j a) ∧ a ≤ j ∧ j < e ∧ Blw key a j (ky key (swp m j a) j) (swp m j a) ∧ Abv key (j + 1) e (ky key (swp m j a) j) (swp m j a) := by
  have hml := h.w.len
  have i1 := h.i1
  have j1 := h.j1
  have ij := h.ij
  have hx : ky key (swp m j a) j = x := by
    rw [ky_swp key m _ _ _ (by omega) (by omega)]
    split
    · rename_i e; rw [e]; exact h.at_
    · rw [if_pos rfl]; exact h.at_
  refine ⟨h.w.trans (WP.swap (by omega) (by omega) (by omega)), by omega, by omega, fun p q1 q2 => ?_, fun p q1 q2 => ?_⟩
  · rw [hx, ky_swp key m _ _ _ (by omega) (by omega)]
    split
    · have := h.lo j (by omega) (by omega); simp at this; omega
    · rw [if_neg (by omega)]; have := h.lo p (by omega) (by omega); simp at this; omega
  · rw [hx, ky_swp key m _ _ _ (by omega) (by omega), if_neg (by omega), if_neg (by omega)]
    have := h.hi p (by omega) q2; simp at this; omega
theorem Part.doneE {a e i j x : Nat} {m0 m : List α} (h : Part key (fun k => decide (k ≤ x)) a e i j x m0 m) : Blw key a i x m := fun p q1 q2 => by
  by_cases e1 : p = a
  · subst e1; exact Nat.le_of_eq h.at_
  · have := h.lo p (by omega) q2; simpa using this
theorem Part.start (B : Nat → Bool) {a e p : Nat} {m0 : List α} (he : e ≤ m0.length) (hp : a ≤ p ∧ p < e) : Part key B a e (a + 1) (e - 1) (ky key m0 p) m0 (swp m0 a p) :=
  ⟨Nat.le_refl _, by omega, by omega, WP.swap (by omega) (by omega) hp, by
    rw [ky_swp key m0 _ _ _ (by omega) (by omega)]
    split
    · rename_i e; rw [← e]
    · rw [if_pos rfl], fun q q1 q2 => by omega, fun q q1 q2 => by omega⟩
end
theorem i64_up {i : Nat} (h : i ≤ 10000000) : IntKind.i64.wrap ((i : Int) + 1) = ((i + 1 : Nat) : Int) := by rw [i64_in (by omega) (by omega)]; omega
theorem i64_dn {i : Nat} (h : i ≤ 10000000) : IntKind.i64.wrap (((i + 1 : Nat) : Int) - 1) = (i : Int) := by rw [i64_in (by omega) (by omega)]; omega
theorem i64_minus {i j : Nat} (h : i ≤ 10000000) (hj : j ≤ i) : IntKind.i64.wrap ((i : Int) - (j : Int)) = ((i - j : Nat) : Int) := by rw [i64_in (by omega) (by omega)]; omega
theorem i64_plus {i j : Nat} (h : i ≤ 10000000) (hj : j ≤ 10000000) : IntKind.i64.wrap ((i : Int) + (j : Int)) = ((i + j : Nat) : Int) := by rw [i64_in (by omega) (by omega)]; omega
section
variable {α : Type} [Inhabited α] {enc : α → List V} {k : Nat}
/-- Elements of k cells each. -/
structure Elt (k : Nat) (enc : α → List V) : Prop where
  len : ∀ x, (enc x).length = k
  one : ∀ x, ∀ c ∈ enc x, c.one = true
/-- A comparison of elements. -/
structure Cmpr (P : Program) (g : FuncId) (ps qs : List V) (enc : α → List V) (key : α → Nat) (cv : α → α → Int) : Prop where
  call : ∀ x y, HPure P g (ps ++ [.agg (enc x), .agg (enc y)] ++ qs) (I64 (cv x y))
  lt : ∀ x y, cv x y < 0 ↔ key x < key y
abbrev rowE (enc : α → List V) (m : List α) (spare : List V) : Blk := .cells (m.flatMap enc ++ spare)
theorem rowE_len (h : Elt k enc) : ∀ m : List α, (m.flatMap enc).length = m.length * k
  | [] => by simp
  | x :: m => by rw [List.flatMap_cons, List.length_append, h.len, rowE_len h m, List.length_cons, Nat.add_mul]; omega
theorem rowE_at (h : Elt k enc) (spare : List V) : ∀ (m : List α) (i : Nat), i < m.length → ((m.flatMap enc ++ spare).drop (i * k)).take k = enc (at0 m i)
  | [], i, hi => by simp at hi
  | x :: m, 0, _ => by
    rw [List.flatMap_cons, Nat.zero_mul, List.drop_zero, List.append_assoc, ← h.len x, List.take_left]; rfl
  | x :: m, i + 1, hi => by
    rw [List.flatMap_cons, List.append_assoc, show (i + 1) * k = (enc x).length + i * k by rw [h.len, Nat.add_mul]; omega, List.drop_append, List.drop_eq_nil_of_le (by omega), List.nil_append, Nat.add_sub_cancel_left]
    exact rowE_at h spare m i (by simpa using hi)
theorem setL_skip : ∀ (ys xs zs : List V) (i : Nat), setL (xs ++ zs) (xs.length + i) ys = xs ++ setL zs i ys
  | [], xs, zs, i => rfl
  | y :: ys, xs, zs, i => by
    unfold setL
    rw [List.set_append_right _ _ (by omega), Nat.add_sub_cancel_left, Nat.add_assoc, setL_skip ys]
theorem setL_head (xs ys zs : List V) (h : ys.length = xs.length) : setL (xs ++ zs) 0 ys = ys ++ zs := by
  have := setL_append [] ys (xs ++ zs) (by simp; omega)
  rw [List.nil_append, List.nil_append, List.length_nil] at this
  rw [this, h, List.drop_left]
theorem rowE_set (h : Elt k enc) (spare : List V) (y : α) : ∀ (m : List α) (i : Nat), i < m.length → setL (m.flatMap enc ++ spare) (i * k) (enc y) = (m.set i y).flatMap enc ++ spare
  | [], i, hi => by simp at hi
  | x :: m, 0, _ => by
    rw [List.flatMap_cons, Nat.zero_mul, List.append_assoc, setL_head _ _ _ (by rw [h.len, h.len]), List.set_cons_zero, List.flatMap_cons, List.append_assoc]
  | x :: m, i + 1, hi => by
    rw [List.flatMap_cons, List.append_assoc, show (i + 1) * k = (enc x).length + i * k by rw [h.len, Nat.add_mul]; omega, setL_skip, rowE_set h spare y m i (by simpa using hi), List.set_cons_succ, List.flatMap_cons, List.append_assoc]
theorem rowE_swp (h : Elt k enc) (spare : List V) (m : List α) (i j : Nat) (hi : i < m.length) (hj : j < m.length) : setL (setL (m.flatMap enc ++ spare) (i * k) (enc (at0 m j))) (j * k) (enc (at0 m i)) = (swp m i j).flatMap enc ++ spare := by
  rw [rowE_set h spare _ m i hi, rowE_set h spare _ _ j (by simpa using hj)]; rfl
theorem rowE_room2 (h : Elt k enc) (m : List α) (spare : List V) (i j : Nat) (x y : α) (hi : i < m.length) : i * k + (enc x).length ≤ (setL (m.flatMap enc ++ spare) j (enc y)).length := by
  rw [h.len, setL_length, List.length_append, rowE_len h m]
  have : (i + 1) * k ≤ m.length * k := Nat.mul_le_mul_right _ (by omega)
  rw [Nat.add_mul] at this
  omega
theorem rowE_room1 (h : Elt k enc) (m : List α) (spare : List V) (i : Nat) (x : α) (hi : i < m.length) : i * k + (enc x).length ≤ (m.flatMap enc ++ spare).length := by
  rw [h.len, List.length_append, rowE_len h m]
  have : (i + 1) * k ≤ m.length * k := Nat.mul_le_mul_right _ (by omega)
  rw [Nat.add_mul] at this
  omega
theorem rowE_room (h : Elt k enc) (m : List α) (spare : List V) (i : Nat) (hi : i < m.length) : i * k + k ≤ (m.flatMap enc ++ spare).length := by
  rw [List.length_append, rowE_len h m]
  have : (i + 1) * k ≤ m.length * k := Nat.mul_le_mul_right _ (by omega)
  rw [Nat.add_mul] at this
  omega
end
end Go.Proofs.YtociliegljoldaaGreat
