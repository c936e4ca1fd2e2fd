/- The document's trees: its answer to which may be is the program's. -/
import Derived.Test.YtbgagffpmdlilaaR8
namespace Go.Proofs.Ytbgagffpmdlilaa
set_option linter.unusedSimpArgs false
set_option linter.unusedVariables false
open Go.Proofs
attribute [local irreducible] vc vcOps vcDraw vcK vcKP vcDK vcDB HWp HCalls postV Ex.then Ex.inBlock stepD callV appendV guardC guardD exV effV opV loadV storeV indexAddrV indexV sliceV
set_option maxRecDepth 10000
set_option maxHeartbeats 4000000

theorem rounds_mono (m : Nat → Nat → Bool) (k x y : Nat) (h : m x y = true) : roundsM m k x y = true := by
  induction k with
  | zero => exact h
  | succ k ih => simp [roundsM, roundM, ih]
theorem rounds_closed (m : Nat → Nat → Bool) : ∀ k j, 1 ≤ j → j ≤ k → ∀ x y, roundsM m k x j = true → roundsM m k j y = true → roundsM m k x y = true
  | 0, j, h1, h2, _, _, _, _ => absurd h1 (by omega)
  | k + 1, j, h1, h2, x, y, hx, hy => by
    have ih := rounds_closed m k
    simp only [roundsM, roundM, Bool.or_eq_true, Bool.and_eq_true] at hx hy ⊢
    rcases Nat.lt_or_eq_of_le h2 with hj | hj
    · have ih := ih j h1 (by omega)
      rcases hx with hx | ⟨hx1, hx2⟩ <;> rcases hy with hy | ⟨hy1, hy2⟩
      · exact .inl (ih x y hx hy)
      · exact .inr ⟨ih x _ hx hy1, hy2⟩
      · exact .inr ⟨hx1, ih _ y hx2 hy⟩
      · exact .inr ⟨hx1, hy2⟩
    · subst hj
      have hx : roundsM m k x (k + 1) = true := by rcases hx with h | ⟨h, _⟩ <;> exact h
      have hy : roundsM m k (k + 1) y = true := by rcases hy with h | ⟨_, h⟩ <;> exact h
      exact .inr ⟨hx, hy⟩
theorem rch_trans {t : Tr} {w a b c : Int} (h : Rch t w a b) (k : Rch t w b c) : Rch t w a c := by
  induction k with
  | refl => exact h
  | step _ ha hw ih => exact .step ih ha hw
structure InT (t : Tr) (w a b : Int) : Prop where
  ta : t.there a = true
  tb : t.there b = true
  aw : a ≠ w
  bw : b ≠ w
  r : Rch t w a b
theorem base_in {t : Tr} {w : Int} {a b : Nat} (h : t.base w a b = true) : InT t w a b := by
  unfold Tr.base at h
  simp only [Bool.and_eq_true, bne_iff_ne, ne_eq, Bool.or_eq_true, beq_iff_eq] at h
  obtain ⟨⟨⟨⟨h1, h2⟩, h3⟩, h4⟩, h5⟩ := h
  refine ⟨h3, h4, h1, h2, ?_⟩
  rcases h5 with h5 | h5
  · rw [h5]; exact .refl
  · exact .step .refl h5 h2
theorem rounds_in {t : Tr} {w : Int} : ∀ (k : Nat) {a b : Nat}, roundsM (t.base w) k a b = true → InT t w a b
  | 0, _, _, h => base_in h
  | k + 1, a, b, h => by
    simp only [roundsM, roundM, Bool.or_eq_true, Bool.and_eq_true] at h
    rcases h with h | ⟨h1, h2⟩
    · exact rounds_in k h
    · have i1 := rounds_in k h1
      have i2 := rounds_in k h2
      exact ⟨i1.ta, i2.tb, i1.aw, i2.bw, rch_trans i1.r i2.r⟩
theorem in_table {t : Tr} {w a : Int} (ha : t.there a = true) (haw : a ≠ w) {b : Int} (h : Rch t w a b) : t.table w a.toNat b.toNat = true ∧ t.there b = true ∧ b ≠ w := by
  have hn := mem_nums.1 (there_nums ha)
  have ea : ((a.toNat : Nat) : Int) = a := by omega
  induction h with
  | refl =>
    refine ⟨rounds_mono _ _ _ _ ?_, ha, haw⟩
    unfold Tr.base
    rw [ea, ha]
    simp [haw]
  | @step x y hr hadj hyw ih =>
    obtain ⟨i1, i2, i3⟩ := ih
    have hy : t.there y = true := by unfold Tr.adj at hadj; simp only [Bool.and_eq_true] at hadj; exact hadj.1.1.2
    have hxn := mem_nums.1 (there_nums i2)
    have hyn := mem_nums.1 (there_nums hy)
    have ex : ((x.toNat : Nat) : Int) = x := by omega
    have ey : ((y.toNat : Nat) : Int) = y := by omega
    refine ⟨rounds_closed _ 12 x.toNat (by omega) (by omega) _ _ i1 (rounds_mono _ _ _ _ ?_), hy, hyw⟩
    unfold Tr.base
    rw [ex, ey, i2, hy, hadj]
    simp [i3, hyw]
theorem table_iff {t : Tr} {w a b : Int} (ha : a ∈ nums) (hb : b ∈ nums) : t.table w a.toNat b.toNat = true ↔ InT t w a b := by
  have hna := mem_nums.1 ha
  have hnb := mem_nums.1 hb
  refine ⟨fun h => ?_, fun h => (in_table h.ta h.aw h.r).1⟩
  have := rounds_in 12 h
  rwa [show ((a.toNat : Nat) : Int) = a by omega, show ((b.toNat : Nat) : Int) = b by omega] at this
theorem rch_symm {t : Tr} {w a b : Int} (haw : a ≠ w) (h : Rch t w a b) : Rch t w b a := by
  induction h with
  | refl => exact .refl
  | @step x y hr hadj hyw ih =>
    have hxw : x ≠ w := by cases hr with | refl => exact haw | step _ _ q => exact q
    exact rch_trans (.step .refl (by rw [adj_symm]; exact hadj) hxw) ih
theorem nums_all {p : Int → Bool} : nums.all p = true ↔ ∀ x ∈ nums, p x = true := List.all_eq_true
theorem fit_all (t : Tr) (ht : t.Ok) : nums.all t.fit = (t.kindsOk && nums.all t.hung) := by
  have hk : t.kindsOk = nums.all fun n => decide (0 ≤ t.kind n) && decide (t.kind n ≤ 3) := by
    rw [Bool.eq_iff_iff, nums_all]
    unfold Tr.kindsOk
    simp only [Bool.not_eq_true', List.any_eq_false, Bool.or_eq_true, decide_eq_true_eq, Bool.and_eq_true]
    constructor
    · intro h x hx
      have hn := mem_nums.1 hx
      have hm : t.kind x ∈ t.kinds := by
        unfold Tr.kind
        rw [if_pos hn, List.getD_eq_getElem?_getD, List.getElem?_eq_getElem (by rw [ht.k]; omega)]
        exact List.getElem_mem _
      have := h _ hm
      omega
    · intro h k hk
      obtain ⟨i, hi, e⟩ := List.mem_iff_getElem.1 hk
      have hi12 : i < 12 := by rw [ht.k] at hi; exact hi
      have := h ((i : Int) + 1) (mem_nums.2 (by omega))
      have e2 : t.kind ((i : Int) + 1) = k := by
        unfold Tr.kind
        rw [if_pos (by omega), show ((i : Int) + 1 - 1).toNat = i by omega, List.getD_eq_getElem?_getD, List.getElem?_eq_getElem hi, e]; rfl
      rw [e2] at this
      omega
  rw [hk, Bool.eq_iff_iff]
  simp only [Bool.and_eq_true, nums_all, Tr.fit]
  exact ⟨fun h => ⟨fun x hx => (h x hx).1, fun x hx => (h x hx).2⟩, fun h x hx => ⟨h.1 x hx, h.2 x hx⟩⟩
theorem eok_bad (t : Tr) (i : Nat) (hi : i < t.edges.length) : t.eok i = !t.bad i := by
  have hm : t.edges.getD i (0, 0) ∈ t.edges := by
    rw [List.getD_eq_getElem?_getD, List.getElem?_eq_getElem hi]; exact List.getElem_mem _
  unfold Tr.eok Tr.eokK Tr.bad
  generalize t.edges.getD i (0, 0) = e at *
  have hed : t.edge e.1 e.2 = true := List.any_eq_true.2 ⟨e, hm, by simp⟩
  have hd : (t.edges.take i).any (dupE e) = ((t.edges.take i).any (e == ·) || (t.edges.take i).any ((e.2, e.1) == ·)) := by
    rw [Bool.eq_iff_iff]
    simp only [List.any_eq_true, Bool.or_eq_true]
    constructor
    · rintro ⟨f, hf, h⟩
      unfold dupE at h
      simp only [Bool.or_eq_true, Bool.and_eq_true, beq_iff_eq] at h
      rcases h with ⟨h1, h2⟩ | ⟨h1, h2⟩
      · exact .inl ⟨f, hf, by rw [beq_iff_eq]; exact Prod.ext h1 h2⟩
      · exact .inr ⟨f, hf, by rw [beq_iff_eq]; exact Prod.ext h2 h1⟩
    · rintro (⟨f, hf, h⟩ | ⟨f, hf, h⟩)
      · rw [beq_iff_eq] at h
        exact ⟨f, hf, by subst h; unfold dupE; simp⟩
      · rw [beq_iff_eq] at h
        exact ⟨f, hf, by subst h; unfold dupE; simp⟩
  simp only [hd]
  unfold Tr.adj
  rw [hed]
  have hne : (e.2 != e.1) = !(e.1 == e.2) := by
    rw [Bool.eq_iff_iff]; simp only [bne_iff_ne, ne_eq, Bool.not_eq_true', beq_eq_false_iff_ne]
    exact ⟨fun h q => h q.symm, fun h q => h q.symm⟩
  rw [hne]
  cases t.there e.1 <;> cases t.there e.2 <;> cases (e.1 == e.2) <;> cases (t.edges.take i).any (e == ·) <;> cases (t.edges.take i).any ((e.2, e.1) == ·) <;> rfl
theorem rok_eq (t : Tr) (ht : t.Ok) : t.rok = (t.kindsOk && t.edgesOk && nums.all t.hung) := by
  unfold Tr.rok Tr.rokN
  rw [fit_all t ht]
  have : (List.range t.edges.length).all t.eok = t.edgesOk := by
    unfold Tr.edgesOk
    rw [Bool.eq_iff_iff, List.all_eq_true, List.all_eq_true]
    exact ⟨fun h i hi => by rw [← eok_bad t i (List.mem_range.1 hi)]; exact h i hi, fun h i hi => by rw [eok_bad t i (List.mem_range.1 hi)]; exact h i hi⟩
  rw [this]
  cases t.kindsOk <;> cases t.edgesOk <;> cases nums.all t.hung <;> rfl
open Classical in
theorem rright_eq (t : Tr) (ht : t.Ok) : t.rright = t.right := by
  unfold Tr.rright Tr.right
  rw [rok_eq t ht]
  cases hk : t.kindsOk
  · rfl
  cases he : t.edgesOk
  · rfl
  cases hh : nums.all t.hung
  · rfl
  simp only [Bool.and_true, Bool.true_and]
  have hm3 : ∀ x ∈ t.nodes 3, t.there x = true := fun x hx => by
    have := (List.mem_filter.1 hx).2
    simp only [Bool.and_eq_true, beq_iff_eq] at this
    unfold Tr.there; rw [this.2]; rfl
  by_cases ha : t.all = 0
  · have hno : ∀ x, t.there x = false := fun x => by
      cases h : t.there x with
      | false => rfl
      | true =>
        have : x ∈ nums.filter t.there := List.mem_filter.2 ⟨there_nums h, h⟩
        rw [List.eq_nil_of_length_eq_zero ha] at this; cases this
    have hn3 : t.nodes 3 = [] := List.eq_nil_iff_forall_not_mem.2 fun x hx => by
      have := hm3 x hx; rw [hno] at this; cases this
    rw [if_pos ha, hn3]
    have he0 : t.edges.length = 0 := by
      cases hl : t.edges.length with
      | zero => rfl
      | succ n =>
        unfold Tr.edgesOk at he
        rw [List.all_eq_true] at he
        have := he 0 (List.mem_range.2 (by omega))
        unfold Tr.bad at this
        simp [hno] at this
    rw [he0, ha]
  · rw [if_neg ha]
    cases hn : t.nodes 3 with
    | nil => simp [ha]
    | cons s r =>
      have hs : t.there s = true := hm3 s (by rw [hn]; simp)
      have hsn := there_nums hs
      have ne0 : ∀ {x}, t.there x = true → x ≠ 0 := fun h e => by have := mem_nums.1 (there_nums h); omega
      have hsub : ∀ x ∈ t.wset 0 s, t.there x = true := fun x hx => by
        unfold Tr.wset at hx
        have := (List.mem_filter.1 hx).2
        rw [decide_eq_true_eq] at this
        exact (in_table hs (ne0 hs) this).2.1
      have key : (nums.all fun a => nums.all fun b => t.tok a b) = ((t.wset 0 s).length == t.all) := by
        rw [Bool.eq_iff_iff, nums_all, beq_iff_eq]
        have hw : t.wset 0 s = (nums.filter t.there).filter fun x => decide (x ∈ t.wset 0 s) := by
          rw [List.filter_filter]
          conv => lhs; unfold Tr.wset
          refine List.filter_congr fun x hx => ?_
          rw [Bool.eq_iff_iff]
          simp only [Bool.and_eq_true, decide_eq_true_eq]
          unfold Tr.wset
          exact ⟨fun h => ⟨List.mem_filter.2 ⟨hx, by simpa using h⟩, (in_table hs (ne0 hs) h).2.1⟩, fun h => by simpa using (List.mem_filter.1 h.1).2⟩
        constructor
        · intro h
          unfold Tr.all
          rw [hw, List.length_filter_eq_length_iff.2]
          intro x hx
          have hxt := (List.mem_filter.1 hx).2
          have hxn := (List.mem_filter.1 hx).1
          have := nums_all.1 (h s hsn) x hxn
          unfold Tr.tok at this
          rw [hs, hxt] at this
          simp only [Bool.not_true, Bool.false_or] at this
          rw [decide_eq_true_eq]
          exact List.mem_filter.2 ⟨hxn, by simpa using ((table_iff hsn hxn).1 this).r⟩
        · intro h a ha'
          rw [nums_all]
          intro b hb'
          unfold Tr.tok
          cases hta : t.there a with
          | false => rfl
          | true =>
            cases htb : t.there b with
            | false => rfl
            | true =>
              simp only [Bool.not_true, Bool.false_or]
              rw [hw] at h
              have hall := List.length_filter_eq_length_iff.1 h
              have h1 := hall a (List.mem_filter.2 ⟨ha', hta⟩)
              have h2 := hall b (List.mem_filter.2 ⟨hb', htb⟩)
              rw [decide_eq_true_eq] at h1 h2
              have r1 : Rch t 0 s a := by simpa using (List.mem_filter.1 h1).2
              have r2 : Rch t 0 s b := by simpa using (List.mem_filter.1 h2).2
              exact (table_iff ha' hb').2 ⟨hta, htb, ne0 hta, ne0 htb, rch_trans (rch_symm (ne0 hs) r1) r2⟩
      rw [key]
      have : decide (0 < (s :: r).length) = true := by simp
      rw [this, Bool.and_true]
      exact Bool.and_comm _ _
end Go.Proofs.Ytbgagffpmdlilaa
