/- Subscriptions: an op, and what it tells. -/
import Derived.Test.YtbgagffpmdlilaaP10
namespace Go.Proofs.Ytbgagffpmdlilaa
set_option linter.unusedSimpArgs false
set_option linter.unusedVariables false
open Go.Proofs
attribute [local irreducible] vc vcOps vcDraw vcK vcKP vcDK vcDB HWp HCalls postV Ex.then Ex.inBlock stepD callV appendV guardC guardD exV effV opV loadV storeV indexAddrV indexV sliceV
set_option maxRecDepth 10000
set_option maxHeartbeats 4000000

structure O21 where
  k : Int
  s : Int
  n : Int
  y : Bool
def O21.cs (o : O21) : List V := [I64 o.k, I64 o.s, I64 o.n, BV o.y]
def opV21 (o : O21) : V := .agg o.cs
def numI (b : Bool) : Int := if b = true then 1 else 0
/-- What an op tells, and what is behind it. -/
def opR (n : Int) (s : Subs) (o : O21) : Int × Subs :=
  if o.k = 0 then pFoundR s o.s
  else if o.k = 1 then pJoinR n s o.s o.n
  else if o.k = 2 then (numI (pAskedR n s o.s o.n).1, (pAskedR n s o.s o.n).2)
  else if o.k = 3 then pJoinedR s o.s o.n o.y
  else if o.k = 4 then (IntKind.i64.wrap (IntKind.i64.wrap (100 * (pLeaveR s o.s).1) + (pLeaveR s o.s).2.1), (pLeaveR s o.s).2.2)
  else if o.k = 5 then (numI (pLeavingR s o.s o.n).1, (pLeavingR s o.s o.n).2)
  else if o.k = 6 then pLeftR s o.s o.n o.y
  else (0, s)
def putS (s : Subs) (i : Nat) (p : Int × List Int) : Subs := setSu s i p.1 p.2
theorem put_self (s : Subs) (i : Nat) : putS s i (s i) = s := by funext j; unfold putS setSu; split; rename_i h; rw [h]; rfl
theorem put_st (s : Subs) (i : Nat) (v : Int) : setSt s i v = putS s i (v, (s i).2) := by funext j; unfold putS setSu setSt; split; rename_i h; rw [h]; rfl
theorem put_pe (s : Subs) (i : Nat) (l : List Int) : setPe s i l = putS s i ((s i).1, l) := by funext j; unfold putS setSu setPe; split; rename_i h; rw [h]; rfl
theorem put_su (s : Subs) (i : Nat) (v : Int) (l : List Int) : setSu s i v l = putS s i (v, l) := rfl
/-- An op at one subscription. -/
def opL (n : Int) (p : Int × List Int) (o : O21) : Int × Int × List Int :=
  if o.k = 0 then (if p.1 = 0 then (0, 2, p.2) else (10, p))
  else if o.k = 1 then (if (nodeB o.n && o.n != n) = true then (if p.1 = 0 then (0, 1, [o.n]) else (10, p)) else (11, p))
  else if o.k = 2 then (if (p.1 == 2 && ((nodeB o.n && o.n != n) && !decide (o.n ∈ p.2))) = true then (1, p.1, insS o.n p.2) else (0, p))
  else if o.k = 3 then (if (p.1 == 1 && p.2 == [o.n]) = true then (if o.y = true then (0, 2, p.2) else (0, 0, [])) else (7, p))
  else if o.k = 4 then (if p.1 = 0 then (4, p) else if p.1 ≠ 2 then (15, p) else if p.2.length ≠ 1 then (7, p) else (IntKind.i64.wrap (IntKind.i64.wrap (100 * p.2.getD 0 0) + 0), 3, p.2))
  else if o.k = 5 then (if (p.1 == 2 && decide (o.n ∈ p.2)) = true then (1, p.1, remS o.n p.2) else (0, p))
  else if o.k = 6 then (if (p.1 == 3 && p.2 == [o.n]) = true then (if o.y = true then (0, 0, []) else (0, 2, p.2)) else (7, p))
  else (0, p)
def opN (o : O21) : Int := if o.k = 0 then 12 else if o.k = 1 then 12 else if o.k = 2 then 0 else if o.k = 3 then 7 else if o.k = 4 then 12 else if o.k = 5 then 0 else if o.k = 6 then 7 else 0
def ix (o : O21) : Nat := (o.s - 1).toNat
theorem opR_in {n : Int} {s : Subs} {o : O21} (hx : nodeB o.s = true) : opR n s o = ((opL n (s (ix o)) o).1, putS s (ix o) (opL n (s (ix o)) o).2) := by
  have hs := put_self s (ix o)
  unfold ix at *
  unfold opR opL
  by_cases h0 : o.k = 0
  · rw [if_pos h0, if_pos h0]; unfold pFoundR; rw [if_pos hx]
    split
    · rw [put_st]
    · simp only; rw [hs]
  rw [if_neg h0, if_neg h0]
  by_cases h1 : o.k = 1
  · rw [if_pos h1, if_pos h1]; unfold pJoinR; rw [if_pos hx]
    split
    · split
      · rw [put_su]
      · simp only; rw [hs]
    · simp only; rw [hs]
  rw [if_neg h1, if_neg h1]
  by_cases h2 : o.k = 2
  · rw [if_pos h2, if_pos h2]; unfold pAskedR; rw [hx, Bool.true_and]
    split
    · rw [put_pe]; rfl
    · simp only; rw [hs]; rfl
  rw [if_neg h2, if_neg h2]
  by_cases h3 : o.k = 3
  · rw [if_pos h3, if_pos h3]; unfold pJoinedR isS; rw [hx, Bool.true_and]
    split
    · split
      · rw [put_st]
      · rw [put_su]
    · simp only; rw [hs]
  rw [if_neg h3, if_neg h3]
  by_cases h4 : o.k = 4
  · rw [if_pos h4, if_pos h4]; unfold pLeaveR; rw [if_pos hx]
    split
    · simp only; rw [hs]; rfl
    · split
      · simp only; rw [hs]; rfl
      · split
        · simp only; rw [hs]; rfl
        · rw [put_st]
  rw [if_neg h4, if_neg h4]
  by_cases h5 : o.k = 5
  · rw [if_pos h5, if_pos h5]; unfold pLeavingR; rw [hx, Bool.true_and]
    split
    · rw [put_pe]; rfl
    · simp only; rw [hs]; rfl
  rw [if_neg h5, if_neg h5]
  by_cases h6 : o.k = 6
  · rw [if_pos h6, if_pos h6]; unfold pLeftR isS; rw [hx, Bool.true_and]
    split
    · split
      · rw [put_su]
      · rw [put_st]
    · simp only; rw [hs]
  rw [if_neg h6, if_neg h6]
  simp only; rw [hs]
theorem opR_out {n : Int} {s : Subs} {o : O21} (hx : nodeB o.s ≠ true) : opR n s o = (opN o, s) := by
  have hf := Bool.eq_false_iff.2 hx
  unfold opR opN
  by_cases h0 : o.k = 0
  · rw [if_pos h0, if_pos h0]; unfold pFoundR; rw [if_neg hx]
  rw [if_neg h0, if_neg h0]
  by_cases h1 : o.k = 1
  · rw [if_pos h1, if_pos h1]; unfold pJoinR; rw [if_neg hx]
  rw [if_neg h1, if_neg h1]
  by_cases h2 : o.k = 2
  · rw [if_pos h2, if_pos h2]; unfold pAskedR; rw [hf, Bool.false_and, if_neg (by decide)]; rfl
  rw [if_neg h2, if_neg h2]
  by_cases h3 : o.k = 3
  · rw [if_pos h3, if_pos h3]; unfold pJoinedR isS; rw [hf, Bool.false_and, if_neg (by decide)]
  rw [if_neg h3, if_neg h3]
  by_cases h4 : o.k = 4
  · rw [if_pos h4, if_pos h4]; unfold pLeaveR; rw [if_neg hx]; rfl
  rw [if_neg h4, if_neg h4]
  by_cases h5 : o.k = 5
  · rw [if_pos h5, if_pos h5]; unfold pLeavingR; rw [hf, Bool.false_and, if_neg (by decide)]; rfl
  rw [if_neg h5, if_neg h5]
  by_cases h6 : o.k = 6
  · rw [if_pos h6, if_pos h6]; unfold pLeftR isS; rw [hf, Bool.false_and, if_neg (by decide)]
  rw [if_neg h6, if_neg h6]
/-- A subscription that may be. -/
structure Good21 (n : Int) (p : Int × List Int) : Prop where
  st : 0 ≤ p.1 ∧ p.1 ≤ 3
  pe : Srt p.2
  ne : n ∉ p.2
  ln : (p.1 = 0 → p.2 = []) ∧ ((p.1 = 1 ∨ p.1 = 3) → p.2.length = 1)
theorem one_Srt {f : Int} (h : nodeB f = true) : Srt [f] := ⟨by simp, by simp; exact nodeB_iff.1 h⟩
theorem opL_good {n : Int} {p : Int × List Int} {o : O21} (h : Good21 n p) : Good21 n (opL n p o).2 := by
  obtain ⟨v, l⟩ := p
  obtain ⟨⟨ha, hb⟩, hp, hn, h0, h1⟩ := h
  simp only at ha hb hp hn h0 h1
  have hnil : Good21 n (0, []) := ⟨by decide, nil_srt, by simp, fun _ => rfl, by decide⟩
  have hsame : Good21 n (v, l) := ⟨⟨ha, hb⟩, hp, hn, h0, h1⟩
  have hst : ∀ {k : Int}, k = 2 ∨ (k = 3 ∧ l.length = 1) → Good21 n (k, l) := fun {k} q => ⟨by simp only; omega, hp, hn, fun e => by simp only at e; omega, fun e => by rcases q with q | q; simp only at e; omega; exact q.2⟩
  unfold opL
  simp only
  split
  · split
    · exact hst (.inl rfl)
    · exact hsame
  split
  · split
    · rename_i hq
      split
      · rw [Bool.and_eq_true] at hq
        exact ⟨by simp, one_Srt hq.1, by simp at hq ⊢; exact fun e => hq.2 e.symm, by simp, by simp⟩
      · exact hsame
    · exact hsame
  split
  · split
    · rename_i hq
      simp only [Bool.and_eq_true, beq_iff_eq, bne_iff_ne, ne_eq] at hq
      refine ⟨⟨ha, hb⟩, insS_srt _ _, fun hm => ?_, fun e => by simp only at e; omega, fun e => by simp only at e; omega⟩
      unfold insS at hm
      have := (List.mem_filter.1 hm).2
      simp only [Bool.or_eq_true, decide_eq_true_eq, beq_iff_eq] at this
      rcases this with q | q
      · exact hn q
      · exact hq.2.1.2 q.symm
    · exact hsame
  split
  · split
    · split
      · exact hst (.inl rfl)
      · exact hnil
    · exact hsame
  split
  · split
    · exact hsame
    · split
      · exact hsame
      · split
        · exact hsame
        · rename_i hq; exact hst (.inr ⟨rfl, by simpa using hq⟩)
  split
  · split
    · rename_i hq
      simp only [Bool.and_eq_true, beq_iff_eq] at hq
      exact ⟨⟨ha, hb⟩, remS_srt hp, fun hm => hn (List.mem_filter.1 hm).1, fun e => by simp only at e; omega, fun e => by simp only at e; omega⟩
    · exact hsame
  split
  · split
    · split
      · exact hnil
      · exact hst (.inl rfl)
    · exact hsame
  exact hsame
theorem opR_good {n : Int} {s : Subs} {o : O21} (h : ∀ i, Good21 n (s i)) : ∀ i, Good21 n ((opR n s o).2 i) := fun i => by
  by_cases hx : nodeB o.s = true
  · rw [opR_in hx]
    unfold putS setSu
    simp only
    split
    · exact opL_good (h _)
    · exact h i
  · rw [opR_out hx]; exact h i
theorem sub0_good (n : Int) : ∀ i, Good21 n (Sub0 i) := fun _ => ⟨by simp [Sub0], nil_srt, by simp [Sub0], fun _ => rfl, by simp [Sub0]⟩
/-- Alike at a seller. -/
def Sim (x : Int) (s t : Subs) : Prop := nodeB x = true → s (x - 1).toNat = t (x - 1).toNat
theorem sim_same {n x : Int} {s t : Subs} {o : O21} (h : Sim x s t) (e : o.s = x) : (opR n s o).1 = (opR n t o).1 ∧ Sim x (opR n s o).2 (opR n t o).2 := by
  subst e
  by_cases hx : nodeB o.s = true
  · rw [opR_in hx, opR_in hx]
    have := h hx
    unfold ix
    rw [this]
    exact ⟨rfl, fun _ => by unfold putS setSu; simp only [if_true]⟩
  · rw [opR_out hx, opR_out hx]; exact ⟨rfl, h⟩
theorem sim_other {n x : Int} {s t : Subs} {o : O21} (h : Sim x s t) (e : o.s ≠ x) : Sim x (opR n s o).2 t := by
  by_cases hx : nodeB o.s = true
  · rw [opR_in hx]
    intro hy
    have a := nodeB_iff.1 hx
    have b := nodeB_iff.1 hy
    unfold putS setSu ix
    simp only
    rw [if_neg (by omega)]
    exact h hy
  · rw [opR_out hx]; exact h
end Go.Proofs.Ytbgagffpmdlilaa
