/- Subscriptions: their bytes, cut or with one more, are none's. -/
import Derived.Test.YtbgagffpmdlilaaP12
namespace Go.Proofs.Ytbgagffpmdlilaa
set_option linter.unusedSimpArgs false
set_option linter.unusedVariables false
open Go.Proofs
attribute [local irreducible] vc vcOps vcDraw vcK vcKP vcDK vcDB HWp HCalls postV Ex.then Ex.inBlock stepD callV appendV guardC guardD exV effV opV loadV storeV indexAddrV indexV sliceV
set_option maxRecDepth 10000
set_option maxHeartbeats 4000000

/-- An argument is told as less. -/
theorem HCalls.arg {P : Program} {f : FuncId} {x y : V} {σ τ : Store} {Q : Res → Store → Prop} (hw : Weakens x σ y τ) (h : HCalls P f [y] τ Q) : HCalls P f [x] σ Q := by
  unfold HCalls at h ⊢
  intro I w vs hs hv
  obtain ⟨vs⟩ := vs
  have hl : 1 = vs.length := hv.len
  match vs, hl with
  | [v], _ =>
    obtain ⟨J, j1, j2, j3⟩ := hw I w _ hs hv.head
    exact (h J w ⟨[v]⟩ j2 (LR.cons j3 (LR.nil _))).mono fun e w' ⟨hb, I', σ', h1, h2, h3⟩ => ⟨hb, I', σ', Imm.le_trans j1 h1, h2, h3⟩
theorem decF_ext (t : List UInt8) : ∀ (bs : List UInt8) (f : Bool) (n m : Nat) (r : List UInt8), decF f n bs = .ok (m, r) → decF f n (bs ++ t) = .ok (m, r ++ t)
  | [], f, n, m, r, h => by cases h
  | c :: bs, f, n, m, r, h => by
    rw [List.cons_append]
    unfold decF at h ⊢
    split
    · rename_i h1; rw [if_pos h1] at h; cases h
    · rename_i h1; rw [if_neg h1] at h
      split
      · rename_i h2; rw [if_pos h2] at h; cases h
      · rename_i h2; rw [if_neg h2] at h
        split
        · rename_i h3; rw [if_pos h3] at h; cases h; rfl
        · rename_i h3; rw [if_neg h3] at h; exact decF_ext t bs _ _ _ _ h
theorem pSm_ext {m n : Nat} {bs r : List UInt8} (t : List UInt8) (h : pSm m bs = .ok (n, r)) : pSm m (bs ++ t) = .ok (n, r ++ t) := by
  unfold pSm at h ⊢
  cases hd : decN bs with
  | error e => rw [hd] at h; cases h
  | ok a =>
    obtain ⟨k, r1⟩ := a
    rw [hd] at h
    simp only at h
    rw [show decN (bs ++ t) = .ok (k, r1 ++ t) from decF_ext t bs _ _ _ _ hd]
    simp only
    split at h
    · rename_i hk; cases h; rw [if_pos hk]
    · cases h
theorem pNs_ext (t : List UInt8) : ∀ (k : Nat) (l : List Nat) (cs : List UInt8) (x : List Nat) (r : List UInt8), pNs k l cs = .ok (x, r) → pNs k l (cs ++ t) = .ok (x, r ++ t)
  | 0, l, cs, x, r, h => by unfold pNs at h ⊢; cases h; rfl
  | k + 1, l, cs, x, r, h => by
    unfold pNs at h ⊢
    cases hd : pSm 12 cs with
    | error e => rw [hd] at h; cases h
    | ok a =>
      obtain ⟨y, r1⟩ := a
      rw [hd] at h
      rw [pSm_ext t hd]
      exact pNs_ext t k _ _ _ _ h
theorem pSub_ext {n : Int} {cs r : List UInt8} {x : Int × List Int} (t : List UInt8) (h : pSub n cs = .ok (x, r)) : pSub n (cs ++ t) = .ok (x, r ++ t) := by
  unfold pSub at h ⊢
  cases h1 : pSm 3 cs with
  | error e => rw [h1] at h; cases h
  | ok a =>
    obtain ⟨u, r1⟩ := a
    rw [h1] at h; rw [pSm_ext t h1]
    simp only at h ⊢
    cases h2 : pSm 12 r1 with
    | error e => rw [h2] at h; cases h
    | ok a =>
      obtain ⟨k, r2⟩ := a
      rw [h2] at h; rw [pSm_ext t h2]
      simp only at h ⊢
      cases h3 : pNs k [] r2 with
      | error e => rw [h3] at h; cases h
      | ok a =>
        obtain ⟨l, r3⟩ := a
        rw [h3] at h; rw [pNs_ext t _ _ _ _ _ h3]
        simp only at h ⊢
        split at h
        · rename_i hq; cases h; rw [if_pos hq]
        · cases h
theorem pSubs_ext (n : Int) (t : List UInt8) : ∀ (k : Nat) (s : Subs) (cs : List UInt8) (x : Subs) (r : List UInt8), pSubs n k s cs = .ok (x, r) → pSubs n k s (cs ++ t) = .ok (x, r ++ t)
  | 0, s, cs, x, r, h => by unfold pSubs at h ⊢; cases h; rfl
  | k + 1, s, cs, x, r, h => by
    unfold pSubs at h ⊢
    cases hd : pSub n cs with
    | error e => rw [hd] at h; cases h
    | ok a =>
      obtain ⟨y, r1⟩ := a
      rw [hd] at h
      rw [pSub_ext t hd]
      exact pSubs_ext n t k _ _ _ _ h
theorem pPeers_ext {cs r : List UInt8} {x : Int × Subs} (t : List UInt8) (h : pPeers cs = .ok (x, r)) : pPeers (cs ++ t) = .ok (x, r ++ t) := by
  unfold pPeers at h ⊢
  cases h1 : pSm 12 cs with
  | error e => rw [h1] at h; cases h
  | ok a =>
    obtain ⟨n, r1⟩ := a
    rw [h1] at h; rw [pSm_ext t h1]
    simp only at h ⊢
    split at h
    · cases h
    · rename_i hn
      rw [if_neg hn]
      cases h2 : pSubs n 12 Sub0 r1 with
      | error e => rw [h2] at h; cases h
      | ok a =>
        obtain ⟨s, r2⟩ := a
        rw [h2] at h; rw [pSubs_ext _ t _ _ _ _ _ h2]
        simp only at h ⊢
        cases h; rfl
theorem good_right {n : Int} {p : Int × List Int} (h : Good21 n p) : rightS n p = true := by
  obtain ⟨v, l⟩ := p
  obtain ⟨⟨ha, hb⟩, hp, hn, h0, h1⟩ := h
  simp only at ha hb hp hn h0 h1
  unfold rightS
  rw [Bool.and_eq_true]
  constructor
  · rw [List.all_eq_true]
    intro i hi
    have hi : i < l.length := List.mem_range.1 hi
    have hm : l[i] ∈ l := List.getElem_mem hi
    have hb := hp.b _ hm
    have e : l.getD i 0 = l[i] := by rw [List.getD_eq_getElem?_getD, List.getElem?_eq_getElem hi]; rfl
    have hne : l[i] ≠ n := fun q => hn (q ▸ hm)
    unfold stepB otherB
    rw [e]
    have h1 : nodeB l[i] = true := nodeB_iff.2 hb
    rw [h1]
    simp only [Bool.true_and, Bool.and_eq_true, bne_iff_ne, ne_eq, Bool.not_eq_true', Bool.and_eq_false_iff, decide_eq_false_iff_not]
    refine ⟨hne, ?_⟩
    rcases Nat.eq_zero_or_pos i with rfl | hi0
    · left; omega
    · right
      have := List.pairwise_iff_getElem.1 hp.lt (i - 1) i (by omega) hi (by omega)
      rw [List.getD_eq_getElem?_getD, List.getElem?_eq_getElem (by omega)]
      simp only [Option.getD_some]
      omega
  · simp only
    split
    · rename_i e; rw [h0 e]; rfl
    · split
      · rfl
      · rw [h1 (by omega)]; rfl
theorem good_inv {n : Int} {s : Subs} (h : ∀ i, Good21 n (s i)) : PInv n s := ⟨⟨fun i => (h i).st, fun i => (h i).pe⟩, fun i => good_right (h i)⟩
theorem peB_pos (n : Int) (s : Subs) : 0 < (peB n s).length := by
  unfold peB
  rw [List.length_append]
  have : 0 < (numB n.toNat).length := by unfold numB; simp
  omega
theorem loaded_cut {n : Int} {s : Subs} (hn : 0 < n ∧ n ≤ 12) (hs : PInv n s) (σ : Store) : Loaded ((peB n s).take ((peB n s).length - 1)) σ = Ends nilP σ := by
  have hw := pPeers_read hn hs []
  rw [List.append_nil] at hw
  have hp := peB_pos n s
  generalize peB n s = bs at *
  have hsp : bs = bs.take (bs.length - 1) ++ bs.drop (bs.length - 1) := (List.take_append_drop _ _).symm
  unfold Loaded
  cases hq : pPeers (bs.take (bs.length - 1)) with
  | error e => rfl
  | ok a =>
    exfalso
    obtain ⟨x, r⟩ := a
    have := pPeers_ext (bs.drop (bs.length - 1)) hq
    rw [← hsp, hw] at this
    injection this with this
    injection this with _ h2
    have := congrArg List.length h2
    rw [List.length_nil, List.length_append, List.length_drop] at this
    omega
theorem loaded_more {n : Int} {s : Subs} (hn : 0 < n ∧ n ≤ 12) (hs : PInv n s) (c : UInt8) (σ : Store) : Loaded (peB n s ++ [c]) σ = Ends nilP σ := by
  unfold Loaded
  rw [pPeers_read hn hs [c]]
end Go.Proofs.Ytbgagffpmdlilaa
