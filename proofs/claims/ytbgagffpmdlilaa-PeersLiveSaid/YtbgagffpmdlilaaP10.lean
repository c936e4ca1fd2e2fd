/- Subscriptions: their bytes are read as they; fixed calls. -/
import Derived.Test.YtbgagffpmdlilaaP9
namespace Go.Proofs.Ytbgagffpmdlilaa
set_option linter.unusedSimpArgs false
set_option linter.unusedVariables false
open Go.Proofs
attribute [local irreducible] vc vcOps vcDraw vcK vcKP vcDK vcDB HWp HCalls postV Ex.then Ex.inBlock stepD callV appendV guardC guardD exV effV opV loadV storeV indexAddrV indexV sliceV
set_option maxRecDepth 10000
set_option maxHeartbeats 4000000

theorem pNs_read : ∀ (l pre : List Nat) (r : List UInt8), (∀ y ∈ l, y ≤ 12) → pNs l.length pre (l.flatMap numB ++ r) = .ok (pre ++ l, r)
  | [], pre, r, _ => by simp [pNs]
  | y :: l, pre, r, h => by
    rw [List.length_cons, List.flatMap_cons, pNs, List.append_assoc, psm_num (h y (by simp)) (by decide)]
    simp only
    rw [pNs_read l _ r fun x hx => h x (by simp [hx])]
    simp
structure PInv (n : Int) (s : Subs) : Prop where
  ok : SOk s
  r : ∀ i, rightS n (s i) = true
theorem pSub_read {n : Int} {p : Int × List Int} (h0 : 0 ≤ p.1 ∧ p.1 ≤ 3) (hs : Srt p.2) (hr : rightS n p = true) (r : List UInt8) : pSub n (subB p ++ r) = .ok (p, r) := by
  have hnat : natL (p.2.map Int.toNat) = p.2 := by
    unfold natL
    rw [List.map_map]
    conv => rhs; rw [← List.map_id p.2]
    refine List.map_congr_left fun y hy => ?_
    have := hs.b y hy
    show ((y.toNat : Nat) : Int) = y
    omega
  have hfl : (p.2.flatMap fun y => numB y.toNat) = (p.2.map Int.toNat).flatMap numB := by rw [List.flatMap_map]
  have hl : (p.2.map Int.toNat).length = p.2.length := by simp
  unfold pSub subB
  rw [List.append_assoc, List.append_assoc, psm_num (by omega) (by decide)]
  simp only
  rw [psm_num hs.len (by decide)]
  simp only
  rw [hfl, ← hl, pNs_read _ [] r fun y hy => by obtain ⟨z, hz, rfl⟩ := List.mem_map.1 hy; have := hs.b z hz; omega]
  simp only [List.nil_append, hnat]
  have e : (((p.1.toNat : Nat) : Int), p.2) = p := by rw [show ((p.1.toNat : Nat) : Int) = p.1 by omega]
  rw [e, if_pos hr]
def cutS (s : Subs) (a b : Nat) (o : Subs) : Subs := fun i => if a ≤ i ∧ i < b then s i else o i
theorem pSubs_read {n : Int} {s : Subs} (hs : PInv n s) : ∀ (k : Nat) (o : Subs) (r : List UInt8), k ≤ 12 → pSubs n k o (((List.range' (12 - k) k).flatMap fun i => subB (s i)) ++ r) = .ok (cutS s (12 - k) 12 o, r)
  | 0, o, r, _ => by
    have : cutS s (12 - 0) 12 o = o := by funext i; unfold cutS; rw [if_neg (by omega)]
    rw [this]; simp [pSubs]
  | k + 1, o, r, hk => by
    have e1 : 12 - (k + 1) + 1 = 12 - k := by omega
    rw [List.range'_succ, List.flatMap_cons, List.append_assoc, pSubs, pSub_read (hs.ok.st _) (hs.ok.pe _) (hs.r _)]
    simp only
    rw [e1, pSubs_read hs k _ r (by omega), show 11 - k = 12 - (k + 1) by omega]
    congr 2
    funext i
    unfold cutS setSu
    by_cases hi : i = 12 - (k + 1)
    · subst hi
      rw [if_neg (by omega), if_pos rfl, if_pos (by omega)]
    · by_cases h2 : 12 - k ≤ i ∧ i < 12
      · rw [if_pos h2, if_pos (by omega)]
      · rw [if_neg h2, if_neg hi, if_neg (by omega)]
theorem pPeers_read {n : Int} {s : Subs} (hn : 0 < n ∧ n ≤ 12) (hs : PInv n s) (r : List UInt8) : pPeers (peB n s ++ r) = .ok ((n, cutS s 0 12 Sub0), r) := by
  unfold pPeers peB subsB
  rw [List.append_assoc, psm_num (by omega) (by decide)]
  simp only
  rw [if_neg (by omega)]
  have := pSubs_read hs 12 Sub0 r (Nat.le_refl _)
  rw [List.range_eq_range', show ((n.toNat : Nat) : Int) = n by omega]
  rw [this]
theorem peC_cut (n : Int) (s : Subs) : peC n (cutS s 0 12 Sub0) = peC n s := by
  have : suT (cutS s 0 12 Sub0) = suT s := List.map_congr_left fun k hk => by
    have hk := List.mem_range.1 hk
    have e : cutS s 0 12 Sub0 (k / 2) = s (k / 2) := by unfold cutS; rw [if_pos (by omega)]
    unfold suV
    rw [e]
  unfold peC
  rw [this]
theorem loaded_ok {n : Int} {s : Subs} (hn : 0 < n ∧ n ≤ 12) (hs : PInv n s) (σ : Store) : Loaded (peB n s) σ = EndsNew (fun b => .ptr b 0) (.cells (peC n s)) σ := by
  have := pPeers_read hn hs []
  rw [List.append_nil] at this
  unfold Loaded
  rw [this]
  simp only [peC_cut]
theorem num_pure (p : Bool) : HPure Try.prog 40 [BV p] (I64 (if p = true then 1 else 0)) := by
  (refine HPure.of en40 fun σ => ?_); (refine HCalls.of_vc Try.func40 rfl ?_; rw [Try.ntmps40, Try.results40]; simp only [List.length_cons, List.length_nil, Nat.reduceAdd, Nat.reduceSub, List.replicate, List.cons_append, List.nil_append])
  (repeat (first | refine Stp.s ?_ | refine inBlock_exit' (by decide) ?_ | ((first | refine vc_region fun K KP hK hKP => ?_ | refine Stg.s ?_ | refine guardD_ret0 ?_ | refine exV_intro _ rfl ?_); (try simp only [go_sem, loadL_a]); try ((first | refine hK _ _ ?_ | refine hKP _ _ _ ?_ | refine hKP _ _ (fun _ => ?_)); clear hK hKP K KP))))
  refine vc_cond rfl (fun hc => ?_) (fun hc => ?_)
  · (repeat (first | refine Stp.s ?_ | refine inBlock_exit' (by decide) ?_ | ((first | refine vc_region fun K KP hK hKP => ?_ | refine Stg.s ?_ | refine guardD_ret0 ?_ | refine exV_intro _ rfl ?_); (try simp only [go_sem, loadL_a]); try ((first | refine hK _ _ ?_ | refine hKP _ _ _ ?_ | refine hKP _ _ (fun _ => ?_)); clear hK hKP K KP))))
    (simp only [postV, resV, oneOf, List.getD_cons_succ, List.getD_cons_zero, and_true, true_and])
    exact Ends.le (by rw [if_pos hc]) (Store.le_refl _)
  · (repeat (first | refine Stp.s ?_ | refine inBlock_exit' (by decide) ?_ | ((first | refine vc_region fun K KP hK hKP => ?_ | refine Stg.s ?_ | refine guardD_ret0 ?_ | refine exV_intro _ rfl ?_); (try simp only [go_sem, loadL_a]); try ((first | refine hK _ _ ?_ | refine hKP _ _ _ ?_ | refine hKP _ _ (fun _ => ?_)); clear hK hKP K KP))))
    (simp only [postV, resV, oneOf, List.getD_cons_succ, List.getD_cons_zero, and_true, true_and])
    exact Ends.le (by rw [if_neg (by rw [hc]; decide)]) (Store.le_refl _)
def a1 : Subs := setSt Sub0 2 2
def a2 : Subs := setPe a1 2 [2]
def a3 : Subs := setSt a2 2 3
def a4 : Subs := setSu a3 2 0 []
def a5 : Subs := setSu a4 3 1 [2]
def a6 : Subs := setSt a5 3 2
def a7 : Subs := setPe a6 3 []
theorem r1 : pFoundR Sub0 3 = (0, a1) := rfl
theorem r2 : pLeaveR a1 3 = (0, 7, a1) := rfl
theorem r3 : pAskedR 1 a1 3 2 = (true, a2) := rfl
theorem r4 : pAskedR 1 a2 3 2 = (false, a2) := rfl
theorem r5 : pLeaveR a2 3 = (2, 0, a3) := rfl
theorem r6 : pLeftR a3 3 2 true = (0, a4) := rfl
theorem r7 : pJoinR 1 a4 4 2 = (0, a5) := rfl
theorem r8 : pJoinedR a5 4 2 true = (0, a6) := rfl
theorem r9 : pLeavingR a6 4 2 = (true, a7) := rfl
theorem small_srt : Srt [2] := ⟨by simp, by simp⟩
theorem nil_srt : Srt [] := ⟨List.Pairwise.nil, by simp⟩
theorem sub_cases (i : Nat) : i = 2 ∨ i = 3 ∨ (i ≠ 2 ∧ i ≠ 3) := by omega
theorem a1_srt : ∀ i, Srt (a1 i).2 := fun i => by unfold a1 setSt Sub0; split <;> exact nil_srt
theorem a2_srt : ∀ i, Srt (a2 i).2 := fun i => by unfold a2 setPe; split; exact small_srt; exact a1_srt i
theorem a6_inv : PInv 1 a6 := ⟨⟨fun i => by
  rcases sub_cases i with rfl | rfl | ⟨h1, h2⟩
  · exact ⟨by decide, by decide⟩
  · exact ⟨by decide, by decide⟩
  · simp [a6, a5, a4, a3, a2, a1, setSt, setSu, setPe, Sub0, h1, h2], fun i => by
  rcases sub_cases i with rfl | rfl | ⟨h1, h2⟩
  · exact nil_srt
  · exact small_srt
  · simp [a6, a5, a4, a3, a2, a1, setSt, setSu, setPe, Sub0, h1, h2]; exact nil_srt⟩, fun i => by
  rcases sub_cases i with rfl | rfl | ⟨h1, h2⟩
  · decide
  · decide
  · have : a6 i = (0, []) := by simp [a6, a5, a4, a3, a2, a1, setSt, setSu, setPe, Sub0, h1, h2]
    rw [this]; decide⟩

theorem alive21 : HPure Try.prog 32 [] (BV true) := by
  (refine HPure.of en32 fun σ => ?_); (refine HCalls.of_vc Try.func32 rfl ?_; rw [Try.ntmps32, Try.results32]; simp only [List.length_cons, List.length_nil, Nat.reduceAdd, Nat.reduceSub, List.replicate, List.cons_append, List.nil_append])
  (repeat (first | refine Stp.s ?_ | refine inBlock_exit' (by decide) ?_ | ((first | refine vc_region fun K KP hK hKP => ?_ | refine Stg.s ?_ | refine guardD_ret0 ?_ | refine exV_intro _ rfl ?_); (try simp only [go_sem, loadL_a]); try ((first | refine hK _ _ ?_ | refine hKP _ _ _ ?_ | refine hKP _ _ (fun _ => ?_)); clear hK hKP K KP))))
  refine callV_new en28 (pnew_ok 1 (by decide) σ) (fun b hb => ?_)
  have h0 := Store.set_same σ b (.cells (peC 1 Sub0))
  have kle : ∀ k, σ.le (σ.set b k) := fun k => Store.le_set hb (Store.le_refl σ)
  ((try simp only [go_sem, loadL_a]); (try ((first | refine hK _ _ ?_ | refine hKP _ _ _ ?_ | refine hKP _ _ (fun _ => ?_)); clear hK hKP K KP)); repeat (first | refine Stp.s ?_ | refine inBlock_exit' (by decide) ?_ | ((first | refine vc_region fun K KP hK hKP => ?_ | refine Stg.s ?_ | refine guardD_ret0 ?_ | refine exV_intro _ rfl ?_); (try simp only [go_sem, loadL_a]); try ((first | refine hK _ _ ?_ | refine hKP _ _ _ ?_ | refine hKP _ _ (fun _ => ?_)); clear hK hKP K KP))))
  ((try simp only [go_sem, loadL_a]); first | refine callV_pure (pnew_no 0 (by decide)) ?_ | refine guardC_q0 (fun _ => callV_pure (pnew_no 0 (by decide)) ⟨rfl, rfl⟩) ?_)
  ((try simp only [go_sem, loadL_a]); (try ((first | refine hK _ _ ?_ | refine hKP _ _ _ ?_ | refine hKP _ _ (fun _ => ?_)); clear hK hKP K KP)); repeat (first | refine Stp.s ?_ | refine inBlock_exit' (by decide) ?_ | ((first | refine vc_region fun K KP hK hKP => ?_ | refine Stg.s ?_ | refine guardD_ret0 ?_ | refine exV_intro _ rfl ?_); (try simp only [go_sem, loadL_a]); try ((first | refine hK _ _ ?_ | refine hKP _ _ _ ?_ | refine hKP _ _ (fun _ => ?_)); clear hK hKP K KP))))
  refine callV_ends en33 (pFound b _ 1 Sub0 h0 (by decide) 3) ?_
  rw [r1, Store.set_set]
  have h1 := Store.set_same σ b (.cells (peC 1 a1))
  ((try simp only [go_sem, loadL_a]); (try ((first | refine hK _ _ ?_ | refine hKP _ _ _ ?_ | refine hKP _ _ (fun _ => ?_)); clear hK hKP K KP)); repeat (first | refine Stp.s ?_ | refine inBlock_exit' (by decide) ?_ | ((first | refine vc_region fun K KP hK hKP => ?_ | refine Stg.s ?_ | refine guardD_ret0 ?_ | refine exV_intro _ rfl ?_); (try simp only [go_sem, loadL_a]); try ((first | refine hK _ _ ?_ | refine hKP _ _ _ ?_ | refine hKP _ _ (fun _ => ?_)); clear hK hKP K KP))))
  refine callV_ends en37 (pLeave b _ 1 a1 h1 (by decide) 3) ?_
  rw [r2, Store.set_set]
  ((try simp only [go_sem, loadL_a]); (try ((first | refine hK _ _ ?_ | refine hKP _ _ _ ?_ | refine hKP _ _ (fun _ => ?_)); clear hK hKP K KP)); repeat (first | refine Stp.s ?_ | refine inBlock_exit' (by decide) ?_ | ((first | refine vc_region fun K KP hK hKP => ?_ | refine Stg.s ?_ | refine guardD_ret0 ?_ | refine exV_intro _ rfl ?_); (try simp only [go_sem, loadL_a]); try ((first | refine hK _ _ ?_ | refine hKP _ _ _ ?_ | refine hKP _ _ (fun _ => ?_)); clear hK hKP K KP))))
  refine callV_ends en35 (pAsked b _ 1 a1 h1 (by decide) a1_srt 3 2) ?_
  rw [r3, Store.set_set]
  have h2 := Store.set_same σ b (.cells (peC 1 a2))
  ((try simp only [go_sem, loadL_a]); (try ((first | refine hK _ _ ?_ | refine hKP _ _ _ ?_ | refine hKP _ _ (fun _ => ?_)); clear hK hKP K KP)); repeat (first | refine Stp.s ?_ | refine inBlock_exit' (by decide) ?_ | ((first | refine vc_region fun K KP hK hKP => ?_ | refine Stg.s ?_ | refine guardD_ret0 ?_ | refine exV_intro _ rfl ?_); (try simp only [go_sem, loadL_a]); try ((first | refine hK _ _ ?_ | refine hKP _ _ _ ?_ | refine hKP _ _ (fun _ => ?_)); clear hK hKP K KP))))
  refine callV_ends en35 (pAsked b _ 1 a2 h2 (by decide) a2_srt 3 2) ?_
  rw [r4, Store.set_set]
  ((try simp only [go_sem, loadL_a]); (try ((first | refine hK _ _ ?_ | refine hKP _ _ _ ?_ | refine hKP _ _ (fun _ => ?_)); clear hK hKP K KP)); repeat (first | refine Stp.s ?_ | refine inBlock_exit' (by decide) ?_ | ((first | refine vc_region fun K KP hK hKP => ?_ | refine Stg.s ?_ | refine guardD_ret0 ?_ | refine exV_intro _ rfl ?_); (try simp only [go_sem, loadL_a]); try ((first | refine hK _ _ ?_ | refine hKP _ _ _ ?_ | refine hKP _ _ (fun _ => ?_)); clear hK hKP K KP))))
  refine callV_ends en37 (pLeave b _ 1 a2 h2 (by decide) 3) ?_
  rw [r5, Store.set_set]
  have h3 := Store.set_same σ b (.cells (peC 1 a3))
  ((try simp only [go_sem, loadL_a]); (try ((first | refine hK _ _ ?_ | refine hKP _ _ _ ?_ | refine hKP _ _ (fun _ => ?_)); clear hK hKP K KP)); repeat (first | refine Stp.s ?_ | refine inBlock_exit' (by decide) ?_ | ((first | refine vc_region fun K KP hK hKP => ?_ | refine Stg.s ?_ | refine guardD_ret0 ?_ | refine exV_intro _ rfl ?_); (try simp only [go_sem, loadL_a]); try ((first | refine hK _ _ ?_ | refine hKP _ _ _ ?_ | refine hKP _ _ (fun _ => ?_)); clear hK hKP K KP))))
  refine callV_ends en39 (pLeft b _ 1 a3 h3 (by decide) 3 2 true) ?_
  rw [r6, Store.set_set]
  have h4 := Store.set_same σ b (.cells (peC 1 a4))
  ((try simp only [go_sem, loadL_a]); (try ((first | refine hK _ _ ?_ | refine hKP _ _ _ ?_ | refine hKP _ _ (fun _ => ?_)); clear hK hKP K KP)); repeat (first | refine Stp.s ?_ | refine inBlock_exit' (by decide) ?_ | ((first | refine vc_region fun K KP hK hKP => ?_ | refine Stg.s ?_ | refine guardD_ret0 ?_ | refine exV_intro _ rfl ?_); (try simp only [go_sem, loadL_a]); try ((first | refine hK _ _ ?_ | refine hKP _ _ _ ?_ | refine hKP _ _ (fun _ => ?_)); clear hK hKP K KP))))
  refine callV_ends en34 (pJoin b _ 1 a4 h4 (by decide) 4 2) ?_
  rw [r7, Store.set_set]
  have h5 := Store.set_same σ b (.cells (peC 1 a5))
  ((try simp only [go_sem, loadL_a]); (try ((first | refine hK _ _ ?_ | refine hKP _ _ _ ?_ | refine hKP _ _ (fun _ => ?_)); clear hK hKP K KP)); repeat (first | refine Stp.s ?_ | refine inBlock_exit' (by decide) ?_ | ((first | refine vc_region fun K KP hK hKP => ?_ | refine Stg.s ?_ | refine guardD_ret0 ?_ | refine exV_intro _ rfl ?_); (try simp only [go_sem, loadL_a]); try ((first | refine hK _ _ ?_ | refine hKP _ _ _ ?_ | refine hKP _ _ (fun _ => ?_)); clear hK hKP K KP))))
  refine callV_ends en36 (pJoined b _ 1 a5 h5 (by decide) 4 2 true) ?_
  rw [r8, Store.set_set]
  have h6 := Store.set_same σ b (.cells (peC 1 a6))
  have hle6 := kle (.cells (peC 1 a6))
  ((try simp only [go_sem, loadL_a]); (try ((first | refine hK _ _ ?_ | refine hKP _ _ _ ?_ | refine hKP _ _ (fun _ => ?_)); clear hK hKP K KP)); repeat (first | refine Stp.s ?_ | refine inBlock_exit' (by decide) ?_ | ((first | refine vc_region fun K KP hK hKP => ?_ | refine Stg.s ?_ | refine guardD_ret0 ?_ | refine exV_intro _ rfl ?_); (try simp only [go_sem, loadL_a]); try ((first | refine hK _ _ ?_ | refine hKP _ _ _ ?_ | refine hKP _ _ (fun _ => ?_)); clear hK hKP K KP))))
  refine callV_quiet en41 (save21 b _ 1 a6 (by decide) a6_inv.ok h6) ?_
  have hlen : (peB 1 a6).length ≤ 1000000 := by
    have := subsB_len (fun i => (a6_inv.ok.pe i).len) 12
    have l1 := numB_len (1 : Int).toNat
    unfold peB; rw [List.length_append]; omega
  have hlen2 : ∀ p : Prop, ((⟨(peB 1 a6).toArray⟩ : ByteArray).size ≤ maxLen ∧ p) = p := fun p => by
    rw [maxLen_i]; exact propext ⟨fun h => h.2, fun h => ⟨by show (peB 1 a6).length ≤ _; omega, h⟩⟩
  clear h0 h1 h2 h3 h4 h5 kle
  generalize σ.set b (.cells (peC 1 a6)) = σ6 at *
  ((try simp only [go_sem, loadL_a, hlen2]); (try ((first | refine hK _ _ ?_ | refine hKP _ _ _ ?_ | refine hKP _ _ (fun _ => ?_)); clear hK hKP K KP)); repeat (first | refine Stp.s ?_ | refine inBlock_exit' (by decide) ?_ | ((first | refine vc_region fun K KP hK hKP => ?_ | refine Stg.s ?_ | refine guardD_ret0 ?_ | refine exV_intro _ rfl ?_); (try simp only [go_sem, loadL_a, hlen2]); try ((first | refine hK _ _ ?_ | refine hKP _ _ _ ?_ | refine hKP _ _ (fun _ => ?_)); clear hK hKP K KP))))
  refine callV_new en42 (by have := pload (peB 1 a6) (by omega) σ6; rw [loaded_ok (by decide) a6_inv] at this; exact this) (fun c hc => ?_)
  have q6 := Store.set_same σ6 c (.cells (peC 1 a6))
  have hb7 := Store.keep hc h6 (.cells (peC 1 a6))
  have hle7 := Store.le_set hc hle6 (k := .cells (peC 1 a6))
  generalize σ6.set c _ = σ7 at *
  ((try simp only [go_sem, loadL_a]); (try ((first | refine hK _ _ ?_ | refine hKP _ _ _ ?_ | refine hKP _ _ (fun _ => ?_)); clear hK hKP K KP)); repeat (first | refine Stp.s ?_ | refine inBlock_exit' (by decide) ?_ | ((first | refine vc_region fun K KP hK hKP => ?_ | refine Stg.s ?_ | refine guardD_ret0 ?_ | refine exV_intro _ rfl ?_); (try simp only [go_sem, loadL_a]); try ((first | refine hK _ _ ?_ | refine hKP _ _ _ ?_ | refine hKP _ _ (fun _ => ?_)); clear hK hKP K KP))))
  refine callV_quiet en30 (pOf c σ7 1 a6 q6 (by decide) a6_inv.ok.pe 4) ?_
  rw [show peOf a6 4 = [2] from rfl]
  ((try simp only [go_sem, loadL_a, nc0, nc1, nc2, nc3, nz0, nz1, nz2, nq1, nq2, nq3, nq4, nq5, Int.le_refl, beq_self_eq_true]); (try ((first | refine hK _ _ ?_ | refine hKP _ _ _ ?_ | refine hKP _ _ (fun _ => ?_)); clear hK hKP K KP)); repeat (first | refine Stp.s ?_ | refine inBlock_exit' (by decide) ?_ | ((first | refine vc_region fun K KP hK hKP => ?_ | refine Stg.s ?_ | refine guardD_ret0 ?_ | refine exV_intro _ rfl ?_); (try simp only [go_sem, loadL_a, nc0, nc1, nc2, nc3, nz0, nz1, nz2, nq1, nq2, nq3, nq4, nq5, Int.le_refl, beq_self_eq_true]); try ((first | refine hK _ _ ?_ | refine hKP _ _ _ ?_ | refine hKP _ _ (fun _ => ?_)); clear hK hKP K KP))))
  refine callV_quiet en31 (pState b σ7 1 a6 hb7 (by decide) 3) ?_
  rw [show stOf a6 3 = 0 from rfl]
  ((try simp only [go_sem, loadL_a, nc0, nc1, nc2, nc3, nz0, nz1, nz2, nq1, nq2, nq3, nq4, nq5, Int.le_refl, beq_self_eq_true]); (try ((first | refine hK _ _ ?_ | refine hKP _ _ _ ?_ | refine hKP _ _ (fun _ => ?_)); clear hK hKP K KP)); repeat (first | refine Stp.s ?_ | refine inBlock_exit' (by decide) ?_ | ((first | refine vc_region fun K KP hK hKP => ?_ | refine Stg.s ?_ | refine guardD_ret0 ?_ | refine exV_intro _ rfl ?_); (try simp only [go_sem, loadL_a, nc0, nc1, nc2, nc3, nz0, nz1, nz2, nq1, nq2, nq3, nq4, nq5, Int.le_refl, beq_self_eq_true]); try ((first | refine hK _ _ ?_ | refine hKP _ _ _ ?_ | refine hKP _ _ (fun _ => ?_)); clear hK hKP K KP))))
  refine callV_quiet en31 (pState c σ7 1 a6 q6 (by decide) 4) ?_
  rw [show stOf a6 4 = 2 from rfl]
  ((try simp only [go_sem, loadL_a, nc0, nc1, nc2, nc3, nz0, nz1, nz2, nq1, nq2, nq3, nq4, nq5, Int.le_refl, beq_self_eq_true]); (try ((first | refine hK _ _ ?_ | refine hKP _ _ _ ?_ | refine hKP _ _ (fun _ => ?_)); clear hK hKP K KP)); repeat (first | refine Stp.s ?_ | refine inBlock_exit' (by decide) ?_ | ((first | refine vc_region fun K KP hK hKP => ?_ | refine Stg.s ?_ | refine guardD_ret0 ?_ | refine exV_intro _ rfl ?_); (try simp only [go_sem, loadL_a, nc0, nc1, nc2, nc3, nz0, nz1, nz2, nq1, nq2, nq3, nq4, nq5, Int.le_refl, beq_self_eq_true]); try ((first | refine hK _ _ ?_ | refine hKP _ _ _ ?_ | refine hKP _ _ (fun _ => ?_)); clear hK hKP K KP))))
  refine callV_quiet en47 (pSellers b σ7 1 a6 hb7 (by decide)) ?_
  rw [show sellersOf a6 = [4] from rfl]
  ((try simp only [go_sem, loadL_a, nc0, nc1, nc2, nc3, nz0, nz1, nz2, nq1, nq2, nq3, nq4, nq5, Int.le_refl, beq_self_eq_true]); (try ((first | refine hK _ _ ?_ | refine hKP _ _ _ ?_ | refine hKP _ _ (fun _ => ?_)); clear hK hKP K KP)); repeat (first | refine Stp.s ?_ | refine inBlock_exit' (by decide) ?_ | ((first | refine vc_region fun K KP hK hKP => ?_ | refine Stg.s ?_ | refine guardD_ret0 ?_ | refine exV_intro _ rfl ?_); (try simp only [go_sem, loadL_a, nc0, nc1, nc2, nc3, nz0, nz1, nz2, nq1, nq2, nq3, nq4, nq5, Int.le_refl, beq_self_eq_true]); try ((first | refine hK _ _ ?_ | refine hKP _ _ _ ?_ | refine hKP _ _ (fun _ => ?_)); clear hK hKP K KP))))
  refine callV_ends en38 (pLeaving b σ7 1 a6 hb7 (by decide) a6_inv.ok.pe 4 2) ?_
  rw [r9]
  have hbσ : σ b = none := hb
  ((try simp only [go_sem, loadL_a, nc0, nc1, nc2, nc3, nz0, nz1, nz2, nq1, nq2, nq3, nq4, nq5, Int.le_refl, beq_self_eq_true]); (try ((first | refine hK _ _ ?_ | refine hKP _ _ _ ?_ | refine hKP _ _ (fun _ => ?_)); clear hK hKP K KP)); repeat (first | refine Stp.s ?_ | refine inBlock_exit' (by decide) ?_ | ((first | refine vc_region fun K KP hK hKP => ?_ | refine Stg.s ?_ | refine guardD_ret0 ?_ | refine exV_intro _ rfl ?_); (try simp only [go_sem, loadL_a, nc0, nc1, nc2, nc3, nz0, nz1, nz2, nq1, nq2, nq3, nq4, nq5, Int.le_refl, beq_self_eq_true]); try ((first | refine hK _ _ ?_ | refine hKP _ _ _ ?_ | refine hKP _ _ (fun _ => ?_)); clear hK hKP K KP))))
  (simp only [postV, resV, oneOf, List.getD_cons_succ, List.getD_cons_zero, and_true, true_and])
  exact Ends.le rfl (Store.le_over hbσ hle7)
end Go.Proofs.Ytbgagffpmdlilaa
