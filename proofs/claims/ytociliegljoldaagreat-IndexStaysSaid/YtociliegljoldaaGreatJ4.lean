/- A label read. -/
import Derived.Test.YtociliegljoldaaGreatJ3
namespace Go.Proofs.YtociliegljoldaaGreat
set_option linter.unusedSimpArgs false
set_option linter.unusedVariables false
open Go.Proofs
attribute [local irreducible] vc vcOps vcDraw vcK vcKP vcDK vcDB HWp HCalls postV Ex.then Ex.inBlock stepD callV appendV guardC guardD exV effV opV loadV storeV indexAddrV indexV sliceV
set_option maxRecDepth 10000
set_option maxHeartbeats 4000000

theorem pSm_inv {m n : Nat} {bs r : List UInt8} (h : pSm m bs = .ok (n, r)) : n ≤ m ∧ bs = numB n ++ r := by
  unfold pSm at h
  cases hd : decN bs with
  | error e => rw [hd] at h; cases h
  | ok a =>
    obtain ⟨n', r'⟩ := a
    rw [hd] at h
    simp only at h
    split at h
    · rename_i hle
      simp only [Except.ok.injEq, Prod.mk.injEq] at h
      obtain ⟨rfl, rfl⟩ := h
      exact ⟨hle, (num_of_dec hd).2⟩
    · cases h
theorem pSm_num {m n : Nat} (h : n ≤ m) (hm : m < 18446744073709551616) (r : List UInt8) : pSm m (numB n ++ r) = .ok (n, r) := by
  unfold pSm
  rw [dec_num (by omega)]
  simp only [if_pos h]
theorem pVs_inv : ∀ {n : Nat} {vs : List Nat} {bs r : List UInt8} {v : List Nat}, pVs n vs bs = .ok (v, r) → vs.length + n ≤ 12 → (∀ x ∈ vs, x < 4294967296) →
    ∃ us, us.length = n ∧ v = padV (vs ++ us) ∧ bs = us.flatMap numB ++ r ∧ (∀ x ∈ vs ++ us, x < 4294967296) ∧ ((vs ++ us).length = 0 ∨ 0 < (vs ++ us).getD ((vs ++ us).length - 1) 0)
  | 0, vs, bs, r, v, h, hl, hs => by
    unfold pVs at h
    split at h
    · rename_i hc
      simp only [Except.ok.injEq, Prod.mk.injEq] at h
      obtain ⟨rfl, rfl⟩ := h
      exact ⟨[], rfl, by rw [List.append_nil], rfl, by rw [List.append_nil]; exact hs, by rw [List.append_nil]; exact hc⟩
    · cases h
  | n + 1, vs, bs, r, v, h, hl, hs => by
    unfold pVs at h
    cases hp : pSm 4294967295 bs with
    | error e => rw [hp] at h; cases h
    | ok a =>
      obtain ⟨k, r'⟩ := a
      rw [hp] at h
      simp only at h
      obtain ⟨hk, rfl⟩ := pSm_inv hp
      obtain ⟨us, h1, h2, h3, h4, h5⟩ := pVs_inv h (by simp; omega) (fun x hx => by
        rcases List.mem_append.1 hx with q | q
        · exact hs x q
        · simp only [List.mem_singleton] at q; omega)
      rw [List.append_assoc] at h2 h4 h5
      refine ⟨k :: us, by simp [h1], h2, ?_, h4, h5⟩
      rw [h3, List.flatMap_cons, List.append_assoc]
theorem pVec_inv {bs r : List UInt8} {v : List Nat} (h : pVec bs = .ok (v, r)) : v.length = 12 ∧ (∀ x ∈ v, x < 4294967296) ∧ r.length ≤ bs.length := by
  unfold pVec at h
  cases hp : pSm 12 bs with
  | error e => rw [hp] at h; cases h
  | ok a =>
    obtain ⟨n, r'⟩ := a
    rw [hp] at h
    simp only at h
    obtain ⟨hn, rfl⟩ := pSm_inv hp
    obtain ⟨us, h1, rfl, rfl, h4, _⟩ := pVs_inv h (by simp; omega) (by simp)
    rw [List.nil_append] at *
    refine ⟨padV_len us (by omega), fun x hx => ?_, by simp only [List.length_append]; omega⟩
    unfold padV at hx
    rcases List.mem_append.1 hx with q | q
    · exact h4 x q
    · rw [(List.mem_replicate.1 q).2]; decide
/-- What Get reads: a label. -/
def pLab (bs : List UInt8) : Except (Int × List UInt8) (Lb × List UInt8) := match decN bs with
  | .error e => .error e
  | .ok (t, r1) => match pSm 12 r1 with
    | .error e => .error e
    | .ok (nd, r2) => match pSm 1048576 r2 with
      | .error e => .error e
      | .ok (k, r3) => match pSm 12 r3 with
        | .error e => .error e
        | .ok (c, r4) => match pSm 12 r4 with
          | .error e => .error e
          | .ok (s, r5) => match pVec r5 with
            | .error e => .error e
            | .ok (d, r6) => if Lb.right ⟨t, nd, k, c, s, d⟩ = true then .ok (⟨t, nd, k, c, s, d⟩, r6) else .error (3, r6)
theorem pLab_inv {bs r : List UInt8} {l : Lb} (h : pLab bs = .ok (l, r)) : LbArg l ∧ l.right = true ∧ r.length ≤ bs.length := by
  unfold pLab at h
  cases h1 : decN bs with
  | error e => rw [h1] at h; cases h
  | ok a1 =>
    obtain ⟨t, r1⟩ := a1
    rw [h1] at h; simp only at h
    obtain ⟨ht, rfl⟩ := num_of_dec h1
    cases h2 : pSm 12 r1 with
    | error e => rw [h2] at h; cases h
    | ok a2 =>
      obtain ⟨nd, r2⟩ := a2
      rw [h2] at h; simp only at h
      obtain ⟨hnd, rfl⟩ := pSm_inv h2
      cases h3 : pSm 1048576 r2 with
      | error e => rw [h3] at h; cases h
      | ok a3 =>
        obtain ⟨k, r3⟩ := a3
        rw [h3] at h; simp only at h
        obtain ⟨hk, rfl⟩ := pSm_inv h3
        cases h4 : pSm 12 r3 with
        | error e => rw [h4] at h; cases h
        | ok a4 =>
          obtain ⟨c, r4⟩ := a4
          rw [h4] at h; simp only at h
          obtain ⟨hc, rfl⟩ := pSm_inv h4
          cases h5 : pSm 12 r4 with
          | error e => rw [h5] at h; cases h
          | ok a5 =>
            obtain ⟨s, r5⟩ := a5
            rw [h5] at h; simp only at h
            obtain ⟨hs, rfl⟩ := pSm_inv h5
            cases h6 : pVec r5 with
            | error e => rw [h6] at h; cases h
            | ok a6 =>
              obtain ⟨d, r6⟩ := a6
              rw [h6] at h; simp only at h
              obtain ⟨hd1, hd2, hd3⟩ := pVec_inv h6
              split at h
              · rename_i hr
                simp only [Except.ok.injEq, Prod.mk.injEq] at h
                obtain ⟨rfl, rfl⟩ := h
                exact ⟨⟨⟨hd1, by show k < _; omega⟩, by simp only; omega, ht, by simp only; omega, by simp only; omega, hd2⟩, hr, by simp only [List.length_append]; omega⟩
              · cases h
/-- Memory while one reads: the reader, a block of one's own, and what there was. -/
def RdSt (σ : Store) (br b2 : Nat) (Z : Blk) (τ : Store) (cs : List UInt8) : Prop := τ br = some (rdr cs) ∧ τ b2 = some Z ∧ ∀ c l, σ c = some l → c ≠ br → τ c = some l
theorem RdSt.set {σ τ : Store} {br b2 : Nat} {Z : Blk} {cs cs' : List UInt8} (h : RdSt σ br b2 Z τ cs) (hne : b2 ≠ br) : RdSt σ br b2 Z (τ.set br (rdr cs')) cs' :=
  ⟨Store.set_same _ _ _, by rw [Store.set_other _ _ hne]; exact h.2.1, fun c l hc hn => by rw [Store.set_other _ _ hn]; exact h.2.2 c l hc hn⟩
theorem RdSt.err {σ τ : Store} {br b2 : Nat} {Z : Blk} {cs : List UInt8} {e : Int} (h : RdSt σ br b2 Z τ cs) : Res.pan (flt e) = Res.pan (flt e) ∧ (σ.set br (rdr cs)).le τ := ⟨rfl, fun c l hc => by
    by_cases hcb : c = br
    · subst hcb; rw [Store.set_same] at hc; rw [h.1]; exact hc
    · rw [Store.set_other _ _ hcb] at hc; exact h.2.2 c l hc hcb⟩
def lab0 : List V := Lb.cs ⟨0, 0, 0, 0, 0, zeroN⟩
theorem lab_call : RdC 176 [] (fun bs => match pLab bs with | .ok (l, r) => .ok (l.v, r) | .error e => .error e) := by
  refine RdC.of en176 (fun σ br bs hb hl => ?_)
  (refine HCalls.of_vc Tryz.func176 rfl ?_; rw [Tryz.ntmps176, Tryz.results176]; simp only [List.length_cons, List.length_nil, Nat.reduceAdd, Nat.reduceSub, List.replicate, List.cons_append, List.nil_append])
  (repeat (first | refine Stp.s ?_ | refine inBlock_exit' (by decide) ?_ | ((first | refine vc_region fun K KP hK hKP => ?_ | refine Stg.s ?_ | refine guardD_ret0 ?_ | refine exV_intro _ rfl ?_); (try simp only [go_sem, loadL_a]); try ((first | refine hK _ _ ?_ | refine hKP _ _ _ ?_ | refine hKP _ _ (fun _ => ?_)); clear hK hKP K KP))))
  intro b2 hb2
  have hb2r : b2 ≠ br := fun e => by rw [e, hb] at hb2; cases hb2
  have R0 : RdSt σ br b2 (.cells lab0) (σ.set b2 (.cells lab0)) bs := ⟨Store.keep hb2 hb _, Store.set_same _ _ _, fun c l h _ => Store.keep hb2 h _⟩
  show K _ (σ.set b2 (.cells lab0))
  generalize σ.set b2 (.cells lab0) = τ0 at *
  ((try simp only [go_sem, loadL_a]); (try ((first | refine hK _ _ ?_ | refine hKP _ _ _ ?_ | refine hKP _ _ (fun _ => ?_)); clear hK hKP K KP)); repeat (first | refine Stp.s ?_ | refine inBlock_exit' (by decide) ?_ | ((first | refine vc_region fun K KP hK hKP => ?_ | refine Stg.s ?_ | refine guardD_ret0 ?_ | refine exV_intro _ rfl ?_); (try simp only [go_sem, loadL_a]); try ((first | refine hK _ _ ?_ | refine hKP _ _ _ ?_ | refine hKP _ _ (fun _ => ?_)); clear hK hKP K KP))))
  have l0 : bs.length ≤ 1000000000 := by omega
  refine callV_rd num_call R0.1 l0 (fun v r1 hs => ?_) (fun e rest hs => ?_)
  rotate_left
  · have hp : pLab bs = .error (e, rest) := by
      unfold pNum at hs
      unfold pLab
      cases hd : decN bs with
      | error e' => rw [hd] at hs; cases hs; rfl
      | ok a => rw [hd] at hs; cases hs
    ((try simp only [go_sem, loadL_a]); (try ((first | refine hK _ _ ?_ | refine hKP _ _ _ ?_ | refine hKP _ _ (fun _ => ?_)); clear hK hKP K KP)); repeat (first | refine Stp.s ?_ | refine inBlock_exit' (by decide) ?_ | ((first | refine vc_region fun K KP hK hKP => ?_ | refine Stg.s ?_ | refine guardD_ret0 ?_ | refine exV_intro _ rfl ?_); (try simp only [go_sem, loadL_a]); try ((first | refine hK _ _ ?_ | refine hKP _ _ _ ?_ | refine hKP _ _ (fun _ => ?_)); clear hK hKP K KP))))
    (simp only [postV, resV, oneOf, List.getD_cons_succ, List.getD_cons_zero, and_true, true_and])
    rw [hp]
    exact (R0.set hb2r).err
  obtain ⟨t, h1, rfl⟩ : ∃ t, decN bs = .ok (t, r1) ∧ v = U64 t := by
    unfold pNum at hs
    cases hd : decN bs with
    | error e' => rw [hd] at hs; cases hs
    | ok a => rw [hd] at hs; cases hs; exact ⟨_, rfl, rfl⟩
  clear hs
  have hr1 : r1.length ≤ bs.length := by have := (num_of_dec h1).2; rw [this, List.length_append]; omega
  have R1 := R0.set (cs' := r1) hb2r
  generalize τ0.set br (rdr r1) = τ1 at *
  ((try simp only [go_sem, loadL_a]); (try ((first | refine hK _ _ ?_ | refine hKP _ _ _ ?_ | refine hKP _ _ (fun _ => ?_)); clear hK hKP K KP)); repeat (first | refine Stp.s ?_ | refine inBlock_exit' (by decide) ?_ | ((first | refine vc_region fun K KP hK hKP => ?_ | refine Stg.s ?_ | refine guardD_ret0 ?_ | refine exV_intro _ rfl ?_); (try simp only [go_sem, loadL_a]); try ((first | refine hK _ _ ?_ | refine hKP _ _ _ ?_ | refine hKP _ _ (fun _ => ?_)); clear hK hKP K KP))))
  have l1 : r1.length ≤ 1000000000 := by omega
  refine callV_sm (by decide) R1.1 l1 (fun nd r2 h2 hm2 hr2 => ?_) (fun e rest h2 => ?_)
  rotate_left
  · have hp : pLab bs = .error (e, rest) := by unfold pLab; rw [h1]; simp only; rw [h2]
    ((try simp only [go_sem, loadL_a]); (try ((first | refine hK _ _ ?_ | refine hKP _ _ _ ?_ | refine hKP _ _ (fun _ => ?_)); clear hK hKP K KP)); repeat (first | refine Stp.s ?_ | refine inBlock_exit' (by decide) ?_ | ((first | refine vc_region fun K KP hK hKP => ?_ | refine Stg.s ?_ | refine guardD_ret0 ?_ | refine exV_intro _ rfl ?_); (try simp only [go_sem, loadL_a]); try ((first | refine hK _ _ ?_ | refine hKP _ _ _ ?_ | refine hKP _ _ (fun _ => ?_)); clear hK hKP K KP))))
    (simp only [postV, resV, oneOf, List.getD_cons_succ, List.getD_cons_zero, and_true, true_and])
    rw [hp]
    exact (R1.set hb2r).err
  have hm2 : nd ≤ 12 := hm2
  have R2 := R1.set (cs' := r2) hb2r
  generalize τ1.set br (rdr r2) = τ2 at *
  ((try simp only [go_sem, loadL_a]); (try ((first | refine hK _ _ ?_ | refine hKP _ _ _ ?_ | refine hKP _ _ (fun _ => ?_)); clear hK hKP K KP)); repeat (first | refine Stp.s ?_ | refine inBlock_exit' (by decide) ?_ | ((first | refine vc_region fun K KP hK hKP => ?_ | refine Stg.s ?_ | refine guardD_ret0 ?_ | refine exV_intro _ rfl ?_); (try simp only [go_sem, loadL_a]); try ((first | refine hK _ _ ?_ | refine hKP _ _ _ ?_ | refine hKP _ _ (fun _ => ?_)); clear hK hKP K KP))))
  have l2 : r2.length ≤ 1000000000 := by omega
  refine callV_sm (by decide) R2.1 l2 (fun k r3 h3 hm3 hr3 => ?_) (fun e rest h3 => ?_)
  rotate_left
  · have hp : pLab bs = .error (e, rest) := by unfold pLab; rw [h1]; simp only; rw [h2]; simp only; rw [h3]
    ((try simp only [go_sem, loadL_a]); (try ((first | refine hK _ _ ?_ | refine hKP _ _ _ ?_ | refine hKP _ _ (fun _ => ?_)); clear hK hKP K KP)); repeat (first | refine Stp.s ?_ | refine inBlock_exit' (by decide) ?_ | ((first | refine vc_region fun K KP hK hKP => ?_ | refine Stg.s ?_ | refine guardD_ret0 ?_ | refine exV_intro _ rfl ?_); (try simp only [go_sem, loadL_a]); try ((first | refine hK _ _ ?_ | refine hKP _ _ _ ?_ | refine hKP _ _ (fun _ => ?_)); clear hK hKP K KP))))
    (simp only [postV, resV, oneOf, List.getD_cons_succ, List.getD_cons_zero, and_true, true_and])
    rw [hp]
    exact (R2.set hb2r).err
  have hm3 : k ≤ 1048576 := hm3
  have R3 := R2.set (cs' := r3) hb2r
  generalize τ2.set br (rdr r3) = τ3 at *
  have wk : IntKind.u32.wrap (k : Int) = ((k : Nat) : Int) := u32_in (by omega) (by omega)
  ((try simp only [go_sem, loadL_a, wk]); (try ((first | refine hK _ _ ?_ | refine hKP _ _ _ ?_ | refine hKP _ _ (fun _ => ?_)); clear hK hKP K KP)); repeat (first | refine Stp.s ?_ | refine inBlock_exit' (by decide) ?_ | ((first | refine vc_region fun K KP hK hKP => ?_ | refine Stg.s ?_ | refine guardD_ret0 ?_ | refine exV_intro _ rfl ?_); (try simp only [go_sem, loadL_a, wk]); try ((first | refine hK _ _ ?_ | refine hKP _ _ _ ?_ | refine hKP _ _ (fun _ => ?_)); clear hK hKP K KP))))
  have l3 : r3.length ≤ 1000000000 := by omega
  refine callV_sm (by decide) R3.1 l3 (fun c r4 h4 hm4 hr4 => ?_) (fun e rest h4 => ?_)
  rotate_left
  · have hp : pLab bs = .error (e, rest) := by unfold pLab; rw [h1]; simp only; rw [h2]; simp only; rw [h3]; simp only; rw [h4]
    ((try simp only [go_sem, loadL_a]); (try ((first | refine hK _ _ ?_ | refine hKP _ _ _ ?_ | refine hKP _ _ (fun _ => ?_)); clear hK hKP K KP)); repeat (first | refine Stp.s ?_ | refine inBlock_exit' (by decide) ?_ | ((first | refine vc_region fun K KP hK hKP => ?_ | refine Stg.s ?_ | refine guardD_ret0 ?_ | refine exV_intro _ rfl ?_); (try simp only [go_sem, loadL_a]); try ((first | refine hK _ _ ?_ | refine hKP _ _ _ ?_ | refine hKP _ _ (fun _ => ?_)); clear hK hKP K KP))))
    (simp only [postV, resV, oneOf, List.getD_cons_succ, List.getD_cons_zero, and_true, true_and])
    rw [hp]
    exact (R3.set hb2r).err
  have hm4 : c ≤ 12 := hm4
  have R4 := R3.set (cs' := r4) hb2r
  generalize τ3.set br (rdr r4) = τ4 at *
  ((try simp only [go_sem, loadL_a]); (try ((first | refine hK _ _ ?_ | refine hKP _ _ _ ?_ | refine hKP _ _ (fun _ => ?_)); clear hK hKP K KP)); repeat (first | refine Stp.s ?_ | refine inBlock_exit' (by decide) ?_ | ((first | refine vc_region fun K KP hK hKP => ?_ | refine Stg.s ?_ | refine guardD_ret0 ?_ | refine exV_intro _ rfl ?_); (try simp only [go_sem, loadL_a]); try ((first | refine hK _ _ ?_ | refine hKP _ _ _ ?_ | refine hKP _ _ (fun _ => ?_)); clear hK hKP K KP))))
  have l4 : r4.length ≤ 1000000000 := by omega
  refine callV_sm (by decide) R4.1 l4 (fun s r5 h5 hm5 hr5 => ?_) (fun e rest h5 => ?_)
  rotate_left
  · have hp : pLab bs = .error (e, rest) := by unfold pLab; rw [h1]; simp only; rw [h2]; simp only; rw [h3]; simp only; rw [h4]; simp only; rw [h5]
    ((try simp only [go_sem, loadL_a]); (try ((first | refine hK _ _ ?_ | refine hKP _ _ _ ?_ | refine hKP _ _ (fun _ => ?_)); clear hK hKP K KP)); repeat (first | refine Stp.s ?_ | refine inBlock_exit' (by decide) ?_ | ((first | refine vc_region fun K KP hK hKP => ?_ | refine Stg.s ?_ | refine guardD_ret0 ?_ | refine exV_intro _ rfl ?_); (try simp only [go_sem, loadL_a]); try ((first | refine hK _ _ ?_ | refine hKP _ _ _ ?_ | refine hKP _ _ (fun _ => ?_)); clear hK hKP K KP))))
    (simp only [postV, resV, oneOf, List.getD_cons_succ, List.getD_cons_zero, and_true, true_and])
    rw [hp]
    exact (R4.set hb2r).err
  have hm5 : s ≤ 12 := hm5
  have R5 := R4.set (cs' := r5) hb2r
  generalize τ4.set br (rdr r5) = τ5 at *
  ((try simp only [go_sem, loadL_a]); (try ((first | refine hK _ _ ?_ | refine hKP _ _ _ ?_ | refine hKP _ _ (fun _ => ?_)); clear hK hKP K KP)); repeat (first | refine Stp.s ?_ | refine inBlock_exit' (by decide) ?_ | ((first | refine vc_region fun K KP hK hKP => ?_ | refine Stg.s ?_ | refine guardD_ret0 ?_ | refine exV_intro _ rfl ?_); (try simp only [go_sem, loadL_a]); try ((first | refine hK _ _ ?_ | refine hKP _ _ _ ?_ | refine hKP _ _ (fun _ => ?_)); clear hK hKP K KP))))
  refine callV_rd vec_call R5.1 (by omega) (fun v r6 hs => ?_) (fun e rest hs => ?_)
  rotate_left
  · have hp : pLab bs = .error (e, rest) := by
      unfold pLab; rw [h1]; simp only; rw [h2]; simp only; rw [h3]; simp only; rw [h4]; simp only; rw [h5]; simp only
      cases hd : pVec r5 with
      | error e' => rw [hd] at hs; cases hs; rfl
      | ok a => rw [hd] at hs; cases hs
    ((try simp only [go_sem, loadL_a]); (try ((first | refine hK _ _ ?_ | refine hKP _ _ _ ?_ | refine hKP _ _ (fun _ => ?_)); clear hK hKP K KP)); repeat (first | refine Stp.s ?_ | refine inBlock_exit' (by decide) ?_ | ((first | refine vc_region fun K KP hK hKP => ?_ | refine Stg.s ?_ | refine guardD_ret0 ?_ | refine exV_intro _ rfl ?_); (try simp only [go_sem, loadL_a]); try ((first | refine hK _ _ ?_ | refine hKP _ _ _ ?_ | refine hKP _ _ (fun _ => ?_)); clear hK hKP K KP))))
    (simp only [postV, resV, oneOf, List.getD_cons_succ, List.getD_cons_zero, and_true, true_and])
    rw [hp]
    exact (R5.set hb2r).err
  obtain ⟨d, h6, rfl⟩ : ∃ d, pVec r5 = .ok (d, r6) ∧ v = vecV d := by
    cases hd : pVec r5 with
    | error e' => rw [hd] at hs; cases hs
    | ok a => rw [hd] at hs; cases hs; exact ⟨_, rfl, rfl⟩
  clear hs
  obtain ⟨hd1, hd2, hd3⟩ := pVec_inv h6
  have R6 := R5.set (cs' := r6) hb2r
  generalize τ5.set br (rdr r6) = τ6 at *
  have hp : pLab bs = if Lb.right ⟨t, nd, k, c, s, d⟩ = true then .ok (⟨t, nd, k, c, s, d⟩, r6) else .error (3, r6) := by
    unfold pLab; rw [h1]; simp only; rw [h2]; simp only; rw [h3]; simp only; rw [h4]; simp only; rw [h5]; simp only; rw [h6]
  ((try simp only [go_sem, loadL_a, vecV]); (try ((first | refine hK _ _ ?_ | refine hKP _ _ _ ?_ | refine hKP _ _ (fun _ => ?_)); clear hK hKP K KP)); repeat (first | refine Stp.s ?_ | refine inBlock_exit' (by decide) ?_ | ((first | refine vc_region fun K KP hK hKP => ?_ | refine Stg.s ?_ | refine guardD_ret0 ?_ | refine exV_intro _ rfl ?_); (try simp only [go_sem, loadL_a, vecV]); try ((first | refine hK _ _ ?_ | refine hKP _ _ _ ?_ | refine hKP _ _ (fun _ => ?_)); clear hK hKP K KP))))
  have hbd : setL [V.val (Value.int IntKind.u64 t), V.val (Value.int IntKind.i64 nd), V.val (Value.int IntKind.u32 k), V.val (Value.int IntKind.i64 c), V.val (Value.int IntKind.i64 s), V.val (Value.int IntKind.u32 0), V.val (Value.int IntKind.u32 0), V.val (Value.int IntKind.u32 0), V.val (Value.int IntKind.u32 0), V.val (Value.int IntKind.u32 0), V.val (Value.int IntKind.u32 0), V.val (Value.int IntKind.u32 0), V.val (Value.int IntKind.u32 0), V.val (Value.int IntKind.u32 0), V.val (Value.int IntKind.u32 0), V.val (Value.int IntKind.u32 0), V.val (Value.int IntKind.u32 0)] 5 (d.map U32) = Lb.cs ⟨t, nd, k, c, s, d⟩ := by
    have h1 := setL_skip (d.map U32) [U64 t, I64 nd, U32 k, I64 c, I64 s] (zeroN.map U32) 0
    rw [setL_full _ _ (by simp [hd1, zeroN])] at h1
    exact h1
  rw [if_pos (by simp [hd1])]
  have hok : Lb.Ok ⟨t, nd, k, c, s, d⟩ := ⟨hd1, by show k < _; omega⟩
  have hlc := lbCells _ hok
  have hone : ∀ x ∈ Lb.cs ⟨t, nd, k, c, s, d⟩, x.one = true := fun x hx => by
    unfold Lb.cs at hx
    rcases List.mem_append.1 hx with q | q
    · simp only [List.mem_cons, List.not_mem_nil, or_false] at q
      rcases q with rfl | rfl | rfl | rfl | rfl <;> rfl
    · obtain ⟨y, _, rfl⟩ := List.mem_map.1 q; rfl
  have hlr := lright_pure _ hok
  have hld := lbLoad _ hok
  generalize hL : (⟨t, nd, k, c, s, d⟩ : Lb) = L at *
  show ∀ b3, τ6 b3 = none → _
  intro b3 hb3
  refine ⟨by rw [hbd]; exact hlc, fun x hx => hone x (by rw [hbd] at hx; exact hx), by rw [hbd]; exact Nat.le_of_eq hlc, ?_⟩
  rw [hbd, setL_full _ _ (by simp [hlc])]
  have h23 := Store.keep hb3 R6.2.1 (.cells L.cs)
  have h3 := Store.set_same τ6 b3 (.cells L.cs)
  have hb3r : b3 ≠ br := fun e => by rw [e, R6.1] at hb3; cases hb3
  have hb32 : b3 ≠ b2 := fun e => by rw [e, R6.2.1] at hb3; cases hb3
  have R7 : RdSt σ br b2 (.cells lab0) (τ6.set b3 (.cells L.cs)) r6 := ⟨Store.keep hb3 R6.1 _, h23, fun c l hc hn => Store.keep hb3 (R6.2.2 c l hc hn) _⟩
  generalize τ6.set b3 (.cells L.cs) = τ7 at *
  unfold Lb.v at hlr
  ((try simp only [go_sem, h3, hld, Lb.v]); (try ((first | refine hK _ _ ?_ | refine hKP _ _ _ ?_ | refine hKP _ _ (fun _ => ?_)); clear hK hKP K KP)); repeat (first | refine Stp.s ?_ | refine inBlock_exit' (by decide) ?_ | ((first | refine vc_region fun K KP hK hKP => ?_ | refine Stg.s ?_ | refine guardD_ret0 ?_ | refine exV_intro _ rfl ?_); (try simp only [go_sem, h3, hld, Lb.v]); try ((first | refine hK _ _ ?_ | refine hKP _ _ _ ?_ | refine hKP _ _ (fun _ => ?_)); clear hK hKP K KP))))
  refine callV_pure hlr ?_
  ((try simp only [go_sem, loadL_a]); (try ((first | refine hK _ _ ?_ | refine hKP _ _ _ ?_ | refine hKP _ _ (fun _ => ?_)); clear hK hKP K KP)); repeat (first | refine Stp.s ?_ | refine inBlock_exit' (by decide) ?_ | ((first | refine vc_region fun K KP hK hKP => ?_ | refine Stg.s ?_ | refine guardD_ret0 ?_ | refine exV_intro _ rfl ?_); (try simp only [go_sem, loadL_a]); try ((first | refine hK _ _ ?_ | refine hKP _ _ _ ?_ | refine hKP _ _ (fun _ => ?_)); clear hK hKP K KP))))
  refine callV_rd (Must_call L.right) R7.1 (by omega) (fun v rest hm => ?_) (fun e rest hm => ?_)
  · split at hm
    · rename_i hr
      cases hm
      rw [if_pos hr] at hp
      have R8 := R7.set (cs' := r6) hb2r
      have h3' := (Store.set_other τ7 (rdr r6) hb3r).trans h3
      generalize τ7.set br (rdr r6) = τ8 at *
      have hzl : lab0.length = 17 := rfl
      ((try simp only [go_sem, h3', hld, Lb.v, R8.2.1]); (try ((first | refine hK _ _ ?_ | refine hKP _ _ _ ?_ | refine hKP _ _ (fun _ => ?_)); clear hK hKP K KP)); repeat (first | refine Stp.s ?_ | refine inBlock_exit' (by decide) ?_ | ((first | refine vc_region fun K KP hK hKP => ?_ | refine Stg.s ?_ | refine guardD_ret0 ?_ | refine exV_intro _ rfl ?_); (try simp only [go_sem, h3', hld, Lb.v, R8.2.1]); try ((first | refine hK _ _ ?_ | refine hKP _ _ _ ?_ | refine hKP _ _ (fun _ => ?_)); clear hK hKP K KP))))
      refine ⟨hlc, hone, by rw [hlc, hzl]; exact Nat.le_refl _, ?_⟩
      rw [setL_full _ _ (by rw [hlc, hzl])]
      ((try simp only [go_sem, loadL_a]); (try ((first | refine hK _ _ ?_ | refine hKP _ _ _ ?_ | refine hKP _ _ (fun _ => ?_)); clear hK hKP K KP)); repeat (first | refine Stp.s ?_ | refine inBlock_exit' (by decide) ?_ | ((first | refine vc_region fun K KP hK hKP => ?_ | refine Stg.s ?_ | refine guardD_ret0 ?_ | refine exV_intro _ rfl ?_); (try simp only [go_sem, loadL_a]); try ((first | refine hK _ _ ?_ | refine hKP _ _ _ ?_ | refine hKP _ _ (fun _ => ?_)); clear hK hKP K KP))))
      (simp only [postV, resV, oneOf, List.getD_cons_succ, List.getD_cons_zero, and_true, true_and])
      simp only [go_sem, Store.set_same, hld, Lb.v]
      rw [hp]
      refine Ends.le rfl fun c l hc => ?_
      have hc2 : c ≠ b2 := fun q => by rw [q, Store.set_other _ _ hb2r, hb2] at hc; cases hc
      rw [Store.set_other _ _ hc2]
      exact (R8.err (e := 0)).2 c l hc
    · cases hm
  · split at hm
    · cases hm
    · rename_i hr
      cases hm
      rw [if_neg hr] at hp
      ((try simp only [go_sem, loadL_a]); (try ((first | refine hK _ _ ?_ | refine hKP _ _ _ ?_ | refine hKP _ _ (fun _ => ?_)); clear hK hKP K KP)); repeat (first | refine Stp.s ?_ | refine inBlock_exit' (by decide) ?_ | ((first | refine vc_region fun K KP hK hKP => ?_ | refine Stg.s ?_ | refine guardD_ret0 ?_ | refine exV_intro _ rfl ?_); (try simp only [go_sem, loadL_a]); try ((first | refine hK _ _ ?_ | refine hKP _ _ _ ?_ | refine hKP _ _ (fun _ => ?_)); clear hK hKP K KP))))
      (simp only [postV, resV, oneOf, List.getD_cons_succ, List.getD_cons_zero, and_true, true_and])
      rw [hp]
      exact (R7.set hb2r).err
end Go.Proofs.YtociliegljoldaaGreat
