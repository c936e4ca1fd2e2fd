/- A vector read. -/
import Derived.Test.YtociliegljoldaaGreatJ2
namespace Go.Proofs.YtociliegljoldaaGreat
set_option linter.unusedSimpArgs false
set_option linter.unusedVariables false
open Go.Proofs
attribute [local irreducible] vc vcOps vcDraw vcK vcKP vcDK vcDB HWp HCalls postV Ex.then Ex.inBlock stepD callV appendV guardC guardD exV effV opV loadV storeV indexAddrV indexV sliceV
set_option maxRecDepth 10000
set_option maxHeartbeats 4000000

def padV (vs : List Nat) : List Nat := vs ++ List.replicate (12 - vs.length) 0
/-- What Vector reads: n numbers more. -/
def pVs : Nat → List Nat → List UInt8 → Except (Int × List UInt8) (List Nat × List UInt8)
  | 0, vs, r => if vs.length = 0 ∨ 0 < vs.getD (vs.length - 1) 0 then .ok (padV vs, r) else .error (3, r)
  | n + 1, vs, r => match pSm 4294967295 r with
    | .error e => .error e
    | .ok (k, r') => pVs n (vs ++ [k]) r'
def pVec (bs : List UInt8) : Except (Int × List UInt8) (List Nat × List UInt8) := match pSm 12 bs with
  | .error e => .error e
  | .ok (n, r) => pVs n [] r
theorem padV_set {vs : List Nat} {k : Nat} (h : vs.length < 12) : (padV vs).set vs.length k = padV (vs ++ [k]) := by
  unfold padV
  have e : 12 - vs.length = (12 - (vs ++ [k]).length) + 1 := by simp; omega
  rw [e, List.replicate_succ, List.set_append_right _ _ (by simp)]
  simp [List.append_assoc]
theorem padV_len (vs : List Nat) (h : vs.length ≤ 12) : (padV vs).length = 12 := by unfold padV; simp; omega
theorem padV_get (vs : List Nat) (i : Nat) (h : i < vs.length) : (padV vs).getD i 0 = vs.getD i 0 := by
  unfold padV
  rw [List.getD_eq_getElem?_getD, List.getD_eq_getElem?_getD, List.getElem?_append_left h]
theorem vec_call : RdC 151 [] (fun bs => match pVec bs with | .ok (v, r) => .ok (vecV v, r) | .error e => .error e) := by
  refine RdC.of en151 (fun σ br bs hb hl => ?_)
  (refine HCalls.of_vc Tryz.func151 rfl ?_; rw [Tryz.ntmps151, Tryz.results151]; simp only [List.length_cons, List.length_nil, Nat.reduceAdd, Nat.reduceSub, List.replicate, List.cons_append, List.nil_append])
  (repeat (first | refine Stp.s ?_ | refine inBlock_exit' (by decide) ?_ | ((first | refine vc_region fun K KP hK hKP => ?_ | refine Stg.s ?_ | refine guardD_ret0 ?_ | refine exV_intro _ rfl ?_); (try simp only [go_sem, loadL_a]); try ((first | refine hK _ _ ?_ | refine hKP _ _ _ ?_ | refine hKP _ _ (fun _ => ?_)); clear hK hKP K KP))))
  intro b2 hb2
  have hb2r : b2 ≠ br := fun e => by rw [e, hb] at hb2; cases hb2
  ((try simp only [go_sem, loadL_a]); refine hK _ _ ?_; clear hK hKP K KP; repeat (first | refine Stp.s ?_ | refine inBlock_exit' (by decide) ?_ | ((first | refine vc_region fun K KP hK hKP => ?_ | refine Stg.s ?_ | refine guardD_ret0 ?_ | refine exV_intro _ rfl ?_); (try simp only [go_sem, loadL_a]); try ((first | refine hK _ _ ?_ | refine hKP _ _ _ ?_ | refine hKP _ _ (fun _ => ?_)); clear hK hKP K KP))))
  intro b3 hb3
  have hb3 : (σ.set b2 (.cells (zeroN.map U32))) b3 = none := hb3
  show K _ ((σ.set b2 (.cells (zeroN.map U32))).set b3 (.cells ((padV []).map U32)))
  have h2 := Store.set_same σ b2 (.cells (zeroN.map U32))
  have hf2 : ∀ c l, σ c = some l → (σ.set b2 (.cells (zeroN.map U32))) c = some l := fun c l h => Store.keep hb2 h _
  generalize σ.set b2 (.cells (zeroN.map U32)) = σ2 at *
  have h3 := Store.set_same σ2 b3 (.cells ((padV []).map U32))
  have h23 := Store.keep hb3 h2 (.cells ((padV []).map U32))
  have hb3r : b3 ≠ br := fun e => by rw [e, hf2 _ _ hb] at hb3; cases hb3
  have hb32 : b3 ≠ b2 := fun e => by rw [e, h2] at hb3; cases hb3
  have hf3 : ∀ c l, σ c = some l → (σ2.set b3 (.cells ((padV []).map U32))) c = some l := fun c l h => Store.keep hb3 (hf2 c l h) _
  have hb30 : σ b3 = none := by
    cases e : σ b3 with
    | none => rfl
    | some l => rw [hf2 _ _ e] at hb3; cases hb3
  generalize σ2.set b3 (.cells ((padV []).map U32)) = σ3 at *
  have herr : ∀ {τ' : Store} {e : Int} {rest : List UInt8}, (∀ c l, σ c = some l → c ≠ br → τ' c = some l) → τ' br = some (rdr rest) → Res.pan (flt e) = Res.pan (flt e) ∧ (σ.set br (rdr rest)).le τ' := fun h1 h2 => ⟨rfl, fun c l h => by
    by_cases hcb : c = br
    · subst hcb; rw [Store.set_same] at h; rw [h2]; exact h
    · rw [Store.set_other _ _ hcb] at h; exact h1 c l h hcb⟩
  clear hb3 hf2 h2
  ((try simp only [go_sem, loadL_a]); (try ((first | refine hK _ _ ?_ | refine hKP _ _ _ ?_ | refine hKP _ _ (fun _ => ?_)); clear hK hKP K KP)); repeat (first | refine Stp.s ?_ | refine inBlock_exit' (by decide) ?_ | ((first | refine vc_region fun K KP hK hKP => ?_ | refine Stg.s ?_ | refine guardD_ret0 ?_ | refine exV_intro _ rfl ?_); (try simp only [go_sem, loadL_a]); try ((first | refine hK _ _ ?_ | refine hKP _ _ _ ?_ | refine hKP _ _ (fun _ => ?_)); clear hK hKP K KP))))
  ((try simp only [go_sem, loadL_a]); refine callV_quiet en194 ((made_call br bs _ (hf3 _ _ hb))) ?_)
  ((try simp only [go_sem, loadL_a]); (try ((first | refine hK _ _ ?_ | refine hKP _ _ _ ?_ | refine hKP _ _ (fun _ => ?_)); clear hK hKP K KP)); repeat (first | refine Stp.s ?_ | refine inBlock_exit' (by decide) ?_ | ((first | refine vc_region fun K KP hK hKP => ?_ | refine Stg.s ?_ | refine guardD_ret0 ?_ | refine exV_intro _ rfl ?_); (try simp only [go_sem, loadL_a]); try ((first | refine hK _ _ ?_ | refine hKP _ _ _ ?_ | refine hKP _ _ (fun _ => ?_)); clear hK hKP K KP))))
  refine vc_cond rfl (fun hc => absurd hc (by decide)) (fun _ => ?_)
  (repeat (first | refine Stp.s ?_ | refine inBlock_exit' (by decide) ?_ | ((first | refine vc_region fun K KP hK hKP => ?_ | refine Stg.s ?_ | refine guardD_ret0 ?_ | refine exV_intro _ rfl ?_); (try simp only [go_sem, loadL_a]); try ((first | refine hK _ _ ?_ | refine hKP _ _ _ ?_ | refine hKP _ _ (fun _ => ?_)); clear hK hKP K KP))))
  refine callV_sm (by decide) (hf3 _ _ hb) hl (fun n rest hs hn12 hr => ?_) (fun e rest hs => ?_)
  rotate_left
  · ((try simp only [go_sem, loadL_a]); (try ((first | refine hK _ _ ?_ | refine hKP _ _ _ ?_ | refine hKP _ _ (fun _ => ?_)); clear hK hKP K KP)); repeat (first | refine Stp.s ?_ | refine inBlock_exit' (by decide) ?_ | ((first | refine vc_region fun K KP hK hKP => ?_ | refine Stg.s ?_ | refine guardD_ret0 ?_ | refine exV_intro _ rfl ?_); (try simp only [go_sem, loadL_a]); try ((first | refine hK _ _ ?_ | refine hKP _ _ _ ?_ | refine hKP _ _ (fun _ => ?_)); clear hK hKP K KP))))
    (simp only [postV, resV, oneOf, List.getD_cons_succ, List.getD_cons_zero, and_true, true_and])
    have hp : (match pVec bs with | .ok (v, r) => .ok (vecV v, r) | .error e => .error e : Except (Int × List UInt8) (V × List UInt8)) = .error (e, rest) := by unfold pVec; rw [hs]
    rw [hp]
    exact herr (fun c l h hne => by rw [Store.set_other _ _ hne]; exact hf3 c l h) (Store.set_same _ _ _)
  have hn12 : n ≤ 12 := hn12
  have hp : pVec bs = pVs (n - ([] : List Nat).length) [] rest := by unfold pVec; rw [hs]; rfl
  have h3' : (σ3.set br (rdr rest)) b3 = some (.cells ((padV []).map U32)) := by rw [Store.set_other _ _ hb3r]; exact h3
  have h2' : (σ3.set br (rdr rest)) b2 = some (.cells (zeroN.map U32)) := by rw [Store.set_other _ _ hb2r]; exact h23
  have hfr' : ∀ c l, σ c = some l → c ≠ br → (σ3.set br (rdr rest)) c = some l := fun c l h hne => by rw [Store.set_other _ _ hne]; exact hf3 c l h
  have hbr' := Store.set_same σ3 br (rdr rest)
  generalize σ3.set br (rdr rest) = τ' at *
  clear hf3 h3 h23
  ((try simp only [go_sem, loadL_a]); (try ((first | refine hK _ _ ?_ | refine hKP _ _ _ ?_ | refine hKP _ _ (fun _ => ?_)); clear hK hKP K KP)); repeat (first | refine Stp.s ?_ | refine inBlock_exit' (by decide) ?_ | ((first | refine vc_region fun K KP hK hKP => ?_ | refine Stg.s ?_ | refine guardD_ret0 ?_ | refine exV_intro _ rfl ?_); (try simp only [go_sem, loadL_a]); try ((first | refine hK _ _ ?_ | refine hKP _ _ _ ?_ | refine hKP _ _ (fun _ => ?_)); clear hK hKP K KP))))
  refine vc_loop (loopV (fun (a : List Nat × List UInt8) => [.ptr br 0, .top, .ptr b2 0, .ptr b3 0, I64 n, .top, .top, .top, .top, .top, .top, .top, I64 n, I64 a.1.length, .top, .top, .top, .top, .top, .top, .top, .top, .top, .top, .top, .top, .top, .top, .top, .top, .top, .top, .top]) (fun a τ => a.1.length ≤ n ∧ a.2.length ≤ bs.length ∧ τ br = some (rdr a.2) ∧ τ b3 = some (.cells ((padV a.1).map U32)) ∧ τ b2 = some (.cells (zeroN.map U32)) ∧ (∀ c l, σ c = some l → c ≠ br → τ c = some l) ∧ pVec bs = pVs (n - a.1.length) a.1 a.2 ∧ (∀ x ∈ a.1, x < 4294967296)) (fun a _ => n - a.1.length) ([], rest) (by repeat (first | exact LeEnv.nil | refine LeEnv.same ?_ | refine LeEnv.top ?_)) ⟨Nat.zero_le _, by show rest.length ≤ _; omega, hbr', h3', h2', hfr', hp, by simp⟩ ?_)
  clear h3' h2' hfr' hbr' hp
  rintro ⟨vs, cs⟩ τ ⟨hk, hcs, hbr, h3, h2, hfr, hp, hsm⟩
  simp only at hk hcs hbr h3 h2 hfr hp hsm ⊢
  (repeat (first | refine Stp.s ?_ | refine inBlock_exit' (by decide) ?_ | ((first | refine vc_region fun K KP hK hKP => ?_ | refine Stg.s ?_ | refine guardD_ret0 ?_ | refine exV_intro _ rfl ?_); (try simp only [go_sem, loadL_a]); try ((first | refine hK _ _ ?_ | refine hKP _ _ _ ?_ | refine hKP _ _ (fun _ => ?_)); clear hK hKP K KP))))
  refine vc_cond rfl (fun hq => ?_) (fun hq => ?_)
  · have hlt : vs.length < n := by simpa using hq
    have g0 := eq_true (show (0 : Int) ≤ (vs.length : Int) by omega)
    have g1 := eq_true (show (vs.length : Int) < ((12 : Nat) : Int) by omega)
    have hpk : pVs (n - vs.length) vs cs = match pSm 4294967295 cs with
        | .error e => .error e
        | .ok (k, r) => pVs (n - (vs ++ [k]).length) (vs ++ [k]) r := by
      rw [show n - vs.length = (n - vs.length - 1) + 1 by omega, pVs]
      cases pSm 4294967295 cs with
      | error e => rfl
      | ok a => obtain ⟨k, r⟩ := a; simp only [List.length_append, List.length_cons, List.length_nil]; congr 1
    rw [hpk] at hp
    (repeat (first | refine Stp.s ?_ | refine inBlock_exit' (by decide) ?_ | ((first | refine vc_region fun K KP hK hKP => ?_ | refine Stg.s ?_ | refine guardD_ret0 ?_ | refine exV_intro _ rfl ?_); (try simp only [go_sem, loadL_a]); try ((first | refine hK _ _ ?_ | refine hKP _ _ _ ?_ | refine hKP _ _ (fun _ => ?_)); clear hK hKP K KP))))
    refine callV_sm (by decide) hbr (by omega) (fun k rest hs hk3 hr => ?_) (fun e rest hs => ?_)
    · have hk3 : k ≤ 4294967295 := hk3
      rw [hs] at hp
      simp only at hp
      have h3' : (τ.set br (rdr rest)) b3 = some (.cells ((padV vs).map U32)) := by rw [Store.set_other _ _ hb3r]; exact h3
      have h2' : (τ.set br (rdr rest)) b2 = some (.cells (zeroN.map U32)) := by rw [Store.set_other _ _ hb2r]; exact h2
      have hfr' : ∀ c l, σ c = some l → c ≠ br → (τ.set br (rdr rest)) c = some l := fun c l h hne => by rw [Store.set_other _ _ hne]; exact hfr c l h hne
      have hbr' := Store.set_same τ br (rdr rest)
      generalize τ.set br (rdr rest) = τ' at *
      have hkl : ((padV vs).map U32).length = 12 := by rw [List.length_map]; exact padV_len vs (by omega)
      have g2 := eq_true (show vs.length + 1 ≤ ((padV vs).map U32).length by omega)
      have wk : IntKind.u32.wrap (k : Int) = ((k : Nat) : Int) := u32_in (by omega) (by omega)
      ((try simp only [go_sem, loadL_a, g0, g1, Int.toNat_natCast, h3', g2, wk, i64_nsucc (show vs.length < 1000000 by omega)]); (try ((first | refine hK _ _ ?_ | refine hKP _ _ _ ?_ | refine hKP _ _ (fun _ => ?_)); clear hK hKP K KP)); repeat (first | refine Stp.s ?_ | refine inBlock_exit' (by decide) ?_ | ((first | refine vc_region fun K KP hK hKP => ?_ | refine Stg.s ?_ | refine guardD_ret0 ?_ | refine exV_intro _ rfl ?_); (try simp only [go_sem, loadL_a, g0, g1, Int.toNat_natCast, h3', g2, wk, i64_nsucc (show vs.length < 1000000 by omega)]); try ((first | refine hK _ _ ?_ | refine hKP _ _ _ ?_ | refine hKP _ _ (fun _ => ?_)); clear hK hKP K KP))))
      have hst : ((padV vs).map U32).set vs.length (.val (.int .u32 (k : Int))) = (padV (vs ++ [k])).map U32 := by rw [← padV_set (by omega : vs.length < 12)]; exact u32_set _ _ _
      rw [hst]
      have hlen : (vs ++ [k]).length = vs.length + 1 := by simp
      refine ⟨(vs ++ [k], rest), _, ?_, Store.le_refl _, ⟨by show (vs ++ [k]).length ≤ n; omega, by show rest.length ≤ bs.length; omega, ?_, Store.set_same _ _ _, ?_, fun c l h hne => ?_, hp, fun x hx => ?_⟩, by show n - (vs ++ [k]).length < n - vs.length; omega⟩
      · show LeEnv _ [.ptr br 0, .top, .ptr b2 0, .ptr b3 0, I64 n, .top, .top, .top, .top, .top, .top, .top, I64 n, I64 (vs ++ [k]).length, .top, .top, .top, .top, .top, .top, .top, .top, .top, .top, .top, .top, .top, .top, .top, .top, .top, .top, .top]
        rw [hlen]
        repeat (first | exact LeEnv.nil | refine LeEnv.same ?_ | refine LeEnv.top ?_)
      · rw [Store.set_other _ _ hb3r.symm]; exact hbr'
      · rw [Store.set_other _ _ hb32.symm]; exact h2'
      · rw [Store.set_other _ _ (fun e => by rw [e, hb30] at h; cases h)]; exact hfr' c l h hne
      · rcases List.mem_append.1 hx with q | q
        · exact hsm x q
        · simp only [List.mem_singleton] at q; omega
    · rw [hs] at hp
      simp only at hp
      ((try simp only [go_sem, loadL_a]); (try ((first | refine hK _ _ ?_ | refine hKP _ _ _ ?_ | refine hKP _ _ (fun _ => ?_)); clear hK hKP K KP)); repeat (first | refine Stp.s ?_ | refine inBlock_exit' (by decide) ?_ | ((first | refine vc_region fun K KP hK hKP => ?_ | refine Stg.s ?_ | refine guardD_ret0 ?_ | refine exV_intro _ rfl ?_); (try simp only [go_sem, loadL_a]); try ((first | refine hK _ _ ?_ | refine hKP _ _ _ ?_ | refine hKP _ _ (fun _ => ?_)); clear hK hKP K KP))))
      (simp only [postV, resV, oneOf, List.getD_cons_succ, List.getD_cons_zero, and_true, true_and])
      rw [hp]
      exact herr (fun c l h hne => by rw [Store.set_other _ _ hne]; exact hfr c l h hne) (Store.set_same _ _ _)
  · have hnn : vs.length = n := by simp at hq; omega
    subst hnn
    rw [Nat.sub_self, pVs] at hp
    have hfin : ∀ τ', τ' = τ.set b2 (.cells ((padV vs).map U32)) → (σ.set br (rdr cs)).le τ' := fun τ' e c l h => by
      subst e
      have hc2 : c ≠ b2 := fun q => by rw [q, Store.set_other _ _ hb2r, hb2] at h; cases h
      rw [Store.set_other _ _ hc2]
      by_cases hcb : c = br
      · subst hcb; rw [Store.set_same] at h; rw [hbr]; exact h
      · rw [Store.set_other _ _ hcb] at h; exact hfr c l h hcb
    have hpl := padV_len vs (by omega)
    by_cases h0 : vs.length = 0
    · have z : (((vs.length : Nat) : Int) == 0) = true := by rw [h0]; rfl
      (repeat (first | refine Stp.s ?_ | refine inBlock_exit' (by decide) ?_ | ((first | refine vc_region fun K KP hK hKP => ?_ | refine Stg.s ?_ | refine guardD_ret0 ?_ | refine exV_intro _ rfl ?_); (try simp only [go_sem, loadL_a, z]); try ((first | refine hK _ _ ?_ | refine hKP _ _ _ ?_ | refine hKP _ _ (fun _ => ?_)); clear hK hKP K KP))))
      refine callV_must (fun hm => ?_) (fun hm => ?_)
      · rw [if_pos (.inl h0)] at hp
        ((try simp only [go_sem, h3, h2, vecLoad (padV vs) hpl, vecV]); (try ((first | refine hK _ _ ?_ | refine hKP _ _ _ ?_ | refine hKP _ _ (fun _ => ?_)); clear hK hKP K KP)); repeat (first | refine Stp.s ?_ | refine inBlock_exit' (by decide) ?_ | ((first | refine vc_region fun K KP hK hKP => ?_ | refine Stg.s ?_ | refine guardD_ret0 ?_ | refine exV_intro _ rfl ?_); (try simp only [go_sem, h3, h2, vecLoad (padV vs) hpl, vecV]); try ((first | refine hK _ _ ?_ | refine hKP _ _ _ ?_ | refine hKP _ _ (fun _ => ?_)); clear hK hKP K KP))))
        refine ⟨by simp [hpl], u32_one (padV vs), by simp [hpl, zeroN], ?_⟩
        rw [setL_full _ _ (by simp [hpl, zeroN])]
        ((try simp only [go_sem, loadL_a]); (try ((first | refine hK _ _ ?_ | refine hKP _ _ _ ?_ | refine hKP _ _ (fun _ => ?_)); clear hK hKP K KP)); repeat (first | refine Stp.s ?_ | refine inBlock_exit' (by decide) ?_ | ((first | refine vc_region fun K KP hK hKP => ?_ | refine Stg.s ?_ | refine guardD_ret0 ?_ | refine exV_intro _ rfl ?_); (try simp only [go_sem, loadL_a]); try ((first | refine hK _ _ ?_ | refine hKP _ _ _ ?_ | refine hKP _ _ (fun _ => ?_)); clear hK hKP K KP))))
        (simp only [postV, resV, oneOf, List.getD_cons_succ, List.getD_cons_zero, and_true, true_and])
        simp only [go_sem, Store.set_same, vecLoad (padV vs) hpl, vecV]
        rw [hp]
        exact Ends.le rfl (hfin _ rfl)
      · cases hm
    · obtain ⟨k, hk1⟩ : ∃ k, vs.length = k + 1 := ⟨vs.length - 1, by omega⟩
      have z : (((vs.length : Nat) : Int) == 0) = false := by rw [beq_eq_false_iff_ne]; omega
      have wk := i64_dn (show k ≤ 10000000 by omega)
      rw [← hk1] at wk
      have g0 := eq_true (show (0 : Int) ≤ (k : Int) by omega)
      have g1 := eq_true (show (k : Int) < ((12 : Nat) : Int) by omega)
      have r1 := u32_at (padV vs) hpl k (by omega)
      rw [padV_get vs k (by omega)] at r1
      (repeat (first | refine Stp.s ?_ | refine inBlock_exit' (by decide) ?_ | ((first | refine vc_region fun K KP hK hKP => ?_ | refine Stg.s ?_ | refine guardD_ret0 ?_ | refine exV_intro _ rfl ?_); (try simp only [go_sem, loadL_a, z, wk, g0, g1, Int.toNat_natCast, h3, r1]); try ((first | refine hK _ _ ?_ | refine hKP _ _ _ ?_ | refine hKP _ _ (fun _ => ?_)); clear hK hKP K KP))))
      refine callV_must (fun hm => ?_) (fun hm => ?_)
      · rw [if_pos (.inr (by rw [hk1, Nat.add_sub_cancel]; have hm := of_decide_eq_true hm; omega))] at hp
        ((try simp only [go_sem, h3, h2, vecLoad (padV vs) hpl, vecV]); (try ((first | refine hK _ _ ?_ | refine hKP _ _ _ ?_ | refine hKP _ _ (fun _ => ?_)); clear hK hKP K KP)); repeat (first | refine Stp.s ?_ | refine inBlock_exit' (by decide) ?_ | ((first | refine vc_region fun K KP hK hKP => ?_ | refine Stg.s ?_ | refine guardD_ret0 ?_ | refine exV_intro _ rfl ?_); (try simp only [go_sem, h3, h2, vecLoad (padV vs) hpl, vecV]); try ((first | refine hK _ _ ?_ | refine hKP _ _ _ ?_ | refine hKP _ _ (fun _ => ?_)); clear hK hKP K KP))))
        refine ⟨by simp [hpl], u32_one (padV vs), by simp [hpl, zeroN], ?_⟩
        rw [setL_full _ _ (by simp [hpl, zeroN])]
        ((try simp only [go_sem, loadL_a]); (try ((first | refine hK _ _ ?_ | refine hKP _ _ _ ?_ | refine hKP _ _ (fun _ => ?_)); clear hK hKP K KP)); repeat (first | refine Stp.s ?_ | refine inBlock_exit' (by decide) ?_ | ((first | refine vc_region fun K KP hK hKP => ?_ | refine Stg.s ?_ | refine guardD_ret0 ?_ | refine exV_intro _ rfl ?_); (try simp only [go_sem, loadL_a]); try ((first | refine hK _ _ ?_ | refine hKP _ _ _ ?_ | refine hKP _ _ (fun _ => ?_)); clear hK hKP K KP))))
        (simp only [postV, resV, oneOf, List.getD_cons_succ, List.getD_cons_zero, and_true, true_and])
        simp only [go_sem, Store.set_same, vecLoad (padV vs) hpl, vecV]
        rw [hp]
        exact Ends.le rfl (hfin _ rfl)
      · rw [if_neg (fun q => by have := q.resolve_left h0; rw [hk1, Nat.add_sub_cancel] at this; have hm := of_decide_eq_false hm; omega)] at hp
        ((try simp only [go_sem, loadL_a]); (try ((first | refine hK _ _ ?_ | refine hKP _ _ _ ?_ | refine hKP _ _ (fun _ => ?_)); clear hK hKP K KP)); repeat (first | refine Stp.s ?_ | refine inBlock_exit' (by decide) ?_ | ((first | refine vc_region fun K KP hK hKP => ?_ | refine Stg.s ?_ | refine guardD_ret0 ?_ | refine exV_intro _ rfl ?_); (try simp only [go_sem, loadL_a]); try ((first | refine hK _ _ ?_ | refine hKP _ _ _ ?_ | refine hKP _ _ (fun _ => ?_)); clear hK hKP K KP))))
        (simp only [postV, resV, oneOf, List.getD_cons_succ, List.getD_cons_zero, and_true, true_and])
        rw [hp]
        exact herr hfr hbr
end Go.Proofs.YtociliegljoldaaGreat
