/- Subscriptions, read from bytes. -/
import Derived.Test.YtbgagffpmdlilaaP8
namespace Go.Proofs.Ytbgagffpmdlilaa
set_option linter.unusedSimpArgs false
set_option linter.unusedVariables false
open Go.Proofs
theorem HWp.tellQ {P : Program} {c : Code} {Q : Ex → List V → Store → Prop} {env : List V} {σ : Store} (h : HWp P c (fun e env σ => ∃ env' τ, Tell env σ env' τ ∧ Q e env' τ) env σ) : HWp P c Q env σ :=
  fun ds I w a hs he hd => wp_mono (h ds I w a hs he hd) fun e a' w' ⟨q1, q2, I', σ', env', q3, q4, q5, q6⟩ => by
    cases e with
    | normal => obtain ⟨env2, τ, ht, q⟩ := q6; obtain ⟨J, j1, j2, j3⟩ := ht I' w' _ q4 q5; exact ⟨q1, q2, J, τ, env2, Imm.le_trans q3 j1, j2, j3, q⟩
    | exit id => obtain ⟨env2, τ, ht, q⟩ := q6; obtain ⟨J, j1, j2, j3⟩ := ht I' w' _ q4 q5; exact ⟨q1, q2, J, τ, env2, Imm.le_trans q3 j1, j2, j3, q⟩
    | goto l => obtain ⟨env2, τ, ht, q⟩ := q6; obtain ⟨J, j1, j2, j3⟩ := ht I' w' _ q4 q5; exact ⟨q1, q2, J, τ, env2, Imm.le_trans q3 j1, j2, j3, q⟩
    | ret => obtain ⟨env2, τ, ht, q⟩ := q6; obtain ⟨J, j1, j2, j3⟩ := ht I' w' _ q4 q5; exact ⟨q1, q2, J, τ, env2, Imm.le_trans q3 j1, j2, j3, q⟩
    | panic ch => obtain ⟨r, v, e1, e2, env2, τ, ht, q⟩ := q6; obtain ⟨J, j1, j2, j3⟩ := ht I' w' _ q4 q5; exact ⟨q1, q2, J, τ, env2, Imm.le_trans q3 j1, j2, j3, r, v, e1, e2.mono j1, q⟩
    | outgrown => exact q6.elim
theorem tell_refl {env : List V} {σ : Store} : Tell env σ env σ := fun I w vs hs he => ⟨I, Imm.le_refl I, hs, he⟩
end Go.Proofs.Ytbgagffpmdlilaa

namespace Go.Proofs.Ytbgagffpmdlilaa
set_option linter.unusedSimpArgs false
set_option linter.unusedVariables false
open Go.Proofs
attribute [local irreducible] vc vcOps vcDraw vcK vcKP vcDK vcDB HWp HCalls postV Ex.then Ex.inBlock stepD callV appendV guardC guardD exV effV opV loadV storeV indexAddrV indexV sliceV
set_option maxRecDepth 10000
set_option maxHeartbeats 4000000

/-- Numbers up to 12, so many. -/
def pNs : Nat → List Nat → List UInt8 → Except (Int × List UInt8) (List Nat × List UInt8)
  | 0, l, cs => .ok (l, cs)
  | k + 1, l, cs => match pSm 12 cs with
    | .error e => .error e
    | .ok (y, r) => pNs k (l ++ [y]) r
def natL (l : List Nat) : List Int := l.map fun y => ((y : Nat) : Int)
def pSub (n : Int) (cs : List UInt8) : Except (Int × List UInt8) ((Int × List Int) × List UInt8) := match pSm 3 cs with
  | .error e => .error e
  | .ok (u, r) => match pSm 12 r with
    | .error e => .error e
    | .ok (k, r) => match pNs k [] r with
      | .error e => .error e
      | .ok (l, r) => if rightS n ((u : Int), natL l) = true then .ok (((u : Int), natL l), r) else .error (3, r)
def pSubs (n : Int) : Nat → Subs → List UInt8 → Except (Int × List UInt8) (Subs × List UInt8)
  | 0, s, cs => .ok (s, cs)
  | k + 1, s, cs => match pSub n cs with
    | .error e => .error e
    | .ok (p, r) => pSubs n k (setSu s (11 - k) p.1 p.2) r
def pPeers (cs : List UInt8) : Except (Int × List UInt8) ((Int × Subs) × List UInt8) := match pSm 12 cs with
  | .error e => .error e
  | .ok (n, r) => if n = 0 then .error (3, r) else match pSubs n 12 Sub0 r with
    | .error e => .error e
    | .ok (s, r) => .ok (((n : Int), s), r)
def PeGot (υ : Store) (br : Nat) (bs : List UInt8) : Res → Store → Prop := fun r σ' => match pPeers bs with
  | .ok ((n, s), rest) => ∃ b y, υ b = none ∧ r = .ret y ∧ Weakens y σ' (.ptr b 0) ((υ.set br (rdr rest)).set b (.cells (peC n s)))
  | .error (e, rest) => r = .pan (flt e) ∧ (υ.set br (rdr rest)).le σ'
theorem setBr_le {υ τ : Store} {br : Nat} {k : Blk} (hf : ∀ c l, υ c = some l → c ≠ br → τ c = some l) (hb : τ br = some k) : (υ.set br k).le τ := fun c l h => by
  by_cases hc : c = br
  · subst hc; rw [Store.set_same] at h; rw [hb]; exact h
  · rw [Store.set_other _ _ hc] at h; exact hf c l h hc
theorem pmade0 (b : Nat) (σ : Store) (n : Int) (cs : List V) (h : σ b = some (.cells cs)) (h0 : cs[0]? = some (I64 n)) : HQuiet Try.prog 111 [.ptr b 0] σ (BV (decide (0 < n))) := by
  refine HQuiet.of ?_; (refine HCalls.of_vc Try.func111 rfl ?_; rw [Try.ntmps111, Try.results111]; simp only [List.length_cons, List.length_nil, Nat.reduceAdd, Nat.reduceSub, List.replicate, List.cons_append, List.nil_append])
  (repeat (first | refine Stp.s ?_ | refine inBlock_exit' (by decide) ?_ | ((first | refine vc_region fun K KP hK hKP => ?_ | refine Stg.s ?_ | refine guardD_ret0 ?_ | refine exV_intro _ rfl ?_); (try simp only [go_sem, loadL_a, h, h0]); try ((first | refine hK _ _ ?_ | refine hKP _ _ _ ?_ | refine hKP _ _ (fun _ => ?_)); clear hK hKP K KP))))
  (simp only [postV, resV, oneOf, List.getD_cons_succ, List.getD_cons_zero, and_true, true_and])
  exact Ends.le rfl (Store.le_refl _)
theorem psm_len {m : Nat} {cs r : List UInt8} {y : Nat} (h : pSm m cs = .ok (y, r)) : r.length ≤ cs.length := by
  have := (psm_ok h).2
  rw [this, List.length_append]; omega
theorem pget (υ : Store) (br : Nat) (bs : List UInt8) (hl : bs.length ≤ 1000000000) (hb : υ br = some (rdr bs)) : HCalls Try.prog 117 [.ptr br 0] υ (PeGot υ br bs) := by
  (refine HCalls.of_vc Try.func117 rfl ?_; rw [Try.ntmps117, Try.results117]; simp only [List.length_cons, List.length_nil, Nat.reduceAdd, Nat.reduceSub, List.replicate, List.cons_append, List.nil_append])
  (repeat (first | refine Stp.s ?_ | refine inBlock_exit' (by decide) ?_ | ((first | refine vc_region fun K KP hK hKP => ?_ | refine Stg.s ?_ | refine guardD_ret0 ?_ | refine exV_intro _ rfl ?_); (try simp only [go_sem, loadL_a]); try ((first | refine hK _ _ ?_ | refine hKP _ _ _ ?_ | refine hKP _ _ (fun _ => ?_)); clear hK hKP K KP))))
  refine callV_sm (by decide) hb hl (fun n r0 hn hn12 hr0 => ?_) (fun e r0 hn => ?_)
  rotate_left
  · ((try simp only [go_sem, loadL_a]); (try ((first | refine hK _ _ ?_ | refine hKP _ _ _ ?_ | refine hKP _ _ (fun _ => ?_)); clear hK hKP K KP)); repeat (first | refine Stp.s ?_ | refine inBlock_exit' (by decide) ?_ | ((first | refine vc_region fun K KP hK hKP => ?_ | refine Stg.s ?_ | refine guardD_ret0 ?_ | refine exV_intro _ rfl ?_); (try simp only [go_sem, loadL_a]); try ((first | refine hK _ _ ?_ | refine hKP _ _ _ ?_ | refine hKP _ _ (fun _ => ?_)); clear hK hKP K KP))))
    (simp only [postV, resV, oneOf, List.getD_cons_succ, List.getD_cons_zero, and_true, true_and])
    unfold PeGot pPeers
    rw [hn]
    exact ⟨rfl, Store.le_refl _⟩
  ((try simp only [go_sem, loadL_a]); (try ((first | refine hK _ _ ?_ | refine hKP _ _ _ ?_ | refine hKP _ _ (fun _ => ?_)); clear hK hKP K KP)); repeat (first | refine Stp.s ?_ | refine inBlock_exit' (by decide) ?_ | ((first | refine vc_region fun K KP hK hKP => ?_ | refine Stg.s ?_ | refine guardD_ret0 ?_ | refine exV_intro _ rfl ?_); (try simp only [go_sem, loadL_a]); try ((first | refine hK _ _ ?_ | refine hKP _ _ _ ?_ | refine hKP _ _ (fun _ => ?_)); clear hK hKP K KP))))
  intro b3 hb3
  have hb3r : b3 ≠ br := fun e => by rw [e, Store.set_same] at hb3; cases hb3
  have hυ3 : υ b3 = none := by rwa [Store.set_other _ _ hb3r] at hb3
  ((try simp only [go_sem, loadL_a]); refine hK _ _ ?_; clear hK hKP K KP; repeat (first | refine Stp.s ?_ | refine inBlock_exit' (by decide) ?_ | ((first | refine vc_region fun K KP hK hKP => ?_ | refine Stg.s ?_ | refine guardD_ret0 ?_ | refine exV_intro _ rfl ?_); (try simp only [go_sem, loadL_a]); try ((first | refine hK _ _ ?_ | refine hKP _ _ _ ?_ | refine hKP _ _ (fun _ => ?_)); clear hK hKP K KP))))
  ((try simp only [go_sem, loadL_a]); refine callV_quiet en111 (pmade0 b3 _ n _ (Store.set_same _ _ _) rfl) ?_)
  ((try simp only [go_sem, loadL_a]); (try ((first | refine hK _ _ ?_ | refine hKP _ _ _ ?_ | refine hKP _ _ (fun _ => ?_)); clear hK hKP K KP)); repeat (first | refine Stp.s ?_ | refine inBlock_exit' (by decide) ?_ | ((first | refine vc_region fun K KP hK hKP => ?_ | refine Stg.s ?_ | refine guardD_ret0 ?_ | refine exV_intro _ rfl ?_); (try simp only [go_sem, loadL_a]); try ((first | refine hK _ _ ?_ | refine hKP _ _ _ ?_ | refine hKP _ _ (fun _ => ?_)); clear hK hKP K KP))))
  have hbr0 : ∀ k, ((υ.set br (rdr r0)).set b3 k) br = some (rdr r0) := fun k => by rw [Store.set_other _ _ (Ne.symm hb3r), Store.set_same]
  refine callV_rd (Must_call _) (hbr0 _) (by omega) (fun v r1 hm => ?_) (fun e r1 hm => ?_)
  rotate_left
  · have hn0 : n = 0 ∧ e = 3 ∧ r1 = r0 := by
      split at hm
      · cases hm
      · rename_i hq; cases hm; simp at hq; exact ⟨by omega, rfl, rfl⟩
    obtain ⟨hn0, rfl, rfl⟩ := hn0
    ((try simp only [go_sem, loadL_a]); (try ((first | refine hK _ _ ?_ | refine hKP _ _ _ ?_ | refine hKP _ _ (fun _ => ?_)); clear hK hKP K KP)); repeat (first | refine Stp.s ?_ | refine inBlock_exit' (by decide) ?_ | ((first | refine vc_region fun K KP hK hKP => ?_ | refine Stg.s ?_ | refine guardD_ret0 ?_ | refine exV_intro _ rfl ?_); (try simp only [go_sem, loadL_a]); try ((first | refine hK _ _ ?_ | refine hKP _ _ _ ?_ | refine hKP _ _ (fun _ => ?_)); clear hK hKP K KP))))
    (simp only [postV, resV, oneOf, List.getD_cons_succ, List.getD_cons_zero, and_true, true_and])
    unfold PeGot pPeers
    rw [hn]
    simp only
    rw [if_pos hn0, Store.set_id (hbr0 _)]
    exact ⟨rfl, Store.le_set hb3 (Store.le_refl _)⟩
  have hn0 : 0 < n ∧ r1 = r0 := by
    split at hm
    · rename_i hq; cases hm; simp at hq; exact ⟨by omega, rfl⟩
    · cases hm
  obtain ⟨hn0, rfl⟩ := hn0
  rw [Store.set_id (hbr0 _)]
  have hfin : ∀ {res : Res} {σ' : Store}, (match pSubs n 12 Sub0 r1 with
      | .ok (s, rest) => ∃ b y, υ b = none ∧ res = .ret y ∧ Weakens y σ' (.ptr b 0) ((υ.set br (rdr rest)).set b (.cells (peC n s)))
      | .error (e, rest) => res = .pan (flt e) ∧ (υ.set br (rdr rest)).le σ') → PeGot υ br bs res σ' := fun {res σ'} hq => by
    unfold PeGot pPeers
    rw [hn]
    simp only
    rw [if_neg (by omega)]
    cases hp : pSubs n 12 Sub0 r1 with
    | error e => rw [hp] at hq; exact hq
    | ok a => rw [hp] at hq; exact hq
  ((try simp only [go_sem, loadL_a]); (try ((first | refine hK _ _ ?_ | refine hKP _ _ _ ?_ | refine hKP _ _ (fun _ => ?_)); clear hK hKP K KP)); repeat (first | refine Stp.s ?_ | refine inBlock_exit' (by decide) ?_ | ((first | refine vc_region fun K KP hK hKP => ?_ | refine Stg.s ?_ | refine guardD_ret0 ?_ | refine exV_intro _ rfl ?_); (try simp only [go_sem, loadL_a]); try ((first | refine hK _ _ ?_ | refine hKP _ _ _ ?_ | refine hKP _ _ (fun _ => ?_)); clear hK hKP K KP))))
  refine vc_loop (loopW (fun (a : Nat × Subs × List UInt8) => [.ptr br 0, .top, .top, .ptr b3 0, .top, .top, .top, .top, .top, .top, .top, .top, .top, .top, I64 a.1, .top, .top, .top, .top, .top, .top, .top, .top, .top, .top, .top, .top, .top, .top, .top, .top, .top, .top, .top, .top, .top, .top, .top, .top, .top, .top, .top, .top, .top, .top]) (fun a τ => a.1 ≤ 12 ∧ a.2.2.length ≤ bs.length ∧ τ br = some (rdr a.2.2) ∧ τ b3 = some (.cells (peC n a.2.1)) ∧ (∀ c l, υ c = some l → c ≠ br → τ c = some l) ∧ pSubs n (12 - a.1) a.2.1 a.2.2 = pSubs n 12 Sub0 r1) (fun a _ => 12 - a.1) (0, Sub0, r1) (tell_weak (by repeat (first | exact LeEnv.nil | refine LeEnv.same ?_ | refine LeEnv.top ?_)) (sub0_new rfl)) ⟨by omega, hr0, hbr0 _, Store.set_same _ _ _, fun c l hc hne => by rw [Store.set_other _ _ (fun e => by rw [e, hυ3] at hc; cases hc), Store.set_other _ _ hne]; exact hc, rfl⟩ ?_)
  rintro ⟨i, s, cs⟩ τ ⟨hi, hcs, hbr, h3, hfr, hp⟩
  simp only at hi hcs hbr h3 hfr hp
  (repeat (first | refine Stp.s ?_ | refine inBlock_exit' (by decide) ?_ | ((first | refine vc_region fun K KP hK hKP => ?_ | refine Stg.s ?_ | refine guardD_ret0 ?_ | refine exV_intro _ rfl ?_); (try simp only [go_sem, loadL_a]); try ((first | refine hK _ _ ?_ | refine hKP _ _ _ ?_ | refine hKP _ _ (fun _ => ?_)); clear hK hKP K KP))))
  refine vc_cond rfl (fun hc => ?_) (fun hc => ?_)
  · have hlt : i < 12 := by simp at hc; omega
    have hpe : pSubs n (12 - i) s cs = match pSub n cs with
        | .error e => .error e
        | .ok (p, r) => pSubs n (12 - (i + 1)) (setSu s i p.1 p.2) r := by
      rw [show 12 - i = (11 - i) + 1 by omega, pSubs, show 11 - (11 - i) = i by omega, show 12 - (i + 1) = 11 - i by omega]
    rw [hpe] at hp
    have herr : ∀ {τ' : Store} {e : Int} {rest : List UInt8}, pSub n cs = .error (e, rest) → (∀ c l, υ c = some l → c ≠ br → τ' c = some l) → τ' br = some (rdr rest) → PeGot υ br bs (Res.pan (flt e)) τ' := fun h1 h2 h3 => by
      refine hfin ?_
      rw [h1] at hp
      rw [← hp]
      exact ⟨rfl, setBr_le h2 h3⟩
    (repeat (first | refine Stp.s ?_ | refine inBlock_exit' (by decide) ?_ | ((first | refine vc_region fun K KP hK hKP => ?_ | refine Stg.s ?_ | refine guardD_ret0 ?_ | refine exV_intro _ rfl ?_); (try simp only [go_sem, loadL_a]); try ((first | refine hK _ _ ?_ | refine hKP _ _ _ ?_ | refine hKP _ _ (fun _ => ?_)); clear hK hKP K KP))))
    refine callV_sm (by decide) hbr (by omega) (fun u ru hu hu3 hru => ?_) (fun e ru hu => ?_)
    rotate_left
    · ((try simp only [go_sem, loadL_a]); (try ((first | refine hK _ _ ?_ | refine hKP _ _ _ ?_ | refine hKP _ _ (fun _ => ?_)); clear hK hKP K KP)); repeat (first | refine Stp.s ?_ | refine inBlock_exit' (by decide) ?_ | ((first | refine vc_region fun K KP hK hKP => ?_ | refine Stg.s ?_ | refine guardD_ret0 ?_ | refine exV_intro _ rfl ?_); (try simp only [go_sem, loadL_a]); try ((first | refine hK _ _ ?_ | refine hKP _ _ _ ?_ | refine hKP _ _ (fun _ => ?_)); clear hK hKP K KP))))
      (simp only [postV, resV, oneOf, List.getD_cons_succ, List.getD_cons_zero, and_true, true_and])
      exact herr (by unfold pSub; rw [hu]) (fun c l hc hne => by rw [Store.set_other _ _ hne]; exact hfr c l hc hne) (Store.set_same _ _ _)
    ((try simp only [go_sem, loadL_a]); (try ((first | refine hK _ _ ?_ | refine hKP _ _ _ ?_ | refine hKP _ _ (fun _ => ?_)); clear hK hKP K KP)); repeat (first | refine Stp.s ?_ | refine inBlock_exit' (by decide) ?_ | ((first | refine vc_region fun K KP hK hKP => ?_ | refine Stg.s ?_ | refine guardD_ret0 ?_ | refine exV_intro _ rfl ?_); (try simp only [go_sem, loadL_a]); try ((first | refine hK _ _ ?_ | refine hKP _ _ _ ?_ | refine hKP _ _ (fun _ => ?_)); clear hK hKP K KP))))
    intro c5 hc5
    have hbr3 : br ≠ b3 := Ne.symm hb3r
    have hc5r : c5 ≠ br := fun e => by rw [e, Store.set_same] at hc5; cases hc5
    have hc53 : c5 ≠ b3 := fun e => by rw [e, Store.set_other _ _ hb3r, h3] at hc5; cases hc5
    have hυ5 : υ c5 = none := by
      cases e : υ c5 with
      | none => rfl
      | some l => rw [Store.set_other _ _ hc5r, hfr _ _ e hc5r] at hc5; cases hc5
    have q5 := Store.set_same (τ.set br (rdr ru)) c5 (.cells [I64 u, nilS])
    have qr : ((τ.set br (rdr ru)).set c5 (.cells [I64 u, nilS])) br = some (rdr ru) := Store.keep hc5 (Store.set_same _ _ _) _
    have q3 : ((τ.set br (rdr ru)).set c5 (.cells [I64 u, nilS])) b3 = some (.cells (peC n s)) := Store.keep hc5 (by rw [Store.set_other _ _ hb3r]; exact h3) _
    have qf : ∀ c l, υ c = some l → c ≠ br → ((τ.set br (rdr ru)).set c5 (.cells [I64 u, nilS])) c = some l := fun c l hc hne => Store.keep hc5 (by rw [Store.set_other _ _ hne]; exact hfr c l hc hne) _
    generalize (τ.set br (rdr ru)).set c5 (.cells [I64 u, nilS]) = τ5 at *
    ((try simp only [go_sem, loadL_a]); refine hK _ _ ?_; clear hK hKP K KP; repeat (first | refine Stp.s ?_ | refine inBlock_exit' (by decide) ?_ | ((first | refine vc_region fun K KP hK hKP => ?_ | refine Stg.s ?_ | refine guardD_ret0 ?_ | refine exV_intro _ rfl ?_); (try simp only [go_sem, loadL_a]); try ((first | refine hK _ _ ?_ | refine hKP _ _ _ ?_ | refine hKP _ _ (fun _ => ?_)); clear hK hKP K KP))))
    refine callV_sm (by decide) qr (by omega) (fun k rk hk (hk12 : k ≤ (12 : Nat)) hrk => ?_) (fun e rk hk => ?_)
    rotate_left
    · ((try simp only [go_sem, loadL_a]); (try ((first | refine hK _ _ ?_ | refine hKP _ _ _ ?_ | refine hKP _ _ (fun _ => ?_)); clear hK hKP K KP)); repeat (first | refine Stp.s ?_ | refine inBlock_exit' (by decide) ?_ | ((first | refine vc_region fun K KP hK hKP => ?_ | refine Stg.s ?_ | refine guardD_ret0 ?_ | refine exV_intro _ rfl ?_); (try simp only [go_sem, loadL_a]); try ((first | refine hK _ _ ?_ | refine hKP _ _ _ ?_ | refine hKP _ _ (fun _ => ?_)); clear hK hKP K KP))))
      (simp only [postV, resV, oneOf, List.getD_cons_succ, List.getD_cons_zero, and_true, true_and])
      exact herr (by unfold pSub; rw [hu]; simp only; rw [hk]) (fun c l hc hne => by rw [Store.set_other _ _ hne]; exact qf c l hc hne) (Store.set_same _ _ _)
    have w5 : (τ5.set br (rdr rk)) c5 = some (.cells [I64 u, nilS]) := by rw [Store.set_other _ _ hc5r]; exact q5
    have w3 : (τ5.set br (rdr rk)) b3 = some (.cells (peC n s)) := by rw [Store.set_other _ _ hb3r]; exact q3
    have wr := Store.set_same τ5 br (rdr rk)
    have wf : ∀ c l, υ c = some l → c ≠ br → (τ5.set br (rdr rk)) c = some l := fun c l hc hne => by rw [Store.set_other _ _ hne]; exact qf c l hc hne
    generalize τ5.set br (rdr rk) = τ6 at *
    clear qr q5 q3 qf hbr h3 hfr hc5
    have hpsub : pSub n cs = match pNs k [] rk with
      | .error e => .error e
      | .ok (l, r) => if rightS n ((u : Int), natL l) = true then .ok (((u : Int), natL l), r) else .error (3, r) := by
      unfold pSub; rw [hu]; simp only; rw [hk]
    ((try simp only [go_sem, loadL_a]); (try ((first | refine hK _ _ ?_ | refine hKP _ _ _ ?_ | refine hKP _ _ (fun _ => ?_)); clear hK hKP K KP)); repeat (first | refine Stp.s ?_ | refine inBlock_exit' (by decide) ?_ | ((first | refine vc_region fun K KP hK hKP => ?_ | refine Stg.s ?_ | refine guardD_ret0 ?_ | refine exV_intro _ rfl ?_); (try simp only [go_sem, loadL_a]); try ((first | refine hK _ _ ?_ | refine hKP _ _ _ ?_ | refine hKP _ _ (fun _ => ?_)); clear hK hKP K KP))))
    refine vc_loop (HWp.tellQ (loopV (fun (a : List Nat × List UInt8 × V) => [.ptr br 0, .top, .top, .ptr b3 0, I64 i, .ptr c5 0, .top, .top, .top, .top, .top, .top, .top, .top, I64 i, .top, .top, .top, .top, .top, .top, I64 k, I64 a.1.length, .top, .top, .top, .top, .top, .top, .top, .top, .top, .top, .top, .top, .top, .top, .top, .top, .top, .top, .top, .top, .top, .top]) (fun a υ' => a.1.length ≤ k ∧ a.2.1.length ≤ bs.length ∧ pNs (k - a.1.length) a.1 a.2.1 = pNs k [] rk ∧ ∃ σ0, Bld 1 σ0 υ' a.2.2 ((natL a.1).map I64) a.1.length ∧ σ0 br = some (rdr a.2.1) ∧ σ0 c5 = some (.cells [I64 u, a.2.2]) ∧ σ0 b3 = some (.cells (peC n s)) ∧ ∀ c l, υ c = some l → c ≠ br → σ0 c = some l) (fun a _ => k - a.1.length) ([], rk, nilS) (by repeat (first | exact LeEnv.nil | refine LeEnv.same ?_ | refine LeEnv.top ?_)) ⟨Nat.zero_le _, by show rk.length ≤ bs.length; omega, rfl, τ6, Bld.nil 1 τ6, wr, w5, w3, wf⟩ ?_))
    clear wr w5 w3 wf
    rintro ⟨l, cl, x⟩ υ' ⟨hlk, hcl, hpn, σ0, hB, vr, v5, v3, vf⟩
    simp only at hlk hcl hpn hB vr v5 v3 vf
    have hx1 : x.one = true := by rcases hB with ⟨rfl, _⟩ | ⟨_, _, _, rfl, _⟩ <;> rfl
    (repeat (first | refine Stp.s ?_ | refine inBlock_exit' (by decide) ?_ | ((first | refine vc_region fun K KP hK hKP => ?_ | refine Stg.s ?_ | refine guardD_ret0 ?_ | refine exV_intro _ rfl ?_); (try simp only [go_sem, loadL_a]); try ((first | refine hK _ _ ?_ | refine hKP _ _ _ ?_ | refine hKP _ _ (fun _ => ?_)); clear hK hKP K KP))))
    refine vc_cond rfl (fun hc => ?_) (fun hc => ?_)
    · have hlt2 : l.length < k := by simpa using hc
      have hpn2 : pNs (k - l.length) l cl = match pSm 12 cl with
          | .error e => .error e
          | .ok (y, r) => pNs (k - (l ++ [y]).length) (l ++ [y]) r := by
        rw [show k - l.length = (k - l.length - 1) + 1 by omega, pNs]
        cases pSm 12 cl with
        | error e => rfl
        | ok b => obtain ⟨y, r⟩ := b; simp only [List.length_append, List.length_cons, List.length_nil]; congr 1
      rw [hpn2] at hpn
      have b5 := hB.base _ _ v5
      have brd := hB.base _ _ vr
      (repeat (first | refine Stp.s ?_ | refine inBlock_exit' (by decide) ?_ | ((first | refine vc_region fun K KP hK hKP => ?_ | refine Stg.s ?_ | refine guardD_ret0 ?_ | refine exV_intro _ rfl ?_); (try simp only [go_sem, loadL_a]); try ((first | refine hK _ _ ?_ | refine hKP _ _ _ ?_ | refine hKP _ _ (fun _ => ?_)); clear hK hKP K KP))))
      ((repeat first | refine Stp.s ?_ | refine inBlock_exit' (by decide) ?_); refine vc_draw mixed [ 3, 4, 5, 7 ] [0, 1, 2, 3, 4, 5, 6, 7 ] [ ] [7] (fun υ => υ c5 = some (.cells [I64 u, x])) (by kernel_rfl) (by kernel_rfl) (by kernel_rfl) (b5) fun K KP hK hKP => ?_; simp only [go_sem, loadL_a, b5]; try ((first | refine hK _ _ ?_ | refine hKP _ _ _ ?_ | refine hKP _ _ (fun _ => ?_)); clear hK hKP K KP))
      ((try simp only [go_sem, loadL_a]); (try ((first | refine hK _ _ ?_ | refine hKP _ _ _ ?_ | refine hKP _ _ (fun _ => ?_)); clear hK hKP K KP)); repeat (first | refine Stp.s ?_ | refine inBlock_exit' (by decide) ?_ | ((first | refine vc_region fun K KP hK hKP => ?_ | refine Stg.s ?_ | refine guardD_ret0 ?_ | refine exV_intro _ rfl ?_); (try simp only [go_sem, loadL_a]); try ((first | refine hK _ _ ?_ | refine hKP _ _ _ ?_ | refine hKP _ _ (fun _ => ?_)); clear hK hKP K KP))))
      refine exV_intro x (fun υ hυ => by rw [hυ]; rfl) ?_
      ((try simp only [go_sem, loadL_a]); (try ((first | refine hK _ _ ?_ | refine hKP _ _ _ ?_ | refine hKP _ _ (fun _ => ?_)); clear hK hKP K KP)); repeat (first | refine Stp.s ?_ | refine inBlock_exit' (by decide) ?_ | ((first | refine vc_region fun K KP hK hKP => ?_ | refine Stg.s ?_ | refine guardD_ret0 ?_ | refine exV_intro _ rfl ?_); (try simp only [go_sem, loadL_a]); try ((first | refine hK _ _ ?_ | refine hKP _ _ _ ?_ | refine hKP _ _ (fun _ => ?_)); clear hK hKP K KP))))
      refine effV_intro (callV_sm (by decide) brd (by omega) (fun y ry hy hy12 hry => ⟨?_, ?_⟩) (fun e ry hy => ?_))
      · show (υ'.set br _) c5 = _
        rw [Store.set_other _ _ hc5r]; exact b5
      · rw [hy] at hpn
        simp only at hpn
        have hB1 := hB.reset (kk := rdr ry) vr
        have vr1 := Store.set_same σ0 br (rdr ry)
        have v51 : (σ0.set br (rdr ry)) c5 = some (.cells [I64 u, x]) := by rw [Store.set_other _ _ hc5r]; exact v5
        have v31 : (σ0.set br (rdr ry)) b3 = some (.cells (peC n s)) := by rw [Store.set_other _ _ hb3r]; exact v3
        have vf1 : ∀ c l, υ c = some l → c ≠ br → (σ0.set br (rdr ry)) c = some l := fun c l hc hne => by rw [Store.set_other _ _ hne]; exact vf c l hc hne
        generalize σ0.set br (rdr ry) = σ1 at *
        generalize υ'.set br (rdr ry) = υ1 at *
        clear hB vr v5 v3 vf b5 brd
        ((try simp only [go_sem, loadL_a]); (try ((first | refine hK _ _ ?_ | refine hKP _ _ _ ?_ | refine hKP _ _ (fun _ => ?_)); clear hK hKP K KP)); repeat (first | refine Stp.s ?_ | refine inBlock_exit' (by decide) ?_ | ((first | refine vc_region fun K KP hK hKP => ?_ | refine Stg.s ?_ | refine guardD_ret0 ?_ | refine exV_intro _ rfl ?_); (try simp only [go_sem, loadL_a]); try ((first | refine hK _ _ ?_ | refine hKP _ _ _ ?_ | refine hKP _ _ (fun _ => ?_)); clear hK hKP K KP))))
        refine effV_intro (fun b6 hb6 => ⟨Store.keep hb6 (hB1.base _ _ v51) _, ?_⟩)
        ((try simp only [go_sem, loadL_a]); (try ((first | refine hK _ _ ?_ | refine hKP _ _ _ ?_ | refine hKP _ _ (fun _ => ?_)); clear hK hKP K KP)); repeat (first | refine Stp.s ?_ | refine inBlock_exit' (by decide) ?_ | ((first | refine vc_region fun K KP hK hKP => ?_ | refine Stg.s ?_ | refine guardD_ret0 ?_ | refine exV_intro _ rfl ?_); (try simp only [go_sem, loadL_a]); try ((first | refine hK _ _ ?_ | refine hKP _ _ _ ?_ | refine hKP _ _ (fun _ => ?_)); clear hK hKP K KP))))
        refine effV_intro ?_
        refine append_int hB1 (Store.le_set hb6 (Store.le_refl _)) (row_lit (Store.set_same _ _ _) rfl rfl) (m := 1) rfl (by simp [V.one]) (by omega) ?_
        intro x' τ' σ' hB' hle' _
        refine ⟨hle' _ _ (hB'.base _ _ v51), ?_⟩
        have hxc : x'.cells = [x'] := by rcases hB' with ⟨rfl, _⟩ | ⟨_, _, _, rfl, _⟩ <;> rfl
        have b5' := hle' _ _ (hB'.base _ _ v51)
        ((try simp only [go_sem, loadL_a, b5', hxc]); (try ((first | refine hK _ _ ?_ | refine hKP _ _ _ ?_ | refine hKP _ _ (fun _ => ?_)); clear hK hKP K KP)); repeat (first | refine Stp.s ?_ | refine inBlock_exit' (by decide) ?_ | ((first | refine vc_region fun K KP hK hKP => ?_ | refine Stg.s ?_ | refine guardD_ret0 ?_ | refine exV_intro _ rfl ?_); (try simp only [go_sem, loadL_a, b5', hxc]); try ((first | refine hK _ _ ?_ | refine hKP _ _ _ ?_ | refine hKP _ _ (fun _ => ?_)); clear hK hKP K KP))))
        refine ⟨by rcases hB' with ⟨rfl, _⟩ | ⟨_, _, _, rfl, _⟩ <;> rfl, by rcases hB' with ⟨rfl, _⟩ | ⟨_, _, _, rfl, _⟩ <;> rfl, ?_⟩
        ((try simp only [go_sem, loadL_a, i64_nsucc (show l.length < 1000000 by omega)]); (try ((first | refine hK _ _ ?_ | refine hKP _ _ _ ?_ | refine hKP _ _ (fun _ => ?_)); clear hK hKP K KP)); repeat (first | refine Stp.s ?_ | refine inBlock_exit' (by decide) ?_ | ((first | refine vc_region fun K KP hK hKP => ?_ | refine Stg.s ?_ | refine guardD_ret0 ?_ | refine exV_intro _ rfl ?_); (try simp only [go_sem, loadL_a, i64_nsucc (show l.length < 1000000 by omega)]); try ((first | refine hK _ _ ?_ | refine hKP _ _ _ ?_ | refine hKP _ _ (fun _ => ?_)); clear hK hKP K KP))))
        have hB2 := hB'.reset (kk := .cells [I64 u, x']) v51
        refine ⟨(l ++ [y], ry, x'), τ'.set c5 (.cells [I64 u, x']), ?_, Store.le_set_both hle', ⟨by simp; omega, by show ry.length ≤ bs.length; omega, hpn, σ1.set c5 (.cells [I64 u, x']), ?_, ?_, Store.set_same _ _ _, ?_, ?_⟩, by simp; omega⟩
        · simp only [List.length_append, List.length_cons, List.length_nil]
          exact (by repeat (first | exact LeEnv.nil | refine LeEnv.same ?_ | refine LeEnv.top ?_))
        · have e1 : (natL (l ++ [y])).map I64 = (natL l).map I64 ++ [I64 y] := by unfold natL; simp
          rw [e1, List.length_append]
          exact hB2
        · rw [Store.set_other _ _ (Ne.symm hc5r)]; exact vr1
        · rw [Store.set_other _ _ (Ne.symm hc53)]; exact v31
        · intro c l hc hne
          rw [Store.set_other _ _ (fun e => by rw [e, hυ5] at hc; cases hc)]; exact vf1 c l hc hne
      · ((try simp only [go_sem, loadL_a]); (try ((first | refine hK _ _ ?_ | refine hKP _ _ _ ?_ | refine hKP _ _ (fun _ => ?_)); clear hK hKP K KP)); repeat (first | refine Stp.s ?_ | refine inBlock_exit' (by decide) ?_ | ((first | refine vc_region fun K KP hK hKP => ?_ | refine Stg.s ?_ | refine guardD_ret0 ?_ | refine exV_intro _ rfl ?_); (try simp only [go_sem, loadL_a]); try ((first | refine hK _ _ ?_ | refine hKP _ _ _ ?_ | refine hKP _ _ (fun _ => ?_)); clear hK hKP K KP))))
        refine ⟨_, _, tell_refl, ?_⟩
        (repeat (first | refine Stp.s ?_ | refine inBlock_exit' (by decide) ?_ | ((first | refine vc_region fun K KP hK hKP => ?_ | refine Stg.s ?_ | refine guardD_ret0 ?_ | refine exV_intro _ rfl ?_); (try simp only [go_sem, loadL_a]); try ((first | refine hK _ _ ?_ | refine hKP _ _ _ ?_ | refine hKP _ _ (fun _ => ?_)); clear hK hKP K KP))))
        (simp only [postV, resV, oneOf, List.getD_cons_succ, List.getD_cons_zero, and_true, true_and])
        refine herr ?_ (fun c l hc hne => by rw [Store.set_other _ _ hne]; exact hB.base _ _ (vf c l hc hne)) (Store.set_same _ _ _)
        rw [hpsub, ← hpn, hy]
    · have hlk2 : l.length = k := by simp at hc; omega
      have hnl : (natL l).length = l.length := by unfold natL; simp
      rw [hlk2, Nat.sub_self, pNs] at hpn
      have hps2 : pSub n cs = if rightS n ((u : Int), natL l) = true then .ok (((u : Int), natL l), cl) else .error (3, cl) := by
        rw [hpsub, ← hpn]
      have hw := Weakens.cell (x := .val undef) (hB.base _ _ v5) v5 (j := 1) rfl (Bld.ints (l := natL l) (by rw [hnl]; exact hB))
      have t5 := Store.set_same σ0 c5 (.cells ([I64 u, x].set 1 (ints (natL l))))
      have t3 : (σ0.set c5 (.cells ([I64 u, x].set 1 (ints (natL l))))) b3 = some (.cells (peC n s)) := by rw [Store.set_other _ _ (Ne.symm hc53)]; exact v3
      have tr : (σ0.set c5 (.cells ([I64 u, x].set 1 (ints (natL l))))) br = some (rdr cl) := by rw [Store.set_other _ _ (Ne.symm hc5r)]; exact vr
      have tf : ∀ c l', υ c = some l' → c ≠ br → (σ0.set c5 (.cells ([I64 u, x].set 1 (ints (natL l))))) c = some l' := fun c l' hc hne => by
        rw [Store.set_other _ _ (fun e => by rw [e, hυ5] at hc; cases hc)]; exact vf c l' hc hne
      generalize σ0.set c5 _ = σ7 at *
      (repeat (first | refine Stp.s ?_ | refine inBlock_exit' (by decide) ?_ | ((first | refine vc_region fun K KP hK hKP => ?_ | refine Stg.s ?_ | refine guardD_ret0 ?_ | refine exV_intro _ rfl ?_); (try simp only [go_sem, loadL_a]); try ((first | refine hK _ _ ?_ | refine hKP _ _ _ ?_ | refine hKP _ _ (fun _ => ?_)); clear hK hKP K KP))))
      refine ⟨[.ptr br 0, .top, .top, .ptr b3 0, I64 i, .ptr c5 0, .top, .top, .top, .top, .top, .top, .top, .top, I64 i, .top, .top, .top, .top, .top, .top, .top, .top, .top, .top, .top, .top, .top, .top, .top, .top, .top, .top, .top, .top, .top, .top, .top, .top, .top, .top, .top, .top, .top, .top], σ7, tell_weak (by repeat (first | exact LeEnv.nil | refine LeEnv.same ?_ | refine LeEnv.top ?_)) hw, ?_⟩
      have t5 : σ7 c5 = some (.cells [I64 u, ints (natL l)]) := t5
      clear hB vr v5 v3 vf hw
      (repeat (first | refine Stp.s ?_ | refine inBlock_exit' (by decide) ?_ | ((first | refine vc_region fun K KP hK hKP => ?_ | refine Stg.s ?_ | refine guardD_ret0 ?_ | refine exV_intro _ rfl ?_); (try simp only [go_sem, loadL_a, t5]); try ((first | refine hK _ _ ?_ | refine hKP _ _ _ ?_ | refine hKP _ _ (fun _ => ?_)); clear hK hKP K KP))))
      ((try simp only [go_sem, loadL_a]); refine callV_quiet en161 (pRight b3 σ7 n s t3 (by omega) u (natL l) (by omega)) ?_)
      ((try simp only [go_sem, loadL_a]); (try ((first | refine hK _ _ ?_ | refine hKP _ _ _ ?_ | refine hKP _ _ (fun _ => ?_)); clear hK hKP K KP)); repeat (first | refine Stp.s ?_ | refine inBlock_exit' (by decide) ?_ | ((first | refine vc_region fun K KP hK hKP => ?_ | refine Stg.s ?_ | refine guardD_ret0 ?_ | refine exV_intro _ rfl ?_); (try simp only [go_sem, loadL_a]); try ((first | refine hK _ _ ?_ | refine hKP _ _ _ ?_ | refine hKP _ _ (fun _ => ?_)); clear hK hKP K KP))))
      refine callV_rd (Must_call _) tr (by omega) (fun v r2 hm => ?_) (fun e r2 hm => ?_)
      rotate_left
      · have hbad : rightS n ((u : Int), natL l) = false ∧ e = 3 ∧ r2 = cl := by
          split at hm
          · cases hm
          · rename_i hq; cases hm; exact ⟨Bool.eq_false_iff.2 hq, rfl, rfl⟩
        obtain ⟨hbad, rfl, rfl⟩ := hbad
        ((try simp only [go_sem, loadL_a]); (try ((first | refine hK _ _ ?_ | refine hKP _ _ _ ?_ | refine hKP _ _ (fun _ => ?_)); clear hK hKP K KP)); repeat (first | refine Stp.s ?_ | refine inBlock_exit' (by decide) ?_ | ((first | refine vc_region fun K KP hK hKP => ?_ | refine Stg.s ?_ | refine guardD_ret0 ?_ | refine exV_intro _ rfl ?_); (try simp only [go_sem, loadL_a]); try ((first | refine hK _ _ ?_ | refine hKP _ _ _ ?_ | refine hKP _ _ (fun _ => ?_)); clear hK hKP K KP))))
        (simp only [postV, resV, oneOf, List.getD_cons_succ, List.getD_cons_zero, and_true, true_and])
        refine herr (by rw [hps2, hbad]; rfl) (fun c l hc hne => by rw [Store.set_other _ _ hne]; exact tf c l hc hne) (Store.set_same _ _ _)
      have hgood : rightS n ((u : Int), natL l) = true ∧ r2 = cl := by
        split at hm
        · rename_i hq; cases hm; exact ⟨hq, rfl⟩
        · cases hm
      obtain ⟨hgood, rfl⟩ := hgood
      rw [hps2, if_pos hgood] at hp
      simp only at hp
      rw [Store.set_id tr]
      have g0 := eq_true (show (0 : Int) ≤ (i : Int) by omega)
      have g1 := eq_true (show (i : Int) < ((12 : Nat) : Int) by omega)
      have g2 := eq_true (show 1 + i * 2 + 2 ≤ 25 by omega)
      have hset := pe_set2 n s i hlt u (natL l)
      ((try simp only [go_sem, loadL_a]); (try ((first | refine hK _ _ ?_ | refine hKP _ _ _ ?_ | refine hKP _ _ (fun _ => ?_)); clear hK hKP K KP)); repeat (first | refine Stp.s ?_ | refine inBlock_exit' (by decide) ?_ | ((first | refine vc_region fun K KP hK hKP => ?_ | refine Stg.s ?_ | refine guardD_ret0 ?_ | refine exV_intro _ rfl ?_); (try simp only [go_sem, loadL_a]); try ((first | refine hK _ _ ?_ | refine hKP _ _ _ ?_ | refine hKP _ _ (fun _ => ?_)); clear hK hKP K KP))))
      ((repeat first | refine Stp.s ?_ | refine inBlock_exit' (by decide) ?_); refine vc_draw mixed [ 6 ] [0, 1, 2, 3, 4, 5, 6 ] [ 2 ] [] (fun _ => True) (by kernel_rfl) (by kernel_rfl) (by kernel_rfl) trivial fun K KP hK hKP => ?_; simp only [go_sem, loadL_a, t5, t3, g0, g1, g2, peC_len, hset, Int.toNat_natCast]; try (refine hK _ _ ?_; clear hK hKP K KP))
      ((try simp only [go_sem, loadL_a, t5, t3, g0, g1, g2, peC_len, hset, Int.toNat_natCast, i64_nsucc (show i < 1000000 by omega)]); (try ((first | refine hK _ _ ?_ | refine hKP _ _ _ ?_ | refine hKP _ _ (fun _ => ?_)); clear hK hKP K KP)); repeat (first | refine Stp.s ?_ | refine inBlock_exit' (by decide) ?_ | ((first | refine vc_region fun K KP hK hKP => ?_ | refine Stg.s ?_ | refine guardD_ret0 ?_ | refine exV_intro _ rfl ?_); (try simp only [go_sem, loadL_a, t5, t3, g0, g1, g2, peC_len, hset, Int.toNat_natCast, i64_nsucc (show i < 1000000 by omega)]); try ((first | refine hK _ _ ?_ | refine hKP _ _ _ ?_ | refine hKP _ _ (fun _ => ?_)); clear hK hKP K KP))))
      refine ⟨(i + 1, setSu s i u (natL l), r2), σ7.set b3 (.cells (peC n (setSu s i u (natL l)))), tell_weak (by repeat (first | exact LeEnv.nil | refine LeEnv.same ?_ | refine LeEnv.top ?_)) (Weakens.le (Store.le_refl _)), ⟨by show i + 1 ≤ 12; omega, hcl, ?_, Store.set_same _ _ _, ?_, hp⟩, by show 12 - (i + 1) < 12 - i; omega⟩
      · rw [Store.set_other _ _ hbr3]; exact tr
      · intro c l' hc hne
        rw [Store.set_other _ _ (fun e => by rw [e, hυ3] at hc; cases hc)]; exact tf c l' hc hne
  · have hi12 : i = 12 := by simp at hc; omega
    subst hi12
    (repeat (first | refine Stp.s ?_ | refine inBlock_exit' (by decide) ?_ | ((first | refine vc_region fun K KP hK hKP => ?_ | refine Stg.s ?_ | refine guardD_ret0 ?_ | refine exV_intro _ rfl ?_); (try simp only [go_sem, loadL_a]); try ((first | refine hK _ _ ?_ | refine hKP _ _ _ ?_ | refine hKP _ _ (fun _ => ?_)); clear hK hKP K KP))))
    (simp only [postV, resV, oneOf, List.getD_cons_succ, List.getD_cons_zero, and_true, true_and])
    refine hfin ?_
    rw [← hp]
    exact ⟨b3, _, hυ3, rfl, Weakens.le fun c l hc => by
      by_cases h1 : c = b3
      · subst h1; rw [Store.set_same] at hc; rw [h3]; exact hc
      · rw [Store.set_other _ _ h1] at hc
        exact setBr_le hfr hbr c l hc⟩
/-- Of bytes: new ones, or none. -/
def Loaded (bs : List UInt8) (σ : Store) : Res → Store → Prop := match pPeers bs with
  | .ok ((n, s), []) => EndsNew (fun b => .ptr b 0) (.cells (peC n s)) σ
  | _ => Ends nilP σ
theorem pNs_len : ∀ (k : Nat) (l : List Nat) (cs : List UInt8) (x : List Nat) (r : List UInt8), pNs k l cs = .ok (x, r) → r.length ≤ cs.length
  | 0, l, cs, x, r, h => by unfold pNs at h; cases h; exact Nat.le_refl _
  | k + 1, l, cs, x, r, h => by
    unfold pNs at h
    split at h
    · cases h
    · rename_i y r1 h1
      have := pNs_len k _ _ _ _ h
      have := psm_len h1
      omega
theorem pSub_len {n : Int} {cs r : List UInt8} {x : Int × List Int} (h : pSub n cs = .ok (x, r)) : r.length ≤ cs.length := by
  unfold pSub at h
  split at h
  · cases h
  · rename_i h1
    split at h
    · cases h
    · rename_i h2
      split at h
      · cases h
      · rename_i h3
        split at h
        · cases h
          have := psm_len h1
          have := psm_len h2
          have := pNs_len _ _ _ _ _ h3
          omega
        · cases h
theorem pSubs_len (n : Int) : ∀ (k : Nat) (s : Subs) (cs : List UInt8) (x : Subs) (r : List UInt8), pSubs n k s cs = .ok (x, r) → r.length ≤ cs.length
  | 0, s, cs, x, r, h => by unfold pSubs at h; cases h; exact Nat.le_refl _
  | k + 1, s, cs, x, r, h => by
    unfold pSubs at h
    split at h
    · cases h
    · rename_i h1
      have := pSubs_len n k _ _ _ _ h
      have := pSub_len h1
      omega
theorem ppeers_len {bs r : List UInt8} {x : Int × Subs} (h : pPeers bs = .ok (x, r)) : r.length ≤ bs.length := by
  unfold pPeers at h
  split at h
  · cases h
  · rename_i h1
    split at h
    · cases h
    · split at h
      · cases h
      · rename_i h2
        cases h
        have := psm_len h1
        have := pSubs_len _ _ _ _ _ _ h2
        omega
theorem pNs_err : ∀ (k : Nat) (l : List Nat) (cs : List UInt8) (e : Int) (r : List UInt8), pNs k l cs = .error (e, r) → e ≠ 0
  | 0, l, cs, e, r, h => by unfold pNs at h; cases h
  | k + 1, l, cs, e, r, h => by
    unfold pNs at h
    split at h
    · rename_i h1; cases h; exact pSm_err h1
    · exact pNs_err k _ _ _ _ h
theorem pSub_err {n : Int} {cs r : List UInt8} {e : Int} (h : pSub n cs = .error (e, r)) : e ≠ 0 := by
  unfold pSub at h
  split at h
  · rename_i h1; cases h; exact pSm_err h1
  · split at h
    · rename_i h1; cases h; exact pSm_err h1
    · split at h
      · rename_i h1; cases h; exact pNs_err _ _ _ _ _ h1
      · split at h
        · cases h
        · cases h; decide
theorem pSubs_err (n : Int) : ∀ (k : Nat) (s : Subs) (cs : List UInt8) (e : Int) (r : List UInt8), pSubs n k s cs = .error (e, r) → e ≠ 0
  | 0, s, cs, e, r, h => by unfold pSubs at h; cases h
  | k + 1, s, cs, e, r, h => by
    unfold pSubs at h
    split at h
    · rename_i h1; cases h; exact pSub_err h1
    · exact pSubs_err n k _ _ _ _ h
theorem pPeers_err {cs r : List UInt8} {e : Int} (h : pPeers cs = .error (e, r)) : e ≠ 0 := by
  unfold pPeers at h
  split at h
  · rename_i h1; cases h; exact pSm_err h1
  · split at h
    · cases h; decide
    · split at h
      · rename_i h1; cases h; exact pSubs_err _ _ _ _ _ _ h1
      · cases h
theorem callV_pget {υ : Store} {br : Nat} {bs : List UInt8} {K KP : V → Store → Prop} (hb : υ br = some (rdr bs)) (hl : bs.length ≤ 1000000000)
    (ok : ∀ n s rest b, pPeers bs = .ok ((n, s), rest) → υ b = none → K (.ptr b 0) ((υ.set br (rdr rest)).set b (.cells (peC n s)))) (er : ∀ e rest, pPeers bs = .error (e, rest) → KP (flt e) (υ.set br (rdr rest))) : callV Try.prog (.fn (.func 117) [] []) [.ptr br 0] υ K KP := by
  refine callV_of en117 (ps := []) (qs := []) (xs := [.ptr br 0]) ((pget υ br bs hl hb).weaken (Q' := fun r σ' => match pPeers bs with
    | .ok ((n, s), rest) => ∃ b, υ b = none ∧ r = .ret (.ptr b 0) ∧ σ' = (υ.set br (rdr rest)).set b (.cells (peC n s))
    | .error (e, rest) => r = .pan (flt e) ∧ σ' = υ.set br (rdr rest)) (fun r σ' q => ?_) (fun r σ' q => ?_)) (fun x σ' q => ?_) (fun x σ' q => ?_)
  · unfold PeGot at q
    cases hp : pPeers bs with
    | ok a => obtain ⟨⟨n, s⟩, rest⟩ := a; rw [hp] at q; obtain ⟨b, y, h1, h2, h3⟩ := q; cases h2; exact ⟨_, _, h3, b, h1, rfl, rfl⟩
    | error a => obtain ⟨e, rest⟩ := a; rw [hp] at q; cases q.1
  · unfold PeGot at q
    cases hp : pPeers bs with
    | ok a => obtain ⟨⟨n, s⟩, rest⟩ := a; rw [hp] at q; obtain ⟨b, y, h1, h2, h3⟩ := q; cases h2
    | error a => obtain ⟨e, rest⟩ := a; rw [hp] at q; obtain ⟨h1, h2⟩ := q; cases h1; exact ⟨_, _, Weakens.le h2, rfl, rfl⟩
  · cases hp : pPeers bs with
    | ok a => obtain ⟨⟨n, s⟩, rest⟩ := a; rw [hp] at q; obtain ⟨b, h1, h2, rfl⟩ := q; cases h2; exact ok _ _ _ _ hp h1
    | error a => obtain ⟨e, rest⟩ := a; rw [hp] at q; cases q.1
  · cases hp : pPeers bs with
    | ok a => obtain ⟨⟨n, s⟩, rest⟩ := a; rw [hp] at q; obtain ⟨b, h1, h2, rfl⟩ := q; cases h2
    | error a => obtain ⟨e, rest⟩ := a; rw [hp] at q; obtain ⟨h1, rfl⟩ := q; cases h1; exact er _ _ hp
def peP (bs : List UInt8) : Except Int (List UInt8) := match pPeers bs with | .ok (_, rest) => .ok rest | .error (e, _) => .error e
def peQ (bs : List UInt8) (bt : Nat) (υ τ : Store) : Prop := match pPeers bs with
  | .ok ((n, s), _) => ∃ b, υ b = none ∧ τ bt = some (.cells [.ptr b 0]) ∧ τ b = some (.cells (peC n s))
  | .error _ => True
theorem pload1 (υ : Store) (br bt : Nat) (bs : List UInt8) (old : V) (hl : bs.length ≤ 1000000000) (hb : υ br = some (rdr bs)) (ht : υ bt = some (.cells [old])) (hn : bt ≠ br) : HCalls Try.prog 116 [.ptr br 0, .ptr bt 0] υ fun r σ' => (∀ c l, υ c = some l → c ≠ br → ¬ c = bt → σ' c = some l) ∧ peQ bs bt υ σ' ∧ match peP bs with
    | .ok rest => r = .ret unitV ∧ σ' br = some (rdr rest)
    | .error e => r = .pan (flt e) := by
  (refine HCalls.of_vc Try.func116 rfl ?_; rw [Try.ntmps116, Try.results116]; simp only [List.length_cons, List.length_nil, Nat.reduceAdd, Nat.reduceSub, List.replicate, List.cons_append, List.nil_append])
  (repeat (first | refine Stp.s ?_ | refine inBlock_exit' (by decide) ?_ | ((first | refine vc_region fun K KP hK hKP => ?_ | refine Stg.s ?_ | refine guardD_ret0 ?_ | refine exV_intro _ rfl ?_); (try simp only [go_sem, loadL_a]); try ((first | refine hK _ _ ?_ | refine hKP _ _ _ ?_ | refine hKP _ _ (fun _ => ?_)); clear hK hKP K KP))))
  refine callV_pget hb hl (fun n s rest b hp hbn => ?_) (fun e rest hp => ?_)
  · have hbt : b ≠ bt := fun e => by rw [e, ht] at hbn; cases hbn
    have hbr : b ≠ br := fun e => by rw [e, hb] at hbn; cases hbn
    have ht2 : ((υ.set br (rdr rest)).set b (.cells (peC n s))) bt = some (.cells [old]) := by rw [Store.set_other _ _ (Ne.symm hbt), Store.set_other _ _ hn]; exact ht
    ((try simp only [go_sem, loadL_a, ht2]); (try ((first | refine hK _ _ ?_ | refine hKP _ _ _ ?_ | refine hKP _ _ (fun _ => ?_)); clear hK hKP K KP)); repeat (first | refine Stp.s ?_ | refine inBlock_exit' (by decide) ?_ | ((first | refine vc_region fun K KP hK hKP => ?_ | refine Stg.s ?_ | refine guardD_ret0 ?_ | refine exV_intro _ rfl ?_); (try simp only [go_sem, loadL_a, ht2]); try ((first | refine hK _ _ ?_ | refine hKP _ _ _ ?_ | refine hKP _ _ (fun _ => ?_)); clear hK hKP K KP))))
    (simp only [postV, resV, oneOf, List.getD_cons_succ, List.getD_cons_zero, and_true, true_and])
    unfold peQ peP
    rw [hp]
    refine ⟨fun c l hc h1 h2 => ?_, ⟨b, hbn, Store.set_same _ _ _, ?_⟩, ?_⟩
    · rw [Store.set_other _ _ h2, Store.set_other _ _ (fun e => by rw [e, hbn] at hc; cases hc), Store.set_other _ _ h1]; exact hc
    · rw [Store.set_other _ _ hbt]; exact Store.set_same _ _ _
    · rw [Store.set_other _ _ (Ne.symm hn), Store.set_other _ _ (Ne.symm hbr)]; exact Store.set_same _ _ _
  · ((try simp only [go_sem, loadL_a]); (try ((first | refine hK _ _ ?_ | refine hKP _ _ _ ?_ | refine hKP _ _ (fun _ => ?_)); clear hK hKP K KP)); repeat (first | refine Stp.s ?_ | refine inBlock_exit' (by decide) ?_ | ((first | refine vc_region fun K KP hK hKP => ?_ | refine Stg.s ?_ | refine guardD_ret0 ?_ | refine exV_intro _ rfl ?_); (try simp only [go_sem, loadL_a]); try ((first | refine hK _ _ ?_ | refine hKP _ _ _ ?_ | refine hKP _ _ (fun _ => ?_)); clear hK hKP K KP))))
    (simp only [postV, resV, oneOf, List.getD_cons_succ, List.getD_cons_zero, and_true, true_and])
    unfold peQ peP
    rw [hp]
    exact ⟨fun c l hc h1 h2 => by rw [Store.set_other _ _ h1]; exact hc, trivial, rfl⟩
theorem pload (bs : List UInt8) (hl : bs.length ≤ 1000000000) (σ : Store) : HCalls Try.prog 42 [.lst 1 (bs.map byteV)] σ (Loaded bs σ) := by
  (refine HCalls.of_vc Try.func42 rfl ?_; rw [Try.ntmps42, Try.results42]; simp only [List.length_cons, List.length_nil, Nat.reduceAdd, Nat.reduceSub, List.replicate, List.cons_append, List.nil_append])
  (repeat (first | refine Stp.s ?_ | refine inBlock_exit' (by decide) ?_ | ((first | refine vc_region fun K KP hK hKP => ?_ | refine Stg.s ?_ | refine guardD_ret0 ?_ | refine exV_intro _ rfl ?_); (try simp only [go_sem, loadL_a]); try ((first | refine hK _ _ ?_ | refine hKP _ _ _ ?_ | refine hKP _ _ (fun _ => ?_)); clear hK hKP K KP))))
  intro b3 hb3
  have h3 := Store.set_same σ b3 (.cells [nilP])
  have hle3 := Store.le_set hb3 (Store.le_refl σ) (k := .cells [nilP])
  ((try simp only [go_sem, loadL_a]); refine hK _ _ ?_; clear hK hKP K KP; repeat (first | refine Stp.s ?_ | refine inBlock_exit' (by decide) ?_ | ((first | refine vc_region fun K KP hK hKP => ?_ | refine Stg.s ?_ | refine guardD_ret0 ?_ | refine exV_intro _ rfl ?_); (try simp only [go_sem, loadL_a]); try ((first | refine hK _ _ ?_ | refine hKP _ _ _ ?_ | refine hKP _ _ (fun _ => ?_)); clear hK hKP K KP))))
  refine callV_of en17 (read_callN en116 hl (σ := σ.set b3 (.cells [nilP])) (B := fun c => c = b3) (fun c e => by rw [e, h3]; simp) (p := peP bs) (fun r e => ?_) (Qf := peQ bs b3) (fun υ τ τ' hq hk => ?_) (fun υ br hle hbr hn0 => ?_)) (fun x σ' q => ?_) (fun x σ' q => by obtain ⟨e, _⟩ := q; cases e)
  · unfold peP at e
    cases hp : pPeers bs with
    | ok a => obtain ⟨x, rest⟩ := a; rw [hp] at e; cases e; have := ppeers_len hp; omega
    | error a => obtain ⟨x, rest⟩ := a; rw [hp] at e; cases e
  · unfold peQ at hq ⊢
    cases hp : pPeers bs with
    | ok a =>
      obtain ⟨⟨n, s⟩, rest⟩ := a
      rw [hp] at hq
      obtain ⟨b, h1, h2, h4⟩ := hq
      exact ⟨b, h1, hk _ _ (.inr rfl) h2, hk _ _ (.inl h1) h4⟩
    | error a => exact trivial
  · exact pload1 υ br b3 bs nilP hl hbr (hle _ _ h3) (fun e => by rw [← e, h3] at hn0; cases hn0)
  · obtain ⟨e, hf, υ, hle, hq⟩ := q
    cases e
    have hleS : σ.le σ' := fun c l hc => hf c l (hle3 _ _ hc) (fun e => by rw [e, hb3] at hc; cases hc)
    ((try simp only [go_sem, loadL_a]); (try ((first | refine hK _ _ ?_ | refine hKP _ _ _ ?_ | refine hKP _ _ (fun _ => ?_)); clear hK hKP K KP)); repeat (first | refine Stp.s ?_ | refine inBlock_exit' (by decide) ?_ | ((first | refine vc_region fun K KP hK hKP => ?_ | refine Stg.s ?_ | refine guardD_ret0 ?_ | refine exV_intro _ rfl ?_); (try simp only [go_sem, loadL_a]); try ((first | refine hK _ _ ?_ | refine hKP _ _ _ ?_ | refine hKP _ _ (fun _ => ?_)); clear hK hKP K KP))))
    unfold peQ at hq
    cases hp : pPeers bs with
    | error a =>
      obtain ⟨e, rest⟩ := a
      have he := pPeers_err hp
      have hL : Loaded bs σ = Ends nilP σ := by unfold Loaded; rw [hp]
      have hc : (rdCode (peP bs) != 0) = true := by unfold peP; rw [hp]; simpa [rdCode] using he
      refine vc_cond rfl (fun _ => ?_) (fun hq => by rw [hc] at hq; cases hq)
      (repeat (first | refine Stp.s ?_ | refine inBlock_exit' (by decide) ?_ | ((first | refine vc_region fun K KP hK hKP => ?_ | refine Stg.s ?_ | refine guardD_ret0 ?_ | refine exV_intro _ rfl ?_); (try simp only [go_sem, loadL_a]); try ((first | refine hK _ _ ?_ | refine hKP _ _ _ ?_ | refine hKP _ _ (fun _ => ?_)); clear hK hKP K KP))))
      (simp only [postV, resV, oneOf, List.getD_cons_succ, List.getD_cons_zero, and_true, true_and])
      rw [hL]
      exact Ends.le rfl hleS
    | ok a =>
      obtain ⟨⟨n, s⟩, rest⟩ := a
      rw [hp] at hq
      obtain ⟨b, h1, h2, h4⟩ := hq
      cases rest with
      | cons y ys =>
        have hL : Loaded bs σ = Ends nilP σ := by unfold Loaded; rw [hp]
        have hc : (rdCode (peP bs) != 0) = true := by unfold peP; rw [hp]; rfl
        refine vc_cond rfl (fun _ => ?_) (fun hq => by rw [hc] at hq; cases hq)
        (repeat (first | refine Stp.s ?_ | refine inBlock_exit' (by decide) ?_ | ((first | refine vc_region fun K KP hK hKP => ?_ | refine Stg.s ?_ | refine guardD_ret0 ?_ | refine exV_intro _ rfl ?_); (try simp only [go_sem, loadL_a]); try ((first | refine hK _ _ ?_ | refine hKP _ _ _ ?_ | refine hKP _ _ (fun _ => ?_)); clear hK hKP K KP))))
        (simp only [postV, resV, oneOf, List.getD_cons_succ, List.getD_cons_zero, and_true, true_and])
        rw [hL]
        exact Ends.le rfl hleS
      | nil =>
        have hL : Loaded bs σ = EndsNew (fun b => .ptr b 0) (.cells (peC n s)) σ := by unfold Loaded; rw [hp]
        have hc : (rdCode (peP bs) != 0) = false := by unfold peP; rw [hp]; rfl
        refine vc_cond rfl (fun hq => by rw [hc] at hq; cases hq) (fun _ => ?_)
        (repeat (first | refine Stp.s ?_ | refine inBlock_exit' (by decide) ?_ | ((first | refine vc_region fun K KP hK hKP => ?_ | refine Stg.s ?_ | refine guardD_ret0 ?_ | refine exV_intro _ rfl ?_); (try simp only [go_sem, loadL_a, h2]); try ((first | refine hK _ _ ?_ | refine hKP _ _ _ ?_ | refine hKP _ _ (fun _ => ?_)); clear hK hKP K KP))))
        (simp only [postV, resV, oneOf, List.getD_cons_succ, List.getD_cons_zero, and_true, true_and])
        rw [hL]
        have hbσ : σ b = none := Store.none_of_le hle3 (Store.none_of_le hle h1)
        refine ⟨b, _, hbσ, rfl, Weakens.le fun c l hc => ?_⟩
        by_cases e : c = b
        · subst e; rw [Store.set_same] at hc; rw [h4]; exact hc
        · rw [Store.set_other _ _ e] at hc; exact hleS c l hc
end Go.Proofs.Ytbgagffpmdlilaa
