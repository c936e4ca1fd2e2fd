/- index.Load. -/
import Derived.Test.YtociliegljoldaaGreatJ8
namespace Go.Proofs.YtociliegljoldaaGreat
set_option linter.unusedSimpArgs false
set_option linter.unusedVariables false
open Go.Proofs
attribute [local irreducible] vc vcOps vcDraw vcK vcKP vcDK vcDB HWp HCalls postV Ex.then Ex.inBlock stepD callV appendV guardC guardD exV effV opV loadV storeV indexAddrV indexV sliceV
set_option maxRecDepth 10000
set_option maxHeartbeats 4000000

noncomputable def ixP (bs : List UInt8) : Except Int (List UInt8) := match pIx bs with | .ok (_, rest) => .ok rest | .error (e, _) => .error e
def ixQ (bs : List UInt8) (bt : Nat) (υ τ : Store) : Prop := match pIx bs with
  | .ok (x, _) => ∃ b ob, υ b = none ∧ (∀ c, ob = some c → υ c = none) ∧ τ bt = some (.cells [.ptr b 0]) ∧ IxR τ b x ob ∧ x.Good ∧ x.l.length + x.w.length ≤ 120
  | .error _ => True
theorem iLoad1 (υ : Store) (br bt : Nat) (bs : List UInt8) (old : V) (hl : bs.length ≤ 1000000000) (hf : Few bs) (hb : υ br = some (rdr bs)) (ht : υ bt = some (.cells [old])) (hn : bt ≠ br) : HCalls Tryz.prog 121 [.ptr br 0, .ptr bt 0] υ fun r σ' => (∀ c l, υ c = some l → c ≠ br → ¬ (c = bt) → σ' c = some l) ∧ ixQ bs bt υ σ' ∧ match ixP bs with
    | .ok rest => r = .ret unitV ∧ σ' br = some (rdr rest)
    | .error e => r = .pan (flt e) := by
  (refine HCalls.of_vc Tryz.func121 rfl ?_; rw [Tryz.ntmps121, Tryz.results121]; simp only [List.length_cons, List.length_nil, Nat.reduceAdd, Nat.reduceSub, List.replicate, List.cons_append, List.nil_append])
  (repeat (first | refine Stp.s ?_ | refine inBlock_exit' (by decide) ?_ | ((first | refine vc_region fun K KP hK hKP => ?_ | refine Stg.s ?_ | refine guardD_ret0 ?_ | refine exV_intro _ rfl ?_); (try simp only [go_sem, loadL_a]); try ((first | refine hK _ _ ?_ | refine hKP _ _ _ ?_ | refine hKP _ _ (fun _ => ?_)); clear hK hKP K KP))))
  refine callV_of en122 (ps := []) (qs := []) (xs := [.ptr br 0]) (iLoad υ br bs hb hl hf) (fun x σ' q => ?_) (fun x σ' q => ?_)
  · unfold LdQ at q
    cases hp : pIx bs with
    | error a => obtain ⟨e, rest⟩ := a; rw [hp] at q; cases q.1
    | ok a =>
      obtain ⟨y, rest⟩ := a
      rw [hp] at q
      obtain ⟨b, ob, e, hS, hg, hsz⟩ := q
      cases e
      have ht' := hS.f bt _ ht hn
      have hbt : b ≠ bt := fun e => by have := hS.bn; rw [e, ht] at this; cases this
      ((try simp only [go_sem, loadL_a, ht']); (try ((first | refine hK _ _ ?_ | refine hKP _ _ _ ?_ | refine hKP _ _ (fun _ => ?_)); clear hK hKP K KP)); repeat (first | refine Stp.s ?_ | refine inBlock_exit' (by decide) ?_ | ((first | refine vc_region fun K KP hK hKP => ?_ | refine Stg.s ?_ | refine guardD_ret0 ?_ | refine exV_intro _ rfl ?_); (try simp only [go_sem, loadL_a, ht']); try ((first | refine hK _ _ ?_ | refine hKP _ _ _ ?_ | refine hKP _ _ (fun _ => ?_)); clear hK hKP K KP))))
      (simp only [postV, resV, oneOf, List.getD_cons_succ, List.getD_cons_zero, and_true, true_and])
      unfold ixQ ixP
      rw [hp]
      obtain ⟨xl, hbx, hO, hne⟩ := hS.x
      refine ⟨fun c l hc h1 h2 => by rw [Store.set_other _ _ h2]; exact hS.f c l hc h1, ⟨b, ob, hS.bn, hS.on, Store.set_same _ _ _, ⟨xl, by rw [Store.set_other _ _ hbt]; exact hbx, hO.keep (fun c l e hc => by rw [Store.set_other _ _ (fun q => by have := hS.on c e; rw [q, ht] at this; cases this)]; exact hc), hne⟩, hg, hsz⟩, ?_⟩
      rw [Store.set_other _ _ (Ne.symm hn)]; exact hS.r
  · unfold LdQ at q
    cases hp : pIx bs with
    | ok a => obtain ⟨y, rest⟩ := a; rw [hp] at q; obtain ⟨_, _, e, _⟩ := q; cases e
    | error a =>
      obtain ⟨e, rest⟩ := a
      rw [hp] at q
      obtain ⟨e1, h1, h2⟩ := q
      cases e1
      ((try simp only [go_sem, loadL_a]); (try ((first | refine hK _ _ ?_ | refine hKP _ _ _ ?_ | refine hKP _ _ (fun _ => ?_)); clear hK hKP K KP)); repeat (first | refine Stp.s ?_ | refine inBlock_exit' (by decide) ?_ | ((first | refine vc_region fun K KP hK hKP => ?_ | refine Stg.s ?_ | refine guardD_ret0 ?_ | refine exV_intro _ rfl ?_); (try simp only [go_sem, loadL_a]); try ((first | refine hK _ _ ?_ | refine hKP _ _ _ ?_ | refine hKP _ _ (fun _ => ?_)); clear hK hKP K KP))))
      (simp only [postV, resV, oneOf, List.getD_cons_succ, List.getD_cons_zero, and_true, true_and])
      unfold ixQ ixP
      rw [hp]
      exact ⟨fun c l hc h3 h4 => h2 c l hc h3, trivial, rfl⟩
/-- What Load tells. -/
def LdF (bs : List UInt8) (σ : Store) (r : Res) (σ' : Store) : Prop := σ.le σ' ∧
  ((∃ x b ob, pIx bs = .ok (x, []) ∧ ixB x = bs ∧ r = .ret (.tup [.ptr b 0, I64 0]) ∧ IxR σ' b x ob ∧ σ b = none ∧ (∀ c, ob = some c → σ c = none) ∧ x.Good ∧ x.l.length + x.w.length ≤ 120)
    ∨ (r = .ret (.tup [nilP, I64 3]) ∧ ∀ x, pIx bs = .ok (x, []) → ixB x ≠ bs))
theorem iLoadF (bs : List UInt8) (hl : bs.length ≤ 1000000000) (hf : Few bs) (σ : Store) : HCalls Tryz.prog 57 [.lst 1 (bs.map byteV)] σ (LdF bs σ) := by
  (refine HCalls.of_vc Tryz.func57 rfl ?_; rw [Tryz.ntmps57, Tryz.results57]; simp only [List.length_cons, List.length_nil, Nat.reduceAdd, Nat.reduceSub, List.replicate, List.cons_append, List.nil_append])
  (repeat (first | refine Stp.s ?_ | refine inBlock_exit' (by decide) ?_ | ((first | refine vc_region fun K KP hK hKP => ?_ | refine Stg.s ?_ | refine guardD_ret0 ?_ | refine exV_intro _ rfl ?_); (try simp only [go_sem, loadL_a]); try ((first | refine hK _ _ ?_ | refine hKP _ _ _ ?_ | refine hKP _ _ (fun _ => ?_)); clear hK hKP K KP))))
  intro b3 hb3
  have h3 := Store.set_same σ b3 (.cells [nilP])
  have hle3 := Store.le_set hb3 (Store.le_refl σ) (k := .cells [nilP])
  ((try simp only [go_sem, loadL_a]); refine hK _ _ ?_; clear hK hKP K KP; repeat (first | refine Stp.s ?_ | refine inBlock_exit' (by decide) ?_ | ((first | refine vc_region fun K KP hK hKP => ?_ | refine Stg.s ?_ | refine guardD_ret0 ?_ | refine exV_intro _ rfl ?_); (try simp only [go_sem, loadL_a]); try ((first | refine hK _ _ ?_ | refine hKP _ _ _ ?_ | refine hKP _ _ (fun _ => ?_)); clear hK hKP K KP))))
  refine callV_of en92 (read_callN en121 hl (σ := σ.set b3 (.cells [nilP])) (B := fun c => c = b3) (fun c e => by rw [e, h3]; simp) (p := ixP bs) (fun r e => ?_) (Qf := ixQ bs b3) (fun υ τ τ' hq hk => ?_) (fun υ br hle hbr hn0 => ?_)) (fun x σ' q => ?_) (fun x σ' q => by obtain ⟨e, _⟩ := q; cases e)
  · unfold ixP at e
    cases hp : pIx bs with
    | ok a => obtain ⟨x, rest⟩ := a; rw [hp] at e; cases e; have := pIx_len hp; omega
    | error a => obtain ⟨x, rest⟩ := a; rw [hp] at e; cases e
  · unfold ixQ at hq ⊢
    cases hp : pIx bs with
    | ok a =>
      obtain ⟨x, rest⟩ := a
      rw [hp] at hq
      obtain ⟨b, ob, h1, h2, h4, ⟨xl, h5, h6, h7⟩, hg, hsz⟩ := hq
      exact ⟨b, ob, h1, h2, hk _ _ (.inr rfl) h4, ⟨xl, hk _ _ (.inl h1) h5, h6.keep (fun c l e hc => hk c l (.inl (h2 c e)) hc), h7⟩, hg, hsz⟩
    | error a => exact trivial
  · exact iLoad1 υ br b3 bs nilP hl hf hbr (hle _ _ h3) (fun e => by rw [← e, h3] at hn0; cases hn0)
  · obtain ⟨e, hfr, υ, hle, hq⟩ := q
    cases e
    have hleS : σ.le σ' := fun c l hc => hfr c l (hle3 _ _ hc) (fun e => by rw [e, hb3] at hc; cases hc)
    ((try simp only [go_sem, loadL_a]); (try ((first | refine hK _ _ ?_ | refine hKP _ _ _ ?_ | refine hKP _ _ (fun _ => ?_)); clear hK hKP K KP)); repeat (first | refine Stp.s ?_ | refine inBlock_exit' (by decide) ?_ | ((first | refine vc_region fun K KP hK hKP => ?_ | refine Stg.s ?_ | refine guardD_ret0 ?_ | refine exV_intro _ rfl ?_); (try simp only [go_sem, loadL_a]); try ((first | refine hK _ _ ?_ | refine hKP _ _ _ ?_ | refine hKP _ _ (fun _ => ?_)); clear hK hKP K KP))))
    unfold ixQ at hq
    cases hp : pIx bs with
    | error a =>
      obtain ⟨e, rest⟩ := a
      have he := pIx_err hp
      have hc : (rdCode (ixP bs) != 0) = true := by unfold ixP; rw [hp]; simpa [rdCode] using he
      ((try simp only [go_sem, loadL_a, hc]); (try ((first | refine hK _ _ ?_ | refine hKP _ _ _ ?_ | refine hKP _ _ (fun _ => ?_)); clear hK hKP K KP)); repeat (first | refine Stp.s ?_ | refine inBlock_exit' (by decide) ?_ | ((first | refine vc_region fun K KP hK hKP => ?_ | refine Stg.s ?_ | refine guardD_ret0 ?_ | refine exV_intro _ rfl ?_); (try simp only [go_sem, loadL_a, hc]); try ((first | refine hK _ _ ?_ | refine hKP _ _ _ ?_ | refine hKP _ _ (fun _ => ?_)); clear hK hKP K KP))))
      refine vc_cond rfl (fun _ => ?_) (fun hq => by cases hq)
      (repeat (first | refine Stp.s ?_ | refine inBlock_exit' (by decide) ?_ | ((first | refine vc_region fun K KP hK hKP => ?_ | refine Stg.s ?_ | refine guardD_ret0 ?_ | refine exV_intro _ rfl ?_); (try simp only [go_sem, loadL_a]); try ((first | refine hK _ _ ?_ | refine hKP _ _ _ ?_ | refine hKP _ _ (fun _ => ?_)); clear hK hKP K KP))))
      (simp only [postV, resV, oneOf, List.getD_cons_succ, List.getD_cons_zero, and_true, true_and])
      exact ⟨hleS, .inr ⟨rfl, fun x hx => by rw [hp] at hx; cases hx⟩⟩
    | ok a =>
      obtain ⟨x, rest⟩ := a
      rw [hp] at hq
      obtain ⟨b, ob, h1, h2, h4, hx, hg, hsz⟩ := hq
      cases rest with
      | cons y ys =>
        have hc : (rdCode (ixP bs) != 0) = true := by unfold ixP; rw [hp]; rfl
        ((try simp only [go_sem, loadL_a, hc]); (try ((first | refine hK _ _ ?_ | refine hKP _ _ _ ?_ | refine hKP _ _ (fun _ => ?_)); clear hK hKP K KP)); repeat (first | refine Stp.s ?_ | refine inBlock_exit' (by decide) ?_ | ((first | refine vc_region fun K KP hK hKP => ?_ | refine Stg.s ?_ | refine guardD_ret0 ?_ | refine exV_intro _ rfl ?_); (try simp only [go_sem, loadL_a, hc]); try ((first | refine hK _ _ ?_ | refine hKP _ _ _ ?_ | refine hKP _ _ (fun _ => ?_)); clear hK hKP K KP))))
        refine vc_cond rfl (fun _ => ?_) (fun hq => by cases hq)
        (repeat (first | refine Stp.s ?_ | refine inBlock_exit' (by decide) ?_ | ((first | refine vc_region fun K KP hK hKP => ?_ | refine Stg.s ?_ | refine guardD_ret0 ?_ | refine exV_intro _ rfl ?_); (try simp only [go_sem, loadL_a]); try ((first | refine hK _ _ ?_ | refine hKP _ _ _ ?_ | refine hKP _ _ (fun _ => ?_)); clear hK hKP K KP))))
        (simp only [postV, resV, oneOf, List.getD_cons_succ, List.getD_cons_zero, and_true, true_and])
        exact ⟨hleS, .inr ⟨rfl, fun x hx => by rw [hp] at hx; cases hx⟩⟩
      | nil =>
        have hc : (rdCode (ixP bs) != 0) = false := by unfold ixP; rw [hp]; rfl
        have hxo : x.Ok := ⟨hg.v, by omega, by omega⟩
        have hcart : decide (0 < x.cart) = true := decide_eq_true (by have := hg.c; omega)
        ((try simp only [go_sem, loadL_a, hc, h4]); (try ((first | refine hK _ _ ?_ | refine hKP _ _ _ ?_ | refine hKP _ _ (fun _ => ?_)); clear hK hKP K KP)); repeat (first | refine Stp.s ?_ | refine inBlock_exit' (by decide) ?_ | ((first | refine vc_region fun K KP hK hKP => ?_ | refine Stg.s ?_ | refine guardD_ret0 ?_ | refine exV_intro _ rfl ?_); (try simp only [go_sem, loadL_a, hc, h4]); try ((first | refine hK _ _ ?_ | refine hKP _ _ _ ?_ | refine hKP _ _ (fun _ => ?_)); clear hK hKP K KP))))
        obtain ⟨xl, hbx, hOx⟩ := id hx
        ((try simp only [go_sem, loadL_a]); refine callV_quiet en97 ((imade b _ _ x.cart hbx (ixC_0 x xl))) ?_)
        ((try simp only [go_sem, loadL_a, hcart, h4]); (try ((first | refine hK _ _ ?_ | refine hKP _ _ _ ?_ | refine hKP _ _ (fun _ => ?_)); clear hK hKP K KP)); repeat (first | refine Stp.s ?_ | refine inBlock_exit' (by decide) ?_ | ((first | refine vc_region fun K KP hK hKP => ?_ | refine Stg.s ?_ | refine guardD_ret0 ?_ | refine exV_intro _ rfl ?_); (try simp only [go_sem, loadL_a, hcart, h4]); try ((first | refine hK _ _ ?_ | refine hKP _ _ _ ?_ | refine hKP _ _ (fun _ => ?_)); clear hK hKP K KP))))
        ((try simp only [go_sem, loadL_a]); refine callV_quiet en52 ((iSave hx hxo hg)) ?_)
        ((try simp only [go_sem, loadL_a]); (try ((first | refine hK _ _ ?_ | refine hKP _ _ _ ?_ | refine hKP _ _ (fun _ => ?_)); clear hK hKP K KP)); repeat (first | refine Stp.s ?_ | refine inBlock_exit' (by decide) ?_ | ((first | refine vc_region fun K KP hK hKP => ?_ | refine Stg.s ?_ | refine guardD_ret0 ?_ | refine exV_intro _ rfl ?_); (try simp only [go_sem, loadL_a]); try ((first | refine hK _ _ ?_ | refine hKP _ _ _ ?_ | refine hKP _ _ (fun _ => ?_)); clear hK hKP K KP))))
        ((try simp only [go_sem, loadL_a]); first | refine guardC_q0 (fun _ => callV_pure (bytesEq_pure (ixB x) bs) ⟨rfl, rfl⟩) ?_ | refine callV_pure (bytesEq_pure (ixB x) bs) ?_)
        ((try simp only [go_sem, loadL_a]); (try ((first | refine hK _ _ ?_ | refine hKP _ _ _ ?_ | refine hKP _ _ (fun _ => ?_)); clear hK hKP K KP)); repeat (first | refine Stp.s ?_ | refine inBlock_exit' (by decide) ?_ | ((first | refine vc_region fun K KP hK hKP => ?_ | refine Stg.s ?_ | refine guardD_ret0 ?_ | refine exV_intro _ rfl ?_); (try simp only [go_sem, loadL_a]); try ((first | refine hK _ _ ?_ | refine hKP _ _ _ ?_ | refine hKP _ _ (fun _ => ?_)); clear hK hKP K KP))))
        have hbσ : σ b = none := Store.none_of_le hle3 (Store.none_of_le hle h1)
        have hoσ : ∀ c, ob = some c → σ c = none := fun c e => Store.none_of_le hle3 (Store.none_of_le hle (h2 c e))
        refine vc_cond rfl (fun hq => ?_) (fun hq => ?_)
        · (repeat (first | refine Stp.s ?_ | refine inBlock_exit' (by decide) ?_ | ((first | refine vc_region fun K KP hK hKP => ?_ | refine Stg.s ?_ | refine guardD_ret0 ?_ | refine exV_intro _ rfl ?_); (try simp only [go_sem, loadL_a]); try ((first | refine hK _ _ ?_ | refine hKP _ _ _ ?_ | refine hKP _ _ (fun _ => ?_)); clear hK hKP K KP))))
          (simp only [postV, resV, oneOf, List.getD_cons_succ, List.getD_cons_zero, and_true, true_and])
          have hne : ixB x ≠ bs := by simpa using hq
          exact ⟨hleS, .inr ⟨rfl, fun y hy => by rw [hp] at hy; cases hy; exact hne⟩⟩
        · (repeat (first | refine Stp.s ?_ | refine inBlock_exit' (by decide) ?_ | ((first | refine vc_region fun K KP hK hKP => ?_ | refine Stg.s ?_ | refine guardD_ret0 ?_ | refine exV_intro _ rfl ?_); (try simp only [go_sem, loadL_a, h4]); try ((first | refine hK _ _ ?_ | refine hKP _ _ _ ?_ | refine hKP _ _ (fun _ => ?_)); clear hK hKP K KP))))
          (simp only [postV, resV, oneOf, List.getD_cons_succ, List.getD_cons_zero, and_true, true_and])
          have he : ixB x = bs := by simpa using hq
          exact ⟨hleS, .inl ⟨x, b, ob, hp, he, rfl, hx, hbσ, hoσ, hg, hsz⟩⟩
end Go.Proofs.YtociliegljoldaaGreat
