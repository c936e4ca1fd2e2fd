/- wire.Read: a closed call that makes new memory. -/
import Derived.Test.YtociliegljoldaaGreatWB
namespace Go.Proofs.YtociliegljoldaaGreat
set_option linter.unusedSimpArgs false
set_option linter.unusedVariables false
open Go.Proofs
attribute [local irreducible] vc vcOps vcDraw vcK vcKP vcDK vcDB HWp HCalls postV Ex.then Ex.inBlock stepD callV appendV guardC guardD exV effV opV loadV storeV indexAddrV indexV sliceV
set_option maxRecDepth 10000
set_option maxHeartbeats 4000000

theorem read_callN {g : FuncId} (hg : entersB Tryz.prog g = true) {qs : List V} {bs : List UInt8} (hl : bs.length ≤ 1000000000) {σ : Store} {B : Nat → Prop} (hB : ∀ c, B c → σ c ≠ none) {p : Except Int (List UInt8)} (hp : ∀ r, p = .ok r → r.length ≤ 1000000000) {Qf : Store → Store → Prop}
    (hQ : ∀ υ τ τ', Qf υ τ → (∀ c l, (υ c = none ∨ B c) → τ c = some l → τ' c = some l) → Qf υ τ')
    (cb : ∀ (υ : Store) (br : Nat), σ.le υ → υ br = some (rdr bs) → σ br = none → HCalls Tryz.prog g (.ptr br 0 :: qs) υ fun r σ' => (∀ c l, υ c = some l → c ≠ br → ¬ B c → σ' c = some l) ∧ Qf υ σ' ∧ match p with
      | .ok rest => r = .ret unitV ∧ σ' br = some (rdr rest)
      | .error e => r = .pan (flt e)) :
    HCalls Tryz.prog 92 [.lst 1 (bs.map byteV), .fn (.func g) [] qs] σ fun r σ' => r = .ret (I64 (rdCode p)) ∧ (∀ c l, σ c = some l → ¬ B c → σ' c = some l) ∧ ∃ υ, σ.le υ ∧ Qf υ σ' := by
  unfold HCalls
  intro I w vs hs hv
  suffices H : ∀ R : Ending → World → Prop, (∀ v w' I' σ', Bel w w' → I.le I' → StR σ' I' w' → VR I' (I64 (rdCode p)) v → (∀ c l, σ c = some l → ¬ B c → σ' c = some l) → (∃ υ, σ.le υ ∧ Qf υ σ') → R (.returned v) w') → Calls Tryz.prog 92 vs w R from
    H _ fun v w' I' σ' h1 h2 h3 h4 h5 h6 => ⟨h1, I', σ', h2, h3, .inl ⟨_, v, rfl, h4, rfl, h5, h6⟩⟩
  intro R hR
  refine calls_of_wp_defers Tryz.func92 rfl ?_
  have he : LR I ([.lst 1 (bs.map byteV), .fn (.func g) [] qs, .top, .top, .top, .top, .top, .top, .top, .top, .top, .top, .top, .top, .top, .top, .top, .top, .top, .top, .top]) (vs ++ Array.replicate (21 - vs.size) undef).toList := by
    have hl2 : 2 = vs.size := by have := hv.len; simpa using this
    have := hv.spare (List.replicate (21 - vs.size) undef) 19 (by simp [← hl2])
    simpa using this
  refine wp_seq_vc (Q := fun env' σ' => ∃ be, σ be = none ∧ σ' = σ.set be (.cells [I64 0]) ∧ env' = [.lst 1 (bs.map byteV), .fn (.func g) [] qs, .top, .top, .ptr be 0, .top, .top, .top, .top, .top, .top, .top, .top, .top, .top, .top, .top, .top, .top, .top, .top]) hs he rfl ?_ ?_
  · (repeat (first | refine Stp.s ?_ | refine inBlock_exit' (by decide) ?_ | ((first | refine vc_region fun K KP hK hKP => ?_ | refine Stg.s ?_ | refine guardD_ret0 ?_ | refine exV_intro _ rfl ?_); (try simp only [go_sem, loadL_a]); try ((first | refine hK _ _ ?_ | refine hKP _ _ _ ?_ | refine hKP _ _ (fun _ => ?_)); clear hK hKP K KP))))
    intro b hb
    ((try simp only [go_sem, loadL_a]); refine hK _ _ ?_; clear hK hKP K KP; repeat (first | refine Stp.s ?_ | refine inBlock_exit' (by decide) ?_ | ((first | refine vc_region fun K KP hK hKP => ?_ | refine Stg.s ?_ | refine guardD_ret0 ?_ | refine exV_intro _ rfl ?_); (try simp only [go_sem, loadL_a]); try ((first | refine hK _ _ ?_ | refine hKP _ _ _ ?_ | refine hKP _ _ (fun _ => ?_)); clear hK hKP K KP))))
    exact ⟨rfl, b, hb, rfl, rfl⟩
  intro I1 w1 a1 env1 σ1 hI1 hw1 hs1 he1 hd1 ⟨be, hbe, e1, e2⟩
  subst e1 e2
  refine wp_seq_vc (Q := fun env' σ' => σ' = σ.set be (.cells [I64 0]) ∧ env' = [.lst 1 (bs.map byteV), .fn (.func g) [] qs, .top, .top, .ptr be 0, .top, .fn (.func g) [] qs, BV false, .top, .top, .top, .top, .top, .top, .top, .top, .top, .top, .top, .top, .top]) hs1 he1 hd1 ?_ ?_
  · (repeat (first | refine Stp.s ?_ | refine inBlock_exit' (by decide) ?_ | ((first | refine vc_region fun K KP hK hKP => ?_ | refine Stg.s ?_ | refine guardD_ret0 ?_ | refine exV_intro _ rfl ?_); (try simp only [go_sem, loadL_a]); try ((first | refine hK _ _ ?_ | refine hKP _ _ _ ?_ | refine hKP _ _ (fun _ => ?_)); clear hK hKP K KP))))
    refine vc_cond rfl (fun hc => absurd hc (by decide)) (fun _ => ?_)
    (repeat (first | refine Stp.s ?_ | refine inBlock_exit' (by decide) ?_ | ((first | refine vc_region fun K KP hK hKP => ?_ | refine Stg.s ?_ | refine guardD_ret0 ?_ | refine exV_intro _ rfl ?_); (try simp only [go_sem, loadL_a]); try ((first | refine hK _ _ ?_ | refine hKP _ _ _ ?_ | refine hKP _ _ (fun _ => ?_)); clear hK hKP K KP))))
    exact ⟨rfl, rfl, rfl⟩
  intro I2 w2 a2 env2 σ2 hI2 hw2 hs2 he2 hd2 ⟨e1, e2⟩
  subst e1 e2
  refine wp_seq ?_
  refine wp_region_list ?_
  simp [wpList, go_sem]
  refine .inl ?_
  have h4 : a2.tmps[4]?.getD undef = .pointer (some ⟨be, 0, none⟩) := by
    have hlen := he2.len
    simp at hlen
    have h := he2.at_ 4 (.ptr be 0) (a2.tmps[4]'(by omega)) rfl (by simp)
    rw [Array.getElem?_eq_getElem (by omega)]
    simp only [Option.getD_some]
    generalize a2.tmps[4] = x at h
    cases h
    rfl
  rw [h4, hd2]
  have hnb : ¬ B be := fun h => hB be h hbe
  refine wp_mono (hwp_use (Q := fun ex env' σ' => (∀ c l, σ c = some l → ¬ B c → σ' c = some l) ∧ (∃ υ, σ.le υ ∧ υ be ≠ none ∧ Qf υ σ') ∧ match ex with
    | .normal => σ' be = some (.cells [I64 (rdCode p)]) ∧ env'[4]? = some (.ptr be 0)
    | .ret => σ' be = some (.cells [I64 (rdCode p)]) ∧ env'[4]? = some (.ptr be 0)
    | .pan x => ∃ e, p = .error e ∧ x = flt e ∧ ∃ k0, σ' be = some (.cells [I64 k0]) ∧ env'[4]? = some (.ptr be 0)
    | _ => False) ?main hs2 (a := _) he2 rfl) ?fin
  case fin =>
    intro ex a3 w3 ⟨hd3, hw3, I3, σ3, env3, hI3, hs3, he3, q⟩
    have done : ∀ (I4 : Imm) (w4 : World) (σ4 : Store), I3.le I4 → Bel w3 w4 → StR σ4 I4 w4 → (∀ c l, σ c = some l → ¬ B c → σ4 c = some l) → (∃ υ, σ.le υ ∧ Qf υ σ4) → σ4 be = some (.cells [I64 (rdCode p)]) → env3[4]? = some (.ptr be 0) → Leaves Tryz.prog Tryz.f92 a3.tmps R [] .returning w4 := by
      intro I4 w4 σ4 h1 h2 h3 h5 h6 h7 h8
      have h4 := he3.mono h1
      obtain ⟨v, r, g1, g2, g3⟩ := results_ok (P := Tryz.prog) (fn := Tryz.f92) h3 h4 (Q := fun r σ' => r = .ret (I64 (rdCode p)) ∧ σ' = σ4) (by
        rw [Tryz.results92]
        simp [resV, go_sem, h8, h7, loadV, oneOf])
      obtain ⟨e, -⟩ := g3
      cases e
      exact ⟨v, g1, hR v w4 I4 σ4 (hw1.trans (hw2.trans (hw3.trans h2))) (Imm.le_trans hI1 (Imm.le_trans hI2 (Imm.le_trans hI3 h1))) h3 g2 h5 h6⟩
    cases ex with
    | exit l => exact q.2.2.elim
    | goto l => exact q.2.2.elim
    | normal =>
      simp only [bodyPostD]
      rw [hd3]
      refine leaves_cons (by simp) rfl ((caught_idle be w3).mono fun e u' w' h => ?_)
      obtain ⟨⟨v, rfl⟩, rfl, rfl⟩ := h
      exact done I3 w' σ3 (Imm.le_refl _) (Bel.refl _) hs3 q.1 ⟨_, q.2.1.choose_spec.1, q.2.1.choose_spec.2.2⟩ q.2.2.1 q.2.2.2
    | ret =>
      simp only [bodyPostD]
      rw [hd3]
      refine leaves_cons (by simp) rfl ((caught_idle be w3).mono fun e u' w' h => ?_)
      obtain ⟨⟨v, rfl⟩, rfl, rfl⟩ := h
      exact done I3 w' σ3 (Imm.le_refl _) (Bel.refl _) hs3 q.1 ⟨_, q.2.1.choose_spec.1, q.2.1.choose_spec.2.2⟩ q.2.2.1 q.2.2.2
    | panic ch =>
      obtain ⟨r, v, rfl, hv1, q1, q2, e, hpe, rfl, k0, q3, q4⟩ := q
      have hv2 := flt_val hv1
      subst hv2
      simp only [bodyPostD]
      rw [hd3]
      refine leaves_cons (by simp) rfl ((caught_pan e [] I3 w3 σ3 be k0 hs3 q3).mono fun en u' w' h => ?_)
      obtain ⟨⟨v, rfl⟩, rfl, hw4, I4, σ4, hI4, hs4, f1, f2⟩ := h
      refine done I4 w' σ4 hI4 hw4 hs4 (fun c l hc hn => ?_) ⟨q2.choose, q2.choose_spec.1, hQ _ _ _ q2.choose_spec.2.2 fun c l hb hc => f1 c l hc ?_⟩ ?_ q4
      · exact f1 c l (q1 c l hc hn) fun e' => by rw [e', hbe] at hc; cases hc
      · intro e'
        rcases hb with hb | hb
        · exact q2.choose_spec.2.1 (e' ▸ hb)
        · exact hnb (e' ▸ hb)
      · rw [f2, hpe]; rfl
    | outgrown => exact q.elim
  case main =>
    (repeat (first | refine Stp.s ?_ | refine inBlock_exit' (by decide) ?_ | ((first | refine vc_region fun K KP hK hKP => ?_ | refine Stg.s ?_ | refine guardD_ret0 ?_ | refine exV_intro _ rfl ?_); (try simp only [go_sem, loadL_a]); try ((first | refine hK _ _ ?_ | refine hKP _ _ _ ?_ | refine hKP _ _ (fun _ => ?_)); clear hK hKP K KP))))
    refine callV_quiet en146 (clone_lst hl) ?_
    simp only [go_sem, loadL_a]
    intro br hbr
    have hbb : br ≠ be := fun e' => by rw [e', Store.set_same] at hbr; cases hbr
    have hbr0 : σ br = none := by rw [Store.set_other _ _ hbb] at hbr; exact hbr
    have hnr : ¬ B br := fun h => hB br h hbr0
    ((try simp only [go_sem, loadL_a]); refine hK _ _ ?_; clear hK hKP K KP; repeat (first | refine Stp.s ?_ | refine inBlock_exit' (by decide) ?_ | ((first | refine vc_region fun K KP hK hKP => ?_ | refine Stg.s ?_ | refine guardD_ret0 ?_ | refine exV_intro _ rfl ?_); (try simp only [go_sem, loadL_a]); try ((first | refine hK _ _ ?_ | refine hKP _ _ _ ?_ | refine hKP _ _ (fun _ => ?_)); clear hK hKP K KP))))
    refine callV_of hg (cb ((σ.set be (.cells [I64 0])).set br (rdr bs)) br (fun c l hc => Store.le_set hbr (Store.le_set hbe (Store.le_refl σ)) c l hc) (Store.set_same _ _ _) hbr0) (fun x σ' q => ?_) (fun x σ' q => ?_)
    · obtain ⟨q1, q2, q3⟩ := q
      cases hpp : p with
      | error e => rw [hpp] at q3; cases q3
      | ok rest =>
        rw [hpp] at q3
        obtain ⟨q3, q4⟩ := q3
        cases q3
        have hrl := hp rest hpp
        have hbe' : σ' be = some (.cells [I64 0]) := q1 be _ (by rw [Store.set_other _ _ (Ne.symm hbb)]; exact Store.set_same _ _ _) (Ne.symm hbb) hnb
        have keep : ∀ (z : Blk) c l, σ c = some l → ¬ B c → (σ'.set be z) c = some l := fun z c l hc hn => by
          have n1 : c ≠ be := fun e' => by rw [e', hbe] at hc; cases hc
          have n2 : c ≠ br := fun e' => by rw [e', hbr0] at hc; cases hc
          rw [Store.set_other _ _ n1]
          exact q1 c l (by rw [Store.set_other _ _ n2, Store.set_other _ _ n1]; exact hc) n2 hn
        have hυ : ((σ.set be (.cells [I64 0])).set br (rdr bs)) be ≠ none := by rw [Store.set_other _ _ (Ne.symm hbb), Store.set_same]; simp
        have hlυ : σ.le ((σ.set be (.cells [I64 0])).set br (rdr bs)) := Store.le_set hbr (Store.le_set hbe (Store.le_refl σ))
        have kQ : ∀ (z : Blk), ∃ υ, σ.le υ ∧ υ be ≠ none ∧ Qf υ (σ'.set be z) := fun z => ⟨_, hlυ, hυ, hQ _ _ _ q2 fun c l hb hc => by
          have n1 : c ≠ be := fun e' => by
            subst e'
            rcases hb with hb | hb
            · exact hυ hb
            · exact hnb hb
          rw [Store.set_other _ _ n1]; exact hc⟩
        ((try simp only [go_sem, loadL_a, q4, rdr, List.length_map]); refine hK _ _ ?_; clear hK hKP K KP; repeat (first | refine Stp.s ?_ | refine inBlock_exit' (by decide) ?_ | ((first | refine vc_region fun K KP hK hKP => ?_ | refine Stg.s ?_ | refine guardD_ret0 ?_ | refine exV_intro _ rfl ?_); (try simp only [go_sem, loadL_a, q4, rdr, List.length_map]); try ((first | refine hK _ _ ?_ | refine hKP _ _ _ ?_ | refine hKP _ _ (fun _ => ?_)); clear hK hKP K KP))))
        refine vc_cond rfl (fun hc => ?_) (fun hc => ?_)
        · (repeat (first | refine Stp.s ?_ | refine inBlock_exit' (by decide) ?_ | ((first | refine vc_region fun K KP hK hKP => ?_ | refine Stg.s ?_ | refine guardD_ret0 ?_ | refine exV_intro _ rfl ?_); (try simp only [go_sem, loadL_a, hbe']); try ((first | refine hK _ _ ?_ | refine hKP _ _ _ ?_ | refine hKP _ _ (fun _ => ?_)); clear hK hKP K KP))))
          refine ⟨keep _, kQ _, ?_, rfl⟩
          rw [Store.set_same, hpp]
          cases rest with
          | nil => simp at hc
          | cons a l => rfl
        · (repeat (first | refine Stp.s ?_ | refine inBlock_exit' (by decide) ?_ | ((first | refine vc_region fun K KP hK hKP => ?_ | refine Stg.s ?_ | refine guardD_ret0 ?_ | refine exV_intro _ rfl ?_); (try simp only [go_sem, loadL_a, hbe']); try ((first | refine hK _ _ ?_ | refine hKP _ _ _ ?_ | refine hKP _ _ (fun _ => ?_)); clear hK hKP K KP))))
          refine ⟨keep _, kQ _, ?_, rfl⟩
          rw [Store.set_same, hpp]
          cases rest with
          | nil => rfl
          | cons a l => simp at hc
    · obtain ⟨q1, q2, q3⟩ := q
      cases hpp : p with
      | ok rest => rw [hpp] at q3; cases q3.1
      | error e =>
        rw [hpp] at q3
        cases q3
        ((try simp only [go_sem, loadL_a]); (try ((first | refine hK _ _ ?_ | refine hKP _ _ _ ?_ | refine hKP _ _ (fun _ => ?_)); clear hK hKP K KP)); repeat (first | refine Stp.s ?_ | refine inBlock_exit' (by decide) ?_ | ((first | refine vc_region fun K KP hK hKP => ?_ | refine Stg.s ?_ | refine guardD_ret0 ?_ | refine exV_intro _ rfl ?_); (try simp only [go_sem, loadL_a]); try ((first | refine hK _ _ ?_ | refine hKP _ _ _ ?_ | refine hKP _ _ (fun _ => ?_)); clear hK hKP K KP))))
        refine ⟨fun c l hc hn => ?_, ⟨_, Store.le_set hbr (Store.le_set hbe (Store.le_refl σ)), by rw [Store.set_other _ _ (Ne.symm hbb), Store.set_same]; simp, q2⟩, e, hpp, rfl, 0, ?_, rfl⟩
        · have n1 : c ≠ be := fun e' => by rw [e', hbe] at hc; cases hc
          have n2 : c ≠ br := fun e' => by rw [e', hbr0] at hc; cases hc
          exact q1 c l (by rw [Store.set_other _ _ n2, Store.set_other _ _ n1]; exact hc) n2 hn
        · exact q1 be _ (by rw [Store.set_other _ _ (Ne.symm hbb)]; exact Store.set_same _ _ _) (Ne.symm hbb) hnb
theorem decF_err : ∀ (bs : List UInt8) (f : Bool) (n : Nat) (e : Int) (r : List UInt8), decF f n bs = .error (e, r) → e ≠ 0
  | [], f, n, e, r, h => by cases h; decide
  | c :: bs, f, n, e, r, h => by
    unfold decF at h
    split at h
    · cases h; decide
    · split at h
      · cases h; decide
      · split at h
        · cases h
        · exact decF_err bs _ _ e r h
theorem pSm_err {m : Nat} {bs : List UInt8} {e : Int} {r : List UInt8} (h : pSm m bs = .error (e, r)) : e ≠ 0 := by
  unfold pSm at h
  split at h
  · split at h
    · cases h
    · cases h; decide
  · rename_i hq; cases h; exact decF_err _ _ _ _ _ hq
theorem pE_err : ∀ (n : Nat) (ks : List Nat) (es : List (Nat × Nat)) (cs : List UInt8) (e : Int) (r : List UInt8), pE n ks es cs = .error (e, r) → e ≠ 0
  | 0, ks, es, cs, e, r, h => by
    unfold pE at h
    split at h
    · cases h
    · cases h; decide
  | n + 1, ks, es, cs, e, r, h => by
    rw [pE_succ] at h
    split at h
    · rename_i hq; cases h; exact pSm_err hq
    · split at h
      · rename_i hq; cases h; exact pSm_err hq
      · exact pE_err n _ _ _ e r h
theorem pK_err : ∀ (n : Nat) (ks : List Nat) (cs : List UInt8) (e : Int) (r : List UInt8), pK n ks cs = .error (e, r) → e ≠ 0
  | 0, ks, cs, e, r, h => by
    unfold pK at h
    split at h
    · rename_i hq; cases h; exact pSm_err hq
    · exact pE_err _ _ _ _ e r h
  | n + 1, ks, cs, e, r, h => by
    rw [pK_succ] at h
    split at h
    · rename_i hq; cases h; exact pSm_err hq
    · exact pK_err n _ _ e r h
end Go.Proofs.YtociliegljoldaaGreat
