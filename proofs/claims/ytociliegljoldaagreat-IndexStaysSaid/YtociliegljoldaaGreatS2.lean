/- Sorting labels. -/
import Derived.Test.YtociliegljoldaaGreatS1
namespace Go.Proofs.YtociliegljoldaaGreat
set_option linter.unusedSimpArgs false
set_option linter.unusedVariables false
open Go.Proofs
attribute [local irreducible] vc vcOps vcDraw vcK vcKP vcDK vcDB HWp HCalls postV Ex.then Ex.inBlock stepD callV appendV guardC guardD exV effV opV loadV storeV indexAddrV indexV sliceV
set_option maxRecDepth 10000
set_option maxHeartbeats 4000000

section
variable {α : Type} [Inhabited α] {enc : α → List V} {key : α → Nat} {cv : α → α → Int} {g : FuncId} {ps qs : List V}
theorem slab_load (hE : Elt 17 enc) {m : List α} {spare : List V} {i : Nat} (hi : i < m.length) (K : V → Prop) : loadL Tryz.prog 39 (m.flatMap enc ++ spare) (i * 17) K = K (.agg (enc (at0 m i))) := by
  rw [loadL_a kd39, ce39, rowE_at hE spare m i hi]
  exact propext ⟨fun h => h.2, fun h => ⟨rowE_room hE m spare i hi, h⟩⟩
theorem slab_len2 (hE : Elt 17 enc) {m : List α} {spare : List V} : (m.flatMap enc ++ spare).length = m.length * 17 + spare.length := by rw [List.length_append, rowE_len hE]
/-- slices.insertionSortCmpFunc at elements of type trug/label.Label: slab_ins. -/
theorem slab_ins (hE : Elt 17 enc) (hC : Cmpr Tryz.prog g ps qs enc key cv) (b cap a e : Nat) (m0 : List α) (spare : List V) (σ : Store) (hb : σ b = some (rowE enc m0 spare)) (hae : a ≤ e) (he : e ≤ m0.length) (hn : m0.length ≤ 1000000) :
    HCalls Tryz.prog 198 [.sl b 0 m0.length cap, I64 a, I64 e, .fn (.func g) ps qs] σ (fun r σ' => ∃ m', r = .ret (oneOf []) ∧ WP a e m0 m' ∧ Srtd key a e m' ∧ σ' = σ.set b (rowE enc m' spare)) := by
  (refine HCalls.of_vc Tryz.func198 rfl ?_; rw [Tryz.ntmps198, Tryz.results198]; simp only [List.length_cons, List.length_nil, Nat.reduceAdd, Nat.reduceSub, List.replicate, List.cons_append, List.nil_append])
  have hw1 := i64_up (show a ≤ 10000000 by omega)
  (repeat (first | refine Stp.s ?_ | refine inBlock_exit' (by decide) ?_ | ((first | refine vc_region fun K KP hK hKP => ?_ | refine Stg.s ?_ | refine guardD_ret0 ?_ | refine exV_intro _ rfl ?_); (try simp only [go_sem, loadL_a, hw1]); try ((first | refine hK _ _ ?_ | refine hKP _ _ _ ?_ | refine hKP _ _ (fun _ => ?_)); clear hK hKP K KP))))
  refine vc_loop (loopV (fun (p : Nat × List α) => [.sl b 0 m0.length cap, I64 a, I64 e, .fn (.func g) ps qs, .top, .top, .top, .top, I64 p.1, .top, .top, .top, .top, .top, .top, .top, .top, .top, .top, .top, .top, .top, .top, .top, .top, .top, .top, .top, .top, .top, .top, .top, .top, .top, .top, .top, .top, .top, .top, .top, .top, .top, .top, .top, .top, .top, .top, .top, .top, .top, .top, .top, .top]) (fun p τ => a < p.1 ∧ p.1 ≤ e + 1 ∧ WP a e m0 p.2 ∧ Srtd key a (min p.1 e) p.2 ∧ τ = σ.set b (rowE enc p.2 spare)) (fun p _ => e + 1 - p.1) (a + 1, m0) (by repeat (first | exact LeEnv.nil | refine LeEnv.same ?_ | refine LeEnv.top ?_)) ⟨by show a < a + 1; omega, by show a + 1 ≤ e + 1; omega, WP.refl _ _ _, fun p q h1 h2 h3 => by have h3 : q < min (a + 1) e := h3; omega, (Store.set_id hb).symm⟩ ?_)
  rintro ⟨i, m⟩ τ ⟨hi1, hi2, hw, hs, rfl⟩
  simp only at hi1 hi2 hw hs
  have hml := hw.len
  (repeat (first | refine Stp.s ?_ | refine inBlock_exit' (by decide) ?_ | ((first | refine vc_region fun K KP hK hKP => ?_ | refine Stg.s ?_ | refine guardD_ret0 ?_ | refine exV_intro _ rfl ?_); (try simp only [go_sem, loadL_a]); try ((first | refine hK _ _ ?_ | refine hKP _ _ _ ?_ | refine hKP _ _ (fun _ => ?_)); clear hK hKP K KP))))
  refine vc_cond rfl (fun hc => ?_) (fun hc => ?_)
  · have hlt : i < e := by simp at hc; omega
    rw [Nat.min_eq_left (by omega)] at hs
    (repeat (first | refine Stp.s ?_ | refine inBlock_exit' (by decide) ?_ | ((first | refine vc_region fun K KP hK hKP => ?_ | refine Stg.s ?_ | refine guardD_ret0 ?_ | refine exV_intro _ rfl ?_); (try simp only [go_sem, loadL_a]); try ((first | refine hK _ _ ?_ | refine hKP _ _ _ ?_ | refine hKP _ _ (fun _ => ?_)); clear hK hKP K KP))))
    refine vc_loop (loopV (fun (p : Nat × List α) => [.sl b 0 m0.length cap, I64 a, I64 e, .fn (.func g) ps qs, .top, .top, .top, .top, I64 i, I64 p.1, .top, .top, .top, .top, .top, .top, .top, .top, .top, .top, .top, .top, .top, .top, .top, .top, .top, .top, .top, .top, .top, .top, .top, .top, .top, .top, .top, .top, .top, .top, .top, .top, .top, .top, .top, .top, .top, .top, .top, .top, .top, .top, .top]) (fun p τ => a ≤ p.1 ∧ p.1 ≤ i ∧ WP a e m0 p.2 ∧ OrdW key a p.2 i p.1 ∧ τ = σ.set b (rowE enc p.2 spare)) (fun p _ => p.1) (i, m) (by repeat (first | exact LeEnv.nil | refine LeEnv.same ?_ | refine LeEnv.top ?_)) ⟨by show a ≤ i; omega, Nat.le_refl _, hw, OrdW.start key hs, rfl⟩ ?_)
    clear hw hs hml
    rintro ⟨j, m⟩ τ ⟨hj1, hj2, hw, ho, rfl⟩
    simp only at hj1 hj2 hw ho
    have hml := hw.len
    have hbb := Store.set_same σ b (rowE enc m spare)
    (repeat (first | refine Stp.s ?_ | refine inBlock_exit' (by decide) ?_ | ((first | refine vc_region fun K KP hK hKP => ?_ | refine Stg.s ?_ | refine guardD_ret0 ?_ | refine exV_intro _ rfl ?_); (try simp only [go_sem, loadL_a]); try ((first | refine hK _ _ ?_ | refine hKP _ _ _ ?_ | refine hKP _ _ (fun _ => ?_)); clear hK hKP K KP))))
    rcases Nat.lt_or_ge a j with hj | hj
    · obtain ⟨k, rfl⟩ : ∃ k, j = k + 1 := ⟨j - 1, by omega⟩
      have hj3 : decide ((a : Int) < ((k + 1 : Nat) : Int)) = true := decide_eq_true (by omega)
      have g1 := eq_true (show (0 : Int) ≤ ((k + 1 : Nat) : Int) by omega)
      have g2 := eq_true (show ((k + 1 : Nat) : Int) < m0.length by omega)
      have w2 := i64_dn (show k ≤ 10000000 by omega)
      have g3 := eq_true (show (0 : Int) ≤ (k : Int) by omega)
      have g4 := eq_true (show (k : Int) < m0.length by omega)
      have r1 := slab_load hE (spare := spare) (show k + 1 < m.length by omega)
      have r2 := slab_load hE (spare := spare) (show k < m.length by omega)
      ((repeat first | refine Stp.s ?_ | refine inBlock_exit' (by decide) ?_); refine vc_draw mixed [ ] [0, 1, 2, 3, 4, 5, 6, 7, 8, 9, 10, 11, 12, 13, 14, 15, 16 ] [ 8, 13, 14 ] [] (fun _ => True) (by kernel_rfl) (by kernel_rfl) (by kernel_rfl) trivial fun K KP hK hKP => ?_; simp only [go_sem, hj3, g1, g2, w2, g3, g4, Int.toNat_natCast]; try (refine hK _ _ ?_; clear hK hKP K KP))
      ((try simp only [go_sem, hj3, g1, g2, w2, g3, g4, Int.toNat_natCast, hbb, r1, r2]); (try ((first | refine hK _ _ ?_ | refine hKP _ _ _ ?_ | refine hKP _ _ (fun _ => ?_)); clear hK hKP K KP)); repeat (first | refine Stp.s ?_ | refine inBlock_exit' (by decide) ?_ | ((first | refine vc_region fun K KP hK hKP => ?_ | refine Stg.s ?_ | refine guardD_ret0 ?_ | refine exV_intro _ rfl ?_); (try simp only [go_sem, hj3, g1, g2, w2, g3, g4, Int.toNat_natCast, hbb, r1, r2]); try ((first | refine hK _ _ ?_ | refine hKP _ _ _ ?_ | refine hKP _ _ (fun _ => ?_)); clear hK hKP K KP))))
      ((try simp only [go_sem, loadL_a]); first | refine guardD_q0 (fun _ => callV_pure (hC.call _ _) ⟨rfl, rfl⟩) ?_ | refine guardD_q0 (fun _ _ => callV_pure (hC.call _ _) ⟨rfl, rfl⟩) ?_)
      ((try simp only [go_sem, hj3, g1, g2, w2, g3, g4, Int.toNat_natCast, hbb, r1, r2]); (try ((first | refine hK _ _ ?_ | refine hKP _ _ _ ?_ | refine hKP _ _ (fun _ => ?_)); clear hK hKP K KP)); repeat (first | refine Stp.s ?_ | refine inBlock_exit' (by decide) ?_ | ((first | refine vc_region fun K KP hK hKP => ?_ | refine Stg.s ?_ | refine guardD_ret0 ?_ | refine exV_intro _ rfl ?_); (try simp only [go_sem, hj3, g1, g2, w2, g3, g4, Int.toNat_natCast, hbb, r1, r2]); try ((first | refine hK _ _ ?_ | refine hKP _ _ _ ?_ | refine hKP _ _ (fun _ => ?_)); clear hK hKP K KP))))
      refine vc_cond rfl (fun hq => ?_) (fun hq => ?_)
      · have hlt2 : ky key m (k + 1) < ky key m k := (hC.lt _ _).1 (by simpa using hq)
        (repeat (first | refine Stp.s ?_ | refine inBlock_exit' (by decide) ?_ | ((first | refine vc_region fun K KP hK hKP => ?_ | refine Stg.s ?_ | refine guardD_ret0 ?_ | refine exV_intro _ rfl ?_); (try simp only [go_sem, loadL_a]); try ((first | refine hK _ _ ?_ | refine hKP _ _ _ ?_ | refine hKP _ _ (fun _ => ?_)); clear hK hKP K KP))))
        ((repeat first | refine Stp.s ?_ | refine inBlock_exit' (by decide) ?_); refine vc_draw mixed [ 15, 17 ] [0, 1, 2, 3, 4, 5, 6, 7, 8, 9, 10, 11, 12, 13, 14, 15, 16, 17 ] [ 9, 13 ] [] (fun _ => True) (by kernel_rfl) (by kernel_rfl) (by kernel_rfl) trivial fun K KP hK hKP => ?_; simp only [go_sem, hj3, g1, g2, w2, g3, g4, Int.toNat_natCast]; try (refine hK _ _ ?_; clear hK hKP K KP))
        ((try simp only [go_sem, hj3, g1, g2, w2, g3, g4, Int.toNat_natCast, hbb, r1, r2]); (try ((first | refine hK _ _ ?_ | refine hKP _ _ _ ?_ | refine hKP _ _ (fun _ => ?_)); clear hK hKP K KP)); repeat (first | refine Stp.s ?_ | refine inBlock_exit' (by decide) ?_ | ((first | refine vc_region fun K KP hK hKP => ?_ | refine Stg.s ?_ | refine guardD_ret0 ?_ | refine exV_intro _ rfl ?_); (try simp only [go_sem, hj3, g1, g2, w2, g3, g4, Int.toNat_natCast, hbb, r1, r2]); try ((first | refine hK _ _ ?_ | refine hKP _ _ _ ?_ | refine hKP _ _ (fun _ => ?_)); clear hK hKP K KP))))
        refine ⟨hE.len _, hE.one _, rowE_room1 hE m spare _ _ (by omega), effV_true ⟨hE.len _, hE.one _, rowE_room2 hE m spare _ _ _ _ (by omega), ?_⟩⟩
        rw [rowE_swp hE spare m _ _ (by omega) (by omega)]
        ((try simp only [go_sem, w2, Store.set_set]); (try ((first | refine hK _ _ ?_ | refine hKP _ _ _ ?_ | refine hKP _ _ (fun _ => ?_)); clear hK hKP K KP)); repeat (first | refine Stp.s ?_ | refine inBlock_exit' (by decide) ?_ | ((first | refine vc_region fun K KP hK hKP => ?_ | refine Stg.s ?_ | refine guardD_ret0 ?_ | refine exV_intro _ rfl ?_); (try simp only [go_sem, w2, Store.set_set]); try ((first | refine hK _ _ ?_ | refine hKP _ _ _ ?_ | refine hKP _ _ (fun _ => ?_)); clear hK hKP K KP))))
        exact ⟨(k, swp m (k + 1) k), _, (by repeat (first | exact LeEnv.nil | refine LeEnv.same ?_ | refine LeEnv.top ?_)), Store.le_refl _, ⟨by show a ≤ k; omega, by show k ≤ i; omega, hw.trans (WP.swap (by omega) (by omega) (by omega)), ho.swap key (by omega) (by omega) (by omega) hlt2, rfl⟩, Nat.lt_succ_self k⟩
      · have hle2 : ky key m k ≤ ky key m (k + 1) := by
          have : ¬ ky key m (k + 1) < ky key m k := fun h => by rw [decide_eq_true ((hC.lt _ _).2 h)] at hq; cases hq
          omega
        (repeat (first | refine Stp.s ?_ | refine inBlock_exit' (by decide) ?_ | ((first | refine vc_region fun K KP hK hKP => ?_ | refine Stg.s ?_ | refine guardD_ret0 ?_ | refine exV_intro _ rfl ?_); (try simp only [go_sem, loadL_a, i64_up (show i ≤ 10000000 by omega)]); try ((first | refine hK _ _ ?_ | refine hKP _ _ _ ?_ | refine hKP _ _ (fun _ => ?_)); clear hK hKP K KP))))
        have hf := ho.done key (by omega) hj2 hle2
        exact ⟨(i + 1, m), _, (by repeat (first | exact LeEnv.nil | refine LeEnv.same ?_ | refine LeEnv.top ?_)), Store.le_refl _, ⟨by show a < i + 1; omega, by show i + 1 ≤ e + 1; omega, hw, by rw [Nat.min_eq_left (by omega)]; exact hf, rfl⟩, by show e + 1 - (i + 1) < e + 1 - i; omega⟩
    · have hj0 : j = a := by omega
      subst hj0
      have hj3 : decide ((j : Int) < (j : Int)) = false := decide_eq_false (by omega)
      ((repeat first | refine Stp.s ?_ | refine inBlock_exit' (by decide) ?_); refine vc_draw mixed [ ] [0, 1, 2, 3, 4, 5, 6, 7, 8, 9, 10, 11, 12, 13, 14, 15, 16 ] [ 8, 13, 14 ] [] (fun _ => True) (by kernel_rfl) (by kernel_rfl) (by kernel_rfl) trivial fun K KP hK hKP => ?_; simp only [go_sem, hj3]; try (refine hK _ _ ?_; clear hK hKP K KP))
      ((try simp only [go_sem, loadL_a, hj3]); (try ((first | refine hK _ _ ?_ | refine hKP _ _ _ ?_ | refine hKP _ _ (fun _ => ?_)); clear hK hKP K KP)); repeat (first | refine Stp.s ?_ | refine inBlock_exit' (by decide) ?_ | ((first | refine vc_region fun K KP hK hKP => ?_ | refine Stg.s ?_ | refine guardD_ret0 ?_ | refine exV_intro _ rfl ?_); (try simp only [go_sem, loadL_a, hj3]); try ((first | refine hK _ _ ?_ | refine hKP _ _ _ ?_ | refine hKP _ _ (fun _ => ?_)); clear hK hKP K KP))))
      refine vc_cond rfl (fun hc => by cases hc) (fun hc => ?_)
      (repeat (first | refine Stp.s ?_ | refine inBlock_exit' (by decide) ?_ | ((first | refine vc_region fun K KP hK hKP => ?_ | refine Stg.s ?_ | refine guardD_ret0 ?_ | refine exV_intro _ rfl ?_); (try simp only [go_sem, loadL_a, i64_up (show i ≤ 10000000 by omega)]); try ((first | refine hK _ _ ?_ | refine hKP _ _ _ ?_ | refine hKP _ _ (fun _ => ?_)); clear hK hKP K KP))))
      have hf := ho.first
      exact ⟨(i + 1, m), _, (by repeat (first | exact LeEnv.nil | refine LeEnv.same ?_ | refine LeEnv.top ?_)), Store.le_refl _, ⟨by show j < i + 1; omega, by show i + 1 ≤ e + 1; omega, hw, by rw [Nat.min_eq_left (by omega)]; exact hf, rfl⟩, by show e + 1 - (i + 1) < e + 1 - i; omega⟩
  · (repeat (first | refine Stp.s ?_ | refine inBlock_exit' (by decide) ?_ | ((first | refine vc_region fun K KP hK hKP => ?_ | refine Stg.s ?_ | refine guardD_ret0 ?_ | refine exV_intro _ rfl ?_); (try simp only [go_sem, loadL_a]); try ((first | refine hK _ _ ?_ | refine hKP _ _ _ ?_ | refine hKP _ _ (fun _ => ?_)); clear hK hKP K KP))))
    (simp only [postV, resV, oneOf, List.getD_cons_succ, List.getD_cons_zero, and_true, true_and])
    rw [Nat.min_eq_right (by simp at hc; omega)] at hs
    exact ⟨m, hw, hs, rfl⟩
end

section
variable {α : Type} [Inhabited α] {enc : α → List V} {key : α → Nat} {cv : α → α → Int} {g : FuncId} {ps qs : List V}

theorem slab_ord2 (hE : Elt 17 enc) (hC : Cmpr Tryz.prog g ps qs enc key cv) (b cap sw : Nat) (i j : Nat) (k0 : Int) (m : List α) (spare : List V) (σ : Store) (hb : σ b = some (rowE enc m spare)) (hsw : σ sw = some (.cells [I64 k0])) (hi : i < m.length) (hj : j < m.length) :
    HCalls Tryz.prog 265 [.sl b 0 m.length cap, I64 i, I64 j, .ptr sw 0, .fn (.func g) ps qs] σ (fun r σ' => ∃ p q : Nat, ∃ k1, r = .ret (.tup [I64 p, I64 q]) ∧ ((p = i ∧ q = j) ∨ (p = j ∧ q = i)) ∧ σ' = σ.set sw (.cells [I64 k1])) := by
  (refine HCalls.of_vc Tryz.func265 rfl ?_; rw [Tryz.ntmps265, Tryz.results265]; simp only [List.length_cons, List.length_nil, Nat.reduceAdd, Nat.reduceSub, List.replicate, List.cons_append, List.nil_append])
  have g1 := eq_true (show (0 : Int) ≤ (i : Int) by omega)
  have g2 := eq_true (show (i : Int) < m.length by omega)
  have g3 := eq_true (show (0 : Int) ≤ (j : Int) by omega)
  have g4 := eq_true (show (j : Int) < m.length by omega)
  have r1 := slab_load hE (spare := spare) hi
  have r2 := slab_load hE (spare := spare) hj
  (repeat (first | refine Stp.s ?_ | refine inBlock_exit' (by decide) ?_ | ((first | refine vc_region fun K KP hK hKP => ?_ | refine Stg.s ?_ | refine guardD_ret0 ?_ | refine exV_intro _ rfl ?_); (try simp only [go_sem, loadL_a]); try ((first | refine hK _ _ ?_ | refine hKP _ _ _ ?_ | refine hKP _ _ (fun _ => ?_)); clear hK hKP K KP))))
  ((repeat first | refine Stp.s ?_ | refine inBlock_exit' (by decide) ?_); refine vc_draw mixed [ ] [0, 1, 2, 3, 4, 5, 6, 7, 8, 9, 10 ] [ 4, 8, 9 ] [] (fun _ => True) (by kernel_rfl) (by kernel_rfl) (by kernel_rfl) trivial fun K KP hK hKP => ?_; simp only [go_sem, g1, g2, g3, g4, Int.toNat_natCast, hb, r1, r2]; try (refine hK _ _ ?_; clear hK hKP K KP))
  ((try simp only [go_sem, g1, g2, g3, g4, Int.toNat_natCast, hb, r1, r2]); (try ((first | refine hK _ _ ?_ | refine hKP _ _ _ ?_ | refine hKP _ _ (fun _ => ?_)); clear hK hKP K KP)); repeat (first | refine Stp.s ?_ | refine inBlock_exit' (by decide) ?_ | ((first | refine vc_region fun K KP hK hKP => ?_ | refine Stg.s ?_ | refine guardD_ret0 ?_ | refine exV_intro _ rfl ?_); (try simp only [go_sem, g1, g2, g3, g4, Int.toNat_natCast, hb, r1, r2]); try ((first | refine hK _ _ ?_ | refine hKP _ _ _ ?_ | refine hKP _ _ (fun _ => ?_)); clear hK hKP K KP))))
  ((try simp only [go_sem, loadL_a]); first | refine exV_intro _ (callV_pure (hC.call _ _) ⟨rfl, rfl⟩) ?_ | refine exV_intro _ (fun _ => callV_pure (hC.call _ _) ⟨rfl, rfl⟩) ?_ | refine exV_intro _ (fun _ _ => callV_pure (hC.call _ _) ⟨rfl, rfl⟩) ?_)
  ((try simp only [go_sem, g1, g2, g3, g4, Int.toNat_natCast, hb, r1, r2]); (try ((first | refine hK _ _ ?_ | refine hKP _ _ _ ?_ | refine hKP _ _ (fun _ => ?_)); clear hK hKP K KP)); repeat (first | refine Stp.s ?_ | refine inBlock_exit' (by decide) ?_ | ((first | refine vc_region fun K KP hK hKP => ?_ | refine Stg.s ?_ | refine guardD_ret0 ?_ | refine exV_intro _ rfl ?_); (try simp only [go_sem, g1, g2, g3, g4, Int.toNat_natCast, hb, r1, r2]); try ((first | refine hK _ _ ?_ | refine hKP _ _ _ ?_ | refine hKP _ _ (fun _ => ?_)); clear hK hKP K KP))))
  refine vc_cond rfl (fun hq => ?_) (fun hq => ?_)
  · (repeat (first | refine Stp.s ?_ | refine inBlock_exit' (by decide) ?_ | ((first | refine vc_region fun K KP hK hKP => ?_ | refine Stg.s ?_ | refine guardD_ret0 ?_ | refine exV_intro _ rfl ?_); (try simp only [go_sem, loadL_a, hsw]); try ((first | refine hK _ _ ?_ | refine hKP _ _ _ ?_ | refine hKP _ _ (fun _ => ?_)); clear hK hKP K KP))))
    (simp only [postV, resV, oneOf, List.getD_cons_succ, List.getD_cons_zero, and_true, true_and])
    exact ⟨j, i, _, rfl, .inr ⟨rfl, rfl⟩, rfl⟩
  · (repeat (first | refine Stp.s ?_ | refine inBlock_exit' (by decide) ?_ | ((first | refine vc_region fun K KP hK hKP => ?_ | refine Stg.s ?_ | refine guardD_ret0 ?_ | refine exV_intro _ rfl ?_); (try simp only [go_sem, loadL_a]); try ((first | refine hK _ _ ?_ | refine hKP _ _ _ ?_ | refine hKP _ _ (fun _ => ?_)); clear hK hKP K KP))))
    (simp only [postV, resV, oneOf, List.getD_cons_succ, List.getD_cons_zero, and_true, true_and])
    exact ⟨i, j, k0, rfl, .inl ⟨rfl, rfl⟩, (Store.set_id hsw).symm⟩
theorem slab_med (hE : Elt 17 enc) (hC : Cmpr Tryz.prog g ps qs enc key cv) (b cap sw : Nat) (i j l : Nat) (k0 : Int) (m : List α) (spare : List V) (σ : Store) (hb : σ b = some (rowE enc m spare)) (hsw : σ sw = some (.cells [I64 k0])) (hbs : b ≠ sw) (hi : i < m.length) (hj : j < m.length) (hl : l < m.length) :
    HCalls Tryz.prog 252 [.sl b 0 m.length cap, I64 i, I64 j, I64 l, .ptr sw 0, .fn (.func g) ps qs] σ (fun r σ' => ∃ p : Nat, ∃ k1, r = .ret (I64 p) ∧ (p = i ∨ p = j ∨ p = l) ∧ σ' = σ.set sw (.cells [I64 k1])) := by
  (refine HCalls.of_vc Tryz.func252 rfl ?_; rw [Tryz.ntmps252, Tryz.results252]; simp only [List.length_cons, List.length_nil, Nat.reduceAdd, Nat.reduceSub, List.replicate, List.cons_append, List.nil_append])
  have hbb : ∀ k, (σ.set sw k) b = some (rowE enc m spare) := fun k => by rw [Store.set_other _ _ hbs]; exact hb
  (repeat (first | refine Stp.s ?_ | refine inBlock_exit' (by decide) ?_ | ((first | refine vc_region fun K KP hK hKP => ?_ | refine Stg.s ?_ | refine guardD_ret0 ?_ | refine exV_intro _ rfl ?_); (try simp only [go_sem, loadL_a]); try ((first | refine hK _ _ ?_ | refine hKP _ _ _ ?_ | refine hKP _ _ (fun _ => ?_)); clear hK hKP K KP))))
  refine callV_of en265 (slab_ord2 hE hC b cap sw i j k0 m spare σ hb hsw hi hj) (fun x σ' q => ?_) (fun x σ' q => by obtain ⟨_, _, _, e, _⟩ := q; cases e)
  obtain ⟨p1, q1, k1, e, h1, rfl⟩ := q
  cases e
  ((try simp only [go_sem, loadL_a]); (try ((first | refine hK _ _ ?_ | refine hKP _ _ _ ?_ | refine hKP _ _ (fun _ => ?_)); clear hK hKP K KP)); repeat (first | refine Stp.s ?_ | refine inBlock_exit' (by decide) ?_ | ((first | refine vc_region fun K KP hK hKP => ?_ | refine Stg.s ?_ | refine guardD_ret0 ?_ | refine exV_intro _ rfl ?_); (try simp only [go_sem, loadL_a]); try ((first | refine hK _ _ ?_ | refine hKP _ _ _ ?_ | refine hKP _ _ (fun _ => ?_)); clear hK hKP K KP))))
  refine callV_of en265 (slab_ord2 hE hC b cap sw q1 l k1 m spare _ (hbb _) (Store.set_same _ _ _) (by omega) hl) (fun x σ' q => ?_) (fun x σ' q => by obtain ⟨_, _, _, e, _⟩ := q; cases e)
  obtain ⟨p2, q2, k2, e, h2, rfl⟩ := q
  cases e
  rw [Store.set_set]
  ((try simp only [go_sem, loadL_a]); (try ((first | refine hK _ _ ?_ | refine hKP _ _ _ ?_ | refine hKP _ _ (fun _ => ?_)); clear hK hKP K KP)); repeat (first | refine Stp.s ?_ | refine inBlock_exit' (by decide) ?_ | ((first | refine vc_region fun K KP hK hKP => ?_ | refine Stg.s ?_ | refine guardD_ret0 ?_ | refine exV_intro _ rfl ?_); (try simp only [go_sem, loadL_a]); try ((first | refine hK _ _ ?_ | refine hKP _ _ _ ?_ | refine hKP _ _ (fun _ => ?_)); clear hK hKP K KP))))
  refine callV_of en265 (slab_ord2 hE hC b cap sw p1 p2 k2 m spare _ (hbb _) (Store.set_same _ _ _) (by omega) (by omega)) (fun x σ' q => ?_) (fun x σ' q => by obtain ⟨_, _, _, e, _⟩ := q; cases e)
  obtain ⟨p3, q3, k3, e, h3, rfl⟩ := q
  cases e
  rw [Store.set_set]
  ((try simp only [go_sem, loadL_a]); (try ((first | refine hK _ _ ?_ | refine hKP _ _ _ ?_ | refine hKP _ _ (fun _ => ?_)); clear hK hKP K KP)); repeat (first | refine Stp.s ?_ | refine inBlock_exit' (by decide) ?_ | ((first | refine vc_region fun K KP hK hKP => ?_ | refine Stg.s ?_ | refine guardD_ret0 ?_ | refine exV_intro _ rfl ?_); (try simp only [go_sem, loadL_a]); try ((first | refine hK _ _ ?_ | refine hKP _ _ _ ?_ | refine hKP _ _ (fun _ => ?_)); clear hK hKP K KP))))
  (simp only [postV, resV, oneOf, List.getD_cons_succ, List.getD_cons_zero, and_true, true_and])
  exact ⟨q3, k3, rfl, by omega, rfl⟩
theorem slab_meda (hE : Elt 17 enc) (hC : Cmpr Tryz.prog g ps qs enc key cv) (b cap sw : Nat) (i : Nat) (k0 : Int) (m : List α) (spare : List V) (σ : Store) (hb : σ b = some (rowE enc m spare)) (hsw : σ sw = some (.cells [I64 k0])) (hbs : b ≠ sw) (h0 : 0 < i) (hi : i + 1 < m.length) (hn : m.length ≤ 250) :
    HCalls Tryz.prog 251 [.sl b 0 m.length cap, I64 i, .ptr sw 0, .fn (.func g) ps qs] σ (fun r σ' => ∃ p : Nat, ∃ k1, r = .ret (I64 p) ∧ (i - 1 ≤ p ∧ p ≤ i + 1) ∧ σ' = σ.set sw (.cells [I64 k1])) := by
  (refine HCalls.of_vc Tryz.func251 rfl ?_; rw [Tryz.ntmps251, Tryz.results251]; simp only [List.length_cons, List.length_nil, Nat.reduceAdd, Nat.reduceSub, List.replicate, List.cons_append, List.nil_append])
  have w1 := i64_minus (show i ≤ 10000000 by omega) (show 1 ≤ i by omega)
  have w2 := i64_up (show i ≤ 10000000 by omega)
  (repeat (first | refine Stp.s ?_ | refine inBlock_exit' (by decide) ?_ | ((first | refine vc_region fun K KP hK hKP => ?_ | refine Stg.s ?_ | refine guardD_ret0 ?_ | refine exV_intro _ rfl ?_); (try simp only [go_sem, loadL_a, nc1 ▸ w1, w2]); try ((first | refine hK _ _ ?_ | refine hKP _ _ _ ?_ | refine hKP _ _ (fun _ => ?_)); clear hK hKP K KP))))
  refine callV_of en252 (slab_med hE hC b cap sw (i - 1) i (i + 1) k0 m spare σ hb hsw hbs (by omega) (by omega) (by omega)) (fun x σ' q => ?_) (fun x σ' q => by obtain ⟨_, _, e, _⟩ := q; cases e)
  obtain ⟨p1, k1, e, h1, rfl⟩ := q
  cases e
  ((try simp only [go_sem, loadL_a]); (try ((first | refine hK _ _ ?_ | refine hKP _ _ _ ?_ | refine hKP _ _ (fun _ => ?_)); clear hK hKP K KP)); repeat (first | refine Stp.s ?_ | refine inBlock_exit' (by decide) ?_ | ((first | refine vc_region fun K KP hK hKP => ?_ | refine Stg.s ?_ | refine guardD_ret0 ?_ | refine exV_intro _ rfl ?_); (try simp only [go_sem, loadL_a]); try ((first | refine hK _ _ ?_ | refine hKP _ _ _ ?_ | refine hKP _ _ (fun _ => ?_)); clear hK hKP K KP))))
  (simp only [postV, resV, oneOf, List.getD_cons_succ, List.getD_cons_zero, and_true, true_and])
  exact ⟨p1, k1, rfl, by omega, rfl⟩
theorem slab_piv (hE : Elt 17 enc) (hC : Cmpr Tryz.prog g ps qs enc key cv) (b cap a e : Nat) (m : List α) (spare : List V) (σ : Store) (hb : σ b = some (rowE enc m spare)) (hae : a + 12 < e) (he : e ≤ m.length) (hn : m.length ≤ 250) :
    HCalls Tryz.prog 201 [.sl b 0 m.length cap, I64 a, I64 e, .fn (.func g) ps qs] σ (fun r σ' => ∃ p : Nat, ∃ h : Int, r = .ret (.tup [I64 p, I64 h]) ∧ (a ≤ p ∧ p < e) ∧ σ.le σ') := by
  (refine HCalls.of_vc Tryz.func201 rfl ?_; rw [Tryz.ntmps201, Tryz.results201]; simp only [List.length_cons, List.length_nil, Nat.reduceAdd, Nat.reduceSub, List.replicate, List.cons_append, List.nil_append])
  have w0 := i64_minus (show e ≤ 10000000 by omega) (show a ≤ e by omega)
  obtain ⟨n, hn2⟩ : ∃ n, n = e - a := ⟨_, rfl⟩
  rw [← hn2] at w0
  have wq : IntKind.i64.wrap ((n : Int).tdiv 4) = ((n / 4 : Nat) : Int) := by rw [Int.tdiv_eq_ediv_of_nonneg (by omega), i64_in (by omega) (by omega)]; omega
  have x1 : IntKind.i64.wrap (((n / 4 : Nat) : Int) * 1) = ((n / 4 : Nat) : Int) := by rw [i64_in (by omega) (by omega)]; omega
  have x2 : IntKind.i64.wrap (((n / 4 : Nat) : Int) * 2) = ((n / 4 * 2 : Nat) : Int) := by rw [i64_in (by omega) (by omega)]; omega
  have x3 : IntKind.i64.wrap (((n / 4 : Nat) : Int) * 3) = ((n / 4 * 3 : Nat) : Int) := by rw [i64_in (by omega) (by omega)]; omega
  have y1 := i64_plus (show a ≤ 10000000 by omega) (show n / 4 ≤ 10000000 by omega)
  have y2 := i64_plus (show a ≤ 10000000 by omega) (show n / 4 * 2 ≤ 10000000 by omega)
  have y3 := i64_plus (show a ≤ 10000000 by omega) (show n / 4 * 3 ≤ 10000000 by omega)
  have z4 := eq_true (show ¬((4 : Int) = 0) by decide)
  (repeat (first | refine Stp.s ?_ | refine inBlock_exit' (by decide) ?_ | ((first | refine vc_region fun K KP hK hKP => ?_ | refine Stg.s ?_ | refine guardD_ret0 ?_ | refine exV_intro _ rfl ?_); (try simp only [go_sem, loadL_a, w0, wq, x1, x2, x3, y1, y2, y3, z4]); try ((first | refine hK _ _ ?_ | refine hKP _ _ _ ?_ | refine hKP _ _ (fun _ => ?_)); clear hK hKP K KP))))
  intro sw hsw
  have hle0 := Store.le_set hsw (Store.le_refl σ) (k := .cells [I64 0])
  have hbs : b ≠ sw := fun q => by rw [q, hsw] at hb; cases hb
  have hls : ∀ k, σ.le (σ.set sw k) := fun k => Store.le_set hsw (Store.le_refl σ)
  have hbb : ∀ k, (σ.set sw k) b = some (rowE enc m spare) := fun k => by rw [Store.set_other _ _ hbs]; exact hb
  ((try simp only [go_sem, loadL_a, w0, wq, x1, x2, x3, y1, y2, y3, z4]); (try ((first | refine hK _ _ ?_ | refine hKP _ _ _ ?_ | refine hKP _ _ (fun _ => ?_)); clear hK hKP K KP)); repeat (first | refine Stp.s ?_ | refine inBlock_exit' (by decide) ?_ | ((first | refine vc_region fun K KP hK hKP => ?_ | refine Stg.s ?_ | refine guardD_ret0 ?_ | refine exV_intro _ rfl ?_); (try simp only [go_sem, loadL_a, w0, wq, x1, x2, x3, y1, y2, y3, z4]); try ((first | refine hK _ _ ?_ | refine hKP _ _ _ ?_ | refine hKP _ _ (fun _ => ?_)); clear hK hKP K KP))))
  refine vc_cond rfl (fun _ => ?_) (fun hq => by simp at hq; omega)
  have hfin : ∀ (p : Nat) (k1 : Int), True := fun _ _ => trivial
  by_cases h50 : 50 ≤ n
  · (repeat (first | refine Stp.s ?_ | refine inBlock_exit' (by decide) ?_ | ((first | refine vc_region fun K KP hK hKP => ?_ | refine Stg.s ?_ | refine guardD_ret0 ?_ | refine exV_intro _ rfl ?_); (try simp only [go_sem, loadL_a]); try ((first | refine hK _ _ ?_ | refine hKP _ _ _ ?_ | refine hKP _ _ (fun _ => ?_)); clear hK hKP K KP))))
    refine vc_cond rfl (fun _ => ?_) (fun hq => by simp at hq; omega)
    (repeat (first | refine Stp.s ?_ | refine inBlock_exit' (by decide) ?_ | ((first | refine vc_region fun K KP hK hKP => ?_ | refine Stg.s ?_ | refine guardD_ret0 ?_ | refine exV_intro _ rfl ?_); (try simp only [go_sem, loadL_a]); try ((first | refine hK _ _ ?_ | refine hKP _ _ _ ?_ | refine hKP _ _ (fun _ => ?_)); clear hK hKP K KP))))
    refine callV_of en251 (slab_meda hE hC b cap sw (a + n / 4) 0 m spare _ (hbb _) (Store.set_same _ _ _) hbs (by omega) (by omega) hn) (fun x σ' q => ?_) (fun x σ' q => by obtain ⟨_, _, e, _⟩ := q; cases e)
    obtain ⟨p1, k1, e1, h1, rfl⟩ := q
    cases e1
    rw [Store.set_set]
    ((try simp only [go_sem, loadL_a]); (try ((first | refine hK _ _ ?_ | refine hKP _ _ _ ?_ | refine hKP _ _ (fun _ => ?_)); clear hK hKP K KP)); repeat (first | refine Stp.s ?_ | refine inBlock_exit' (by decide) ?_ | ((first | refine vc_region fun K KP hK hKP => ?_ | refine Stg.s ?_ | refine guardD_ret0 ?_ | refine exV_intro _ rfl ?_); (try simp only [go_sem, loadL_a]); try ((first | refine hK _ _ ?_ | refine hKP _ _ _ ?_ | refine hKP _ _ (fun _ => ?_)); clear hK hKP K KP))))
    refine callV_of en251 (slab_meda hE hC b cap sw (a + n / 4 * 2) k1 m spare _ (hbb _) (Store.set_same _ _ _) hbs (by omega) (by omega) hn) (fun x σ' q => ?_) (fun x σ' q => by obtain ⟨_, _, e, _⟩ := q; cases e)
    obtain ⟨p2, k2, e2, h2, rfl⟩ := q
    cases e2
    rw [Store.set_set]
    ((try simp only [go_sem, loadL_a]); (try ((first | refine hK _ _ ?_ | refine hKP _ _ _ ?_ | refine hKP _ _ (fun _ => ?_)); clear hK hKP K KP)); repeat (first | refine Stp.s ?_ | refine inBlock_exit' (by decide) ?_ | ((first | refine vc_region fun K KP hK hKP => ?_ | refine Stg.s ?_ | refine guardD_ret0 ?_ | refine exV_intro _ rfl ?_); (try simp only [go_sem, loadL_a]); try ((first | refine hK _ _ ?_ | refine hKP _ _ _ ?_ | refine hKP _ _ (fun _ => ?_)); clear hK hKP K KP))))
    refine callV_of en251 (slab_meda hE hC b cap sw (a + n / 4 * 3) k2 m spare _ (hbb _) (Store.set_same _ _ _) hbs (by omega) (by omega) hn) (fun x σ' q => ?_) (fun x σ' q => by obtain ⟨_, _, e, _⟩ := q; cases e)
    obtain ⟨p3, k3, e3, h3, rfl⟩ := q
    cases e3
    rw [Store.set_set]
    ((try simp only [go_sem, loadL_a]); (try ((first | refine hK _ _ ?_ | refine hKP _ _ _ ?_ | refine hKP _ _ (fun _ => ?_)); clear hK hKP K KP)); repeat (first | refine Stp.s ?_ | refine inBlock_exit' (by decide) ?_ | ((first | refine vc_region fun K KP hK hKP => ?_ | refine Stg.s ?_ | refine guardD_ret0 ?_ | refine exV_intro _ rfl ?_); (try simp only [go_sem, loadL_a]); try ((first | refine hK _ _ ?_ | refine hKP _ _ _ ?_ | refine hKP _ _ (fun _ => ?_)); clear hK hKP K KP))))
    refine callV_of en252 (slab_med hE hC b cap sw p1 p2 p3 k3 m spare _ (hbb _) (Store.set_same _ _ _) hbs (by omega) (by omega) (by omega)) (fun x σ' q => ?_) (fun x σ' q => by obtain ⟨_, _, e, _⟩ := q; cases e)
    obtain ⟨p, k, e4, h4, rfl⟩ := q
    cases e4
    rw [Store.set_set]
    have hss := Store.set_same σ sw (.cells [I64 k])
    ((try simp only [go_sem, loadL_a, hss]); (try ((first | refine hK _ _ ?_ | refine hKP _ _ _ ?_ | refine hKP _ _ (fun _ => ?_)); clear hK hKP K KP)); repeat (first | refine Stp.s ?_ | refine inBlock_exit' (by decide) ?_ | ((first | refine vc_region fun K KP hK hKP => ?_ | refine Stg.s ?_ | refine guardD_ret0 ?_ | refine exV_intro _ rfl ?_); (try simp only [go_sem, loadL_a, hss]); try ((first | refine hK _ _ ?_ | refine hKP _ _ _ ?_ | refine hKP _ _ (fun _ => ?_)); clear hK hKP K KP))))
    refine vc_cond rfl (fun _ => ?_) (fun _ => ?_)
    · (repeat (first | refine Stp.s ?_ | refine inBlock_exit' (by decide) ?_ | ((first | refine vc_region fun K KP hK hKP => ?_ | refine Stg.s ?_ | refine guardD_ret0 ?_ | refine exV_intro _ rfl ?_); (try simp only [go_sem, loadL_a]); try ((first | refine hK _ _ ?_ | refine hKP _ _ _ ?_ | refine hKP _ _ (fun _ => ?_)); clear hK hKP K KP))))
      (simp only [postV, resV, oneOf, List.getD_cons_succ, List.getD_cons_zero, and_true, true_and])
      exact ⟨p, _, rfl, by omega, hls _⟩
    · (repeat (first | refine Stp.s ?_ | refine inBlock_exit' (by decide) ?_ | ((first | refine vc_region fun K KP hK hKP => ?_ | refine Stg.s ?_ | refine guardD_ret0 ?_ | refine exV_intro _ rfl ?_); (try simp only [go_sem, loadL_a]); try ((first | refine hK _ _ ?_ | refine hKP _ _ _ ?_ | refine hKP _ _ (fun _ => ?_)); clear hK hKP K KP))))
      refine vc_cond rfl (fun _ => ?_) (fun _ => ?_)
      · (repeat (first | refine Stp.s ?_ | refine inBlock_exit' (by decide) ?_ | ((first | refine vc_region fun K KP hK hKP => ?_ | refine Stg.s ?_ | refine guardD_ret0 ?_ | refine exV_intro _ rfl ?_); (try simp only [go_sem, loadL_a]); try ((first | refine hK _ _ ?_ | refine hKP _ _ _ ?_ | refine hKP _ _ (fun _ => ?_)); clear hK hKP K KP))))
        (simp only [postV, resV, oneOf, List.getD_cons_succ, List.getD_cons_zero, and_true, true_and])
        exact ⟨p, _, rfl, by omega, hls _⟩
      · (repeat (first | refine Stp.s ?_ | refine inBlock_exit' (by decide) ?_ | ((first | refine vc_region fun K KP hK hKP => ?_ | refine Stg.s ?_ | refine guardD_ret0 ?_ | refine exV_intro _ rfl ?_); (try simp only [go_sem, loadL_a]); try ((first | refine hK _ _ ?_ | refine hKP _ _ _ ?_ | refine hKP _ _ (fun _ => ?_)); clear hK hKP K KP))))
        (simp only [postV, resV, oneOf, List.getD_cons_succ, List.getD_cons_zero, and_true, true_and])
        exact ⟨p, _, rfl, by omega, hls _⟩
  · (repeat (first | refine Stp.s ?_ | refine inBlock_exit' (by decide) ?_ | ((first | refine vc_region fun K KP hK hKP => ?_ | refine Stg.s ?_ | refine guardD_ret0 ?_ | refine exV_intro _ rfl ?_); (try simp only [go_sem, loadL_a]); try ((first | refine hK _ _ ?_ | refine hKP _ _ _ ?_ | refine hKP _ _ (fun _ => ?_)); clear hK hKP K KP))))
    refine vc_cond rfl (fun hq => by simp at hq; omega) (fun _ => ?_)
    (repeat (first | refine Stp.s ?_ | refine inBlock_exit' (by decide) ?_ | ((first | refine vc_region fun K KP hK hKP => ?_ | refine Stg.s ?_ | refine guardD_ret0 ?_ | refine exV_intro _ rfl ?_); (try simp only [go_sem, loadL_a]); try ((first | refine hK _ _ ?_ | refine hKP _ _ _ ?_ | refine hKP _ _ (fun _ => ?_)); clear hK hKP K KP))))
    refine callV_of en252 (slab_med hE hC b cap sw (a + n / 4) (a + n / 4 * 2) (a + n / 4 * 3) 0 m spare _ (hbb _) (Store.set_same _ _ _) hbs (by omega) (by omega) (by omega)) (fun x σ' q => ?_) (fun x σ' q => by obtain ⟨_, _, e, _⟩ := q; cases e)
    obtain ⟨p, k, e4, h4, rfl⟩ := q
    cases e4
    rw [Store.set_set]
    have hss := Store.set_same σ sw (.cells [I64 k])
    ((try simp only [go_sem, loadL_a, hss]); (try ((first | refine hK _ _ ?_ | refine hKP _ _ _ ?_ | refine hKP _ _ (fun _ => ?_)); clear hK hKP K KP)); repeat (first | refine Stp.s ?_ | refine inBlock_exit' (by decide) ?_ | ((first | refine vc_region fun K KP hK hKP => ?_ | refine Stg.s ?_ | refine guardD_ret0 ?_ | refine exV_intro _ rfl ?_); (try simp only [go_sem, loadL_a, hss]); try ((first | refine hK _ _ ?_ | refine hKP _ _ _ ?_ | refine hKP _ _ (fun _ => ?_)); clear hK hKP K KP))))
    refine vc_cond rfl (fun _ => ?_) (fun _ => ?_)
    · (repeat (first | refine Stp.s ?_ | refine inBlock_exit' (by decide) ?_ | ((first | refine vc_region fun K KP hK hKP => ?_ | refine Stg.s ?_ | refine guardD_ret0 ?_ | refine exV_intro _ rfl ?_); (try simp only [go_sem, loadL_a]); try ((first | refine hK _ _ ?_ | refine hKP _ _ _ ?_ | refine hKP _ _ (fun _ => ?_)); clear hK hKP K KP))))
      (simp only [postV, resV, oneOf, List.getD_cons_succ, List.getD_cons_zero, and_true, true_and])
      exact ⟨p, _, rfl, by omega, hls _⟩
    · (repeat (first | refine Stp.s ?_ | refine inBlock_exit' (by decide) ?_ | ((first | refine vc_region fun K KP hK hKP => ?_ | refine Stg.s ?_ | refine guardD_ret0 ?_ | refine exV_intro _ rfl ?_); (try simp only [go_sem, loadL_a]); try ((first | refine hK _ _ ?_ | refine hKP _ _ _ ?_ | refine hKP _ _ (fun _ => ?_)); clear hK hKP K KP))))
      refine vc_cond rfl (fun _ => ?_) (fun _ => ?_)
      · (repeat (first | refine Stp.s ?_ | refine inBlock_exit' (by decide) ?_ | ((first | refine vc_region fun K KP hK hKP => ?_ | refine Stg.s ?_ | refine guardD_ret0 ?_ | refine exV_intro _ rfl ?_); (try simp only [go_sem, loadL_a]); try ((first | refine hK _ _ ?_ | refine hKP _ _ _ ?_ | refine hKP _ _ (fun _ => ?_)); clear hK hKP K KP))))
        (simp only [postV, resV, oneOf, List.getD_cons_succ, List.getD_cons_zero, and_true, true_and])
        exact ⟨p, _, rfl, by omega, hls _⟩
      · (repeat (first | refine Stp.s ?_ | refine inBlock_exit' (by decide) ?_ | ((first | refine vc_region fun K KP hK hKP => ?_ | refine Stg.s ?_ | refine guardD_ret0 ?_ | refine exV_intro _ rfl ?_); (try simp only [go_sem, loadL_a]); try ((first | refine hK _ _ ?_ | refine hKP _ _ _ ?_ | refine hKP _ _ (fun _ => ?_)); clear hK hKP K KP))))
        (simp only [postV, resV, oneOf, List.getD_cons_succ, List.getD_cons_zero, and_true, true_and])
        exact ⟨p, _, rfl, by omega, hls _⟩

theorem slab_rev (hE : Elt 17 enc) (b cap a e : Nat) (m0 : List α) (spare : List V) (σ : Store) (hb : σ b = some (rowE enc m0 spare)) (hae : a < e) (he : e ≤ m0.length) (hn : m0.length ≤ 250) :
    HCalls Tryz.prog 202 [.sl b 0 m0.length cap, I64 a, I64 e, .fn (.func g) ps qs] σ (fun r σ' => ∃ m', r = .ret (oneOf []) ∧ WP a e m0 m' ∧ σ' = σ.set b (rowE enc m' spare)) := by
  (refine HCalls.of_vc Tryz.func202 rfl ?_; rw [Tryz.ntmps202, Tryz.results202]; simp only [List.length_cons, List.length_nil, Nat.reduceAdd, Nat.reduceSub, List.replicate, List.cons_append, List.nil_append])
  have w1 := i64_minus (show e ≤ 10000000 by omega) (show 1 ≤ e by omega)
  (repeat (first | refine Stp.s ?_ | refine inBlock_exit' (by decide) ?_ | ((first | refine vc_region fun K KP hK hKP => ?_ | refine Stg.s ?_ | refine guardD_ret0 ?_ | refine exV_intro _ rfl ?_); (try simp only [go_sem, loadL_a, nc1 ▸ w1]); try ((first | refine hK _ _ ?_ | refine hKP _ _ _ ?_ | refine hKP _ _ (fun _ => ?_)); clear hK hKP K KP))))
  refine vc_loop (loopV (fun (p : Nat × Nat × List α) => [.sl b 0 m0.length cap, I64 a, I64 e, .fn (.func g) ps qs, .top, .top, .top, .top, I64 p.1, I64 p.2.1, .top, .top, .top, .top, .top, .top, .top, .top, .top, .top, .top, .top, .top, .top, .top, .top, .top, .top, .top, .top, .top, .top, .top, .top]) (fun p τ => a ≤ p.1 ∧ p.2.1 < e ∧ a ≤ p.2.1 + 1 ∧ WP a e m0 p.2.2 ∧ τ = σ.set b (rowE enc p.2.2 spare)) (fun p _ => e + p.2.1 - p.1) (a, e - 1, m0) (by repeat (first | exact LeEnv.nil | refine LeEnv.same ?_ | refine LeEnv.top ?_)) ⟨Nat.le_refl _, by show e - 1 < e; omega, by show a ≤ e - 1 + 1; omega, WP.refl _ _ _, (Store.set_id hb).symm⟩ ?_)
  rintro ⟨i, j, m⟩ τ ⟨hi, hj, hj2, hw, rfl⟩
  simp only at hi hj hj2 hw
  have hml := hw.len
  have hbb := Store.set_same σ b (rowE enc m spare)
  (repeat (first | refine Stp.s ?_ | refine inBlock_exit' (by decide) ?_ | ((first | refine vc_region fun K KP hK hKP => ?_ | refine Stg.s ?_ | refine guardD_ret0 ?_ | refine exV_intro _ rfl ?_); (try simp only [go_sem, loadL_a]); try ((first | refine hK _ _ ?_ | refine hKP _ _ _ ?_ | refine hKP _ _ (fun _ => ?_)); clear hK hKP K KP))))
  refine vc_cond rfl (fun hc => ?_) (fun hc => ?_)
  · have hlt : i < j := by simpa using hc
    have g1 := eq_true (show (0 : Int) ≤ (i : Int) by omega)
    have g2 := eq_true (show (i : Int) < m0.length by omega)
    have g3 := eq_true (show (0 : Int) ≤ (j : Int) by omega)
    have g4 := eq_true (show (j : Int) < m0.length by omega)
    have r1 := slab_load hE (spare := spare) (show i < m.length by omega)
    have r2 := slab_load hE (spare := spare) (show j < m.length by omega)
    have w2 := i64_up (show i ≤ 10000000 by omega)
    have w3 := i64_minus (show j ≤ 10000000 by omega) (show 1 ≤ j by omega)
    (repeat (first | refine Stp.s ?_ | refine inBlock_exit' (by decide) ?_ | ((first | refine vc_region fun K KP hK hKP => ?_ | refine Stg.s ?_ | refine guardD_ret0 ?_ | refine exV_intro _ rfl ?_); (try simp only [go_sem, loadL_a]); try ((first | refine hK _ _ ?_ | refine hKP _ _ _ ?_ | refine hKP _ _ (fun _ => ?_)); clear hK hKP K KP))))
    ((repeat first | refine Stp.s ?_ | refine inBlock_exit' (by decide) ?_); refine vc_draw mixed [ 13, 15 ] [0, 1, 2, 3, 4, 5, 6, 7, 8, 9, 10, 11, 12, 13, 14, 15 ] [ 7, 11 ] [] (fun _ => True) (by kernel_rfl) (by kernel_rfl) (by kernel_rfl) trivial fun K KP hK hKP => ?_; simp only [go_sem, g1, g2, g3, g4, Int.toNat_natCast, hbb, r1, r2]; try (refine hK _ _ ?_; clear hK hKP K KP))
    ((try simp only [go_sem, g1, g2, g3, g4, Int.toNat_natCast, hbb, r1, r2]); (try ((first | refine hK _ _ ?_ | refine hKP _ _ _ ?_ | refine hKP _ _ (fun _ => ?_)); clear hK hKP K KP)); repeat (first | refine Stp.s ?_ | refine inBlock_exit' (by decide) ?_ | ((first | refine vc_region fun K KP hK hKP => ?_ | refine Stg.s ?_ | refine guardD_ret0 ?_ | refine exV_intro _ rfl ?_); (try simp only [go_sem, g1, g2, g3, g4, Int.toNat_natCast, hbb, r1, r2]); try ((first | refine hK _ _ ?_ | refine hKP _ _ _ ?_ | refine hKP _ _ (fun _ => ?_)); clear hK hKP K KP))))
    refine ⟨hE.len _, hE.one _, rowE_room1 hE m spare _ _ (by omega), effV_true ⟨hE.len _, hE.one _, rowE_room2 hE m spare _ _ _ _ (by omega), ?_⟩⟩
    rw [rowE_swp hE spare m _ _ (by omega) (by omega)]
    ((try simp only [go_sem, Store.set_set, w2, nc1 ▸ w3]); (try ((first | refine hK _ _ ?_ | refine hKP _ _ _ ?_ | refine hKP _ _ (fun _ => ?_)); clear hK hKP K KP)); repeat (first | refine Stp.s ?_ | refine inBlock_exit' (by decide) ?_ | ((first | refine vc_region fun K KP hK hKP => ?_ | refine Stg.s ?_ | refine guardD_ret0 ?_ | refine exV_intro _ rfl ?_); (try simp only [go_sem, Store.set_set, w2, nc1 ▸ w3]); try ((first | refine hK _ _ ?_ | refine hKP _ _ _ ?_ | refine hKP _ _ (fun _ => ?_)); clear hK hKP K KP))))
    exact ⟨(i + 1, j - 1, swp m i j), _, (by repeat (first | exact LeEnv.nil | refine LeEnv.same ?_ | refine LeEnv.top ?_)), Store.le_refl _, ⟨by show a ≤ i + 1; omega, by show j - 1 < e; omega, by show a ≤ j - 1 + 1; omega, hw.trans (WP.swap (by omega) (by omega) (by omega)), rfl⟩, by show e + (j - 1) - (i + 1) < e + j - i; omega⟩
  · (repeat (first | refine Stp.s ?_ | refine inBlock_exit' (by decide) ?_ | ((first | refine vc_region fun K KP hK hKP => ?_ | refine Stg.s ?_ | refine guardD_ret0 ?_ | refine exV_intro _ rfl ?_); (try simp only [go_sem, loadL_a]); try ((first | refine hK _ _ ?_ | refine hKP _ _ _ ?_ | refine hKP _ _ (fun _ => ?_)); clear hK hKP K KP))))
    (simp only [postV, resV, oneOf, List.getD_cons_succ, List.getD_cons_zero, and_true, true_and])
    exact ⟨m, hw, rfl⟩

theorem slab_sift (hE : Elt 17 enc) (hC : Cmpr Tryz.prog g ps qs enc key cv) (b cap f lo hi : Nat) (m0 : List α) (spare : List V) (σ : Store) (hb : σ b = some (rowE enc m0 spare)) (hl : f + hi ≤ m0.length) (hlo : lo ≤ 250) (hn : m0.length ≤ 250) (hH : Hp key f lo hi lo m0) :
    HCalls Tryz.prog 248 [.sl b 0 m0.length cap, I64 lo, I64 hi, I64 f, .fn (.func g) ps qs] σ (fun r σ' => ∃ m', r = .ret (oneOf []) ∧ WP f (f + hi) m0 m' ∧ Hp key f lo hi hi m' ∧ σ' = σ.set b (rowE enc m' spare)) := by
  (refine HCalls.of_vc Tryz.func248 rfl ?_; rw [Tryz.ntmps248, Tryz.results248]; simp only [List.length_cons, List.length_nil, Nat.reduceAdd, Nat.reduceSub, List.replicate, List.cons_append, List.nil_append])
  (repeat (first | refine Stp.s ?_ | refine inBlock_exit' (by decide) ?_ | ((first | refine vc_region fun K KP hK hKP => ?_ | refine Stg.s ?_ | refine guardD_ret0 ?_ | refine exV_intro _ rfl ?_); (try simp only [go_sem, loadL_a]); try ((first | refine hK _ _ ?_ | refine hKP _ _ _ ?_ | refine hKP _ _ (fun _ => ?_)); clear hK hKP K KP))))
  refine vc_loop (loopV (fun (p : Nat × List α) => [.sl b 0 m0.length cap, I64 lo, I64 hi, I64 f, .fn (.func g) ps qs, .top, .top, .top, .top, .top, I64 p.1, .top, .top, .top, .top, .top, .top, .top, .top, .top, .top, .top, .top, .top, .top, .top, .top, .top, .top, .top, .top, .top, .top, .top, .top, .top, .top, .top, .top, .top, .top, .top, .top, .top, .top, .top, .top, .top, .top, .top, .top, .top, .top, .top, .top, .top, .top, .top, .top, .top, .top, .top, .top, .top, .top, .top, .top, .top, .top, .top, .top, .top, .top, .top, .top, .top, .top, .top, .top, .top, .top, .top]) (fun p τ => lo ≤ p.1 ∧ p.1 ≤ 250 ∧ WP f (f + hi) m0 p.2 ∧ Hp key f lo hi p.1 p.2 ∧ HUp key f lo hi p.1 p.2 ∧ τ = σ.set b (rowE enc p.2 spare)) (fun p _ => 250 - p.1) (lo, m0) (by repeat (first | exact LeEnv.nil | refine LeEnv.same ?_ | refine LeEnv.top ?_)) ⟨Nat.le_refl _, hlo, WP.refl _ _ _, hH, fun i c h1 h2 => by omega, (Store.set_id hb).symm⟩ ?_)
  rintro ⟨r, m⟩ τ ⟨h1, h2, hw, hh, hu, rfl⟩
  simp only at h1 h2 hw hh hu
  have hml := hw.len
  have hbb := Store.set_same σ b (rowE enc m spare)
  have w1 : IntKind.i64.wrap (2 * (r : Int)) = ((2 * r : Nat) : Int) := by rw [i64_in (by omega) (by omega)]; omega
  have w2 := i64_up (show 2 * r ≤ 10000000 by omega)
  (repeat (first | refine Stp.s ?_ | refine inBlock_exit' (by decide) ?_ | ((first | refine vc_region fun K KP hK hKP => ?_ | refine Stg.s ?_ | refine guardD_ret0 ?_ | refine exV_intro _ rfl ?_); (try simp only [go_sem, loadL_a, w1, w2]); try ((first | refine hK _ _ ?_ | refine hKP _ _ _ ?_ | refine hKP _ _ (fun _ => ?_)); clear hK hKP K KP))))
  refine vc_cond rfl (fun hc => ?_) (fun hc => ?_)
  · have hge : hi ≤ 2 * r + 1 := by simp at hc; omega
    (repeat (first | refine Stp.s ?_ | refine inBlock_exit' (by decide) ?_ | ((first | refine vc_region fun K KP hK hKP => ?_ | refine Stg.s ?_ | refine guardD_ret0 ?_ | refine exV_intro _ rfl ?_); (try simp only [go_sem, loadL_a]); try ((first | refine hK _ _ ?_ | refine hKP _ _ _ ?_ | refine hKP _ _ (fun _ => ?_)); clear hK hKP K KP))))
    (simp only [postV, resV, oneOf, List.getD_cons_succ, List.getD_cons_zero, and_true, true_and])
    exact ⟨m, hw, hh.rest key (fun c q1 q2 => by omega) hi, rfl⟩
  have hlt : 2 * r + 1 < hi := by simp at hc; omega
  refine vc_skip ?_
  refine then_normal ?_
  refine vc_join (fun j (c : Nat) => [.sl b 0 m0.length cap, I64 lo, I64 hi, I64 f, .fn (.func g) ps qs, j 5, j 6, j 7, j 8, j 9, I64 r, I64 c, j 12, j 13, j 14, j 15, j 16, j 17, j 18, j 19, j 20, j 21, j 22, j 23, j 24, j 25, j 26, j 27, j 28, j 29, j 30, j 31, j 32, j 33, j 34, j 35, j 36, j 37, j 38, j 39, j 40, j 41, j 42, j 43, j 44, j 45, j 46, j 47, j 48, j 49, j 50, j 51, j 52, j 53, j 54, j 55, j 56, j 57, j 58, j 59, j 60, j 61, j 62, j 63, j 64, j 65, j 66, j 67, j 68, j 69, j 70, j 71, j 72, j 73, j 74, j 75, j 76, j 77, j 78, j 79, j 80, j 81]) (fun c τ => (c = 2 * r + 1 ∨ c = 2 * r + 2) ∧ c < hi ∧ (∀ d, (d = 2 * r + 1 ∨ d = 2 * r + 2) → d < hi → ky key m (f + d) ≤ ky key m (f + c)) ∧ τ = σ.set b (rowE enc m spare)) (fun j c τ hinv => ?_) (fun rest hrest => ?_)
  · obtain ⟨hc1, hc2, hbig, rfl⟩ := hinv
    have g1 := eq_true (show (0 : Int) ≤ ((f + r : Nat) : Int) by omega)
    have g2 := eq_true (show ((f + r : Nat) : Int) < m0.length by omega)
    have g3 := eq_true (show (0 : Int) ≤ ((f + c : Nat) : Int) by omega)
    have g4 := eq_true (show ((f + c : Nat) : Int) < m0.length by omega)
    have w3 := i64_plus (show f ≤ 10000000 by omega) (show r ≤ 10000000 by omega)
    have w4 := i64_plus (show f ≤ 10000000 by omega) (show c ≤ 10000000 by omega)
    have r1 := slab_load hE (spare := spare) (show f + r < m.length by omega)
    have r2 := slab_load hE (spare := spare) (show f + c < m.length by omega)
    (repeat (first | refine Stp.s ?_ | refine inBlock_exit' (by decide) ?_ | ((first | refine vc_region fun K KP hK hKP => ?_ | refine Stg.s ?_ | refine guardD_ret0 ?_ | refine exV_intro _ rfl ?_); (try simp only [go_sem, loadL_a]); try ((first | refine hK _ _ ?_ | refine hKP _ _ _ ?_ | refine hKP _ _ (fun _ => ?_)); clear hK hKP K KP))))
    ((repeat first | refine Stp.s ?_ | refine inBlock_exit' (by decide) ?_); refine vc_draw mixed [ ] [0, 1, 2, 3, 4, 5, 6, 7, 8, 9, 10, 11, 12, 13, 14, 15 ] [ 6, 12, 13 ] [] (fun _ => True) (by kernel_rfl) (by kernel_rfl) (by kernel_rfl) trivial fun K KP hK hKP => ?_; simp only [go_sem, g1, g2, g3, g4, w3, w4, Int.toNat_natCast, hbb, r1, r2]; try (refine hK _ _ ?_; clear hK hKP K KP))
    ((try simp only [go_sem, g1, g2, g3, g4, w3, w4, Int.toNat_natCast, hbb, r1, r2]); (try ((first | refine hK _ _ ?_ | refine hKP _ _ _ ?_ | refine hKP _ _ (fun _ => ?_)); clear hK hKP K KP)); repeat (first | refine Stp.s ?_ | refine inBlock_exit' (by decide) ?_ | ((first | refine vc_region fun K KP hK hKP => ?_ | refine Stg.s ?_ | refine guardD_ret0 ?_ | refine exV_intro _ rfl ?_); (try simp only [go_sem, g1, g2, g3, g4, w3, w4, Int.toNat_natCast, hbb, r1, r2]); try ((first | refine hK _ _ ?_ | refine hKP _ _ _ ?_ | refine hKP _ _ (fun _ => ?_)); clear hK hKP K KP))))
    ((try simp only [go_sem, loadL_a]); first | refine exV_intro _ (callV_pure (hC.call _ _) ⟨rfl, rfl⟩) ?_ | refine exV_intro _ (fun _ => callV_pure (hC.call _ _) ⟨rfl, rfl⟩) ?_ | refine exV_intro _ (fun _ _ => callV_pure (hC.call _ _) ⟨rfl, rfl⟩) ?_)
    ((try simp only [go_sem, g1, g2, g3, g4, w3, w4, Int.toNat_natCast, hbb, r1, r2]); (try ((first | refine hK _ _ ?_ | refine hKP _ _ _ ?_ | refine hKP _ _ (fun _ => ?_)); clear hK hKP K KP)); repeat (first | refine Stp.s ?_ | refine inBlock_exit' (by decide) ?_ | ((first | refine vc_region fun K KP hK hKP => ?_ | refine Stg.s ?_ | refine guardD_ret0 ?_ | refine exV_intro _ rfl ?_); (try simp only [go_sem, g1, g2, g3, g4, w3, w4, Int.toNat_natCast, hbb, r1, r2]); try ((first | refine hK _ _ ?_ | refine hKP _ _ _ ?_ | refine hKP _ _ (fun _ => ?_)); clear hK hKP K KP))))
    refine vc_cond rfl (fun hq => ?_) (fun hq => ?_)
    · have hle : ky key m (f + c) ≤ ky key m (f + r) := by
        have : ¬ ky key m (f + r) < ky key m (f + c) := fun h => by rw [decide_eq_true ((hC.lt _ _).2 h)] at hq; cases hq
        omega
      (repeat (first | refine Stp.s ?_ | refine inBlock_exit' (by decide) ?_ | ((first | refine vc_region fun K KP hK hKP => ?_ | refine Stg.s ?_ | refine guardD_ret0 ?_ | refine exV_intro _ rfl ?_); (try simp only [go_sem, loadL_a]); try ((first | refine hK _ _ ?_ | refine hKP _ _ _ ?_ | refine hKP _ _ (fun _ => ?_)); clear hK hKP K KP))))
      (simp only [postV, resV, oneOf, List.getD_cons_succ, List.getD_cons_zero, and_true, true_and])
      exact ⟨m, hw, hh.rest key (fun d q1 q2 => Nat.le_trans (hbig d q1 q2) hle) hi, rfl⟩
    · have hlt2 : ky key m (f + r) < ky key m (f + c) := (hC.lt _ _).1 (by simpa using hq)
      obtain ⟨hh2, hu2⟩ := hh.sift key hu hc1 h1 hc2 (by omega) hbig hlt2
      (repeat (first | refine Stp.s ?_ | refine inBlock_exit' (by decide) ?_ | ((first | refine vc_region fun K KP hK hKP => ?_ | refine Stg.s ?_ | refine guardD_ret0 ?_ | refine exV_intro _ rfl ?_); (try simp only [go_sem, loadL_a]); try ((first | refine hK _ _ ?_ | refine hKP _ _ _ ?_ | refine hKP _ _ (fun _ => ?_)); clear hK hKP K KP))))
      ((repeat first | refine Stp.s ?_ | refine inBlock_exit' (by decide) ?_); refine vc_draw mixed [ 21, 23 ] [0, 1, 2, 3, 4, 5, 6, 7, 8, 9, 10, 11, 12, 13, 14, 15, 16, 17, 18, 19, 20, 21, 22, 23 ] [ 13, 19 ] [] (fun _ => True) (by kernel_rfl) (by kernel_rfl) (by kernel_rfl) trivial fun K KP hK hKP => ?_; simp only [go_sem, g1, g2, g3, g4, w3, w4, Int.toNat_natCast, hbb, r1, r2]; try (refine hK _ _ ?_; clear hK hKP K KP))
      ((try simp only [go_sem, g1, g2, g3, g4, w3, w4, Int.toNat_natCast, hbb, r1, r2]); (try ((first | refine hK _ _ ?_ | refine hKP _ _ _ ?_ | refine hKP _ _ (fun _ => ?_)); clear hK hKP K KP)); repeat (first | refine Stp.s ?_ | refine inBlock_exit' (by decide) ?_ | ((first | refine vc_region fun K KP hK hKP => ?_ | refine Stg.s ?_ | refine guardD_ret0 ?_ | refine exV_intro _ rfl ?_); (try simp only [go_sem, g1, g2, g3, g4, w3, w4, Int.toNat_natCast, hbb, r1, r2]); try ((first | refine hK _ _ ?_ | refine hKP _ _ _ ?_ | refine hKP _ _ (fun _ => ?_)); clear hK hKP K KP))))
      refine ⟨hE.len _, hE.one _, rowE_room1 hE m spare _ _ (by omega), effV_true ⟨hE.len _, hE.one _, rowE_room2 hE m spare _ _ _ _ (by omega), ?_⟩⟩
      rw [rowE_swp hE spare m _ _ (by omega) (by omega)]
      ((try simp only [go_sem, Store.set_set]); (try ((first | refine hK _ _ ?_ | refine hKP _ _ _ ?_ | refine hKP _ _ (fun _ => ?_)); clear hK hKP K KP)); repeat (first | refine Stp.s ?_ | refine inBlock_exit' (by decide) ?_ | ((first | refine vc_region fun K KP hK hKP => ?_ | refine Stg.s ?_ | refine guardD_ret0 ?_ | refine exV_intro _ rfl ?_); (try simp only [go_sem, Store.set_set]); try ((first | refine hK _ _ ?_ | refine hKP _ _ _ ?_ | refine hKP _ _ (fun _ => ?_)); clear hK hKP K KP))))
      exact ⟨(c, swp m (f + r) (f + c)), _, (by repeat (first | exact LeEnv.nil | refine LeEnv.same ?_ | refine LeEnv.top ?_)), Store.le_refl _, ⟨by show lo ≤ c; omega, by show c ≤ 250; omega, hw.trans (WP.swap (by omega) (by omega) (by omega)), hh2, hu2, rfl⟩, by show 250 - c < 250 - r; omega⟩
  · have w5 := i64_up (show 2 * r + 1 ≤ 10000000 by omega)
    rcases Nat.lt_or_ge (2 * r + 1 + 1) hi with h3 | h3
    · have hd : decide (((2 * r + 1 + 1 : Nat) : Int) < (hi : Int)) = true := decide_eq_true (by omega)
      have g1 := eq_true (show (0 : Int) ≤ ((f + (2 * r + 1) : Nat) : Int) by omega)
      have g2 := eq_true (show ((f + (2 * r + 1) : Nat) : Int) < m0.length by omega)
      have g3 := eq_true (show (0 : Int) ≤ ((f + (2 * r + 1) + 1 : Nat) : Int) by omega)
      have g4 := eq_true (show ((f + (2 * r + 1) + 1 : Nat) : Int) < m0.length by omega)
      have w3 := i64_plus (show f ≤ 10000000 by omega) (show 2 * r + 1 ≤ 10000000 by omega)
      have w4 := i64_up (show f + (2 * r + 1) ≤ 10000000 by omega)
      have r1 := slab_load hE (spare := spare) (show f + (2 * r + 1) < m.length by omega)
      have r2 := slab_load hE (spare := spare) (show f + (2 * r + 1) + 1 < m.length by omega)
      (repeat (first | refine Stp.s ?_ | refine inBlock_exit' (by decide) ?_ | ((first | refine vc_region fun K KP hK hKP => ?_ | refine Stg.s ?_ | refine guardD_ret0 ?_ | refine exV_intro _ rfl ?_); (try simp only [go_sem, loadL_a]); try ((first | refine hK _ _ ?_ | refine hKP _ _ _ ?_ | refine hKP _ _ (fun _ => ?_)); clear hK hKP K KP))))
      ((repeat first | refine Stp.s ?_ | refine inBlock_exit' (by decide) ?_); refine vc_draw mixed [ ] [0, 1, 2, 3, 4, 5, 6, 7, 8, 9, 10, 11, 12, 13, 14, 15, 16, 17, 18, 19, 20, 21 ] [ 11, 18, 19 ] [] (fun _ => True) (by kernel_rfl) (by kernel_rfl) (by kernel_rfl) trivial fun K KP hK hKP => ?_; simp only [go_sem, g1, g2, g3, g4, w3, w4, w5, hd, Int.toNat_natCast, hbb, r1, r2]; try (refine hK _ _ ?_; clear hK hKP K KP))
      ((try simp only [go_sem, g1, g2, g3, g4, w3, w4, w5, hd, Int.toNat_natCast, hbb, r1, r2]); (try ((first | refine hK _ _ ?_ | refine hKP _ _ _ ?_ | refine hKP _ _ (fun _ => ?_)); clear hK hKP K KP)); repeat (first | refine Stp.s ?_ | refine inBlock_exit' (by decide) ?_ | ((first | refine vc_region fun K KP hK hKP => ?_ | refine Stg.s ?_ | refine guardD_ret0 ?_ | refine exV_intro _ rfl ?_); (try simp only [go_sem, g1, g2, g3, g4, w3, w4, w5, hd, Int.toNat_natCast, hbb, r1, r2]); try ((first | refine hK _ _ ?_ | refine hKP _ _ _ ?_ | refine hKP _ _ (fun _ => ?_)); clear hK hKP K KP))))
      ((try simp only [go_sem, loadL_a]); first | refine guardD_q0 (fun _ => callV_pure (hC.call _ _) ⟨rfl, rfl⟩) ?_ | refine guardD_q0 (fun _ _ => callV_pure (hC.call _ _) ⟨rfl, rfl⟩) ?_)
      ((try simp only [go_sem, g1, g2, g3, g4, w3, w4, w5, hd, Int.toNat_natCast, hbb, r1, r2]); (try ((first | refine hK _ _ ?_ | refine hKP _ _ _ ?_ | refine hKP _ _ (fun _ => ?_)); clear hK hKP K KP)); repeat (first | refine Stp.s ?_ | refine inBlock_exit' (by decide) ?_ | ((first | refine vc_region fun K KP hK hKP => ?_ | refine Stg.s ?_ | refine guardD_ret0 ?_ | refine exV_intro _ rfl ?_); (try simp only [go_sem, g1, g2, g3, g4, w3, w4, w5, hd, Int.toNat_natCast, hbb, r1, r2]); try ((first | refine hK _ _ ?_ | refine hKP _ _ _ ?_ | refine hKP _ _ (fun _ => ?_)); clear hK hKP K KP))))
      refine vc_cond rfl (fun hq => ?_) (fun hq => ?_)
      · have hlt2 : ky key m (f + (2 * r + 1)) < ky key m (f + (2 * r + 1) + 1) := (hC.lt _ _).1 (by simpa using hq)
        (repeat (first | refine Stp.s ?_ | refine inBlock_exit' (by decide) ?_ | ((first | refine vc_region fun K KP hK hKP => ?_ | refine Stg.s ?_ | refine guardD_ret0 ?_ | refine exV_intro _ rfl ?_); (try simp only [go_sem, loadL_a, w5]); try ((first | refine hK _ _ ?_ | refine hKP _ _ _ ?_ | refine hKP _ _ (fun _ => ?_)); clear hK hKP K KP))))
        refine hrest (2 * r + 1 + 1) _ _ ⟨.inr rfl, h3, fun d q1 q2 => ?_, rfl⟩ rfl
        rcases q1 with rfl | rfl
        · rw [show f + (2 * r + 1 + 1) = f + (2 * r + 1) + 1 by omega]; omega
        · exact Nat.le_refl _
      · have hle : ky key m (f + (2 * r + 1) + 1) ≤ ky key m (f + (2 * r + 1)) := by
          have : ¬ ky key m (f + (2 * r + 1)) < ky key m (f + (2 * r + 1) + 1) := fun h => by rw [decide_eq_true ((hC.lt _ _).2 h)] at hq; cases hq
          omega
        (repeat (first | refine Stp.s ?_ | refine inBlock_exit' (by decide) ?_ | ((first | refine vc_region fun K KP hK hKP => ?_ | refine Stg.s ?_ | refine guardD_ret0 ?_ | refine exV_intro _ rfl ?_); (try simp only [go_sem, loadL_a]); try ((first | refine hK _ _ ?_ | refine hKP _ _ _ ?_ | refine hKP _ _ (fun _ => ?_)); clear hK hKP K KP))))
        refine hrest (2 * r + 1) _ _ ⟨.inl rfl, hlt, fun d q1 q2 => ?_, rfl⟩ rfl
        rcases q1 with rfl | rfl
        · exact Nat.le_refl _
        · rw [show f + (2 * r + 2) = f + (2 * r + 1) + 1 by omega]; exact hle
    · have hd : decide (((2 * r + 1 + 1 : Nat) : Int) < (hi : Int)) = false := decide_eq_false (by omega)
      (repeat (first | refine Stp.s ?_ | refine inBlock_exit' (by decide) ?_ | ((first | refine vc_region fun K KP hK hKP => ?_ | refine Stg.s ?_ | refine guardD_ret0 ?_ | refine exV_intro _ rfl ?_); (try simp only [go_sem, loadL_a]); try ((first | refine hK _ _ ?_ | refine hKP _ _ _ ?_ | refine hKP _ _ (fun _ => ?_)); clear hK hKP K KP))))
      ((repeat first | refine Stp.s ?_ | refine inBlock_exit' (by decide) ?_); refine vc_draw mixed [ ] [0, 1, 2, 3, 4, 5, 6, 7, 8, 9, 10, 11, 12, 13, 14, 15, 16, 17, 18, 19, 20, 21 ] [ 11, 18, 19 ] [] (fun _ => True) (by kernel_rfl) (by kernel_rfl) (by kernel_rfl) trivial fun K KP hK hKP => ?_; simp only [go_sem, w5, hd]; try (refine hK _ _ ?_; clear hK hKP K KP))
      ((try simp only [go_sem, loadL_a, w5, hd]); (try ((first | refine hK _ _ ?_ | refine hKP _ _ _ ?_ | refine hKP _ _ (fun _ => ?_)); clear hK hKP K KP)); repeat (first | refine Stp.s ?_ | refine inBlock_exit' (by decide) ?_ | ((first | refine vc_region fun K KP hK hKP => ?_ | refine Stg.s ?_ | refine guardD_ret0 ?_ | refine exV_intro _ rfl ?_); (try simp only [go_sem, loadL_a, w5, hd]); try ((first | refine hK _ _ ?_ | refine hKP _ _ _ ?_ | refine hKP _ _ (fun _ => ?_)); clear hK hKP K KP))))
      refine vc_cond rfl (fun hq => by cases hq) (fun _ => ?_)
      (repeat (first | refine Stp.s ?_ | refine inBlock_exit' (by decide) ?_ | ((first | refine vc_region fun K KP hK hKP => ?_ | refine Stg.s ?_ | refine guardD_ret0 ?_ | refine exV_intro _ rfl ?_); (try simp only [go_sem, loadL_a]); try ((first | refine hK _ _ ?_ | refine hKP _ _ _ ?_ | refine hKP _ _ (fun _ => ?_)); clear hK hKP K KP))))
      exact hrest (2 * r + 1) _ _ ⟨.inl rfl, hlt, fun d q1 q2 => by rcases q1 with rfl | rfl; exact Nat.le_refl _; omega, rfl⟩ rfl

theorem slab_heap (hE : Elt 17 enc) (hC : Cmpr Tryz.prog g ps qs enc key cv) (b cap a e : Nat) (m0 : List α) (spare : List V) (σ : Store) (hb : σ b = some (rowE enc m0 spare)) (hae : a + 2 ≤ e) (he : e ≤ m0.length) (hn : m0.length ≤ 250) :
    HCalls Tryz.prog 199 [.sl b 0 m0.length cap, I64 a, I64 e, .fn (.func g) ps qs] σ (fun r σ' => ∃ m', r = .ret (oneOf []) ∧ WP a e m0 m' ∧ Srtd key a e m' ∧ σ' = σ.set b (rowE enc m' spare)) := by
  (refine HCalls.of_vc Tryz.func199 rfl ?_; rw [Tryz.ntmps199, Tryz.results199]; simp only [List.length_cons, List.length_nil, Nat.reduceAdd, Nat.reduceSub, List.replicate, List.cons_append, List.nil_append])
  have w0 := i64_minus (show e ≤ 10000000 by omega) (show a ≤ e by omega)
  obtain ⟨n, hn2⟩ : ∃ n, n = e - a := ⟨_, rfl⟩
  rw [← hn2] at w0
  have w1 := i64_minus (show n ≤ 10000000 by omega) (show 1 ≤ n by omega)
  have wq : IntKind.i64.wrap (((n - 1 : Nat) : Int).tdiv 2) = ((((n - 1) / 2 + 1 : Nat) : Int) - 1) := by rw [Int.tdiv_eq_ediv_of_nonneg (by omega), i64_in (by omega) (by omega)]; omega
  have z2 := eq_true (show ¬((2 : Int) = 0) by decide)
  have hen : e = a + n := by omega
  (repeat (first | refine Stp.s ?_ | refine inBlock_exit' (by decide) ?_ | ((first | refine vc_region fun K KP hK hKP => ?_ | refine Stg.s ?_ | refine guardD_ret0 ?_ | refine exV_intro _ rfl ?_); (try simp only [go_sem, loadL_a, w0, nc1 ▸ w1, wq, z2]); try ((first | refine hK _ _ ?_ | refine hKP _ _ _ ?_ | refine hKP _ _ (fun _ => ?_)); clear hK hKP K KP))))
  refine vc_loop (loopV (fun (p : Nat × List α) => [.sl b 0 m0.length cap, I64 a, I64 e, .fn (.func g) ps qs, .top, .top, .top, .top, I64 a, I64 0, I64 n, I64 ((p.1 : Int) - 1), .top, .top, .top, .top, .top, .top, .top, .top, .top, .top, .top, .top, .top, .top, .top, .top, .top, .top, .top, .top, .top, .top, .top, .top, .top, .top, .top, .top, .top, .top, .top, .top, .top, .top, .top, .top, .top, .top, .top, .top, .top, .top, .top, .top, .top, .top, .top, .top]) (fun p τ => p.1 ≤ (n - 1) / 2 + 1 ∧ WP a e m0 p.2 ∧ Hp key a p.1 n n p.2 ∧ τ = σ.set b (rowE enc p.2 spare)) (fun p _ => p.1) ((n - 1) / 2 + 1, m0) (by repeat (first | exact LeEnv.nil | refine LeEnv.same ?_ | refine LeEnv.top ?_)) ⟨Nat.le_refl _, WP.refl _ _ _, fun i c q1 q2 q3 q4 => by omega, (Store.set_id hb).symm⟩ ?_)
  rintro ⟨i, m⟩ τ ⟨hi, hw, hh, rfl⟩
  simp only at hi hw hh
  have hml := hw.len
  have hbb := Store.set_same σ b (rowE enc m spare)
  (repeat (first | refine Stp.s ?_ | refine inBlock_exit' (by decide) ?_ | ((first | refine vc_region fun K KP hK hKP => ?_ | refine Stg.s ?_ | refine guardD_ret0 ?_ | refine exV_intro _ rfl ?_); (try simp only [go_sem, loadL_a]); try ((first | refine hK _ _ ?_ | refine hKP _ _ _ ?_ | refine hKP _ _ (fun _ => ?_)); clear hK hKP K KP))))
  refine vc_cond rfl (fun hc => ?_) (fun hc => ?_)
  · obtain ⟨k, rfl⟩ : ∃ k, i = k + 1 := ⟨i - 1, by simp at hc; omega⟩
    have wk : (((k + 1 : Nat) : Int) - 1) = (k : Int) := by omega
    rw [wk]
    have hs := slab_sift hE hC b cap a k n m spare _ hbb (by omega) (by omega) (by omega) (fun i c q1 q2 q3 q4 => hh i c (by omega) (by omega) q3 q4)
    rw [hml] at hs
    (repeat (first | refine Stp.s ?_ | refine inBlock_exit' (by decide) ?_ | ((first | refine vc_region fun K KP hK hKP => ?_ | refine Stg.s ?_ | refine guardD_ret0 ?_ | refine exV_intro _ rfl ?_); (try simp only [go_sem, loadL_a]); try ((first | refine hK _ _ ?_ | refine hKP _ _ _ ?_ | refine hKP _ _ (fun _ => ?_)); clear hK hKP K KP))))
    refine callV_of en248 hs (fun x σ' q => ?_) (fun x σ' q => by obtain ⟨_, e, _⟩ := q; cases e)
    obtain ⟨m', e1, hw', hh', rfl⟩ := q
    cases e1
    rw [Store.set_set]
    ((try simp only [go_sem, loadL_a]); (try ((first | refine hK _ _ ?_ | refine hKP _ _ _ ?_ | refine hKP _ _ (fun _ => ?_)); clear hK hKP K KP)); repeat (first | refine Stp.s ?_ | refine inBlock_exit' (by decide) ?_ | ((first | refine vc_region fun K KP hK hKP => ?_ | refine Stg.s ?_ | refine guardD_ret0 ?_ | refine exV_intro _ rfl ?_); (try simp only [go_sem, loadL_a]); try ((first | refine hK _ _ ?_ | refine hKP _ _ _ ?_ | refine hKP _ _ (fun _ => ?_)); clear hK hKP K KP))))
    refine ⟨(k, m'), _, ?_, Store.le_refl _, ⟨by show k ≤ _; omega, hw.trans (by rw [hen]; exact hw'), hh', rfl⟩, Nat.lt_succ_self k⟩
    have wd : IntKind.i64.wrap ((k : Int) - 1) = (k : Int) - 1 := i64_in (by omega) (by omega)
    rw [wd]
    exact (by repeat (first | exact LeEnv.nil | refine LeEnv.same ?_ | refine LeEnv.top ?_))
  · have hi0 : i = 0 := by simp at hc; omega
    subst hi0
    have w1' : ((n - 1 : Nat) : Int) = ((n : Nat) : Int) - 1 := by omega
    (repeat (first | refine Stp.s ?_ | refine inBlock_exit' (by decide) ?_ | ((first | refine vc_region fun K KP hK hKP => ?_ | refine Stg.s ?_ | refine guardD_ret0 ?_ | refine exV_intro _ rfl ?_); (try simp only [go_sem, loadL_a, nc1 ▸ w1, w1']); try ((first | refine hK _ _ ?_ | refine hKP _ _ _ ?_ | refine hKP _ _ (fun _ => ?_)); clear hK hKP K KP))))
    refine vc_loop (loopV (fun (p : Nat × List α) => [.sl b 0 m0.length cap, I64 a, I64 e, .fn (.func g) ps qs, .top, .top, .top, .top, I64 a, I64 0, I64 n, .top, I64 ((p.1 : Int) - 1), .top, .top, .top, .top, .top, .top, .top, .top, .top, .top, .top, .top, .top, .top, .top, .top, .top, .top, .top, .top, .top, .top, .top, .top, .top, .top, .top, .top, .top, .top, .top, .top, .top, .top, .top, .top, .top, .top, .top, .top, .top, .top, .top, .top, .top, .top, .top]) (fun p τ => p.1 ≤ n ∧ WP a e m0 p.2 ∧ Hp key a 0 p.1 p.1 p.2 ∧ OutW key a e a (a + p.1) p.2 ∧ τ = σ.set b (rowE enc p.2 spare)) (fun p _ => p.1) (n, m) (by repeat (first | exact LeEnv.nil | refine LeEnv.same ?_ | refine LeEnv.top ?_)) ⟨Nat.le_refl _, hw, hh, by show OutW key a e a (a + n) m; rw [← hen]; exact OutW.start key a e m, rfl⟩ ?_)
    clear hw hh hml hbb hc
    rintro ⟨i, m⟩ τ ⟨hi, hw, hh, ho, rfl⟩
    simp only at hi hw hh ho
    have hml := hw.len
    have hbb := Store.set_same σ b (rowE enc m spare)
    (repeat (first | refine Stp.s ?_ | refine inBlock_exit' (by decide) ?_ | ((first | refine vc_region fun K KP hK hKP => ?_ | refine Stg.s ?_ | refine guardD_ret0 ?_ | refine exV_intro _ rfl ?_); (try simp only [go_sem, loadL_a]); try ((first | refine hK _ _ ?_ | refine hKP _ _ _ ?_ | refine hKP _ _ (fun _ => ?_)); clear hK hKP K KP))))
    refine vc_cond rfl (fun hc => ?_) (fun hc => ?_)
    · obtain ⟨k, rfl⟩ : ∃ k, i = k + 1 := ⟨i - 1, by simp at hc; omega⟩
      have wk : (((k + 1 : Nat) : Int) - 1) = (k : Int) := by omega
      rw [wk]
      have g1 := eq_true (show (0 : Int) ≤ (a : Int) by omega)
      have g2 := eq_true (show (a : Int) < m0.length by omega)
      have g3 := eq_true (show (0 : Int) ≤ ((a + k : Nat) : Int) by omega)
      have g4 := eq_true (show ((a + k : Nat) : Int) < m0.length by omega)
      have w4 := i64_plus (show a ≤ 10000000 by omega) (show k ≤ 10000000 by omega)
      have r1 := slab_load hE (spare := spare) (show a < m.length by omega)
      have r2 := slab_load hE (spare := spare) (show a + k < m.length by omega)
      have hws : WP a e m (swp m a (a + k)) := WP.swap (by omega) (by omega) (by omega)
      have hws' : WP a (a + (k + 1)) m (swp m a (a + k)) := WP.swap (by omega) (by omega) (by omega)
      have ho2 : OutW key a e a (a + k) (swp m a (a + k)) := fun p q q1 q2 q3 => by
        have htop := hh.top key
        rw [ky_swp key m _ _ _ (by omega) (by omega), ky_swp key m _ _ _ (by omega) (by omega)]
        by_cases e1 : q < a + k
        · exact .inl ⟨q1, e1⟩
        · right
          by_cases e2 : q = a + k
          · rw [if_pos e2, if_neg (by omega)]
            split
            · exact htop k (by omega)
            · have := htop (p - a) (by omega); rw [show a + (p - a) = p by omega] at this; exact this
          · rw [if_neg e2, if_neg (show ¬ q = a by omega)]
            rcases (ho.wp key hws' (Nat.le_refl _) (by omega)) p q q1 q2 q3 with r | r
            · omega
            · rw [ky_swp key m _ _ _ (by omega) (by omega), ky_swp key m _ _ _ (by omega) (by omega), if_neg e2, if_neg (show ¬ q = a by omega)] at r; exact r
      have hH2 : Hp key a 0 k 0 (swp m a (a + k)) := fun i c q1 q2 q3 q4 => by
        rw [ky_swp key m _ _ _ (by omega) (by omega), ky_swp key m _ _ _ (by omega) (by omega), if_neg (by omega), if_neg (by omega), if_neg (by omega), if_neg (by omega)]
        exact hh i c q1 (by omega) q3 (by omega)
      (repeat (first | refine Stp.s ?_ | refine inBlock_exit' (by decide) ?_ | ((first | refine vc_region fun K KP hK hKP => ?_ | refine Stg.s ?_ | refine guardD_ret0 ?_ | refine exV_intro _ rfl ?_); (try simp only [go_sem, loadL_a]); try ((first | refine hK _ _ ?_ | refine hKP _ _ _ ?_ | refine hKP _ _ (fun _ => ?_)); clear hK hKP K KP))))
      ((repeat first | refine Stp.s ?_ | refine inBlock_exit' (by decide) ?_); refine vc_draw mixed [ 17, 19 ] [0, 1, 2, 3, 4, 5, 6, 7, 8, 9, 10, 11, 12, 13, 14, 15, 16, 17, 18, 19 ] [ 11, 15 ] [] (fun _ => True) (by kernel_rfl) (by kernel_rfl) (by kernel_rfl) trivial fun K KP hK hKP => ?_; simp only [go_sem, g1, g2, g3, g4, w4, Int.toNat_natCast, hbb, r1, r2]; try (refine hK _ _ ?_; clear hK hKP K KP))
      ((try simp only [go_sem, g1, g2, g3, g4, w4, Int.toNat_natCast, hbb, r1, r2]); (try ((first | refine hK _ _ ?_ | refine hKP _ _ _ ?_ | refine hKP _ _ (fun _ => ?_)); clear hK hKP K KP)); repeat (first | refine Stp.s ?_ | refine inBlock_exit' (by decide) ?_ | ((first | refine vc_region fun K KP hK hKP => ?_ | refine Stg.s ?_ | refine guardD_ret0 ?_ | refine exV_intro _ rfl ?_); (try simp only [go_sem, g1, g2, g3, g4, w4, Int.toNat_natCast, hbb, r1, r2]); try ((first | refine hK _ _ ?_ | refine hKP _ _ _ ?_ | refine hKP _ _ (fun _ => ?_)); clear hK hKP K KP))))
      refine ⟨hE.len _, hE.one _, rowE_room1 hE m spare _ _ (by omega), effV_true ⟨hE.len _, hE.one _, rowE_room2 hE m spare _ _ _ _ (by omega), ?_⟩⟩
      rw [rowE_swp hE spare m _ _ (by omega) (by omega)]
      ((try simp only [go_sem, Store.set_set]); (try ((first | refine hK _ _ ?_ | refine hKP _ _ _ ?_ | refine hKP _ _ (fun _ => ?_)); clear hK hKP K KP)); repeat (first | refine Stp.s ?_ | refine inBlock_exit' (by decide) ?_ | ((first | refine vc_region fun K KP hK hKP => ?_ | refine Stg.s ?_ | refine guardD_ret0 ?_ | refine exV_intro _ rfl ?_); (try simp only [go_sem, Store.set_set]); try ((first | refine hK _ _ ?_ | refine hKP _ _ _ ?_ | refine hKP _ _ (fun _ => ?_)); clear hK hKP K KP))))
      have hs := slab_sift hE hC b cap a 0 k (swp m a (a + k)) spare _ (Store.set_same σ b _) (by rw [swp_len]; omega) (by omega) (by rw [swp_len]; omega) hH2
      rw [swp_len, hml] at hs
      refine callV_of en248 hs (fun x σ' q => ?_) (fun x σ' q => by obtain ⟨_, e, _⟩ := q; cases e)
      obtain ⟨m', e1, hw', hh', rfl⟩ := q
      cases e1
      rw [Store.set_set]
      ((try simp only [go_sem, loadL_a]); (try ((first | refine hK _ _ ?_ | refine hKP _ _ _ ?_ | refine hKP _ _ (fun _ => ?_)); clear hK hKP K KP)); repeat (first | refine Stp.s ?_ | refine inBlock_exit' (by decide) ?_ | ((first | refine vc_region fun K KP hK hKP => ?_ | refine Stg.s ?_ | refine guardD_ret0 ?_ | refine exV_intro _ rfl ?_); (try simp only [go_sem, loadL_a]); try ((first | refine hK _ _ ?_ | refine hKP _ _ _ ?_ | refine hKP _ _ (fun _ => ?_)); clear hK hKP K KP))))
      refine ⟨(k, m'), _, ?_, Store.le_refl _, ⟨by show k ≤ n; omega, (hw.trans hws).trans (hw'.wide (Nat.le_refl _) (by omega)), hh', ho2.wp key hw' (Nat.le_refl _) (by omega), rfl⟩, Nat.lt_succ_self k⟩
      have wd : IntKind.i64.wrap ((k : Int) - 1) = (k : Int) - 1 := i64_in (by omega) (by omega)
      rw [wd]
      exact (by repeat (first | exact LeEnv.nil | refine LeEnv.same ?_ | refine LeEnv.top ?_))
    · have hi0 : i = 0 := by simp at hc; omega
      subst hi0
      (repeat (first | refine Stp.s ?_ | refine inBlock_exit' (by decide) ?_ | ((first | refine vc_region fun K KP hK hKP => ?_ | refine Stg.s ?_ | refine guardD_ret0 ?_ | refine exV_intro _ rfl ?_); (try simp only [go_sem, loadL_a]); try ((first | refine hK _ _ ?_ | refine hKP _ _ _ ?_ | refine hKP _ _ (fun _ => ?_)); clear hK hKP K KP))))
      (simp only [postV, resV, oneOf, List.getD_cons_succ, List.getD_cons_zero, and_true, true_and])
      exact ⟨m, hw, ho.done key (fun p q q1 q2 q3 => by omega), rfl⟩

end

end Go.Proofs.YtociliegljoldaaGreat
