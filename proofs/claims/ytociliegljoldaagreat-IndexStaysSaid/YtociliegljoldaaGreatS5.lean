/- Sorting labels: all. -/
import Derived.Test.YtociliegljoldaaGreatS4
namespace Go.Proofs.YtociliegljoldaaGreat
set_option linter.unusedSimpArgs false
set_option linter.unusedVariables false
open Go.Proofs
attribute [local irreducible] vc vcOps vcDraw vcK vcKP vcDK vcDB HWp HCalls postV Ex.then Ex.inBlock stepD callV appendV guardC guardD exV effV opV loadV storeV indexAddrV indexV sliceV
set_option maxRecDepth 10000
set_option maxHeartbeats 4000000

section
variable {α : Type} [Inhabited α] {enc : α → List V} {key : α → Nat} {cv : α → α → Int} {g : FuncId} {ps qs : List V}
theorem slab_pins (hE : Elt 17 enc) (hC : Cmpr Tryz.prog g ps qs enc key cv) (b cap a e : Nat) (m0 : List α) (spare : List V) (σ : Store) (hb : σ b = some (rowE enc m0 spare)) (hae : a < e) (he : e ≤ m0.length) (hn : m0.length ≤ 250) (hlow : 0 < a → Abv key a e (ky key m0 (a - 1)) m0) :
    HCalls Tryz.prog 203 [.sl b 0 m0.length cap, I64 a, I64 e, .fn (.func g) ps qs] σ (fun r σ' => ∃ (q : Bool) (m' : List α), r = .ret (BV q) ∧ WP a e m0 m' ∧ (q = true → Srtd key a e m') ∧ σ' = σ.set b (rowE enc m' spare)) := by
  (refine HCalls.of_vc Tryz.func203 rfl ?_; rw [Tryz.ntmps203, Tryz.results203]; simp only [List.length_cons, List.length_nil, Nat.reduceAdd, Nat.reduceSub, List.replicate, List.cons_append, List.nil_append])
  have w1 := i64_up (show a ≤ 10000000 by omega)
  (repeat (first | refine Stp.s ?_ | refine inBlock_exit' (by decide) ?_ | ((first | refine vc_region fun K KP hK hKP => ?_ | refine Stg.s ?_ | refine guardD_ret0 ?_ | refine exV_intro _ rfl ?_); (try simp only [go_sem, loadL_a, w1]); try ((first | refine hK _ _ ?_ | refine hKP _ _ _ ?_ | refine hKP _ _ (fun _ => ?_)); clear hK hKP K KP))))
  refine vc_loop (loopV (fun (p : Nat × Nat × List α) => [.sl b 0 m0.length cap, I64 a, I64 e, .fn (.func g) ps qs, .top, .top, .top, .top, BV false, I64 p.1, I64 p.2.1, .top, .top, .top, .top, .top, .top, .top, .top, .top, .top, .top, .top, .top, .top, .top, .top, .top, .top, .top, .top, .top, .top, .top, .top, .top, .top, .top, .top, .top, .top, .top, .top, .top, .top, .top, .top, .top, .top, .top, .top, .top, .top, .top, .top, .top, .top, .top, .top, .top, .top, .top, .top, .top, .top, .top, .top, .top, .top, .top, .top, .top, .top, .top, .top, .top, .top, .top, .top, .top, .top, .top, .top, .top, .top, .top, .top, .top, .top, .top, .top, .top, .top, .top, .top, .top, .top, .top, .top, .top, .top, .top, .top, .top, .top, .top, .top, .top, .top, .top, .top, .top, .top, .top, .top, .top, .top, .top, .top, .top, .top, .top, .top, .top, .top, .top, .top, .top, .top, .top, .top, .top, .top, .top, .top, .top, .top, .top, .top, .top, .top]) (fun p τ => a + 1 ≤ p.1 ∧ p.1 ≤ e ∧ p.2.1 ≤ 5 ∧ WP a e m0 p.2.2 ∧ Srtd key a p.1 p.2.2 ∧ τ = σ.set b (rowE enc p.2.2 spare)) (fun p _ => 5 - p.2.1) (a + 1, 0, m0) (by repeat (first | exact LeEnv.nil | refine LeEnv.same ?_ | refine LeEnv.top ?_)) ⟨Nat.le_refl _, hae, (show (0 : Nat) ≤ 5 by decide), WP.refl _ _ _, fun p q h1 h2 h3 => by omega, (Store.set_id hb).symm⟩ ?_)
  rintro ⟨i, c, m⟩ τ ⟨hi1, hi2, hc5, hw, hs, rfl⟩
  simp only at hi1 hi2 hc5 hw hs
  have hml := hw.len
  have hbb := Store.set_same σ b (rowE enc m spare)
  (repeat (first | refine Stp.s ?_ | refine inBlock_exit' (by decide) ?_ | ((first | refine vc_region fun K KP hK hKP => ?_ | refine Stg.s ?_ | refine guardD_ret0 ?_ | refine exV_intro _ rfl ?_); (try simp only [go_sem, loadL_a]); try ((first | refine hK _ _ ?_ | refine hKP _ _ _ ?_ | refine hKP _ _ (fun _ => ?_)); clear hK hKP K KP))))
  refine vc_cond rfl (fun hq => ?_) (fun hq => ?_)
  rotate_left
  · (repeat (first | refine Stp.s ?_ | refine inBlock_exit' (by decide) ?_ | ((first | refine vc_region fun K KP hK hKP => ?_ | refine Stg.s ?_ | refine guardD_ret0 ?_ | refine exV_intro _ rfl ?_); (try simp only [go_sem, loadL_a]); try ((first | refine hK _ _ ?_ | refine hKP _ _ _ ?_ | refine hKP _ _ (fun _ => ?_)); clear hK hKP K KP))))
    (simp only [postV, resV, oneOf, List.getD_cons_succ, List.getD_cons_zero, and_true, true_and])
    exact ⟨false, m, rfl, hw, (fun h => by cases h), rfl⟩
  have hc4 : c < 5 := by simp at hq; omega
  refine vc_skip ?_
  refine then_normal ?_
  refine vc_seq ?_
  refine vc_block ?_
  refine vc_join (fun j (i : Nat) => [.sl b 0 m0.length cap, I64 a, I64 e, .fn (.func g) ps qs, j 4, j 5, j 6, j 7, BV false, I64 i, I64 c, j 11, j 12, j 13, j 14, j 15, j 16, j 17, j 18, j 19, j 20, j 21, j 22, j 23, j 24, j 25, j 26, j 27, j 28, j 29, j 30, j 31, j 32, j 33, j 34, j 35, j 36, j 37, j 38, j 39, j 40, j 41, j 42, j 43, j 44, j 45, j 46, j 47, j 48, j 49, j 50, j 51, j 52, j 53, j 54, j 55, j 56, j 57, j 58, j 59, j 60, j 61, j 62, j 63, j 64, j 65, j 66, j 67, j 68, j 69, j 70, j 71, j 72, j 73, j 74, j 75, j 76, j 77, j 78, j 79, j 80, j 81, j 82, j 83, j 84, j 85, j 86, j 87, j 88, j 89, j 90, j 91, j 92, j 93, j 94, j 95, j 96, j 97, j 98, j 99, j 100, j 101, j 102, j 103, j 104, j 105, j 106, j 107, j 108, j 109, j 110, j 111, j 112, j 113, j 114, j 115, j 116, j 117, j 118, j 119, j 120, j 121, j 122, j 123, j 124, j 125, j 126, j 127, j 128, j 129, j 130, j 131, j 132, j 133, j 134, j 135, j 136, j 137, j 138, j 139, j 140]) (fun i τ => a + 1 ≤ i ∧ i ≤ e ∧ Srtd key a i m ∧ (i = e ∨ ky key m i < ky key m (i - 1)) ∧ τ = σ.set b (rowE enc m spare)) (fun j i τ hinv => ?_) (fun rest hrest => ?_)
  rotate_left
  · (repeat (first | refine Stp.s ?_ | refine inBlock_exit' (by decide) ?_ | ((first | refine vc_region fun K KP hK hKP => ?_ | refine Stg.s ?_ | refine guardD_ret0 ?_ | refine exV_intro _ rfl ?_); (try simp only [go_sem, loadL_a]); try ((first | refine hK _ _ ?_ | refine hKP _ _ _ ?_ | refine hKP _ _ (fun _ => ?_)); clear hK hKP K KP))))
    refine vc_loop (loopV (fun (i : Nat) => [.sl b 0 m0.length cap, I64 a, I64 e, .fn (.func g) ps qs, .top, .top, .top, .top, BV false, I64 i, I64 c, .top, .top, .top, .top, .top, .top, .top, .top, .top, .top, .top, .top, .top, .top, .top, .top, .top, .top, .top, .top, .top, .top, .top, .top, .top, .top, .top, .top, .top, .top, .top, .top, .top, .top, .top, .top, .top, .top, .top, .top, .top, .top, .top, .top, .top, .top, .top, .top, .top, .top, .top, .top, .top, .top, .top, .top, .top, .top, .top, .top, .top, .top, .top, .top, .top, .top, .top, .top, .top, .top, .top, .top, .top, .top, .top, .top, .top, .top, .top, .top, .top, .top, .top, .top, .top, .top, .top, .top, .top, .top, .top, .top, .top, .top, .top, .top, .top, .top, .top, .top, .top, .top, .top, .top, .top, .top, .top, .top, .top, .top, .top, .top, .top, .top, .top, .top, .top, .top, .top, .top, .top, .top, .top, .top, .top, .top, .top, .top, .top, .top]) (fun i τ => a + 1 ≤ i ∧ i ≤ e ∧ Srtd key a i m ∧ τ = σ.set b (rowE enc m spare)) (fun i _ => e - i) i (by repeat (first | exact LeEnv.nil | refine LeEnv.same ?_ | refine LeEnv.top ?_)) ⟨hi1, hi2, hs, rfl⟩ ?_)
    clear hs hi1 hi2
    rintro i τ ⟨hi1, hi2, hs, rfl⟩
    (repeat (first | refine Stp.s ?_ | refine inBlock_exit' (by decide) ?_ | ((first | refine vc_region fun K KP hK hKP => ?_ | refine Stg.s ?_ | refine guardD_ret0 ?_ | refine exV_intro _ rfl ?_); (try simp only [go_sem, loadL_a]); try ((first | refine hK _ _ ?_ | refine hKP _ _ _ ?_ | refine hKP _ _ (fun _ => ?_)); clear hK hKP K KP))))
    rcases Nat.lt_or_ge i e with hie | hie
    · have hd : decide ((i : Int) < (e : Int)) = true := decide_eq_true (by omega)
      have g1 := eq_true (show (0 : Int) ≤ (i : Int) by omega)
      have g2 := eq_true (show (i : Int) < m0.length by omega)
      have w2 := i64_minus (show i ≤ 10000000 by omega) (show 1 ≤ i by omega)
      have g3 := eq_true (show (0 : Int) ≤ ((i - 1 : Nat) : Int) by omega)
      have g4 := eq_true (show ((i - 1 : Nat) : Int) < m0.length by omega)
      have r1 := slab_load hE (spare := spare) (show i < m.length by omega)
      have r2 := slab_load hE (spare := spare) (show i - 1 < m.length by omega)
      ((repeat first | refine Stp.s ?_ | refine inBlock_exit' (by decide) ?_); refine vc_draw mixed [ ] [0, 1, 2, 3, 4, 5, 6, 7, 8, 9, 10, 11, 12, 13, 14, 15, 16, 17 ] [ 8, 13, 14 ] [] (fun _ => True) (by kernel_rfl) (by kernel_rfl) (by kernel_rfl) trivial fun K KP hK hKP => ?_; simp only [go_sem, g1, g2, g3, g4, hd, nc1 ▸ w2, Int.toNat_natCast, hbb, r1, r2]; try (refine hK _ _ ?_; clear hK hKP K KP))
      ((try simp only [go_sem, g1, g2, g3, g4, hd, nc1 ▸ w2, Int.toNat_natCast, hbb, r1, r2]); (try ((first | refine hK _ _ ?_ | refine hKP _ _ _ ?_ | refine hKP _ _ (fun _ => ?_)); clear hK hKP K KP)); repeat (first | refine Stp.s ?_ | refine inBlock_exit' (by decide) ?_ | ((first | refine vc_region fun K KP hK hKP => ?_ | refine Stg.s ?_ | refine guardD_ret0 ?_ | refine exV_intro _ rfl ?_); (try simp only [go_sem, g1, g2, g3, g4, hd, nc1 ▸ w2, Int.toNat_natCast, hbb, r1, r2]); try ((first | refine hK _ _ ?_ | refine hKP _ _ _ ?_ | refine hKP _ _ (fun _ => ?_)); clear hK hKP K KP))))
      ((try simp only [go_sem, loadL_a]); first | refine guardD_q0 (fun _ => callV_pure (hC.call _ _) ⟨rfl, rfl⟩) ?_ | refine guardD_q0 (fun _ _ => callV_pure (hC.call _ _) ⟨rfl, rfl⟩) ?_)
      ((try simp only [go_sem, g1, g2, g3, g4, hd, nc1 ▸ w2, Int.toNat_natCast, hbb, r1, r2]); (try ((first | refine hK _ _ ?_ | refine hKP _ _ _ ?_ | refine hKP _ _ (fun _ => ?_)); clear hK hKP K KP)); repeat (first | refine Stp.s ?_ | refine inBlock_exit' (by decide) ?_ | ((first | refine vc_region fun K KP hK hKP => ?_ | refine Stg.s ?_ | refine guardD_ret0 ?_ | refine exV_intro _ rfl ?_); (try simp only [go_sem, g1, g2, g3, g4, hd, nc1 ▸ w2, Int.toNat_natCast, hbb, r1, r2]); try ((first | refine hK _ _ ?_ | refine hKP _ _ _ ?_ | refine hKP _ _ (fun _ => ?_)); clear hK hKP K KP))))
      refine vc_cond rfl (fun hq => ?_) (fun hq => ?_)
      · have q2 : ¬ ky key m i < ky key m (i - 1) := (fun h => by rw [decide_eq_true ((hC.lt _ _).2 h)] at hq; cases hq)
        (repeat (first | refine Stp.s ?_ | refine inBlock_exit' (by decide) ?_ | ((first | refine vc_region fun K KP hK hKP => ?_ | refine Stg.s ?_ | refine guardD_ret0 ?_ | refine exV_intro _ rfl ?_); (try simp only [go_sem, loadL_a, i64_up (show i ≤ 10000000 by omega)]); try ((first | refine hK _ _ ?_ | refine hKP _ _ _ ?_ | refine hKP _ _ (fun _ => ?_)); clear hK hKP K KP))))
        refine ⟨i + 1, _, (by repeat (first | exact LeEnv.nil | refine LeEnv.same ?_ | refine LeEnv.top ?_)), Store.le_refl _, ⟨by omega, by omega, fun p q h1 h2 h3 => ?_, rfl⟩, by omega⟩
        by_cases e1 : q = i
        · subst e1
          by_cases e2 : p = q - 1
          · rw [e2]; omega
          · exact Nat.le_trans (hs p (q - 1) h1 (by omega) (by omega)) (by omega)
        · exact hs p q h1 h2 (by omega)
      · have q2 : ky key m i < ky key m (i - 1) := (hC.lt _ _).1 (by simpa using hq)
        (repeat (first | refine Stp.s ?_ | refine inBlock_exit' (by decide) ?_ | ((first | refine vc_region fun K KP hK hKP => ?_ | refine Stg.s ?_ | refine guardD_ret0 ?_ | refine exV_intro _ rfl ?_); (try simp only [go_sem, loadL_a]); try ((first | refine hK _ _ ?_ | refine hKP _ _ _ ?_ | refine hKP _ _ (fun _ => ?_)); clear hK hKP K KP))))
        exact hrest i _ _ ⟨hi1, hi2, hs, .inr q2, rfl⟩ rfl
    · have hd : decide ((i : Int) < (e : Int)) = false := decide_eq_false (by omega)
      ((repeat first | refine Stp.s ?_ | refine inBlock_exit' (by decide) ?_); refine vc_draw mixed [ ] [0, 1, 2, 3, 4, 5, 6, 7, 8, 9, 10, 11, 12, 13, 14, 15, 16, 17 ] [ 8, 13, 14 ] [] (fun _ => True) (by kernel_rfl) (by kernel_rfl) (by kernel_rfl) trivial fun K KP hK hKP => ?_; simp only [go_sem, hd]; try (refine hK _ _ ?_; clear hK hKP K KP))
      ((try simp only [go_sem, loadL_a, hd]); (try ((first | refine hK _ _ ?_ | refine hKP _ _ _ ?_ | refine hKP _ _ (fun _ => ?_)); clear hK hKP K KP)); repeat (first | refine Stp.s ?_ | refine inBlock_exit' (by decide) ?_ | ((first | refine vc_region fun K KP hK hKP => ?_ | refine Stg.s ?_ | refine guardD_ret0 ?_ | refine exV_intro _ rfl ?_); (try simp only [go_sem, loadL_a, hd]); try ((first | refine hK _ _ ?_ | refine hKP _ _ _ ?_ | refine hKP _ _ (fun _ => ?_)); clear hK hKP K KP))))
      refine vc_cond rfl (fun hq => by cases hq) (fun _ => ?_)
      (repeat (first | refine Stp.s ?_ | refine inBlock_exit' (by decide) ?_ | ((first | refine vc_region fun K KP hK hKP => ?_ | refine Stg.s ?_ | refine guardD_ret0 ?_ | refine exV_intro _ rfl ?_); (try simp only [go_sem, loadL_a]); try ((first | refine hK _ _ ?_ | refine hKP _ _ _ ?_ | refine hKP _ _ (fun _ => ?_)); clear hK hKP K KP))))
      exact hrest i _ _ ⟨hi1, hi2, hs, .inl (by omega), rfl⟩ rfl
  clear hi1 hi2 hs
  obtain ⟨hi1, hi2, hs, hx, rfl⟩ := hinv
  (repeat (first | refine Stp.s ?_ | refine inBlock_exit' (by decide) ?_ | ((first | refine vc_region fun K KP hK hKP => ?_ | refine Stg.s ?_ | refine guardD_ret0 ?_ | refine exV_intro _ rfl ?_); (try simp only [go_sem, loadL_a]); try ((first | refine hK _ _ ?_ | refine hKP _ _ _ ?_ | refine hKP _ _ (fun _ => ?_)); clear hK hKP K KP))))
  refine vc_cond rfl (fun hq => ?_) (fun hq => ?_)
  · have hie : i = e := by simp at hq; omega
    subst hie
    (repeat (first | refine Stp.s ?_ | refine inBlock_exit' (by decide) ?_ | ((first | refine vc_region fun K KP hK hKP => ?_ | refine Stg.s ?_ | refine guardD_ret0 ?_ | refine exV_intro _ rfl ?_); (try simp only [go_sem, loadL_a]); try ((first | refine hK _ _ ?_ | refine hKP _ _ _ ?_ | refine hKP _ _ (fun _ => ?_)); clear hK hKP K KP))))
    (simp only [postV, resV, oneOf, List.getD_cons_succ, List.getD_cons_zero, and_true, true_and])
    exact ⟨true, m, rfl, hw, fun _ => hs, rfl⟩
  have hie : i < e := by simp at hq; omega
  have hlt := hx.resolve_left (by omega)
  have w3 := i64_minus (show e ≤ 10000000 by omega) (show a ≤ e by omega)
  (repeat (first | refine Stp.s ?_ | refine inBlock_exit' (by decide) ?_ | ((first | refine vc_region fun K KP hK hKP => ?_ | refine Stg.s ?_ | refine guardD_ret0 ?_ | refine exV_intro _ rfl ?_); (try simp only [go_sem, loadL_a, w3]); try ((first | refine hK _ _ ?_ | refine hKP _ _ _ ?_ | refine hKP _ _ (fun _ => ?_)); clear hK hKP K KP))))
  refine vc_cond rfl (fun _ => ?_) (fun _ => ?_)
  · (repeat (first | refine Stp.s ?_ | refine inBlock_exit' (by decide) ?_ | ((first | refine vc_region fun K KP hK hKP => ?_ | refine Stg.s ?_ | refine guardD_ret0 ?_ | refine exV_intro _ rfl ?_); (try simp only [go_sem, loadL_a]); try ((first | refine hK _ _ ?_ | refine hKP _ _ _ ?_ | refine hKP _ _ (fun _ => ?_)); clear hK hKP K KP))))
    (simp only [postV, resV, oneOf, List.getD_cons_succ, List.getD_cons_zero, and_true, true_and])
    exact ⟨false, m, rfl, hw, (fun h => by cases h), rfl⟩
  have g1 := eq_true (show (0 : Int) ≤ (i : Int) by omega)
  have g2 := eq_true (show (i : Int) < m0.length by omega)
  have w2 := i64_minus (show i ≤ 10000000 by omega) (show 1 ≤ i by omega)
  have g3 := eq_true (show (0 : Int) ≤ ((i - 1 : Nat) : Int) by omega)
  have g4 := eq_true (show ((i - 1 : Nat) : Int) < m0.length by omega)
  have r1 := slab_load hE (spare := spare) (show i < m.length by omega)
  have r2 := slab_load hE (spare := spare) (show i - 1 < m.length by omega)
  (repeat (first | refine Stp.s ?_ | refine inBlock_exit' (by decide) ?_ | ((first | refine vc_region fun K KP hK hKP => ?_ | refine Stg.s ?_ | refine guardD_ret0 ?_ | refine exV_intro _ rfl ?_); (try simp only [go_sem, loadL_a]); try ((first | refine hK _ _ ?_ | refine hKP _ _ _ ?_ | refine hKP _ _ (fun _ => ?_)); clear hK hKP K KP))))
  ((repeat first | refine Stp.s ?_ | refine inBlock_exit' (by decide) ?_); refine vc_draw mixed [ 15, 17 ] [0, 1, 2, 3, 4, 5, 6, 7, 8, 9, 10, 11, 12, 13, 14, 15, 16, 17 ] [ 9, 13 ] [] (fun _ => True) (by kernel_rfl) (by kernel_rfl) (by kernel_rfl) trivial fun K KP hK hKP => ?_; simp only [go_sem, g1, g2, g3, g4, nc1 ▸ w2, Int.toNat_natCast, hbb, r1, r2]; try (refine hK _ _ ?_; clear hK hKP K KP))
  ((try simp only [go_sem, g1, g2, g3, g4, nc1 ▸ w2, Int.toNat_natCast, hbb, r1, r2]); (try ((first | refine hK _ _ ?_ | refine hKP _ _ _ ?_ | refine hKP _ _ (fun _ => ?_)); clear hK hKP K KP)); repeat (first | refine Stp.s ?_ | refine inBlock_exit' (by decide) ?_ | ((first | refine vc_region fun K KP hK hKP => ?_ | refine Stg.s ?_ | refine guardD_ret0 ?_ | refine exV_intro _ rfl ?_); (try simp only [go_sem, g1, g2, g3, g4, nc1 ▸ w2, Int.toNat_natCast, hbb, r1, r2]); try ((first | refine hK _ _ ?_ | refine hKP _ _ _ ?_ | refine hKP _ _ (fun _ => ?_)); clear hK hKP K KP))))
  refine ⟨hE.len _, hE.one _, rowE_room1 hE m spare _ _ (by omega), effV_true ⟨hE.len _, hE.one _, rowE_room2 hE m spare _ _ _ _ (by omega), ?_⟩⟩
  rw [rowE_swp hE spare m _ _ (by omega) (by omega)]
  ((try simp only [go_sem, loadL_a, Store.set_set]); refine hK _ _ ?_; clear hK hKP K KP; repeat (first | refine then_normal ?_ | refine inBlock_normal ?_))
  have hw1 : WP a e m0 (swp m i (i - 1)) := hw.trans (WP.swap (by omega) (by omega) (by omega))
  have ho : OrdW key a (swp m i (i - 1)) (i - 1) (i - 1) := fun p q h1 h2 h3 h4 => by
    rw [ky_swp key m _ _ _ (by omega) (by omega), ky_swp key m _ _ _ (by omega) (by omega), if_neg (by omega), if_neg (by omega), if_neg (by omega), if_neg (by omega)]
    exact hs p q h1 h2 (by omega)
  generalize swp m i (i - 1) = m1 at *
  clear hs hlt hx hml hbb r1 r2 hw
  refine vc_join (fun j (m : List α) => [.sl b 0 m0.length cap, I64 a, I64 e, .fn (.func g) ps qs, j 4, j 5, j 6, j 7, BV false, I64 i, I64 c, j 11, j 12, j 13, j 14, j 15, j 16, j 17, j 18, j 19, j 20, j 21, j 22, j 23, j 24, j 25, j 26, j 27, j 28, j 29, j 30, j 31, j 32, j 33, j 34, j 35, j 36, j 37, j 38, j 39, j 40, j 41, j 42, j 43, j 44, j 45, j 46, j 47, j 48, j 49, j 50, j 51, j 52, j 53, j 54, j 55, j 56, j 57, j 58, j 59, j 60, j 61, j 62, j 63, j 64, j 65, j 66, j 67, j 68, j 69, j 70, j 71, j 72, j 73, j 74, j 75, j 76, j 77, j 78, j 79, j 80, j 81, j 82, j 83, j 84, j 85, j 86, j 87, j 88, j 89, j 90, j 91, j 92, j 93, j 94, j 95, j 96, j 97, j 98, j 99, j 100, j 101, j 102, j 103, j 104, j 105, j 106, j 107, j 108, j 109, j 110, j 111, j 112, j 113, j 114, j 115, j 116, j 117, j 118, j 119, j 120, j 121, j 122, j 123, j 124, j 125, j 126, j 127, j 128, j 129, j 130, j 131, j 132, j 133, j 134, j 135, j 136, j 137, j 138, j 139, j 140]) (fun m τ => WP a e m0 m ∧ Srtd key a i m ∧ τ = σ.set b (rowE enc m spare)) (fun j m τ hinv => ?_) (fun rest hrest => ?_)
  rotate_left
  · have w5 := i64_minus (show i ≤ 10000000 by omega) (show a ≤ i by omega)
    (repeat (first | refine Stp.s ?_ | refine inBlock_exit' (by decide) ?_ | ((first | refine vc_region fun K KP hK hKP => ?_ | refine Stg.s ?_ | refine guardD_ret0 ?_ | refine exV_intro _ rfl ?_); (try simp only [go_sem, loadL_a, w5]); try ((first | refine hK _ _ ?_ | refine hKP _ _ _ ?_ | refine hKP _ _ (fun _ => ?_)); clear hK hKP K KP))))
    refine vc_cond rfl (fun hq => ?_) (fun hq => ?_)
    rotate_left
    · have hia : i = a + 1 := by simp at hq; omega
      (repeat (first | refine Stp.s ?_ | refine inBlock_exit' (by decide) ?_ | ((first | refine vc_region fun K KP hK hKP => ?_ | refine Stg.s ?_ | refine guardD_ret0 ?_ | refine exV_intro _ rfl ?_); (try simp only [go_sem, loadL_a]); try ((first | refine hK _ _ ?_ | refine hKP _ _ _ ?_ | refine hKP _ _ (fun _ => ?_)); clear hK hKP K KP))))
      exact hrest m1 _ _ ⟨hw1, fun p q h1 h2 h3 => by omega, rfl⟩ rfl
    (repeat (first | refine Stp.s ?_ | refine inBlock_exit' (by decide) ?_ | ((first | refine vc_region fun K KP hK hKP => ?_ | refine Stg.s ?_ | refine guardD_ret0 ?_ | refine exV_intro _ rfl ?_); (try simp only [go_sem, loadL_a, nc1 ▸ w2]); try ((first | refine hK _ _ ?_ | refine hKP _ _ _ ?_ | refine hKP _ _ (fun _ => ?_)); clear hK hKP K KP))))
    refine vc_loop (loopV (fun (p : Nat × List α) => [.sl b 0 m0.length cap, I64 a, I64 e, .fn (.func g) ps qs, .top, .top, .top, .top, BV false, I64 i, I64 c, I64 p.1, .top, .top, .top, .top, .top, .top, .top, .top, .top, .top, .top, .top, .top, .top, .top, .top, .top, .top, .top, .top, .top, .top, .top, .top, .top, .top, .top, .top, .top, .top, .top, .top, .top, .top, .top, .top, .top, .top, .top, .top, .top, .top, .top, .top, .top, .top, .top, .top, .top, .top, .top, .top, .top, .top, .top, .top, .top, .top, .top, .top, .top, .top, .top, .top, .top, .top, .top, .top, .top, .top, .top, .top, .top, .top, .top, .top, .top, .top, .top, .top, .top, .top, .top, .top, .top, .top, .top, .top, .top, .top, .top, .top, .top, .top, .top, .top, .top, .top, .top, .top, .top, .top, .top, .top, .top, .top, .top, .top, .top, .top, .top, .top, .top, .top, .top, .top, .top, .top, .top, .top, .top, .top, .top, .top, .top, .top, .top, .top, .top]) (fun p τ => a ≤ p.1 ∧ p.1 ≤ i - 1 ∧ WP a e m0 p.2 ∧ OrdW key a p.2 (i - 1) p.1 ∧ τ = σ.set b (rowE enc p.2 spare)) (fun p _ => p.1) (i - 1, m1) (by repeat (first | exact LeEnv.nil | refine LeEnv.same ?_ | refine LeEnv.top ?_)) ⟨by show a ≤ i - 1; omega, Nat.le_refl _, hw1, ho, rfl⟩ ?_)
    clear hw1 ho
    rintro ⟨u, m⟩ τ ⟨hu1, hu2, hw, ho, rfl⟩
    simp only at hu1 hu2 hw ho
    have hml := hw.len
    have hbb := Store.set_same σ b (rowE enc m spare)
    (repeat (first | refine Stp.s ?_ | refine inBlock_exit' (by decide) ?_ | ((first | refine vc_region fun K KP hK hKP => ?_ | refine Stg.s ?_ | refine guardD_ret0 ?_ | refine exV_intro _ rfl ?_); (try simp only [go_sem, loadL_a]); try ((first | refine hK _ _ ?_ | refine hKP _ _ _ ?_ | refine hKP _ _ (fun _ => ?_)); clear hK hKP K KP))))
    refine vc_cond rfl (fun hq => ?_) (fun hq => ?_)
    rotate_left
    · have hu0 : u = 0 := by simp at hq; omega
      subst hu0
      obtain rfl : a = 0 := by omega
      (repeat (first | refine Stp.s ?_ | refine inBlock_exit' (by decide) ?_ | ((first | refine vc_region fun K KP hK hKP => ?_ | refine Stg.s ?_ | refine guardD_ret0 ?_ | refine exV_intro _ rfl ?_); (try simp only [go_sem, loadL_a]); try ((first | refine hK _ _ ?_ | refine hKP _ _ _ ?_ | refine hKP _ _ (fun _ => ?_)); clear hK hKP K KP))))
      have hf := ho.first
      rw [show i - 1 + 1 = i by omega] at hf
      exact hrest m _ _ ⟨hw, hf, rfl⟩ rfl
    have hu0 : 1 ≤ u := by simp at hq; omega
    have g5 := eq_true (show (0 : Int) ≤ (u : Int) by omega)
    have g6 := eq_true (show (u : Int) < m0.length by omega)
    have w6 := i64_minus (show u ≤ 10000000 by omega) hu0
    have g7 := eq_true (show (0 : Int) ≤ ((u - 1 : Nat) : Int) by omega)
    have g8 := eq_true (show ((u - 1 : Nat) : Int) < m0.length by omega)
    have r1 := slab_load hE (spare := spare) (show u < m.length by omega)
    have r2 := slab_load hE (spare := spare) (show u - 1 < m.length by omega)
    (repeat (first | refine Stp.s ?_ | refine inBlock_exit' (by decide) ?_ | ((first | refine vc_region fun K KP hK hKP => ?_ | refine Stg.s ?_ | refine guardD_ret0 ?_ | refine exV_intro _ rfl ?_); (try simp only [go_sem, loadL_a]); try ((first | refine hK _ _ ?_ | refine hKP _ _ _ ?_ | refine hKP _ _ (fun _ => ?_)); clear hK hKP K KP))))
    ((repeat first | refine Stp.s ?_ | refine inBlock_exit' (by decide) ?_); refine vc_draw mixed [ ] [0, 1, 2, 3, 4, 5, 6, 7, 8, 9, 10, 11, 12 ] [ 4, 9, 10 ] [] (fun _ => True) (by kernel_rfl) (by kernel_rfl) (by kernel_rfl) trivial fun K KP hK hKP => ?_; simp only [go_sem, g5, g6, g7, g8, nc1 ▸ w6, Int.toNat_natCast, hbb, r1, r2]; try (refine hK _ _ ?_; clear hK hKP K KP))
    ((try simp only [go_sem, g5, g6, g7, g8, nc1 ▸ w6, Int.toNat_natCast, hbb, r1, r2]); (try ((first | refine hK _ _ ?_ | refine hKP _ _ _ ?_ | refine hKP _ _ (fun _ => ?_)); clear hK hKP K KP)); repeat (first | refine Stp.s ?_ | refine inBlock_exit' (by decide) ?_ | ((first | refine vc_region fun K KP hK hKP => ?_ | refine Stg.s ?_ | refine guardD_ret0 ?_ | refine exV_intro _ rfl ?_); (try simp only [go_sem, g5, g6, g7, g8, nc1 ▸ w6, Int.toNat_natCast, hbb, r1, r2]); try ((first | refine hK _ _ ?_ | refine hKP _ _ _ ?_ | refine hKP _ _ (fun _ => ?_)); clear hK hKP K KP))))
    ((try simp only [go_sem, loadL_a]); first | refine exV_intro _ (callV_pure (hC.call _ _) ⟨rfl, rfl⟩) ?_ | refine exV_intro _ (fun _ => callV_pure (hC.call _ _) ⟨rfl, rfl⟩) ?_ | refine exV_intro _ (fun _ _ => callV_pure (hC.call _ _) ⟨rfl, rfl⟩) ?_)
    ((try simp only [go_sem, g5, g6, g7, g8, nc1 ▸ w6, Int.toNat_natCast, hbb, r1, r2]); (try ((first | refine hK _ _ ?_ | refine hKP _ _ _ ?_ | refine hKP _ _ (fun _ => ?_)); clear hK hKP K KP)); repeat (first | refine Stp.s ?_ | refine inBlock_exit' (by decide) ?_ | ((first | refine vc_region fun K KP hK hKP => ?_ | refine Stg.s ?_ | refine guardD_ret0 ?_ | refine exV_intro _ rfl ?_); (try simp only [go_sem, g5, g6, g7, g8, nc1 ▸ w6, Int.toNat_natCast, hbb, r1, r2]); try ((first | refine hK _ _ ?_ | refine hKP _ _ _ ?_ | refine hKP _ _ (fun _ => ?_)); clear hK hKP K KP))))
    refine vc_cond rfl (fun hq => ?_) (fun hq => ?_)
    · have q2 : ¬ ky key m u < ky key m (u - 1) := (fun h => by rw [decide_eq_true ((hC.lt _ _).2 h)] at hq; cases hq)
      have hf : Srtd key a i m := by
        by_cases e1 : u = a
        · subst e1
          have hf := ho.first
          rw [show i - 1 + 1 = i by omega] at hf; exact hf
        · obtain ⟨k, rfl⟩ : ∃ k, u = k + 1 := ⟨u - 1, by omega⟩
          have hf := ho.done key (by omega) hu2 (by rw [Nat.add_sub_cancel] at q2; omega)
          rw [show i - 1 + 1 = i by omega] at hf; exact hf
      (repeat (first | refine Stp.s ?_ | refine inBlock_exit' (by decide) ?_ | ((first | refine vc_region fun K KP hK hKP => ?_ | refine Stg.s ?_ | refine guardD_ret0 ?_ | refine exV_intro _ rfl ?_); (try simp only [go_sem, loadL_a]); try ((first | refine hK _ _ ?_ | refine hKP _ _ _ ?_ | refine hKP _ _ (fun _ => ?_)); clear hK hKP K KP))))
      exact hrest m _ _ ⟨hw, hf, rfl⟩ rfl
    · have q2 : ky key m u < ky key m (u - 1) := (hC.lt _ _).1 (by simpa using hq)
      have hau : a < u := by
        rcases Nat.lt_or_ge a u with h | h
        · exact h
        · obtain rfl : u = a := by omega
          have := (Abv.low key hlow hw) (by omega) u (Nat.le_refl _) (by omega)
          omega
      have ho2 : OrdW key a (swp m u (u - 1)) (i - 1) (u - 1) := by
        obtain ⟨k, rfl⟩ : ∃ k, u = k + 1 := ⟨u - 1, by omega⟩
        exact ho.swap key (by omega) (by omega) (by omega) q2
      (repeat (first | refine Stp.s ?_ | refine inBlock_exit' (by decide) ?_ | ((first | refine vc_region fun K KP hK hKP => ?_ | refine Stg.s ?_ | refine guardD_ret0 ?_ | refine exV_intro _ rfl ?_); (try simp only [go_sem, loadL_a]); try ((first | refine hK _ _ ?_ | refine hKP _ _ _ ?_ | refine hKP _ _ (fun _ => ?_)); clear hK hKP K KP))))
      ((repeat first | refine Stp.s ?_ | refine inBlock_exit' (by decide) ?_); refine vc_draw mixed [ 15, 17 ] [0, 1, 2, 3, 4, 5, 6, 7, 8, 9, 10, 11, 12, 13, 14, 15, 16, 17 ] [ 9, 13 ] [] (fun _ => True) (by kernel_rfl) (by kernel_rfl) (by kernel_rfl) trivial fun K KP hK hKP => ?_; simp only [go_sem, g5, g6, g7, g8, nc1 ▸ w6, Int.toNat_natCast, hbb, r1, r2]; try (refine hK _ _ ?_; clear hK hKP K KP))
      ((try simp only [go_sem, g5, g6, g7, g8, nc1 ▸ w6, Int.toNat_natCast, hbb, r1, r2]); (try ((first | refine hK _ _ ?_ | refine hKP _ _ _ ?_ | refine hKP _ _ (fun _ => ?_)); clear hK hKP K KP)); repeat (first | refine Stp.s ?_ | refine inBlock_exit' (by decide) ?_ | ((first | refine vc_region fun K KP hK hKP => ?_ | refine Stg.s ?_ | refine guardD_ret0 ?_ | refine exV_intro _ rfl ?_); (try simp only [go_sem, g5, g6, g7, g8, nc1 ▸ w6, Int.toNat_natCast, hbb, r1, r2]); try ((first | refine hK _ _ ?_ | refine hKP _ _ _ ?_ | refine hKP _ _ (fun _ => ?_)); clear hK hKP K KP))))
      refine ⟨hE.len _, hE.one _, rowE_room1 hE m spare _ _ (by omega), effV_true ⟨hE.len _, hE.one _, rowE_room2 hE m spare _ _ _ _ (by omega), ?_⟩⟩
      rw [rowE_swp hE spare m _ _ (by omega) (by omega)]
      ((try simp only [go_sem, Store.set_set, nc1 ▸ w6]); (try ((first | refine hK _ _ ?_ | refine hKP _ _ _ ?_ | refine hKP _ _ (fun _ => ?_)); clear hK hKP K KP)); repeat (first | refine Stp.s ?_ | refine inBlock_exit' (by decide) ?_ | ((first | refine vc_region fun K KP hK hKP => ?_ | refine Stg.s ?_ | refine guardD_ret0 ?_ | refine exV_intro _ rfl ?_); (try simp only [go_sem, Store.set_set, nc1 ▸ w6]); try ((first | refine hK _ _ ?_ | refine hKP _ _ _ ?_ | refine hKP _ _ (fun _ => ?_)); clear hK hKP K KP))))
      exact ⟨(u - 1, swp m u (u - 1)), _, (by repeat (first | exact LeEnv.nil | refine LeEnv.same ?_ | refine LeEnv.top ?_)), Store.le_refl _, ⟨by show a ≤ u - 1; omega, by show u - 1 ≤ i - 1; omega, hw.trans (WP.swap (by omega) (by omega) (by omega)), ho2, rfl⟩, by show u - 1 < u; omega⟩
  clear hw1 ho
  obtain ⟨hw, hs, rfl⟩ := hinv
  have w7 := i64_minus (show e ≤ 10000000 by omega) (show i ≤ e by omega)
  have w8 := i64_up (show i ≤ 10000000 by omega)
  have w9 := i64_up (show c ≤ 10000000 by omega)
  (repeat (first | refine Stp.s ?_ | refine inBlock_exit' (by decide) ?_ | ((first | refine vc_region fun K KP hK hKP => ?_ | refine Stg.s ?_ | refine guardD_ret0 ?_ | refine exV_intro _ rfl ?_); (try simp only [go_sem, loadL_a, w7]); try ((first | refine hK _ _ ?_ | refine hKP _ _ _ ?_ | refine hKP _ _ (fun _ => ?_)); clear hK hKP K KP))))
  refine vc_cond rfl (fun hq => ?_) (fun hq => ?_)
  rotate_left
  · (repeat (first | refine Stp.s ?_ | refine inBlock_exit' (by decide) ?_ | ((first | refine vc_region fun K KP hK hKP => ?_ | refine Stg.s ?_ | refine guardD_ret0 ?_ | refine exV_intro _ rfl ?_); (try simp only [go_sem, loadL_a, w9]); try ((first | refine hK _ _ ?_ | refine hKP _ _ _ ?_ | refine hKP _ _ (fun _ => ?_)); clear hK hKP K KP))))
    exact ⟨(i, c + 1, m), _, (by repeat (first | exact LeEnv.nil | refine LeEnv.same ?_ | refine LeEnv.top ?_)), Store.le_refl _, ⟨hi1, hi2, hc4, hw, hs, rfl⟩, by show 5 - (c + 1) < 5 - c; omega⟩
  (repeat (first | refine Stp.s ?_ | refine inBlock_exit' (by decide) ?_ | ((first | refine vc_region fun K KP hK hKP => ?_ | refine Stg.s ?_ | refine guardD_ret0 ?_ | refine exV_intro _ rfl ?_); (try simp only [go_sem, loadL_a, w8]); try ((first | refine hK _ _ ?_ | refine hKP _ _ _ ?_ | refine hKP _ _ (fun _ => ?_)); clear hK hKP K KP))))
  refine vc_loop (loopV (fun (p : Nat × List α) => [.sl b 0 m0.length cap, I64 a, I64 e, .fn (.func g) ps qs, .top, .top, .top, .top, BV false, I64 i, I64 c, .top, I64 p.1, .top, .top, .top, .top, .top, .top, .top, .top, .top, .top, .top, .top, .top, .top, .top, .top, .top, .top, .top, .top, .top, .top, .top, .top, .top, .top, .top, .top, .top, .top, .top, .top, .top, .top, .top, .top, .top, .top, .top, .top, .top, .top, .top, .top, .top, .top, .top, .top, .top, .top, .top, .top, .top, .top, .top, .top, .top, .top, .top, .top, .top, .top, .top, .top, .top, .top, .top, .top, .top, .top, .top, .top, .top, .top, .top, .top, .top, .top, .top, .top, .top, .top, .top, .top, .top, .top, .top, .top, .top, .top, .top, .top, .top, .top, .top, .top, .top, .top, .top, .top, .top, .top, .top, .top, .top, .top, .top, .top, .top, .top, .top, .top, .top, .top, .top, .top, .top, .top, .top, .top, .top, .top, .top, .top, .top, .top, .top, .top]) (fun p τ => i + 1 ≤ p.1 ∧ p.1 ≤ e ∧ WP i e m p.2 ∧ τ = σ.set b (rowE enc p.2 spare)) (fun p _ => e - p.1) (i + 1, m) (by repeat (first | exact LeEnv.nil | refine LeEnv.same ?_ | refine LeEnv.top ?_)) ⟨Nat.le_refl _, hie, WP.refl _ _ _, rfl⟩ ?_)
  rintro ⟨u, m2⟩ τ ⟨hu1, hu2, hw2, rfl⟩
  simp only at hu1 hu2 hw2
  have hml := hw.len
  have hml2 := hw2.len
  have hbb := Store.set_same σ b (rowE enc m2 spare)
  have hend : WP a e m0 m2 ∧ Srtd key a i m2 := ⟨hw.trans (hw2.wide (by omega) (Nat.le_refl _)), hs.out key hw2 (by omega)⟩
  (repeat (first | refine Stp.s ?_ | refine inBlock_exit' (by decide) ?_ | ((first | refine vc_region fun K KP hK hKP => ?_ | refine Stg.s ?_ | refine guardD_ret0 ?_ | refine exV_intro _ rfl ?_); (try simp only [go_sem, loadL_a]); try ((first | refine hK _ _ ?_ | refine hKP _ _ _ ?_ | refine hKP _ _ (fun _ => ?_)); clear hK hKP K KP))))
  refine vc_cond rfl (fun hq => ?_) (fun hq => ?_)
  rotate_left
  · (repeat (first | refine Stp.s ?_ | refine inBlock_exit' (by decide) ?_ | ((first | refine vc_region fun K KP hK hKP => ?_ | refine Stg.s ?_ | refine guardD_ret0 ?_ | refine exV_intro _ rfl ?_); (try simp only [go_sem, loadL_a, w9]); try ((first | refine hK _ _ ?_ | refine hKP _ _ _ ?_ | refine hKP _ _ (fun _ => ?_)); clear hK hKP K KP))))
    exact ⟨(i, c + 1, m2), _, (by repeat (first | exact LeEnv.nil | refine LeEnv.same ?_ | refine LeEnv.top ?_)), Store.le_refl _, ⟨hi1, hi2, hc4, hend.1, hend.2, rfl⟩, by show 5 - (c + 1) < 5 - c; omega⟩
  have hue : u < e := by simp at hq; omega
  have g5 := eq_true (show (0 : Int) ≤ (u : Int) by omega)
  have g6 := eq_true (show (u : Int) < m0.length by omega)
  have w6 := i64_minus (show u ≤ 10000000 by omega) (show 1 ≤ u by omega)
  have g7 := eq_true (show (0 : Int) ≤ ((u - 1 : Nat) : Int) by omega)
  have g8 := eq_true (show ((u - 1 : Nat) : Int) < m0.length by omega)
  have r1 := slab_load hE (spare := spare) (show u < m2.length by omega)
  have r2 := slab_load hE (spare := spare) (show u - 1 < m2.length by omega)
  have w10 := i64_up (show u ≤ 10000000 by omega)
  (repeat (first | refine Stp.s ?_ | refine inBlock_exit' (by decide) ?_ | ((first | refine vc_region fun K KP hK hKP => ?_ | refine Stg.s ?_ | refine guardD_ret0 ?_ | refine exV_intro _ rfl ?_); (try simp only [go_sem, loadL_a]); try ((first | refine hK _ _ ?_ | refine hKP _ _ _ ?_ | refine hKP _ _ (fun _ => ?_)); clear hK hKP K KP))))
  ((repeat first | refine Stp.s ?_ | refine inBlock_exit' (by decide) ?_); refine vc_draw mixed [ ] [0, 1, 2, 3, 4, 5, 6, 7, 8, 9, 10, 11, 12 ] [ 4, 9, 10 ] [] (fun _ => True) (by kernel_rfl) (by kernel_rfl) (by kernel_rfl) trivial fun K KP hK hKP => ?_; simp only [go_sem, g5, g6, g7, g8, nc1 ▸ w6, Int.toNat_natCast, hbb, r1, r2]; try (refine hK _ _ ?_; clear hK hKP K KP))
  ((try simp only [go_sem, g5, g6, g7, g8, nc1 ▸ w6, Int.toNat_natCast, hbb, r1, r2]); (try ((first | refine hK _ _ ?_ | refine hKP _ _ _ ?_ | refine hKP _ _ (fun _ => ?_)); clear hK hKP K KP)); repeat (first | refine Stp.s ?_ | refine inBlock_exit' (by decide) ?_ | ((first | refine vc_region fun K KP hK hKP => ?_ | refine Stg.s ?_ | refine guardD_ret0 ?_ | refine exV_intro _ rfl ?_); (try simp only [go_sem, g5, g6, g7, g8, nc1 ▸ w6, Int.toNat_natCast, hbb, r1, r2]); try ((first | refine hK _ _ ?_ | refine hKP _ _ _ ?_ | refine hKP _ _ (fun _ => ?_)); clear hK hKP K KP))))
  ((try simp only [go_sem, loadL_a]); first | refine exV_intro _ (callV_pure (hC.call _ _) ⟨rfl, rfl⟩) ?_ | refine exV_intro _ (fun _ => callV_pure (hC.call _ _) ⟨rfl, rfl⟩) ?_ | refine exV_intro _ (fun _ _ => callV_pure (hC.call _ _) ⟨rfl, rfl⟩) ?_)
  ((try simp only [go_sem, g5, g6, g7, g8, nc1 ▸ w6, Int.toNat_natCast, hbb, r1, r2]); (try ((first | refine hK _ _ ?_ | refine hKP _ _ _ ?_ | refine hKP _ _ (fun _ => ?_)); clear hK hKP K KP)); repeat (first | refine Stp.s ?_ | refine inBlock_exit' (by decide) ?_ | ((first | refine vc_region fun K KP hK hKP => ?_ | refine Stg.s ?_ | refine guardD_ret0 ?_ | refine exV_intro _ rfl ?_); (try simp only [go_sem, g5, g6, g7, g8, nc1 ▸ w6, Int.toNat_natCast, hbb, r1, r2]); try ((first | refine hK _ _ ?_ | refine hKP _ _ _ ?_ | refine hKP _ _ (fun _ => ?_)); clear hK hKP K KP))))
  refine vc_cond rfl (fun hq => ?_) (fun hq => ?_)
  · (repeat (first | refine Stp.s ?_ | refine inBlock_exit' (by decide) ?_ | ((first | refine vc_region fun K KP hK hKP => ?_ | refine Stg.s ?_ | refine guardD_ret0 ?_ | refine exV_intro _ rfl ?_); (try simp only [go_sem, loadL_a, w9]); try ((first | refine hK _ _ ?_ | refine hKP _ _ _ ?_ | refine hKP _ _ (fun _ => ?_)); clear hK hKP K KP))))
    exact ⟨(i, c + 1, m2), _, (by repeat (first | exact LeEnv.nil | refine LeEnv.same ?_ | refine LeEnv.top ?_)), Store.le_refl _, ⟨hi1, hi2, hc4, hend.1, hend.2, rfl⟩, by show 5 - (c + 1) < 5 - c; omega⟩
  (repeat (first | refine Stp.s ?_ | refine inBlock_exit' (by decide) ?_ | ((first | refine vc_region fun K KP hK hKP => ?_ | refine Stg.s ?_ | refine guardD_ret0 ?_ | refine exV_intro _ rfl ?_); (try simp only [go_sem, loadL_a]); try ((first | refine hK _ _ ?_ | refine hKP _ _ _ ?_ | refine hKP _ _ (fun _ => ?_)); clear hK hKP K KP))))
  ((repeat first | refine Stp.s ?_ | refine inBlock_exit' (by decide) ?_); refine vc_draw mixed [ 15, 17 ] [0, 1, 2, 3, 4, 5, 6, 7, 8, 9, 10, 11, 12, 13, 14, 15, 16, 17 ] [ 9, 13 ] [] (fun _ => True) (by kernel_rfl) (by kernel_rfl) (by kernel_rfl) trivial fun K KP hK hKP => ?_; simp only [go_sem, g5, g6, g7, g8, nc1 ▸ w6, Int.toNat_natCast, hbb, r1, r2]; try (refine hK _ _ ?_; clear hK hKP K KP))
  ((try simp only [go_sem, g5, g6, g7, g8, nc1 ▸ w6, Int.toNat_natCast, hbb, r1, r2]); (try ((first | refine hK _ _ ?_ | refine hKP _ _ _ ?_ | refine hKP _ _ (fun _ => ?_)); clear hK hKP K KP)); repeat (first | refine Stp.s ?_ | refine inBlock_exit' (by decide) ?_ | ((first | refine vc_region fun K KP hK hKP => ?_ | refine Stg.s ?_ | refine guardD_ret0 ?_ | refine exV_intro _ rfl ?_); (try simp only [go_sem, g5, g6, g7, g8, nc1 ▸ w6, Int.toNat_natCast, hbb, r1, r2]); try ((first | refine hK _ _ ?_ | refine hKP _ _ _ ?_ | refine hKP _ _ (fun _ => ?_)); clear hK hKP K KP))))
  refine ⟨hE.len _, hE.one _, rowE_room1 hE m2 spare _ _ (by omega), effV_true ⟨hE.len _, hE.one _, rowE_room2 hE m2 spare _ _ _ _ (by omega), ?_⟩⟩
  rw [rowE_swp hE spare m2 _ _ (by omega) (by omega)]
  ((try simp only [go_sem, Store.set_set, w10]); (try ((first | refine hK _ _ ?_ | refine hKP _ _ _ ?_ | refine hKP _ _ (fun _ => ?_)); clear hK hKP K KP)); repeat (first | refine Stp.s ?_ | refine inBlock_exit' (by decide) ?_ | ((first | refine vc_region fun K KP hK hKP => ?_ | refine Stg.s ?_ | refine guardD_ret0 ?_ | refine exV_intro _ rfl ?_); (try simp only [go_sem, Store.set_set, w10]); try ((first | refine hK _ _ ?_ | refine hKP _ _ _ ?_ | refine hKP _ _ (fun _ => ?_)); clear hK hKP K KP))))
  exact ⟨(u + 1, swp m2 u (u - 1)), _, (by repeat (first | exact LeEnv.nil | refine LeEnv.same ?_ | refine LeEnv.top ?_)), Store.le_refl _, ⟨by show i + 1 ≤ u + 1; omega, hue, hw2.trans (WP.swap (by omega) (by omega) (by omega)), rfl⟩, by show e - (u + 1) < e - u; omega⟩

theorem slab_pdq (hE : Elt 17 enc) (hC : Cmpr Tryz.prog g ps qs enc key cv) (b cap : Nat) (spare : List V) : ∀ (n a e : Nat) (l : Int) (m0 : List α) (σ : Store), e - a ≤ n → σ b = some (rowE enc m0 spare) → a ≤ e → e ≤ m0.length → m0.length ≤ 250 → (0 < a → Abv key a e (ky key m0 (a - 1)) m0) →
    HCalls Tryz.prog 157 [.sl b 0 m0.length cap, I64 a, I64 e, I64 l, .fn (.func g) ps qs] σ (fun r σ' => ∃ m', r = .ret (oneOf []) ∧ WP a e m0 m' ∧ Srtd key a e m' ∧ σ' = σ.set b (rowE enc m' spare)) := by
  intro n
  induction n using Nat.strongRecOn with
  | _ n ih =>
  intro A E l0 m0 σ hlen hb hAE hE0 hn hlow
  (refine HCalls.of_vc Tryz.func157 rfl ?_; rw [Tryz.ntmps157, Tryz.results157]; simp only [List.length_cons, List.length_nil, Nat.reduceAdd, Nat.reduceSub, List.replicate, List.cons_append, List.nil_append])
  (repeat (first | refine Stp.s ?_ | refine inBlock_exit' (by decide) ?_ | ((first | refine vc_region fun K KP hK hKP => ?_ | refine Stg.s ?_ | refine guardD_ret0 ?_ | refine exV_intro _ rfl ?_); (try simp only [go_sem, loadL_a]); try ((first | refine hK _ _ ?_ | refine hKP _ _ _ ?_ | refine hKP _ _ (fun _ => ?_)); clear hK hKP K KP))))
  refine vc_loop (loopV (fun (q : Nat × Nat × Int × Bool × Bool × List α) => [.sl b 0 m0.length cap, I64 q.1, I64 q.2.1, I64 q.2.2.1, .fn (.func g) ps qs, .top, .top, .top, .top, .top, BV q.2.2.2.1, BV q.2.2.2.2.1, .top, .top, .top, .top, .top, .top, .top, .top, .top, .top, .top, .top, .top, .top, .top, .top, .top, .top, .top, .top, .top, .top, .top, .top, .top, .top, .top, .top, .top, .top, .top, .top, .top, .top, .top, .top, .top, .top, .top, .top, .top, .top, .top, .top, .top, .top, .top, .top, .top, .top, .top, .top, .top, .top, .top, .top, .top, .top, .top, .top, .top, .top, .top, .top, .top, .top, .top, .top, .top, .top, .top, .top, .top, .top, .top, .top, .top, .top, .top, .top, .top, .top, .top, .top, .top, .top, .top, .top, .top, .top, .top, .top, .top, .top, .top, .top, .top, .top, .top, .top, .top, .top, .top, .top, .top, .top, .top, .top, .top, .top, .top, .top, .top, .top, .top, .top, .top, .top, .top, .top, .top, .top, .top, .top, .top, .top, .top, .top, .top, .top, .top, .top, .top, .top, .top, .top]) (fun q τ => A ≤ q.1 ∧ q.1 ≤ q.2.1 ∧ q.2.1 ≤ E ∧ WP A E m0 q.2.2.2.2.2 ∧ OutW key A E q.1 q.2.1 q.2.2.2.2.2 ∧ τ = σ.set b (rowE enc q.2.2.2.2.2 spare)) (fun q _ => q.2.1 - q.1) (A, E, l0, true, true, m0) (by repeat (first | exact LeEnv.nil | refine LeEnv.same ?_ | refine LeEnv.top ?_)) ⟨Nat.le_refl _, hAE, Nat.le_refl _, WP.refl _ _ _, OutW.start key A E m0, (Store.set_id hb).symm⟩ ?_)
  rintro ⟨a, e, l, wb, wp, m⟩ τ ⟨ha, hae, he, hw, ho, rfl⟩
  simp only at ha hae he hw ho
  have hml := hw.len
  have hbb := Store.set_same σ b (rowE enc m spare)
  have w0 := i64_minus (show e ≤ 10000000 by omega) hae
  obtain ⟨sz, hsz⟩ : ∃ sz, sz = e - a := ⟨_, rfl⟩
  have fin : ∀ {m' : List α}, WP a e m m' → Srtd key a e m' → WP A E m0 m' ∧ Srtd key A E m' := fun hw' hs' => ⟨hw.trans (hw'.wide ha he), (ho.wp key hw' ha he).done key hs'⟩
  have hlow0 : ∀ {m' : List α}, WP a e m m' → 0 < a → Abv key a e (ky key m' (a - 1)) m' := fun {m'} hw' hp => by
    have w' := hw.trans (hw'.wide ha he)
    exact (ho.wp key hw' ha he).low key ha he (Abv.low key hlow w') hp
  (repeat (first | refine Stp.s ?_ | refine inBlock_exit' (by decide) ?_ | ((first | refine vc_region fun K KP hK hKP => ?_ | refine Stg.s ?_ | refine guardD_ret0 ?_ | refine exV_intro _ rfl ?_); (try simp only [go_sem, loadL_a, w0]); try ((first | refine hK _ _ ?_ | refine hKP _ _ _ ?_ | refine hKP _ _ (fun _ => ?_)); clear hK hKP K KP))))
  refine vc_cond rfl (fun hq => ?_) (fun hq => ?_)
  · have hs := slab_ins hE hC b cap a e m spare _ hbb hae (by omega) (by omega)
    rw [hml] at hs
    (repeat (first | refine Stp.s ?_ | refine inBlock_exit' (by decide) ?_ | ((first | refine vc_region fun K KP hK hKP => ?_ | refine Stg.s ?_ | refine guardD_ret0 ?_ | refine exV_intro _ rfl ?_); (try simp only [go_sem, loadL_a]); try ((first | refine hK _ _ ?_ | refine hKP _ _ _ ?_ | refine hKP _ _ (fun _ => ?_)); clear hK hKP K KP))))
    refine callV_of en198 hs (fun x σ' q => ?_) (fun x σ' q => by obtain ⟨_, e, _⟩ := q; cases e)
    obtain ⟨m', e1, hw', hs', rfl⟩ := q
    cases e1
    rw [Store.set_set]
    ((try simp only [go_sem, loadL_a]); (try ((first | refine hK _ _ ?_ | refine hKP _ _ _ ?_ | refine hKP _ _ (fun _ => ?_)); clear hK hKP K KP)); repeat (first | refine Stp.s ?_ | refine inBlock_exit' (by decide) ?_ | ((first | refine vc_region fun K KP hK hKP => ?_ | refine Stg.s ?_ | refine guardD_ret0 ?_ | refine exV_intro _ rfl ?_); (try simp only [go_sem, loadL_a]); try ((first | refine hK _ _ ?_ | refine hKP _ _ _ ?_ | refine hKP _ _ (fun _ => ?_)); clear hK hKP K KP))))
    (simp only [postV, resV, oneOf, List.getD_cons_succ, List.getD_cons_zero, and_true, true_and])
    obtain ⟨f1, f2⟩ := fin hw' hs'
    exact ⟨m', f1, f2, rfl⟩
  have h12 : a + 12 < e := by simp at hq; omega
  clear hq
  (repeat (first | refine Stp.s ?_ | refine inBlock_exit' (by decide) ?_ | ((first | refine vc_region fun K KP hK hKP => ?_ | refine Stg.s ?_ | refine guardD_ret0 ?_ | refine exV_intro _ rfl ?_); (try simp only [go_sem, loadL_a]); try ((first | refine hK _ _ ?_ | refine hKP _ _ _ ?_ | refine hKP _ _ (fun _ => ?_)); clear hK hKP K KP))))
  refine vc_cond rfl (fun hq => ?_) (fun _ => ?_)
  · have hs := slab_heap hE hC b cap a e m spare _ hbb (by omega) (by omega) (by omega)
    rw [hml] at hs
    (repeat (first | refine Stp.s ?_ | refine inBlock_exit' (by decide) ?_ | ((first | refine vc_region fun K KP hK hKP => ?_ | refine Stg.s ?_ | refine guardD_ret0 ?_ | refine exV_intro _ rfl ?_); (try simp only [go_sem, loadL_a]); try ((first | refine hK _ _ ?_ | refine hKP _ _ _ ?_ | refine hKP _ _ (fun _ => ?_)); clear hK hKP K KP))))
    refine callV_of en199 hs (fun x σ' q => ?_) (fun x σ' q => by obtain ⟨_, e, _⟩ := q; cases e)
    obtain ⟨m', e1, hw', hs', rfl⟩ := q
    cases e1
    rw [Store.set_set]
    ((try simp only [go_sem, loadL_a]); (try ((first | refine hK _ _ ?_ | refine hKP _ _ _ ?_ | refine hKP _ _ (fun _ => ?_)); clear hK hKP K KP)); repeat (first | refine Stp.s ?_ | refine inBlock_exit' (by decide) ?_ | ((first | refine vc_region fun K KP hK hKP => ?_ | refine Stg.s ?_ | refine guardD_ret0 ?_ | refine exV_intro _ rfl ?_); (try simp only [go_sem, loadL_a]); try ((first | refine hK _ _ ?_ | refine hKP _ _ _ ?_ | refine hKP _ _ (fun _ => ?_)); clear hK hKP K KP))))
    (simp only [postV, resV, oneOf, List.getD_cons_succ, List.getD_cons_zero, and_true, true_and])
    obtain ⟨f1, f2⟩ := fin hw' hs'
    exact ⟨m', f1, f2, rfl⟩
  refine vc_skip ?_
  refine then_normal ?_
  refine vc_join (fun j (q : Int × List α) => [.sl b 0 m0.length cap, I64 a, I64 e, I64 q.1, .fn (.func g) ps qs, j 5, j 6, j 7, j 8, j 9, BV wb, BV wp, I64 ((e - a : Nat) : Int), j 13, j 14, j 15, j 16, j 17, j 18, j 19, j 20, j 21, j 22, j 23, j 24, j 25, j 26, j 27, j 28, j 29, j 30, j 31, j 32, j 33, j 34, j 35, j 36, j 37, j 38, j 39, j 40, j 41, j 42, j 43, j 44, j 45, j 46, j 47, j 48, j 49, j 50, j 51, j 52, j 53, j 54, j 55, j 56, j 57, j 58, j 59, j 60, j 61, j 62, j 63, j 64, j 65, j 66, j 67, j 68, j 69, j 70, j 71, j 72, j 73, j 74, j 75, j 76, j 77, j 78, j 79, j 80, j 81, j 82, j 83, j 84, j 85, j 86, j 87, j 88, j 89, j 90, j 91, j 92, j 93, j 94, j 95, j 96, j 97, j 98, j 99, j 100, j 101, j 102, j 103, j 104, j 105, j 106, j 107, j 108, j 109, j 110, j 111, j 112, j 113, j 114, j 115, j 116, j 117, j 118, j 119, j 120, j 121, j 122, j 123, j 124, j 125, j 126, j 127, j 128, j 129, j 130, j 131, j 132, j 133, j 134, j 135, j 136, j 137, j 138, j 139, j 140, j 141, j 142, j 143, j 144, j 145, j 146, j 147]) (fun q τ => WP a e m q.2 ∧ τ = σ.set b (rowE enc q.2 spare)) (fun j q τ hinv => ?_) (fun rest hrest => ?_)
  rotate_left
  · (repeat (first | refine Stp.s ?_ | refine inBlock_exit' (by decide) ?_ | ((first | refine vc_region fun K KP hK hKP => ?_ | refine Stg.s ?_ | refine guardD_ret0 ?_ | refine exV_intro _ rfl ?_); (try simp only [go_sem, loadL_a]); try ((first | refine hK _ _ ?_ | refine hKP _ _ _ ?_ | refine hKP _ _ (fun _ => ?_)); clear hK hKP K KP))))
    refine vc_cond rfl (fun _ => ?_) (fun _ => ?_)
    · have hs := (slab_brk hE (g := g) (ps := ps) (qs := qs) b cap a e m spare _ hbb h12 (by omega) (by omega)).weaken (Q' := fun r σ' => ∃ m', r = .ret (oneOf []) ∧ WP a e m m' ∧ σ' = (σ.set b (rowE enc m spare)).set b (rowE enc m' spare)) (fun r σ' q => by
        obtain ⟨m', e1, hw', hle⟩ := q
        exact ⟨r, _, Weakens.le hle, m', e1, hw', rfl⟩) (fun r σ' q => by obtain ⟨_, e, _⟩ := q; cases e)
      rw [hml] at hs
      (repeat (first | refine Stp.s ?_ | refine inBlock_exit' (by decide) ?_ | ((first | refine vc_region fun K KP hK hKP => ?_ | refine Stg.s ?_ | refine guardD_ret0 ?_ | refine exV_intro _ rfl ?_); (try simp only [go_sem, loadL_a]); try ((first | refine hK _ _ ?_ | refine hKP _ _ _ ?_ | refine hKP _ _ (fun _ => ?_)); clear hK hKP K KP))))
      refine callV_of en200 hs (fun x σ' q => ?_) (fun x σ' q => by obtain ⟨_, e, _⟩ := q; cases e)
      obtain ⟨m', e1, hw', rfl⟩ := q
      cases e1
      rw [Store.set_set]
      ((try simp only [go_sem, loadL_a]); (try ((first | refine hK _ _ ?_ | refine hKP _ _ _ ?_ | refine hKP _ _ (fun _ => ?_)); clear hK hKP K KP)); repeat (first | refine Stp.s ?_ | refine inBlock_exit' (by decide) ?_ | ((first | refine vc_region fun K KP hK hKP => ?_ | refine Stg.s ?_ | refine guardD_ret0 ?_ | refine exV_intro _ rfl ?_); (try simp only [go_sem, loadL_a]); try ((first | refine hK _ _ ?_ | refine hKP _ _ _ ?_ | refine hKP _ _ (fun _ => ?_)); clear hK hKP K KP))))
      exact hrest (_, m') _ _ ⟨hw', rfl⟩ rfl
    · (repeat (first | refine Stp.s ?_ | refine inBlock_exit' (by decide) ?_ | ((first | refine vc_region fun K KP hK hKP => ?_ | refine Stg.s ?_ | refine guardD_ret0 ?_ | refine exV_intro _ rfl ?_); (try simp only [go_sem, loadL_a]); try ((first | refine hK _ _ ?_ | refine hKP _ _ _ ?_ | refine hKP _ _ (fun _ => ?_)); clear hK hKP K KP))))
      exact hrest (l, m) _ _ ⟨WP.refl _ _ _, rfl⟩ rfl
  obtain ⟨l2, m1⟩ := q
  obtain ⟨hw1, rfl⟩ := hinv
  simp only at hw1
  have hml1 := hw1.len
  have hbb1 := Store.set_same σ b (rowE enc m1 spare)
  refine vc_seq ?_
  refine vc_region fun K KP hK hKP => ?_
  simp only [go_sem, loadL_a]
  have hs := (slab_piv hE hC b cap a e m1 spare _ hbb1 h12 (by omega) (by omega)).weaken (Q' := fun r σ' => ∃ (p : Nat) (h : Int), r = .ret (.tup [I64 p, I64 h]) ∧ (a ≤ p ∧ p < e) ∧ σ' = σ.set b (rowE enc m1 spare)) (fun r σ' q => by
    obtain ⟨p, h, e1, hp, hle⟩ := q
    exact ⟨r, _, Weakens.le hle, p, h, e1, hp, rfl⟩) (fun r σ' q => by obtain ⟨_, _, e, _⟩ := q; cases e)
  rw [hml1, hml] at hs
  refine callV_of en201 hs (fun x σ' q => ?_) (fun x σ' q => by obtain ⟨_, _, e, _⟩ := q; cases e)
  obtain ⟨p, h, e1, hp, rfl⟩ := q
  cases e1
  ((try simp only [go_sem, loadL_a]); refine hK _ _ ?_; clear hK hKP K KP; repeat (first | refine then_normal ?_ | refine inBlock_normal ?_))
  refine vc_join (fun j (q : Nat × Int × List α) => [.sl b 0 m0.length cap, I64 a, I64 e, I64 l2, .fn (.func g) ps qs, j 5, j 6, j 7, j 8, j 9, BV wb, BV wp, I64 ((e - a : Nat) : Int), I64 q.1, I64 q.2.1, j 15, j 16, j 17, j 18, j 19, j 20, j 21, j 22, j 23, j 24, j 25, j 26, j 27, j 28, j 29, j 30, j 31, j 32, j 33, j 34, j 35, j 36, j 37, j 38, j 39, j 40, j 41, j 42, j 43, j 44, j 45, j 46, j 47, j 48, j 49, j 50, j 51, j 52, j 53, j 54, j 55, j 56, j 57, j 58, j 59, j 60, j 61, j 62, j 63, j 64, j 65, j 66, j 67, j 68, j 69, j 70, j 71, j 72, j 73, j 74, j 75, j 76, j 77, j 78, j 79, j 80, j 81, j 82, j 83, j 84, j 85, j 86, j 87, j 88, j 89, j 90, j 91, j 92, j 93, j 94, j 95, j 96, j 97, j 98, j 99, j 100, j 101, j 102, j 103, j 104, j 105, j 106, j 107, j 108, j 109, j 110, j 111, j 112, j 113, j 114, j 115, j 116, j 117, j 118, j 119, j 120, j 121, j 122, j 123, j 124, j 125, j 126, j 127, j 128, j 129, j 130, j 131, j 132, j 133, j 134, j 135, j 136, j 137, j 138, j 139, j 140, j 141, j 142, j 143, j 144, j 145, j 146, j 147]) (fun q τ => (a ≤ q.1 ∧ q.1 < e) ∧ WP a e m q.2.2 ∧ τ = σ.set b (rowE enc q.2.2 spare)) (fun j q τ hinv => ?_) (fun rest hrest => ?_)
  rotate_left
  · (repeat (first | refine Stp.s ?_ | refine inBlock_exit' (by decide) ?_ | ((first | refine vc_region fun K KP hK hKP => ?_ | refine Stg.s ?_ | refine guardD_ret0 ?_ | refine exV_intro _ rfl ?_); (try simp only [go_sem, loadL_a]); try ((first | refine hK _ _ ?_ | refine hKP _ _ _ ?_ | refine hKP _ _ (fun _ => ?_)); clear hK hKP K KP))))
    refine vc_cond rfl (fun _ => ?_) (fun _ => ?_)
    · have hs := slab_rev hE (g := g) (ps := ps) (qs := qs) b cap a e m1 spare _ hbb1 (by omega) (by omega) (by omega)
      rw [hml1, hml] at hs
      have w1 := i64_minus (show e ≤ 10000000 by omega) (show 1 ≤ e by omega)
      have w2 := i64_minus (show p ≤ 10000000 by omega) hp.1
      have w3 := i64_minus (show e - 1 ≤ 10000000 by omega) (show p - a ≤ e - 1 by omega)
      (repeat (first | refine Stp.s ?_ | refine inBlock_exit' (by decide) ?_ | ((first | refine vc_region fun K KP hK hKP => ?_ | refine Stg.s ?_ | refine guardD_ret0 ?_ | refine exV_intro _ rfl ?_); (try simp only [go_sem, loadL_a]); try ((first | refine hK _ _ ?_ | refine hKP _ _ _ ?_ | refine hKP _ _ (fun _ => ?_)); clear hK hKP K KP))))
      refine callV_of en202 hs (fun x σ' q => ?_) (fun x σ' q => by obtain ⟨_, e, _⟩ := q; cases e)
      obtain ⟨m', e1, hw', rfl⟩ := q
      cases e1
      rw [Store.set_set]
      ((try simp only [go_sem, loadL_a, nc1 ▸ w1, w2, w3]); (try ((first | refine hK _ _ ?_ | refine hKP _ _ _ ?_ | refine hKP _ _ (fun _ => ?_)); clear hK hKP K KP)); repeat (first | refine Stp.s ?_ | refine inBlock_exit' (by decide) ?_ | ((first | refine vc_region fun K KP hK hKP => ?_ | refine Stg.s ?_ | refine guardD_ret0 ?_ | refine exV_intro _ rfl ?_); (try simp only [go_sem, loadL_a, nc1 ▸ w1, w2, w3]); try ((first | refine hK _ _ ?_ | refine hKP _ _ _ ?_ | refine hKP _ _ (fun _ => ?_)); clear hK hKP K KP))))
      exact hrest (e - 1 - (p - a), 1, m') _ _ ⟨by show a ≤ e - 1 - (p - a) ∧ e - 1 - (p - a) < e; omega, hw1.trans hw', rfl⟩ rfl
    · (repeat (first | refine Stp.s ?_ | refine inBlock_exit' (by decide) ?_ | ((first | refine vc_region fun K KP hK hKP => ?_ | refine Stg.s ?_ | refine guardD_ret0 ?_ | refine exV_intro _ rfl ?_); (try simp only [go_sem, loadL_a]); try ((first | refine hK _ _ ?_ | refine hKP _ _ _ ?_ | refine hKP _ _ (fun _ => ?_)); clear hK hKP K KP))))
      exact hrest (p, h, m1) _ _ ⟨hp, hw1, rfl⟩ rfl
  clear hp hw1 hml1 hbb1
  obtain ⟨p, h, m1⟩ := q
  obtain ⟨hp, hw1, rfl⟩ := hinv
  simp only at hp hw1
  have hml1 := hw1.len
  have hbb1 := Store.set_same σ b (rowE enc m1 spare)
  refine vc_join (fun j (m1 : List α) => [.sl b 0 m0.length cap, I64 a, I64 e, I64 l2, .fn (.func g) ps qs, j 5, j 6, j 7, j 8, j 9, BV wb, BV wp, I64 ((e - a : Nat) : Int), I64 p, I64 h, j 15, j 16, j 17, j 18, j 19, j 20, j 21, j 22, j 23, j 24, j 25, j 26, j 27, j 28, j 29, j 30, j 31, j 32, j 33, j 34, j 35, j 36, j 37, j 38, j 39, j 40, j 41, j 42, j 43, j 44, j 45, j 46, j 47, j 48, j 49, j 50, j 51, j 52, j 53, j 54, j 55, j 56, j 57, j 58, j 59, j 60, j 61, j 62, j 63, j 64, j 65, j 66, j 67, j 68, j 69, j 70, j 71, j 72, j 73, j 74, j 75, j 76, j 77, j 78, j 79, j 80, j 81, j 82, j 83, j 84, j 85, j 86, j 87, j 88, j 89, j 90, j 91, j 92, j 93, j 94, j 95, j 96, j 97, j 98, j 99, j 100, j 101, j 102, j 103, j 104, j 105, j 106, j 107, j 108, j 109, j 110, j 111, j 112, j 113, j 114, j 115, j 116, j 117, j 118, j 119, j 120, j 121, j 122, j 123, j 124, j 125, j 126, j 127, j 128, j 129, j 130, j 131, j 132, j 133, j 134, j 135, j 136, j 137, j 138, j 139, j 140, j 141, j 142, j 143, j 144, j 145, j 146, j 147]) (fun m1 τ => WP a e m m1 ∧ τ = σ.set b (rowE enc m1 spare)) (fun j m2 τ hinv => ?_) (fun rest hrest => ?_)
  rotate_left
  · (repeat (first | refine Stp.s ?_ | refine inBlock_exit' (by decide) ?_ | ((first | refine vc_region fun K KP hK hKP => ?_ | refine Stg.s ?_ | refine guardD_ret0 ?_ | refine exV_intro _ rfl ?_); (try simp only [go_sem, loadL_a]); try ((first | refine hK _ _ ?_ | refine hKP _ _ _ ?_ | refine hKP _ _ (fun _ => ?_)); clear hK hKP K KP))))
    refine vc_cond rfl (fun _ => ?_) (fun _ => ?_)
    · have hs := slab_pins hE hC b cap a e m1 spare _ hbb1 (by omega) (by omega) (by omega) (hlow0 hw1)
      rw [hml1, hml] at hs
      (repeat (first | refine Stp.s ?_ | refine inBlock_exit' (by decide) ?_ | ((first | refine vc_region fun K KP hK hKP => ?_ | refine Stg.s ?_ | refine guardD_ret0 ?_ | refine exV_intro _ rfl ?_); (try simp only [go_sem, loadL_a]); try ((first | refine hK _ _ ?_ | refine hKP _ _ _ ?_ | refine hKP _ _ (fun _ => ?_)); clear hK hKP K KP))))
      refine callV_of en203 hs (fun x σ' q => ?_) (fun x σ' q => by obtain ⟨_, _, e, _⟩ := q; cases e)
      obtain ⟨q, m', e1, hw', hs', rfl⟩ := q
      cases e1
      rw [Store.set_set]
      ((try simp only [go_sem, loadL_a]); (try ((first | refine hK _ _ ?_ | refine hKP _ _ _ ?_ | refine hKP _ _ (fun _ => ?_)); clear hK hKP K KP)); repeat (first | refine Stp.s ?_ | refine inBlock_exit' (by decide) ?_ | ((first | refine vc_region fun K KP hK hKP => ?_ | refine Stg.s ?_ | refine guardD_ret0 ?_ | refine exV_intro _ rfl ?_); (try simp only [go_sem, loadL_a]); try ((first | refine hK _ _ ?_ | refine hKP _ _ _ ?_ | refine hKP _ _ (fun _ => ?_)); clear hK hKP K KP))))
      refine vc_cond rfl (fun hq => ?_) (fun hq => ?_)
      · (repeat (first | refine Stp.s ?_ | refine inBlock_exit' (by decide) ?_ | ((first | refine vc_region fun K KP hK hKP => ?_ | refine Stg.s ?_ | refine guardD_ret0 ?_ | refine exV_intro _ rfl ?_); (try simp only [go_sem, loadL_a]); try ((first | refine hK _ _ ?_ | refine hKP _ _ _ ?_ | refine hKP _ _ (fun _ => ?_)); clear hK hKP K KP))))
        (simp only [postV, resV, oneOf, List.getD_cons_succ, List.getD_cons_zero, and_true, true_and])
        obtain ⟨f1, f2⟩ := fin (hw1.trans hw') (hs' hq)
        exact ⟨m', f1, f2, rfl⟩
      · (repeat (first | refine Stp.s ?_ | refine inBlock_exit' (by decide) ?_ | ((first | refine vc_region fun K KP hK hKP => ?_ | refine Stg.s ?_ | refine guardD_ret0 ?_ | refine exV_intro _ rfl ?_); (try simp only [go_sem, loadL_a]); try ((first | refine hK _ _ ?_ | refine hKP _ _ _ ?_ | refine hKP _ _ (fun _ => ?_)); clear hK hKP K KP))))
        exact hrest m' _ _ ⟨hw1.trans hw', rfl⟩ rfl
    · (repeat (first | refine Stp.s ?_ | refine inBlock_exit' (by decide) ?_ | ((first | refine vc_region fun K KP hK hKP => ?_ | refine Stg.s ?_ | refine guardD_ret0 ?_ | refine exV_intro _ rfl ?_); (try simp only [go_sem, loadL_a]); try ((first | refine hK _ _ ?_ | refine hKP _ _ _ ?_ | refine hKP _ _ (fun _ => ?_)); clear hK hKP K KP))))
      exact hrest m1 _ _ ⟨hw1, rfl⟩ rfl
  clear hw1 hml1 hbb1
  obtain ⟨hw1, rfl⟩ := hinv
  have hml1 := hw1.len
  have hbb1 := Store.set_same σ b (rowE enc m2 spare)
  have hw01 : WP A E m0 m2 := hw.trans (hw1.wide ha he)
  have ho1 := ho.wp key hw1 ha he
  refine vc_join (fun j (_ : Unit) => [.sl b 0 m0.length cap, I64 a, I64 e, I64 l2, .fn (.func g) ps qs, j 5, j 6, j 7, j 8, j 9, BV wb, BV wp, I64 ((e - a : Nat) : Int), I64 p, I64 h, j 15, j 16, j 17, j 18, j 19, j 20, j 21, j 22, j 23, j 24, j 25, j 26, j 27, j 28, j 29, j 30, j 31, j 32, j 33, j 34, j 35, j 36, j 37, j 38, j 39, j 40, j 41, j 42, j 43, j 44, j 45, j 46, j 47, j 48, j 49, j 50, j 51, j 52, j 53, j 54, j 55, j 56, j 57, j 58, j 59, j 60, j 61, j 62, j 63, j 64, j 65, j 66, j 67, j 68, j 69, j 70, j 71, j 72, j 73, j 74, j 75, j 76, j 77, j 78, j 79, j 80, j 81, j 82, j 83, j 84, j 85, j 86, j 87, j 88, j 89, j 90, j 91, j 92, j 93, j 94, j 95, j 96, j 97, j 98, j 99, j 100, j 101, j 102, j 103, j 104, j 105, j 106, j 107, j 108, j 109, j 110, j 111, j 112, j 113, j 114, j 115, j 116, j 117, j 118, j 119, j 120, j 121, j 122, j 123, j 124, j 125, j 126, j 127, j 128, j 129, j 130, j 131, j 132, j 133, j 134, j 135, j 136, j 137, j 138, j 139, j 140, j 141, j 142, j 143, j 144, j 145, j 146, j 147]) (fun _ τ => τ = σ.set b (rowE enc m2 spare)) (fun j _ τ hinv => ?_) (fun rest hrest => ?_)
  rotate_left
  · (repeat (first | refine Stp.s ?_ | refine inBlock_exit' (by decide) ?_ | ((first | refine vc_region fun K KP hK hKP => ?_ | refine Stg.s ?_ | refine guardD_ret0 ?_ | refine exV_intro _ rfl ?_); (try simp only [go_sem, loadL_a]); try ((first | refine hK _ _ ?_ | refine hKP _ _ _ ?_ | refine hKP _ _ (fun _ => ?_)); clear hK hKP K KP))))
    rcases Nat.eq_zero_or_pos a with ha0 | ha0
    · have hd : decide ((0 : Int) < (a : Int)) = false := decide_eq_false (by omega)
      ((repeat first | refine Stp.s ?_ | refine inBlock_exit' (by decide) ?_); refine vc_draw mixed [ ] [0, 1, 2, 3, 4, 5, 6, 7, 8, 9, 10, 11, 12, 13, 14, 15, 16 ] [ 8, 12, 13 ] [] (fun _ => True) (by kernel_rfl) (by kernel_rfl) (by kernel_rfl) trivial fun K KP hK hKP => ?_; simp only [go_sem, hd]; try (refine hK _ _ ?_; clear hK hKP K KP))
      ((try simp only [go_sem, loadL_a, hd]); (try ((first | refine hK _ _ ?_ | refine hKP _ _ _ ?_ | refine hKP _ _ (fun _ => ?_)); clear hK hKP K KP)); repeat (first | refine Stp.s ?_ | refine inBlock_exit' (by decide) ?_ | ((first | refine vc_region fun K KP hK hKP => ?_ | refine Stg.s ?_ | refine guardD_ret0 ?_ | refine exV_intro _ rfl ?_); (try simp only [go_sem, loadL_a, hd]); try ((first | refine hK _ _ ?_ | refine hKP _ _ _ ?_ | refine hKP _ _ (fun _ => ?_)); clear hK hKP K KP))))
      refine vc_cond rfl (fun hq => by cases hq) (fun _ => ?_)
      (repeat (first | refine Stp.s ?_ | refine inBlock_exit' (by decide) ?_ | ((first | refine vc_region fun K KP hK hKP => ?_ | refine Stg.s ?_ | refine guardD_ret0 ?_ | refine exV_intro _ rfl ?_); (try simp only [go_sem, loadL_a]); try ((first | refine hK _ _ ?_ | refine hKP _ _ _ ?_ | refine hKP _ _ (fun _ => ?_)); clear hK hKP K KP))))
      exact hrest () _ _ rfl rfl
    · have hd : decide ((0 : Int) < (a : Int)) = true := decide_eq_true (by omega)
      have w2 := i64_minus (show a ≤ 10000000 by omega) (show 1 ≤ a by omega)
      have g1 := eq_true (show (0 : Int) ≤ ((a - 1 : Nat) : Int) by omega)
      have g2 := eq_true (show ((a - 1 : Nat) : Int) < m0.length by omega)
      have g3 := eq_true (show (0 : Int) ≤ (p : Int) by omega)
      have g4 := eq_true (show (p : Int) < m0.length by omega)
      have r1 := slab_load hE (spare := spare) (show a - 1 < m2.length by omega)
      have r2 := slab_load hE (spare := spare) (show p < m2.length by omega)
      ((repeat first | refine Stp.s ?_ | refine inBlock_exit' (by decide) ?_); refine vc_draw mixed [ ] [0, 1, 2, 3, 4, 5, 6, 7, 8, 9, 10, 11, 12, 13, 14, 15, 16 ] [ 8, 12, 13 ] [] (fun _ => True) (by kernel_rfl) (by kernel_rfl) (by kernel_rfl) trivial fun K KP hK hKP => ?_; simp only [go_sem, g1, g2, g3, g4, hd, nc1 ▸ w2, Int.toNat_natCast, hbb1, r1, r2]; try (refine hK _ _ ?_; clear hK hKP K KP))
      ((try simp only [go_sem, g1, g2, g3, g4, hd, nc1 ▸ w2, Int.toNat_natCast, hbb1, r1, r2]); (try ((first | refine hK _ _ ?_ | refine hKP _ _ _ ?_ | refine hKP _ _ (fun _ => ?_)); clear hK hKP K KP)); repeat (first | refine Stp.s ?_ | refine inBlock_exit' (by decide) ?_ | ((first | refine vc_region fun K KP hK hKP => ?_ | refine Stg.s ?_ | refine guardD_ret0 ?_ | refine exV_intro _ rfl ?_); (try simp only [go_sem, g1, g2, g3, g4, hd, nc1 ▸ w2, Int.toNat_natCast, hbb1, r1, r2]); try ((first | refine hK _ _ ?_ | refine hKP _ _ _ ?_ | refine hKP _ _ (fun _ => ?_)); clear hK hKP K KP))))
      ((try simp only [go_sem, loadL_a]); first | refine guardD_q0 (fun _ => callV_pure (hC.call _ _) ⟨rfl, rfl⟩) ?_ | refine guardD_q0 (fun _ _ => callV_pure (hC.call _ _) ⟨rfl, rfl⟩) ?_)
      ((try simp only [go_sem, g1, g2, g3, g4, hd, nc1 ▸ w2, Int.toNat_natCast, hbb1, r1, r2]); (try ((first | refine hK _ _ ?_ | refine hKP _ _ _ ?_ | refine hKP _ _ (fun _ => ?_)); clear hK hKP K KP)); repeat (first | refine Stp.s ?_ | refine inBlock_exit' (by decide) ?_ | ((first | refine vc_region fun K KP hK hKP => ?_ | refine Stg.s ?_ | refine guardD_ret0 ?_ | refine exV_intro _ rfl ?_); (try simp only [go_sem, g1, g2, g3, g4, hd, nc1 ▸ w2, Int.toNat_natCast, hbb1, r1, r2]); try ((first | refine hK _ _ ?_ | refine hKP _ _ _ ?_ | refine hKP _ _ (fun _ => ?_)); clear hK hKP K KP))))
      refine vc_cond rfl (fun hq => ?_) (fun hq => ?_)
      · have q2 : ¬ ky key m2 (a - 1) < ky key m2 p := (fun h => by rw [decide_eq_true ((hC.lt _ _).2 h)] at hq; cases hq)
        have hs := slab_parte hE hC b cap a e p m2 spare _ hbb1 hp (by omega) (by omega)
        rw [hml1, hml] at hs
        (repeat (first | refine Stp.s ?_ | refine inBlock_exit' (by decide) ?_ | ((first | refine vc_region fun K KP hK hKP => ?_ | refine Stg.s ?_ | refine guardD_ret0 ?_ | refine exV_intro _ rfl ?_); (try simp only [go_sem, loadL_a]); try ((first | refine hK _ _ ?_ | refine hKP _ _ _ ?_ | refine hKP _ _ (fun _ => ?_)); clear hK hKP K KP))))
        refine callV_of en204 hs (fun x σ' q => ?_) (fun x σ' q => by obtain ⟨_, _, e, _⟩ := q; cases e)
        obtain ⟨i, m', e1, hw', hi, hbl, rfl⟩ := q
        cases e1
        rw [Store.set_set]
        ((try simp only [go_sem, loadL_a]); (try ((first | refine hK _ _ ?_ | refine hKP _ _ _ ?_ | refine hKP _ _ (fun _ => ?_)); clear hK hKP K KP)); repeat (first | refine Stp.s ?_ | refine inBlock_exit' (by decide) ?_ | ((first | refine vc_region fun K KP hK hKP => ?_ | refine Stg.s ?_ | refine guardD_ret0 ?_ | refine exV_intro _ rfl ?_); (try simp only [go_sem, loadL_a]); try ((first | refine hK _ _ ?_ | refine hKP _ _ _ ?_ | refine hKP _ _ (fun _ => ?_)); clear hK hKP K KP))))
        have hlw := hlow0 hw1 ha0
        have hab : Abv key a e (ky key m2 p) m' := Abv.wp key (fun q h1 h2 => Nat.le_trans (by omega) (hlw q h1 h2)) hw'
        exact ⟨(i, e, l2, wb, wp, m'), _, (by repeat (first | exact LeEnv.nil | refine LeEnv.same ?_ | refine LeEnv.top ?_)), Store.le_refl _, ⟨by show A ≤ i; omega, hi.2, he, hw01.trans (hw'.wide ha he), (ho1.wp key hw' ha he).eq key hbl hab, rfl⟩, by show e - i < e - a; omega⟩
      · (repeat (first | refine Stp.s ?_ | refine inBlock_exit' (by decide) ?_ | ((first | refine vc_region fun K KP hK hKP => ?_ | refine Stg.s ?_ | refine guardD_ret0 ?_ | refine exV_intro _ rfl ?_); (try simp only [go_sem, loadL_a]); try ((first | refine hK _ _ ?_ | refine hKP _ _ _ ?_ | refine hKP _ _ (fun _ => ?_)); clear hK hKP K KP))))
        exact hrest () _ _ rfl rfl
  obtain rfl := hinv
  have hs := slab_part hE hC b cap a e p m2 spare _ hbb1 hp (by omega) (by omega)
  rw [hml1, hml] at hs
  (repeat (first | refine Stp.s ?_ | refine inBlock_exit' (by decide) ?_ | ((first | refine vc_region fun K KP hK hKP => ?_ | refine Stg.s ?_ | refine guardD_ret0 ?_ | refine exV_intro _ rfl ?_); (try simp only [go_sem, loadL_a]); try ((first | refine hK _ _ ?_ | refine hKP _ _ _ ?_ | refine hKP _ _ (fun _ => ?_)); clear hK hKP K KP))))
  refine callV_of en205 hs (fun x σ' q => ?_) (fun x σ' q => by obtain ⟨_, _, _, e, _⟩ := q; cases e)
  obtain ⟨i, wp2, m', e1, hw', hi, hbl, hab, rfl⟩ := q
  cases e1
  rw [Store.set_set]
  have w3 := i64_minus (show i ≤ 10000000 by omega) hi.1
  have w4 := i64_minus (show e ≤ 10000000 by omega) (show i ≤ e by omega)
  have w5 := i64_up (show i ≤ 10000000 by omega)
  have z8 := eq_true (show ¬((8 : Int) = 0) by decide)
  have hw02 := hw01.trans (hw'.wide ha he)
  have ho2 := ho1.wp key hw' ha he
  have hml2 := hw02.len
  have hbb2 := Store.set_same σ b (rowE enc m' spare)
  ((try simp only [go_sem, loadL_a, w3, w4, z8]); (try ((first | refine hK _ _ ?_ | refine hKP _ _ _ ?_ | refine hKP _ _ (fun _ => ?_)); clear hK hKP K KP)); repeat (first | refine Stp.s ?_ | refine inBlock_exit' (by decide) ?_ | ((first | refine vc_region fun K KP hK hKP => ?_ | refine Stg.s ?_ | refine guardD_ret0 ?_ | refine exV_intro _ rfl ?_); (try simp only [go_sem, loadL_a, w3, w4, z8]); try ((first | refine hK _ _ ?_ | refine hKP _ _ _ ?_ | refine hKP _ _ (fun _ => ?_)); clear hK hKP K KP))))
  refine vc_cond rfl (fun hq => ?_) (fun hq => ?_)
  · have hs := ih (i - a) (by omega) a i l2 m' _ (Nat.le_refl _) hbb2 hi.1 (by omega) (by omega) (fun hp q h1 h2 => (hlow0 (hw1.trans hw') hp) q h1 (by omega))
    rw [hml2] at hs
    (repeat (first | refine Stp.s ?_ | refine inBlock_exit' (by decide) ?_ | ((first | refine vc_region fun K KP hK hKP => ?_ | refine Stg.s ?_ | refine guardD_ret0 ?_ | refine exV_intro _ rfl ?_); (try simp only [go_sem, loadL_a]); try ((first | refine hK _ _ ?_ | refine hKP _ _ _ ?_ | refine hKP _ _ (fun _ => ?_)); clear hK hKP K KP))))
    refine callV_of en157 hs (fun x σ' q => ?_) (fun x σ' q => by obtain ⟨_, e, _⟩ := q; cases e)
    obtain ⟨m3, e1, hw3, hs3, rfl⟩ := q
    cases e1
    rw [Store.set_set]
    ((try simp only [go_sem, loadL_a, w5]); (try ((first | refine hK _ _ ?_ | refine hKP _ _ _ ?_ | refine hKP _ _ (fun _ => ?_)); clear hK hKP K KP)); repeat (first | refine Stp.s ?_ | refine inBlock_exit' (by decide) ?_ | ((first | refine vc_region fun K KP hK hKP => ?_ | refine Stg.s ?_ | refine guardD_ret0 ?_ | refine exV_intro _ rfl ?_); (try simp only [go_sem, loadL_a, w5]); try ((first | refine hK _ _ ?_ | refine hKP _ _ _ ?_ | refine hKP _ _ (fun _ => ?_)); clear hK hKP K KP))))
    refine ⟨(i + 1, e, l2, _, wp2, m3), _, (by repeat (first | exact LeEnv.nil | refine LeEnv.same ?_ | refine LeEnv.top ?_)), Store.le_refl _, ⟨by show A ≤ i + 1; omega, by show i + 1 ≤ e; omega, he, hw02.trans (hw3.wide ha (by omega)), ?_, rfl⟩, by show e - (i + 1) < e - a; omega⟩
    have hii : ky key m3 i = ky key m' i := by unfold ky; rw [hw3.out i (by omega)]
    refine (ho2.wp key (hw3.wide (Nat.le_refl a) (show i ≤ e by omega)) ha he).partL key ?_ ?_ hs3
    · rw [hii]; exact hbl.wp key hw3
    · rw [hii]; exact hab.out key hw3 (by omega)
  · have hs := ih (e - (i + 1)) (by omega) (i + 1) e l2 m' _ (Nat.le_refl _) hbb2 (by omega) (by omega) (by omega) (fun _ q h1 h2 => by rw [Nat.add_sub_cancel]; exact hab q h1 h2)
    rw [hml2] at hs
    (repeat (first | refine Stp.s ?_ | refine inBlock_exit' (by decide) ?_ | ((first | refine vc_region fun K KP hK hKP => ?_ | refine Stg.s ?_ | refine guardD_ret0 ?_ | refine exV_intro _ rfl ?_); (try simp only [go_sem, loadL_a, w5]); try ((first | refine hK _ _ ?_ | refine hKP _ _ _ ?_ | refine hKP _ _ (fun _ => ?_)); clear hK hKP K KP))))
    refine callV_of en157 hs (fun x σ' q => ?_) (fun x σ' q => by obtain ⟨_, e, _⟩ := q; cases e)
    obtain ⟨m3, e1, hw3, hs3, rfl⟩ := q
    cases e1
    rw [Store.set_set]
    ((try simp only [go_sem, loadL_a]); (try ((first | refine hK _ _ ?_ | refine hKP _ _ _ ?_ | refine hKP _ _ (fun _ => ?_)); clear hK hKP K KP)); repeat (first | refine Stp.s ?_ | refine inBlock_exit' (by decide) ?_ | ((first | refine vc_region fun K KP hK hKP => ?_ | refine Stg.s ?_ | refine guardD_ret0 ?_ | refine exV_intro _ rfl ?_); (try simp only [go_sem, loadL_a]); try ((first | refine hK _ _ ?_ | refine hKP _ _ _ ?_ | refine hKP _ _ (fun _ => ?_)); clear hK hKP K KP))))
    refine ⟨(a, i, l2, _, wp2, m3), _, (by repeat (first | exact LeEnv.nil | refine LeEnv.same ?_ | refine LeEnv.top ?_)), Store.le_refl _, ⟨ha, hi.1, by show i ≤ E; omega, hw02.trans (hw3.wide (by omega) he), ?_, rfl⟩, by show i - a < e - a; omega⟩
    have hii : ky key m3 i = ky key m' i := by unfold ky; rw [hw3.out i (by omega)]
    refine (ho2.wp key (hw3.wide (show a ≤ i + 1 by omega) (Nat.le_refl e)) ha he).partR key ?_ ?_ hs3
    · rw [hii]; exact hbl.out key hw3 (by omega)
    · rw [hii]; exact hab.wp key hw3
theorem slab_sort (hE : Elt 17 enc) (hC : Cmpr Tryz.prog g ps qs enc key cv) (b cap : Nat) (m0 : List α) (spare : List V) (σ : Store) (hb : σ b = some (rowE enc m0 spare)) (hn : m0.length ≤ 250) :
    HCalls Tryz.prog 100 [.sl b 0 m0.length cap, .fn (.func g) ps qs] σ (fun r σ' => ∃ m', r = .ret (oneOf []) ∧ m'.Perm m0 ∧ Srtd key 0 m0.length m' ∧ σ' = σ.set b (rowE enc m' spare)) := by
  (refine HCalls.of_vc Tryz.func100 rfl ?_; rw [Tryz.ntmps100, Tryz.results100]; simp only [List.length_cons, List.length_nil, Nat.reduceAdd, Nat.reduceSub, List.replicate, List.cons_append, List.nil_append])
  have wu : IntKind.u64.wrap (m0.length : Int) = ((m0.length : Nat) : Int) := u64_in (by omega) (by omega)
  (repeat (first | refine Stp.s ?_ | refine inBlock_exit' (by decide) ?_ | ((first | refine vc_region fun K KP hK hKP => ?_ | refine Stg.s ?_ | refine guardD_ret0 ?_ | refine exV_intro _ rfl ?_); (try simp only [go_sem, loadL_a, wu]); try ((first | refine hK _ _ ?_ | refine hKP _ _ _ ?_ | refine hKP _ _ (fun _ => ?_)); clear hK hKP K KP))))
  ((try simp only [go_sem, loadL_a]); first | refine callV_pure (lenb m0.length (by omega)) ?_ | refine guardC_q0 (fun _ => callV_pure (lenb m0.length (by omega)) ⟨rfl, rfl⟩) ?_)
  ((try simp only [go_sem, loadL_a]); (try ((first | refine hK _ _ ?_ | refine hKP _ _ _ ?_ | refine hKP _ _ (fun _ => ?_)); clear hK hKP K KP)); repeat (first | refine Stp.s ?_ | refine inBlock_exit' (by decide) ?_ | ((first | refine vc_region fun K KP hK hKP => ?_ | refine Stg.s ?_ | refine guardD_ret0 ?_ | refine exV_intro _ rfl ?_); (try simp only [go_sem, loadL_a]); try ((first | refine hK _ _ ?_ | refine hKP _ _ _ ?_ | refine hKP _ _ (fun _ => ?_)); clear hK hKP K KP))))
  have hs := slab_pdq hE hC b cap spare m0.length 0 m0.length (lenN m0.length) m0 σ (by omega) hb (Nat.zero_le _) (Nat.le_refl _) hn (fun h => absurd h (by omega))
  refine callV_of en157 hs (fun x σ' q => ?_) (fun x σ' q => by obtain ⟨_, e, _⟩ := q; cases e)
  obtain ⟨m', e1, hw', hs', rfl⟩ := q
  cases e1
  ((try simp only [go_sem, loadL_a]); (try ((first | refine hK _ _ ?_ | refine hKP _ _ _ ?_ | refine hKP _ _ (fun _ => ?_)); clear hK hKP K KP)); repeat (first | refine Stp.s ?_ | refine inBlock_exit' (by decide) ?_ | ((first | refine vc_region fun K KP hK hKP => ?_ | refine Stg.s ?_ | refine guardD_ret0 ?_ | refine exV_intro _ rfl ?_); (try simp only [go_sem, loadL_a]); try ((first | refine hK _ _ ?_ | refine hKP _ _ _ ?_ | refine hKP _ _ (fun _ => ?_)); clear hK hKP K KP))))
  (simp only [postV, resV, oneOf, List.getD_cons_succ, List.getD_cons_zero, and_true, true_and])
  exact ⟨m', hw'.perm, hs', rfl⟩

end

end Go.Proofs.YtociliegljoldaaGreat
