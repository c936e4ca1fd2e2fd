/- Sorting labels: parting. -/
import Derived.Test.YtociliegljoldaaGreatS3
namespace Go.Proofs.YtociliegljoldaaGreat
set_option linter.unusedSimpArgs false
set_option linter.unusedVariables false
open Go.Proofs
attribute [local irreducible] vc vcOps vcDraw vcK vcKP vcDK vcDB HWp HCalls postV Ex.then Ex.inBlock stepD callV appendV guardC guardD exV effV opV loadV storeV indexAddrV indexV sliceV
set_option maxRecDepth 10000
set_option maxHeartbeats 4000000

section
variable {α : Type} [Inhabited α] {enc : α → List V} {key : α → Nat} {cv : α → α → Int} {g : FuncId} {ps qs : List V}
theorem slab_part (hE : Elt 17 enc) (hC : Cmpr Tryz.prog g ps qs enc key cv) (b cap a e p : Nat) (m0 : List α) (spare : List V) (σ : Store) (hb : σ b = some (rowE enc m0 spare)) (hp : a ≤ p ∧ p < e) (he : e ≤ m0.length) (hn : m0.length ≤ 250) :
    HCalls Tryz.prog 205 [.sl b 0 m0.length cap, I64 a, I64 e, I64 p, .fn (.func g) ps qs] σ (fun r σ' => ∃ (u : Nat) (q : Bool) (m' : List α), r = .ret (.tup [I64 u, BV q]) ∧ WP a e m0 m' ∧ (a ≤ u ∧ u < e) ∧ Blw key a u (ky key m' u) m' ∧ Abv key (u + 1) e (ky key m' u) m' ∧ σ' = σ.set b (rowE enc m' spare)) := by
  (refine HCalls.of_vc Tryz.func205 rfl ?_; rw [Tryz.ntmps205, Tryz.results205]; simp only [List.length_cons, List.length_nil, Nat.reduceAdd, Nat.reduceSub, List.replicate, List.cons_append, List.nil_append])
  have g1 := eq_true (show (0 : Int) ≤ (a : Int) by omega)
  have g2 := eq_true (show (a : Int) < m0.length by omega)
  have g3 := eq_true (show (0 : Int) ≤ (p : Int) by omega)
  have g4 := eq_true (show (p : Int) < m0.length by omega)
  have r1 := slab_load hE (spare := spare) (show a < m0.length by omega)
  have r2 := slab_load hE (spare := spare) (show p < m0.length by omega)
  have w1 := i64_up (show a ≤ 10000000 by omega)
  have w2 := i64_minus (show e ≤ 10000000 by omega) (show 1 ≤ e by omega)
  (repeat (first | refine Stp.s ?_ | refine inBlock_exit' (by decide) ?_ | ((first | refine vc_region fun K KP hK hKP => ?_ | refine Stg.s ?_ | refine guardD_ret0 ?_ | refine exV_intro _ rfl ?_); (try simp only [go_sem, loadL_a]); try ((first | refine hK _ _ ?_ | refine hKP _ _ _ ?_ | refine hKP _ _ (fun _ => ?_)); clear hK hKP K KP))))
  ((repeat first | refine Stp.s ?_ | refine inBlock_exit' (by decide) ?_); refine vc_draw mixed [ 13, 15 ] [0, 1, 2, 3, 4, 5, 6, 7, 8, 9, 10, 11, 12, 13, 14, 15 ] [ 7, 11 ] [] (fun _ => True) (by kernel_rfl) (by kernel_rfl) (by kernel_rfl) trivial fun K KP hK hKP => ?_; simp only [go_sem, g1, g2, g3, g4, Int.toNat_natCast, hb, r1, r2]; try (refine hK _ _ ?_; clear hK hKP K KP))
  ((try simp only [go_sem, g1, g2, g3, g4, Int.toNat_natCast, hb, r1, r2]); (try ((first | refine hK _ _ ?_ | refine hKP _ _ _ ?_ | refine hKP _ _ (fun _ => ?_)); clear hK hKP K KP)); repeat (first | refine Stp.s ?_ | refine inBlock_exit' (by decide) ?_ | ((first | refine vc_region fun K KP hK hKP => ?_ | refine Stg.s ?_ | refine guardD_ret0 ?_ | refine exV_intro _ rfl ?_); (try simp only [go_sem, g1, g2, g3, g4, Int.toNat_natCast, hb, r1, r2]); try ((first | refine hK _ _ ?_ | refine hKP _ _ _ ?_ | refine hKP _ _ (fun _ => ?_)); clear hK hKP K KP))))
  refine ⟨hE.len _, hE.one _, rowE_room1 hE m0 spare _ _ (by omega), effV_true ⟨hE.len _, hE.one _, rowE_room2 hE m0 spare _ _ _ _ (by omega), ?_⟩⟩
  rw [rowE_swp hE spare m0 _ _ (by omega) (by omega)]
  ((try simp only [go_sem, loadL_a, Store.set_set]); refine hK _ _ ?_; clear hK hKP K KP; repeat (first | refine then_normal ?_ | refine inBlock_normal ?_))
  refine vc_seq ?_
  refine vc_region fun K KP hK hKP => ?_
  ((try simp only [go_sem, loadL_a, w1, nc1 ▸ w2]); refine hK _ _ ?_; clear hK hKP K KP; repeat (first | refine then_normal ?_ | refine inBlock_normal ?_))
  have hP := Part.start key (fun k => decide (k < ky key m0 p)) he hp
  generalize ky key m0 p = x at *
  have i0 : a + 1 ≤ a + 1 := Nat.le_refl _
  generalize swp m0 a p = m at *
  generalize a + 1 = i at hP ⊢
  generalize e - 1 = u at hP ⊢
  have hml := hP.w.len
  have hbb := Store.set_same σ b (rowE enc m spare)
  clear r1 r2 g1 g2 g3 g4 w1 w2 i0
  obtain ⟨sz, hM⟩ : ∃ sz, u + 1 - i ≤ sz := ⟨_, Nat.le_refl _⟩
  refine vc_join (fun j (i : Nat) => [.sl b 0 m0.length cap, I64 a, I64 e, I64 p, .fn (.func g) ps qs, j 5, j 6, j 7, j 8, j 9, I64 0, BV false, I64 i, I64 u, j 14, j 15, j 16, j 17, j 18, j 19, j 20, j 21, j 22, j 23, j 24, j 25, j 26, j 27, j 28, j 29, j 30, j 31, j 32, j 33, j 34, j 35, j 36, j 37, j 38, j 39, j 40, j 41, j 42, j 43, j 44, j 45, j 46, j 47, j 48, j 49, j 50, j 51, j 52, j 53, j 54, j 55, j 56, j 57, j 58, j 59, j 60, j 61, j 62, j 63, j 64, j 65, j 66, j 67, j 68, j 69, j 70, j 71, j 72, j 73, j 74, j 75, j 76, j 77, j 78, j 79, j 80, j 81, j 82, j 83, j 84, j 85, j 86, j 87, j 88, j 89, j 90, j 91, j 92, j 93, j 94, j 95, j 96, j 97, j 98, j 99, j 100, j 101, j 102, j 103, j 104, j 105, j 106, j 107, j 108, j 109, j 110, j 111, j 112, j 113, j 114, j 115, j 116, j 117, j 118, j 119, j 120, j 121, j 122, j 123, j 124, j 125, j 126, j 127, j 128, j 129, j 130, j 131, j 132, j 133, j 134, j 135, j 136, j 137, j 138, j 139, j 140, j 141, j 142, j 143, j 144, j 145, j 146, j 147, j 148, j 149, j 150, j 151, j 152, j 153, j 154, j 155, j 156, j 157, j 158, j 159, j 160, j 161, j 162, j 163, j 164, j 165, j 166, j 167, j 168, j 169, j 170, j 171, j 172, j 173, j 174, j 175, j 176, j 177]) (fun i τ => Part key (fun k => decide (k < x)) a e i u x m0 m ∧ u + 1 - i ≤ sz ∧ (u < i ∨ (fun k => decide (k < x)) (ky key m i) = false) ∧ τ = σ.set b (rowE enc m spare)) (fun j i τ hinv => ?_) (fun rest hrest => ?_)
  rotate_left
  · (repeat (first | refine Stp.s ?_ | refine inBlock_exit' (by decide) ?_ | ((first | refine vc_region fun K KP hK hKP => ?_ | refine Stg.s ?_ | refine guardD_ret0 ?_ | refine exV_intro _ rfl ?_); (try simp only [go_sem, loadL_a]); try ((first | refine hK _ _ ?_ | refine hKP _ _ _ ?_ | refine hKP _ _ (fun _ => ?_)); clear hK hKP K KP))))
    refine vc_loop (loopV (fun (i : Nat) => [.sl b 0 m0.length cap, I64 a, I64 e, I64 p, .fn (.func g) ps qs, .top, .top, .top, .top, .top, I64 0, BV false, I64 i, I64 u, .top, .top, .top, .top, .top, .top, .top, .top, .top, .top, .top, .top, .top, .top, .top, .top, .top, .top, .top, .top, .top, .top, .top, .top, .top, .top, .top, .top, .top, .top, .top, .top, .top, .top, .top, .top, .top, .top, .top, .top, .top, .top, .top, .top, .top, .top, .top, .top, .top, .top, .top, .top, .top, .top, .top, .top, .top, .top, .top, .top, .top, .top, .top, .top, .top, .top, .top, .top, .top, .top, .top, .top, .top, .top, .top, .top, .top, .top, .top, .top, .top, .top, .top, .top, .top, .top, .top, .top, .top, .top, .top, .top, .top, .top, .top, .top, .top, .top, .top, .top, .top, .top, .top, .top, .top, .top, .top, .top, .top, .top, .top, .top, .top, .top, .top, .top, .top, .top, .top, .top, .top, .top, .top, .top, .top, .top, .top, .top, .top, .top, .top, .top, .top, .top, .top, .top, .top, .top, .top, .top, .top, .top, .top, .top, .top, .top, .top, .top, .top, .top, .top, .top, .top, .top, .top, .top, .top, .top, .top, .top, .top, .top, .top, .top]) (fun i τ => Part key (fun k => decide (k < x)) a e i u x m0 m ∧ u + 1 - i ≤ sz ∧ τ = σ.set b (rowE enc m spare)) (fun i _ => u + 1 - i) i (by repeat (first | exact LeEnv.nil | refine LeEnv.same ?_ | refine LeEnv.top ?_)) ⟨hP, hM, rfl⟩ ?_)
    clear hP hM
    rintro i τ ⟨hP, hM, rfl⟩
    have i1 := hP.i1
    have ij := hP.ij
    have j1 := hP.j1
    (repeat (first | refine Stp.s ?_ | refine inBlock_exit' (by decide) ?_ | ((first | refine vc_region fun K KP hK hKP => ?_ | refine Stg.s ?_ | refine guardD_ret0 ?_ | refine exV_intro _ rfl ?_); (try simp only [go_sem, loadL_a]); try ((first | refine hK _ _ ?_ | refine hKP _ _ _ ?_ | refine hKP _ _ (fun _ => ?_)); clear hK hKP K KP))))
    rcases Nat.lt_or_ge u i with hji | hji
    · have hd : decide ((i : Int) ≤ (u : Int)) = false := decide_eq_false (by omega)
      ((repeat first | refine Stp.s ?_ | refine inBlock_exit' (by decide) ?_); refine vc_draw mixed [ ] [0, 1, 2, 3, 4, 5, 6, 7, 8, 9, 10, 11, 12, 13, 14, 15 ] [ 8, 12, 13 ] [] (fun _ => True) (by kernel_rfl) (by kernel_rfl) (by kernel_rfl) trivial fun K KP hK hKP => ?_; simp only [go_sem, hd]; try (refine hK _ _ ?_; clear hK hKP K KP))
      ((try simp only [go_sem, loadL_a, hd]); (try ((first | refine hK _ _ ?_ | refine hKP _ _ _ ?_ | refine hKP _ _ (fun _ => ?_)); clear hK hKP K KP)); repeat (first | refine Stp.s ?_ | refine inBlock_exit' (by decide) ?_ | ((first | refine vc_region fun K KP hK hKP => ?_ | refine Stg.s ?_ | refine guardD_ret0 ?_ | refine exV_intro _ rfl ?_); (try simp only [go_sem, loadL_a, hd]); try ((first | refine hK _ _ ?_ | refine hKP _ _ _ ?_ | refine hKP _ _ (fun _ => ?_)); clear hK hKP K KP))))
      refine vc_cond rfl (fun hq => by cases hq) (fun _ => ?_)
      (repeat (first | refine Stp.s ?_ | refine inBlock_exit' (by decide) ?_ | ((first | refine vc_region fun K KP hK hKP => ?_ | refine Stg.s ?_ | refine guardD_ret0 ?_ | refine exV_intro _ rfl ?_); (try simp only [go_sem, loadL_a]); try ((first | refine hK _ _ ?_ | refine hKP _ _ _ ?_ | refine hKP _ _ (fun _ => ?_)); clear hK hKP K KP))))
      exact hrest i _ _ ⟨hP, hM, .inl hji, rfl⟩ rfl
    · have hd : decide ((i : Int) ≤ (u : Int)) = true := decide_eq_true (by omega)
      have g1 := eq_true (show (0 : Int) ≤ (i : Int) by omega)
      have g2 := eq_true (show (i : Int) < m0.length by omega)
      have g3 := eq_true (show (0 : Int) ≤ (a : Int) by omega)
      have g4 := eq_true (show (a : Int) < m0.length by omega)
      have r1 := slab_load hE (spare := spare) (show i < m.length by omega)
      have r2 := slab_load hE (spare := spare) (show a < m.length by omega)
      ((repeat first | refine Stp.s ?_ | refine inBlock_exit' (by decide) ?_); refine vc_draw mixed [ ] [0, 1, 2, 3, 4, 5, 6, 7, 8, 9, 10, 11, 12, 13, 14, 15 ] [ 8, 12, 13 ] [] (fun _ => True) (by kernel_rfl) (by kernel_rfl) (by kernel_rfl) trivial fun K KP hK hKP => ?_; simp only [go_sem, g1, g2, g3, g4, hd, Int.toNat_natCast, hbb, r1, r2]; try (refine hK _ _ ?_; clear hK hKP K KP))
      ((try simp only [go_sem, g1, g2, g3, g4, hd, Int.toNat_natCast, hbb, r1, r2]); (try ((first | refine hK _ _ ?_ | refine hKP _ _ _ ?_ | refine hKP _ _ (fun _ => ?_)); clear hK hKP K KP)); repeat (first | refine Stp.s ?_ | refine inBlock_exit' (by decide) ?_ | ((first | refine vc_region fun K KP hK hKP => ?_ | refine Stg.s ?_ | refine guardD_ret0 ?_ | refine exV_intro _ rfl ?_); (try simp only [go_sem, g1, g2, g3, g4, hd, Int.toNat_natCast, hbb, r1, r2]); try ((first | refine hK _ _ ?_ | refine hKP _ _ _ ?_ | refine hKP _ _ (fun _ => ?_)); clear hK hKP K KP))))
      ((try simp only [go_sem, loadL_a]); first | refine guardD_q0 (fun _ => callV_pure (hC.call _ _) ⟨rfl, rfl⟩) ?_ | refine guardD_q0 (fun _ _ => callV_pure (hC.call _ _) ⟨rfl, rfl⟩) ?_)
      ((try simp only [go_sem, g1, g2, g3, g4, hd, Int.toNat_natCast, hbb, r1, r2]); (try ((first | refine hK _ _ ?_ | refine hKP _ _ _ ?_ | refine hKP _ _ (fun _ => ?_)); clear hK hKP K KP)); repeat (first | refine Stp.s ?_ | refine inBlock_exit' (by decide) ?_ | ((first | refine vc_region fun K KP hK hKP => ?_ | refine Stg.s ?_ | refine guardD_ret0 ?_ | refine exV_intro _ rfl ?_); (try simp only [go_sem, g1, g2, g3, g4, hd, Int.toNat_natCast, hbb, r1, r2]); try ((first | refine hK _ _ ?_ | refine hKP _ _ _ ?_ | refine hKP _ _ (fun _ => ?_)); clear hK hKP K KP))))
      refine vc_cond rfl (fun hq => ?_) (fun hq => ?_)
      · have w5 := i64_up (show i ≤ 10000000 by omega)
        (repeat (first | refine Stp.s ?_ | refine inBlock_exit' (by decide) ?_ | ((first | refine vc_region fun K KP hK hKP => ?_ | refine Stg.s ?_ | refine guardD_ret0 ?_ | refine exV_intro _ rfl ?_); (try simp only [go_sem, loadL_a, w5]); try ((first | refine hK _ _ ?_ | refine hKP _ _ _ ?_ | refine hKP _ _ (fun _ => ?_)); clear hK hKP K KP))))
        exact ⟨i + 1, _, (by repeat (first | exact LeEnv.nil | refine LeEnv.same ?_ | refine LeEnv.top ?_)), Store.le_refl _, ⟨hP.up key hji (by have q2 : ky key m i < ky key m a := (hC.lt _ _).1 (by simpa using hq); rw [hP.at_] at q2; simpa using q2), by omega, rfl⟩, by show u + 1 - (i + 1) < u + 1 - i; omega⟩
      · (repeat (first | refine Stp.s ?_ | refine inBlock_exit' (by decide) ?_ | ((first | refine vc_region fun K KP hK hKP => ?_ | refine Stg.s ?_ | refine guardD_ret0 ?_ | refine exV_intro _ rfl ?_); (try simp only [go_sem, loadL_a]); try ((first | refine hK _ _ ?_ | refine hKP _ _ _ ?_ | refine hKP _ _ (fun _ => ?_)); clear hK hKP K KP))))
        exact hrest i _ _ ⟨hP, hM, .inr (by have q2 : ¬ ky key m i < ky key m a := (fun h => by rw [decide_eq_true ((hC.lt _ _).2 h)] at hq; cases hq); rw [hP.at_] at q2; simpa using q2), rfl⟩ rfl
  obtain ⟨hP, hM, hx, rfl⟩ := hinv
  refine vc_join (fun j (u : Nat) => [.sl b 0 m0.length cap, I64 a, I64 e, I64 p, .fn (.func g) ps qs, j 5, j 6, j 7, j 8, j 9, I64 0, BV false, I64 i, I64 u, j 14, j 15, j 16, j 17, j 18, j 19, j 20, j 21, j 22, j 23, j 24, j 25, j 26, j 27, j 28, j 29, j 30, j 31, j 32, j 33, j 34, j 35, j 36, j 37, j 38, j 39, j 40, j 41, j 42, j 43, j 44, j 45, j 46, j 47, j 48, j 49, j 50, j 51, j 52, j 53, j 54, j 55, j 56, j 57, j 58, j 59, j 60, j 61, j 62, j 63, j 64, j 65, j 66, j 67, j 68, j 69, j 70, j 71, j 72, j 73, j 74, j 75, j 76, j 77, j 78, j 79, j 80, j 81, j 82, j 83, j 84, j 85, j 86, j 87, j 88, j 89, j 90, j 91, j 92, j 93, j 94, j 95, j 96, j 97, j 98, j 99, j 100, j 101, j 102, j 103, j 104, j 105, j 106, j 107, j 108, j 109, j 110, j 111, j 112, j 113, j 114, j 115, j 116, j 117, j 118, j 119, j 120, j 121, j 122, j 123, j 124, j 125, j 126, j 127, j 128, j 129, j 130, j 131, j 132, j 133, j 134, j 135, j 136, j 137, j 138, j 139, j 140, j 141, j 142, j 143, j 144, j 145, j 146, j 147, j 148, j 149, j 150, j 151, j 152, j 153, j 154, j 155, j 156, j 157, j 158, j 159, j 160, j 161, j 162, j 163, j 164, j 165, j 166, j 167, j 168, j 169, j 170, j 171, j 172, j 173, j 174, j 175, j 176, j 177]) (fun u τ => Part key (fun k => decide (k < x)) a e i u x m0 m ∧ u + 1 - i ≤ sz ∧ (u < i ∨ (fun k => decide (k < x)) (ky key m i) = false) ∧ (u < i ∨ (fun k => decide (k < x)) (ky key m u) = true) ∧ τ = σ.set b (rowE enc m spare)) (fun j u τ hinv => ?_) (fun rest hrest => ?_)
  rotate_left
  · (repeat (first | refine Stp.s ?_ | refine inBlock_exit' (by decide) ?_ | ((first | refine vc_region fun K KP hK hKP => ?_ | refine Stg.s ?_ | refine guardD_ret0 ?_ | refine exV_intro _ rfl ?_); (try simp only [go_sem, loadL_a]); try ((first | refine hK _ _ ?_ | refine hKP _ _ _ ?_ | refine hKP _ _ (fun _ => ?_)); clear hK hKP K KP))))
    refine vc_loop (loopV (fun (u : Nat) => [.sl b 0 m0.length cap, I64 a, I64 e, I64 p, .fn (.func g) ps qs, .top, .top, .top, .top, .top, I64 0, BV false, I64 i, I64 u, .top, .top, .top, .top, .top, .top, .top, .top, .top, .top, .top, .top, .top, .top, .top, .top, .top, .top, .top, .top, .top, .top, .top, .top, .top, .top, .top, .top, .top, .top, .top, .top, .top, .top, .top, .top, .top, .top, .top, .top, .top, .top, .top, .top, .top, .top, .top, .top, .top, .top, .top, .top, .top, .top, .top, .top, .top, .top, .top, .top, .top, .top, .top, .top, .top, .top, .top, .top, .top, .top, .top, .top, .top, .top, .top, .top, .top, .top, .top, .top, .top, .top, .top, .top, .top, .top, .top, .top, .top, .top, .top, .top, .top, .top, .top, .top, .top, .top, .top, .top, .top, .top, .top, .top, .top, .top, .top, .top, .top, .top, .top, .top, .top, .top, .top, .top, .top, .top, .top, .top, .top, .top, .top, .top, .top, .top, .top, .top, .top, .top, .top, .top, .top, .top, .top, .top, .top, .top, .top, .top, .top, .top, .top, .top, .top, .top, .top, .top, .top, .top, .top, .top, .top, .top, .top, .top, .top, .top, .top, .top, .top, .top, .top, .top]) (fun u τ => Part key (fun k => decide (k < x)) a e i u x m0 m ∧ u + 1 - i ≤ sz ∧ (u < i ∨ (fun k => decide (k < x)) (ky key m i) = false) ∧ τ = σ.set b (rowE enc m spare)) (fun u _ => u) u (by repeat (first | exact LeEnv.nil | refine LeEnv.same ?_ | refine LeEnv.top ?_)) ⟨hP, hM, hx, rfl⟩ ?_)
    clear hP hM hx
    rintro u τ ⟨hP, hM, hx, rfl⟩
    have i1 := hP.i1
    have ij := hP.ij
    have j1 := hP.j1
    (repeat (first | refine Stp.s ?_ | refine inBlock_exit' (by decide) ?_ | ((first | refine vc_region fun K KP hK hKP => ?_ | refine Stg.s ?_ | refine guardD_ret0 ?_ | refine exV_intro _ rfl ?_); (try simp only [go_sem, loadL_a]); try ((first | refine hK _ _ ?_ | refine hKP _ _ _ ?_ | refine hKP _ _ (fun _ => ?_)); clear hK hKP K KP))))
    rcases Nat.lt_or_ge u i with hji | hji
    · have hd : decide ((i : Int) ≤ (u : Int)) = false := decide_eq_false (by omega)
      ((repeat first | refine Stp.s ?_ | refine inBlock_exit' (by decide) ?_); refine vc_draw mixed [ ] [0, 1, 2, 3, 4, 5, 6, 7, 8, 9, 10, 11, 12, 13, 14, 15, 16 ] [ 8, 12, 13 ] [] (fun _ => True) (by kernel_rfl) (by kernel_rfl) (by kernel_rfl) trivial fun K KP hK hKP => ?_; simp only [go_sem, hd]; try (refine hK _ _ ?_; clear hK hKP K KP))
      ((try simp only [go_sem, loadL_a, hd]); (try ((first | refine hK _ _ ?_ | refine hKP _ _ _ ?_ | refine hKP _ _ (fun _ => ?_)); clear hK hKP K KP)); repeat (first | refine Stp.s ?_ | refine inBlock_exit' (by decide) ?_ | ((first | refine vc_region fun K KP hK hKP => ?_ | refine Stg.s ?_ | refine guardD_ret0 ?_ | refine exV_intro _ rfl ?_); (try simp only [go_sem, loadL_a, hd]); try ((first | refine hK _ _ ?_ | refine hKP _ _ _ ?_ | refine hKP _ _ (fun _ => ?_)); clear hK hKP K KP))))
      refine vc_cond rfl (fun hq => by cases hq) (fun _ => ?_)
      (repeat (first | refine Stp.s ?_ | refine inBlock_exit' (by decide) ?_ | ((first | refine vc_region fun K KP hK hKP => ?_ | refine Stg.s ?_ | refine guardD_ret0 ?_ | refine exV_intro _ rfl ?_); (try simp only [go_sem, loadL_a]); try ((first | refine hK _ _ ?_ | refine hKP _ _ _ ?_ | refine hKP _ _ (fun _ => ?_)); clear hK hKP K KP))))
      exact hrest u _ _ ⟨hP, hM, hx, .inl hji, rfl⟩ rfl
    · have hd : decide ((i : Int) ≤ (u : Int)) = true := decide_eq_true (by omega)
      have g1 := eq_true (show (0 : Int) ≤ (u : Int) by omega)
      have g2 := eq_true (show (u : Int) < m0.length by omega)
      have g3 := eq_true (show (0 : Int) ≤ (a : Int) by omega)
      have g4 := eq_true (show (a : Int) < m0.length by omega)
      have r1 := slab_load hE (spare := spare) (show u < m.length by omega)
      have r2 := slab_load hE (spare := spare) (show a < m.length by omega)
      ((repeat first | refine Stp.s ?_ | refine inBlock_exit' (by decide) ?_); refine vc_draw mixed [ ] [0, 1, 2, 3, 4, 5, 6, 7, 8, 9, 10, 11, 12, 13, 14, 15, 16 ] [ 8, 12, 13 ] [] (fun _ => True) (by kernel_rfl) (by kernel_rfl) (by kernel_rfl) trivial fun K KP hK hKP => ?_; simp only [go_sem, g1, g2, g3, g4, hd, Int.toNat_natCast, hbb, r1, r2]; try (refine hK _ _ ?_; clear hK hKP K KP))
      ((try simp only [go_sem, g1, g2, g3, g4, hd, Int.toNat_natCast, hbb, r1, r2]); (try ((first | refine hK _ _ ?_ | refine hKP _ _ _ ?_ | refine hKP _ _ (fun _ => ?_)); clear hK hKP K KP)); repeat (first | refine Stp.s ?_ | refine inBlock_exit' (by decide) ?_ | ((first | refine vc_region fun K KP hK hKP => ?_ | refine Stg.s ?_ | refine guardD_ret0 ?_ | refine exV_intro _ rfl ?_); (try simp only [go_sem, g1, g2, g3, g4, hd, Int.toNat_natCast, hbb, r1, r2]); try ((first | refine hK _ _ ?_ | refine hKP _ _ _ ?_ | refine hKP _ _ (fun _ => ?_)); clear hK hKP K KP))))
      ((try simp only [go_sem, loadL_a]); first | refine guardD_q0 (fun _ => callV_pure (hC.call _ _) ⟨rfl, rfl⟩) ?_ | refine guardD_q0 (fun _ _ => callV_pure (hC.call _ _) ⟨rfl, rfl⟩) ?_)
      ((try simp only [go_sem, g1, g2, g3, g4, hd, Int.toNat_natCast, hbb, r1, r2]); (try ((first | refine hK _ _ ?_ | refine hKP _ _ _ ?_ | refine hKP _ _ (fun _ => ?_)); clear hK hKP K KP)); repeat (first | refine Stp.s ?_ | refine inBlock_exit' (by decide) ?_ | ((first | refine vc_region fun K KP hK hKP => ?_ | refine Stg.s ?_ | refine guardD_ret0 ?_ | refine exV_intro _ rfl ?_); (try simp only [go_sem, g1, g2, g3, g4, hd, Int.toNat_natCast, hbb, r1, r2]); try ((first | refine hK _ _ ?_ | refine hKP _ _ _ ?_ | refine hKP _ _ (fun _ => ?_)); clear hK hKP K KP))))
      refine vc_cond rfl (fun hq => ?_) (fun hq => ?_)
      · have w5 := i64_minus (show u ≤ 10000000 by omega) (show 1 ≤ u by omega)
        (repeat (first | refine Stp.s ?_ | refine inBlock_exit' (by decide) ?_ | ((first | refine vc_region fun K KP hK hKP => ?_ | refine Stg.s ?_ | refine guardD_ret0 ?_ | refine exV_intro _ rfl ?_); (try simp only [go_sem, loadL_a, nc1 ▸ w5]); try ((first | refine hK _ _ ?_ | refine hKP _ _ _ ?_ | refine hKP _ _ (fun _ => ?_)); clear hK hKP K KP))))
        exact ⟨u - 1, _, (by repeat (first | exact LeEnv.nil | refine LeEnv.same ?_ | refine LeEnv.top ?_)), Store.le_refl _, ⟨hP.down key hji (by have q2 : ¬ ky key m u < ky key m a := (fun h => by rw [decide_eq_true ((hC.lt _ _).2 h)] at hq; cases hq); rw [hP.at_] at q2; simpa using q2), by omega, hx.imp (fun h => by omega) id, rfl⟩, by show u - 1 < u; omega⟩
      · (repeat (first | refine Stp.s ?_ | refine inBlock_exit' (by decide) ?_ | ((first | refine vc_region fun K KP hK hKP => ?_ | refine Stg.s ?_ | refine guardD_ret0 ?_ | refine exV_intro _ rfl ?_); (try simp only [go_sem, loadL_a]); try ((first | refine hK _ _ ?_ | refine hKP _ _ _ ?_ | refine hKP _ _ (fun _ => ?_)); clear hK hKP K KP))))
        exact hrest u _ _ ⟨hP, hM, hx, .inr (by have q2 : ky key m u < ky key m a := (hC.lt _ _).1 (by simpa using hq); rw [hP.at_] at q2; simpa using q2), rfl⟩ rfl
  obtain ⟨hP, hM, hx, hy, rfl⟩ := hinv
  have i1 := hP.i1
  have ij := hP.ij
  have j1 := hP.j1
  (repeat (first | refine Stp.s ?_ | refine inBlock_exit' (by decide) ?_ | ((first | refine vc_region fun K KP hK hKP => ?_ | refine Stg.s ?_ | refine guardD_ret0 ?_ | refine exV_intro _ rfl ?_); (try simp only [go_sem, loadL_a]); try ((first | refine hK _ _ ?_ | refine hKP _ _ _ ?_ | refine hKP _ _ (fun _ => ?_)); clear hK hKP K KP))))
  have g1 := eq_true (show (0 : Int) ≤ (a : Int) by omega)
  have g2 := eq_true (show (a : Int) < m0.length by omega)
  have g3 := eq_true (show (0 : Int) ≤ (u : Int) by omega)
  have g4 := eq_true (show (u : Int) < m0.length by omega)
  have r1 := slab_load hE (spare := spare) (show a < m.length by omega)
  have r2 := slab_load hE (spare := spare) (show u < m.length by omega)
  refine vc_cond rfl (fun hq => ?_) (fun hq => ?_)
  · have hji : u < i := by simp at hq; omega
    obtain ⟨d1, d2, d3, d4, d5⟩ := hP.done key he hji
    (repeat (first | refine Stp.s ?_ | refine inBlock_exit' (by decide) ?_ | ((first | refine vc_region fun K KP hK hKP => ?_ | refine Stg.s ?_ | refine guardD_ret0 ?_ | refine exV_intro _ rfl ?_); (try simp only [go_sem, loadL_a]); try ((first | refine hK _ _ ?_ | refine hKP _ _ _ ?_ | refine hKP _ _ (fun _ => ?_)); clear hK hKP K KP))))
    ((repeat first | refine Stp.s ?_ | refine inBlock_exit' (by decide) ?_); refine vc_draw mixed [ 13, 15 ] [0, 1, 2, 3, 4, 5, 6, 7, 8, 9, 10, 11, 12, 13, 14, 15 ] [ 7, 11 ] [] (fun _ => True) (by kernel_rfl) (by kernel_rfl) (by kernel_rfl) trivial fun K KP hK hKP => ?_; simp only [go_sem, g1, g2, g3, g4, Int.toNat_natCast, hbb, r1, r2]; try (refine hK _ _ ?_; clear hK hKP K KP))
    ((try simp only [go_sem, g1, g2, g3, g4, Int.toNat_natCast, hbb, r1, r2]); (try ((first | refine hK _ _ ?_ | refine hKP _ _ _ ?_ | refine hKP _ _ (fun _ => ?_)); clear hK hKP K KP)); repeat (first | refine Stp.s ?_ | refine inBlock_exit' (by decide) ?_ | ((first | refine vc_region fun K KP hK hKP => ?_ | refine Stg.s ?_ | refine guardD_ret0 ?_ | refine exV_intro _ rfl ?_); (try simp only [go_sem, g1, g2, g3, g4, Int.toNat_natCast, hbb, r1, r2]); try ((first | refine hK _ _ ?_ | refine hKP _ _ _ ?_ | refine hKP _ _ (fun _ => ?_)); clear hK hKP K KP))))
    refine ⟨hE.len _, hE.one _, rowE_room1 hE m spare _ _ (by omega), effV_true ⟨hE.len _, hE.one _, rowE_room2 hE m spare _ _ _ _ (by omega), ?_⟩⟩
    rw [rowE_swp hE spare m _ _ (by omega) (by omega)]
    ((try simp only [go_sem, Store.set_set]); (try ((first | refine hK _ _ ?_ | refine hKP _ _ _ ?_ | refine hKP _ _ (fun _ => ?_)); clear hK hKP K KP)); repeat (first | refine Stp.s ?_ | refine inBlock_exit' (by decide) ?_ | ((first | refine vc_region fun K KP hK hKP => ?_ | refine Stg.s ?_ | refine guardD_ret0 ?_ | refine exV_intro _ rfl ?_); (try simp only [go_sem, Store.set_set]); try ((first | refine hK _ _ ?_ | refine hKP _ _ _ ?_ | refine hKP _ _ (fun _ => ?_)); clear hK hKP K KP))))
    (simp only [postV, resV, oneOf, List.getD_cons_succ, List.getD_cons_zero, and_true, true_and])
    exact ⟨u, true, swp m u a, rfl, d1, ⟨d2, d3⟩, d4, d5, rfl⟩
  have hji : i ≤ u := by simp at hq; omega
  have g5 := eq_true (show (0 : Int) ≤ (i : Int) by omega)
  have g6 := eq_true (show (i : Int) < m0.length by omega)
  have r3 := slab_load hE (spare := spare) (show i < m.length by omega)
  have hP := hP.swap key he hji (hx.resolve_left (by omega)) (hy.resolve_left (by omega))
  have w1 := i64_up (show i ≤ 10000000 by omega)
  have w2 := i64_minus (show u ≤ 10000000 by omega) (show 1 ≤ u by omega)
  (repeat (first | refine Stp.s ?_ | refine inBlock_exit' (by decide) ?_ | ((first | refine vc_region fun K KP hK hKP => ?_ | refine Stg.s ?_ | refine guardD_ret0 ?_ | refine exV_intro _ rfl ?_); (try simp only [go_sem, loadL_a]); try ((first | refine hK _ _ ?_ | refine hKP _ _ _ ?_ | refine hKP _ _ (fun _ => ?_)); clear hK hKP K KP))))
  ((repeat first | refine Stp.s ?_ | refine inBlock_exit' (by decide) ?_); refine vc_draw mixed [ 13, 15 ] [0, 1, 2, 3, 4, 5, 6, 7, 8, 9, 10, 11, 12, 13, 14, 15 ] [ 7, 11 ] [] (fun _ => True) (by kernel_rfl) (by kernel_rfl) (by kernel_rfl) trivial fun K KP hK hKP => ?_; simp only [go_sem, g3, g4, g5, g6, Int.toNat_natCast, hbb, r2, r3]; try (refine hK _ _ ?_; clear hK hKP K KP))
  ((try simp only [go_sem, g3, g4, g5, g6, Int.toNat_natCast, hbb, r2, r3]); (try ((first | refine hK _ _ ?_ | refine hKP _ _ _ ?_ | refine hKP _ _ (fun _ => ?_)); clear hK hKP K KP)); repeat (first | refine Stp.s ?_ | refine inBlock_exit' (by decide) ?_ | ((first | refine vc_region fun K KP hK hKP => ?_ | refine Stg.s ?_ | refine guardD_ret0 ?_ | refine exV_intro _ rfl ?_); (try simp only [go_sem, g3, g4, g5, g6, Int.toNat_natCast, hbb, r2, r3]); try ((first | refine hK _ _ ?_ | refine hKP _ _ _ ?_ | refine hKP _ _ (fun _ => ?_)); clear hK hKP K KP))))
  refine ⟨hE.len _, hE.one _, rowE_room1 hE m spare _ _ (by omega), effV_true ⟨hE.len _, hE.one _, rowE_room2 hE m spare _ _ _ _ (by omega), ?_⟩⟩
  rw [rowE_swp hE spare m _ _ (by omega) (by omega)]
  ((try simp only [go_sem, Store.set_set, w1, nc1 ▸ w2]); (try ((first | refine hK _ _ ?_ | refine hKP _ _ _ ?_ | refine hKP _ _ (fun _ => ?_)); clear hK hKP K KP)); repeat (first | refine Stp.s ?_ | refine inBlock_exit' (by decide) ?_ | ((first | refine vc_region fun K KP hK hKP => ?_ | refine Stg.s ?_ | refine guardD_ret0 ?_ | refine exV_intro _ rfl ?_); (try simp only [go_sem, Store.set_set, w1, nc1 ▸ w2]); try ((first | refine hK _ _ ?_ | refine hKP _ _ _ ?_ | refine hKP _ _ (fun _ => ?_)); clear hK hKP K KP))))
  clear r1 r2 r3 g1 g2 g3 g4 g5 g6 w1 w2 hx hy hq hbb hml i1 ij j1 hji
  refine vc_loop (loopV (fun (q : Nat × Nat × List α) => [.sl b 0 m0.length cap, I64 a, I64 e, I64 p, .fn (.func g) ps qs, .top, .top, .top, .top, .top, I64 0, BV false, I64 q.1, I64 q.2.1, .top, .top, .top, .top, .top, .top, .top, .top, .top, .top, .top, .top, .top, .top, .top, .top, .top, .top, .top, .top, .top, .top, .top, .top, .top, .top, .top, .top, .top, .top, .top, .top, .top, .top, .top, .top, .top, .top, .top, .top, .top, .top, .top, .top, .top, .top, .top, .top, .top, .top, .top, .top, .top, .top, .top, .top, .top, .top, .top, .top, .top, .top, .top, .top, .top, .top, .top, .top, .top, .top, .top, .top, .top, .top, .top, .top, .top, .top, .top, .top, .top, .top, .top, .top, .top, .top, .top, .top, .top, .top, .top, .top, .top, .top, .top, .top, .top, .top, .top, .top, .top, .top, .top, .top, .top, .top, .top, .top, .top, .top, .top, .top, .top, .top, .top, .top, .top, .top, .top, .top, .top, .top, .top, .top, .top, .top, .top, .top, .top, .top, .top, .top, .top, .top, .top, .top, .top, .top, .top, .top, .top, .top, .top, .top, .top, .top, .top, .top, .top, .top, .top, .top, .top, .top, .top, .top, .top, .top, .top, .top, .top, .top, .top, .top]) (fun q τ => Part key (fun k => decide (k < x)) a e q.1 q.2.1 x m0 q.2.2 ∧ τ = σ.set b (rowE enc q.2.2 spare)) (fun q _ => q.2.1 + 1 - q.1) (i + 1, u - 1, swp m i u) (by repeat (first | exact LeEnv.nil | refine LeEnv.same ?_ | refine LeEnv.top ?_)) ⟨hP, rfl⟩ ?_)
  clear hP
  generalize hi0 : i = i00
  generalize hj0 : u = j00
  clear hi0 hj0
  rintro ⟨i, u, m⟩ τ ⟨hP, rfl⟩
  simp only at hP
  have hml := hP.w.len
  have hbb := Store.set_same σ b (rowE enc m spare)
  obtain ⟨sz1, hsz⟩ : ∃ sz, sz = u + 1 - i := ⟨_, rfl⟩
  have hM : u + 1 - i ≤ sz1 := by omega
  generalize hszz : sz1 = sz at *
  clear hszz
  refine vc_block ?_
  refine vc_join (fun j (i : Nat) => [.sl b 0 m0.length cap, I64 a, I64 e, I64 p, .fn (.func g) ps qs, j 5, j 6, j 7, j 8, j 9, I64 0, BV false, I64 i, I64 u, j 14, j 15, j 16, j 17, j 18, j 19, j 20, j 21, j 22, j 23, j 24, j 25, j 26, j 27, j 28, j 29, j 30, j 31, j 32, j 33, j 34, j 35, j 36, j 37, j 38, j 39, j 40, j 41, j 42, j 43, j 44, j 45, j 46, j 47, j 48, j 49, j 50, j 51, j 52, j 53, j 54, j 55, j 56, j 57, j 58, j 59, j 60, j 61, j 62, j 63, j 64, j 65, j 66, j 67, j 68, j 69, j 70, j 71, j 72, j 73, j 74, j 75, j 76, j 77, j 78, j 79, j 80, j 81, j 82, j 83, j 84, j 85, j 86, j 87, j 88, j 89, j 90, j 91, j 92, j 93, j 94, j 95, j 96, j 97, j 98, j 99, j 100, j 101, j 102, j 103, j 104, j 105, j 106, j 107, j 108, j 109, j 110, j 111, j 112, j 113, j 114, j 115, j 116, j 117, j 118, j 119, j 120, j 121, j 122, j 123, j 124, j 125, j 126, j 127, j 128, j 129, j 130, j 131, j 132, j 133, j 134, j 135, j 136, j 137, j 138, j 139, j 140, j 141, j 142, j 143, j 144, j 145, j 146, j 147, j 148, j 149, j 150, j 151, j 152, j 153, j 154, j 155, j 156, j 157, j 158, j 159, j 160, j 161, j 162, j 163, j 164, j 165, j 166, j 167, j 168, j 169, j 170, j 171, j 172, j 173, j 174, j 175, j 176, j 177]) (fun i τ => Part key (fun k => decide (k < x)) a e i u x m0 m ∧ u + 1 - i ≤ sz ∧ (u < i ∨ (fun k => decide (k < x)) (ky key m i) = false) ∧ τ = σ.set b (rowE enc m spare)) (fun j i τ hinv => ?_) (fun rest hrest => ?_)
  rotate_left
  · (repeat (first | refine Stp.s ?_ | refine inBlock_exit' (by decide) ?_ | ((first | refine vc_region fun K KP hK hKP => ?_ | refine Stg.s ?_ | refine guardD_ret0 ?_ | refine exV_intro _ rfl ?_); (try simp only [go_sem, loadL_a]); try ((first | refine hK _ _ ?_ | refine hKP _ _ _ ?_ | refine hKP _ _ (fun _ => ?_)); clear hK hKP K KP))))
    refine vc_loop (loopV (fun (i : Nat) => [.sl b 0 m0.length cap, I64 a, I64 e, I64 p, .fn (.func g) ps qs, .top, .top, .top, .top, .top, I64 0, BV false, I64 i, I64 u, .top, .top, .top, .top, .top, .top, .top, .top, .top, .top, .top, .top, .top, .top, .top, .top, .top, .top, .top, .top, .top, .top, .top, .top, .top, .top, .top, .top, .top, .top, .top, .top, .top, .top, .top, .top, .top, .top, .top, .top, .top, .top, .top, .top, .top, .top, .top, .top, .top, .top, .top, .top, .top, .top, .top, .top, .top, .top, .top, .top, .top, .top, .top, .top, .top, .top, .top, .top, .top, .top, .top, .top, .top, .top, .top, .top, .top, .top, .top, .top, .top, .top, .top, .top, .top, .top, .top, .top, .top, .top, .top, .top, .top, .top, .top, .top, .top, .top, .top, .top, .top, .top, .top, .top, .top, .top, .top, .top, .top, .top, .top, .top, .top, .top, .top, .top, .top, .top, .top, .top, .top, .top, .top, .top, .top, .top, .top, .top, .top, .top, .top, .top, .top, .top, .top, .top, .top, .top, .top, .top, .top, .top, .top, .top, .top, .top, .top, .top, .top, .top, .top, .top, .top, .top, .top, .top, .top, .top, .top, .top, .top, .top, .top, .top]) (fun i τ => Part key (fun k => decide (k < x)) a e i u x m0 m ∧ u + 1 - i ≤ sz ∧ τ = σ.set b (rowE enc m spare)) (fun i _ => u + 1 - i) i (by repeat (first | exact LeEnv.nil | refine LeEnv.same ?_ | refine LeEnv.top ?_)) ⟨hP, hM, rfl⟩ ?_)
    clear hP hM
    rintro i τ ⟨hP, hM, rfl⟩
    have i1 := hP.i1
    have ij := hP.ij
    have j1 := hP.j1
    (repeat (first | refine Stp.s ?_ | refine inBlock_exit' (by decide) ?_ | ((first | refine vc_region fun K KP hK hKP => ?_ | refine Stg.s ?_ | refine guardD_ret0 ?_ | refine exV_intro _ rfl ?_); (try simp only [go_sem, loadL_a]); try ((first | refine hK _ _ ?_ | refine hKP _ _ _ ?_ | refine hKP _ _ (fun _ => ?_)); clear hK hKP K KP))))
    rcases Nat.lt_or_ge u i with hji | hji
    · have hd : decide ((i : Int) ≤ (u : Int)) = false := decide_eq_false (by omega)
      ((repeat first | refine Stp.s ?_ | refine inBlock_exit' (by decide) ?_); refine vc_draw mixed [ ] [0, 1, 2, 3, 4, 5, 6, 7, 8, 9, 10, 11, 12, 13, 14, 15 ] [ 8, 12, 13 ] [] (fun _ => True) (by kernel_rfl) (by kernel_rfl) (by kernel_rfl) trivial fun K KP hK hKP => ?_; simp only [go_sem, hd]; try (refine hK _ _ ?_; clear hK hKP K KP))
      ((try simp only [go_sem, loadL_a, hd]); (try ((first | refine hK _ _ ?_ | refine hKP _ _ _ ?_ | refine hKP _ _ (fun _ => ?_)); clear hK hKP K KP)); repeat (first | refine Stp.s ?_ | refine inBlock_exit' (by decide) ?_ | ((first | refine vc_region fun K KP hK hKP => ?_ | refine Stg.s ?_ | refine guardD_ret0 ?_ | refine exV_intro _ rfl ?_); (try simp only [go_sem, loadL_a, hd]); try ((first | refine hK _ _ ?_ | refine hKP _ _ _ ?_ | refine hKP _ _ (fun _ => ?_)); clear hK hKP K KP))))
      refine vc_cond rfl (fun hq => by cases hq) (fun _ => ?_)
      (repeat (first | refine Stp.s ?_ | refine inBlock_exit' (by decide) ?_ | ((first | refine vc_region fun K KP hK hKP => ?_ | refine Stg.s ?_ | refine guardD_ret0 ?_ | refine exV_intro _ rfl ?_); (try simp only [go_sem, loadL_a]); try ((first | refine hK _ _ ?_ | refine hKP _ _ _ ?_ | refine hKP _ _ (fun _ => ?_)); clear hK hKP K KP))))
      exact hrest i _ _ ⟨hP, hM, .inl hji, rfl⟩ rfl
    · have hd : decide ((i : Int) ≤ (u : Int)) = true := decide_eq_true (by omega)
      have g1 := eq_true (show (0 : Int) ≤ (i : Int) by omega)
      have g2 := eq_true (show (i : Int) < m0.length by omega)
      have g3 := eq_true (show (0 : Int) ≤ (a : Int) by omega)
      have g4 := eq_true (show (a : Int) < m0.length by omega)
      have r1 := slab_load hE (spare := spare) (show i < m.length by omega)
      have r2 := slab_load hE (spare := spare) (show a < m.length by omega)
      ((repeat first | refine Stp.s ?_ | refine inBlock_exit' (by decide) ?_); refine vc_draw mixed [ ] [0, 1, 2, 3, 4, 5, 6, 7, 8, 9, 10, 11, 12, 13, 14, 15 ] [ 8, 12, 13 ] [] (fun _ => True) (by kernel_rfl) (by kernel_rfl) (by kernel_rfl) trivial fun K KP hK hKP => ?_; simp only [go_sem, g1, g2, g3, g4, hd, Int.toNat_natCast, hbb, r1, r2]; try (refine hK _ _ ?_; clear hK hKP K KP))
      ((try simp only [go_sem, g1, g2, g3, g4, hd, Int.toNat_natCast, hbb, r1, r2]); (try ((first | refine hK _ _ ?_ | refine hKP _ _ _ ?_ | refine hKP _ _ (fun _ => ?_)); clear hK hKP K KP)); repeat (first | refine Stp.s ?_ | refine inBlock_exit' (by decide) ?_ | ((first | refine vc_region fun K KP hK hKP => ?_ | refine Stg.s ?_ | refine guardD_ret0 ?_ | refine exV_intro _ rfl ?_); (try simp only [go_sem, g1, g2, g3, g4, hd, Int.toNat_natCast, hbb, r1, r2]); try ((first | refine hK _ _ ?_ | refine hKP _ _ _ ?_ | refine hKP _ _ (fun _ => ?_)); clear hK hKP K KP))))
      ((try simp only [go_sem, loadL_a]); first | refine guardD_q0 (fun _ => callV_pure (hC.call _ _) ⟨rfl, rfl⟩) ?_ | refine guardD_q0 (fun _ _ => callV_pure (hC.call _ _) ⟨rfl, rfl⟩) ?_)
      ((try simp only [go_sem, g1, g2, g3, g4, hd, Int.toNat_natCast, hbb, r1, r2]); (try ((first | refine hK _ _ ?_ | refine hKP _ _ _ ?_ | refine hKP _ _ (fun _ => ?_)); clear hK hKP K KP)); repeat (first | refine Stp.s ?_ | refine inBlock_exit' (by decide) ?_ | ((first | refine vc_region fun K KP hK hKP => ?_ | refine Stg.s ?_ | refine guardD_ret0 ?_ | refine exV_intro _ rfl ?_); (try simp only [go_sem, g1, g2, g3, g4, hd, Int.toNat_natCast, hbb, r1, r2]); try ((first | refine hK _ _ ?_ | refine hKP _ _ _ ?_ | refine hKP _ _ (fun _ => ?_)); clear hK hKP K KP))))
      refine vc_cond rfl (fun hq => ?_) (fun hq => ?_)
      · have w5 := i64_up (show i ≤ 10000000 by omega)
        (repeat (first | refine Stp.s ?_ | refine inBlock_exit' (by decide) ?_ | ((first | refine vc_region fun K KP hK hKP => ?_ | refine Stg.s ?_ | refine guardD_ret0 ?_ | refine exV_intro _ rfl ?_); (try simp only [go_sem, loadL_a, w5]); try ((first | refine hK _ _ ?_ | refine hKP _ _ _ ?_ | refine hKP _ _ (fun _ => ?_)); clear hK hKP K KP))))
        exact ⟨i + 1, _, (by repeat (first | exact LeEnv.nil | refine LeEnv.same ?_ | refine LeEnv.top ?_)), Store.le_refl _, ⟨hP.up key hji (by have q2 : ky key m i < ky key m a := (hC.lt _ _).1 (by simpa using hq); rw [hP.at_] at q2; simpa using q2), by omega, rfl⟩, by show u + 1 - (i + 1) < u + 1 - i; omega⟩
      · (repeat (first | refine Stp.s ?_ | refine inBlock_exit' (by decide) ?_ | ((first | refine vc_region fun K KP hK hKP => ?_ | refine Stg.s ?_ | refine guardD_ret0 ?_ | refine exV_intro _ rfl ?_); (try simp only [go_sem, loadL_a]); try ((first | refine hK _ _ ?_ | refine hKP _ _ _ ?_ | refine hKP _ _ (fun _ => ?_)); clear hK hKP K KP))))
        exact hrest i _ _ ⟨hP, hM, .inr (by have q2 : ¬ ky key m i < ky key m a := (fun h => by rw [decide_eq_true ((hC.lt _ _).2 h)] at hq; cases hq); rw [hP.at_] at q2; simpa using q2), rfl⟩ rfl
  obtain ⟨hP, hM, hx, rfl⟩ := hinv
  refine vc_join (fun j (u : Nat) => [.sl b 0 m0.length cap, I64 a, I64 e, I64 p, .fn (.func g) ps qs, j 5, j 6, j 7, j 8, j 9, I64 0, BV false, I64 i, I64 u, j 14, j 15, j 16, j 17, j 18, j 19, j 20, j 21, j 22, j 23, j 24, j 25, j 26, j 27, j 28, j 29, j 30, j 31, j 32, j 33, j 34, j 35, j 36, j 37, j 38, j 39, j 40, j 41, j 42, j 43, j 44, j 45, j 46, j 47, j 48, j 49, j 50, j 51, j 52, j 53, j 54, j 55, j 56, j 57, j 58, j 59, j 60, j 61, j 62, j 63, j 64, j 65, j 66, j 67, j 68, j 69, j 70, j 71, j 72, j 73, j 74, j 75, j 76, j 77, j 78, j 79, j 80, j 81, j 82, j 83, j 84, j 85, j 86, j 87, j 88, j 89, j 90, j 91, j 92, j 93, j 94, j 95, j 96, j 97, j 98, j 99, j 100, j 101, j 102, j 103, j 104, j 105, j 106, j 107, j 108, j 109, j 110, j 111, j 112, j 113, j 114, j 115, j 116, j 117, j 118, j 119, j 120, j 121, j 122, j 123, j 124, j 125, j 126, j 127, j 128, j 129, j 130, j 131, j 132, j 133, j 134, j 135, j 136, j 137, j 138, j 139, j 140, j 141, j 142, j 143, j 144, j 145, j 146, j 147, j 148, j 149, j 150, j 151, j 152, j 153, j 154, j 155, j 156, j 157, j 158, j 159, j 160, j 161, j 162, j 163, j 164, j 165, j 166, j 167, j 168, j 169, j 170, j 171, j 172, j 173, j 174, j 175, j 176, j 177]) (fun u τ => Part key (fun k => decide (k < x)) a e i u x m0 m ∧ u + 1 - i ≤ sz ∧ (u < i ∨ (fun k => decide (k < x)) (ky key m i) = false) ∧ (u < i ∨ (fun k => decide (k < x)) (ky key m u) = true) ∧ τ = σ.set b (rowE enc m spare)) (fun j u τ hinv => ?_) (fun rest hrest => ?_)
  rotate_left
  · (repeat (first | refine Stp.s ?_ | refine inBlock_exit' (by decide) ?_ | ((first | refine vc_region fun K KP hK hKP => ?_ | refine Stg.s ?_ | refine guardD_ret0 ?_ | refine exV_intro _ rfl ?_); (try simp only [go_sem, loadL_a]); try ((first | refine hK _ _ ?_ | refine hKP _ _ _ ?_ | refine hKP _ _ (fun _ => ?_)); clear hK hKP K KP))))
    refine vc_loop (loopV (fun (u : Nat) => [.sl b 0 m0.length cap, I64 a, I64 e, I64 p, .fn (.func g) ps qs, .top, .top, .top, .top, .top, I64 0, BV false, I64 i, I64 u, .top, .top, .top, .top, .top, .top, .top, .top, .top, .top, .top, .top, .top, .top, .top, .top, .top, .top, .top, .top, .top, .top, .top, .top, .top, .top, .top, .top, .top, .top, .top, .top, .top, .top, .top, .top, .top, .top, .top, .top, .top, .top, .top, .top, .top, .top, .top, .top, .top, .top, .top, .top, .top, .top, .top, .top, .top, .top, .top, .top, .top, .top, .top, .top, .top, .top, .top, .top, .top, .top, .top, .top, .top, .top, .top, .top, .top, .top, .top, .top, .top, .top, .top, .top, .top, .top, .top, .top, .top, .top, .top, .top, .top, .top, .top, .top, .top, .top, .top, .top, .top, .top, .top, .top, .top, .top, .top, .top, .top, .top, .top, .top, .top, .top, .top, .top, .top, .top, .top, .top, .top, .top, .top, .top, .top, .top, .top, .top, .top, .top, .top, .top, .top, .top, .top, .top, .top, .top, .top, .top, .top, .top, .top, .top, .top, .top, .top, .top, .top, .top, .top, .top, .top, .top, .top, .top, .top, .top, .top, .top, .top, .top, .top, .top]) (fun u τ => Part key (fun k => decide (k < x)) a e i u x m0 m ∧ u + 1 - i ≤ sz ∧ (u < i ∨ (fun k => decide (k < x)) (ky key m i) = false) ∧ τ = σ.set b (rowE enc m spare)) (fun u _ => u) u (by repeat (first | exact LeEnv.nil | refine LeEnv.same ?_ | refine LeEnv.top ?_)) ⟨hP, hM, hx, rfl⟩ ?_)
    clear hP hM hx
    rintro u τ ⟨hP, hM, hx, rfl⟩
    have i1 := hP.i1
    have ij := hP.ij
    have j1 := hP.j1
    (repeat (first | refine Stp.s ?_ | refine inBlock_exit' (by decide) ?_ | ((first | refine vc_region fun K KP hK hKP => ?_ | refine Stg.s ?_ | refine guardD_ret0 ?_ | refine exV_intro _ rfl ?_); (try simp only [go_sem, loadL_a]); try ((first | refine hK _ _ ?_ | refine hKP _ _ _ ?_ | refine hKP _ _ (fun _ => ?_)); clear hK hKP K KP))))
    rcases Nat.lt_or_ge u i with hji | hji
    · have hd : decide ((i : Int) ≤ (u : Int)) = false := decide_eq_false (by omega)
      ((repeat first | refine Stp.s ?_ | refine inBlock_exit' (by decide) ?_); refine vc_draw mixed [ ] [0, 1, 2, 3, 4, 5, 6, 7, 8, 9, 10, 11, 12, 13, 14, 15, 16 ] [ 8, 12, 13 ] [] (fun _ => True) (by kernel_rfl) (by kernel_rfl) (by kernel_rfl) trivial fun K KP hK hKP => ?_; simp only [go_sem, hd]; try (refine hK _ _ ?_; clear hK hKP K KP))
      ((try simp only [go_sem, loadL_a, hd]); (try ((first | refine hK _ _ ?_ | refine hKP _ _ _ ?_ | refine hKP _ _ (fun _ => ?_)); clear hK hKP K KP)); repeat (first | refine Stp.s ?_ | refine inBlock_exit' (by decide) ?_ | ((first | refine vc_region fun K KP hK hKP => ?_ | refine Stg.s ?_ | refine guardD_ret0 ?_ | refine exV_intro _ rfl ?_); (try simp only [go_sem, loadL_a, hd]); try ((first | refine hK _ _ ?_ | refine hKP _ _ _ ?_ | refine hKP _ _ (fun _ => ?_)); clear hK hKP K KP))))
      refine vc_cond rfl (fun hq => by cases hq) (fun _ => ?_)
      (repeat (first | refine Stp.s ?_ | refine inBlock_exit' (by decide) ?_ | ((first | refine vc_region fun K KP hK hKP => ?_ | refine Stg.s ?_ | refine guardD_ret0 ?_ | refine exV_intro _ rfl ?_); (try simp only [go_sem, loadL_a]); try ((first | refine hK _ _ ?_ | refine hKP _ _ _ ?_ | refine hKP _ _ (fun _ => ?_)); clear hK hKP K KP))))
      exact hrest u _ _ ⟨hP, hM, hx, .inl hji, rfl⟩ rfl
    · have hd : decide ((i : Int) ≤ (u : Int)) = true := decide_eq_true (by omega)
      have g1 := eq_true (show (0 : Int) ≤ (u : Int) by omega)
      have g2 := eq_true (show (u : Int) < m0.length by omega)
      have g3 := eq_true (show (0 : Int) ≤ (a : Int) by omega)
      have g4 := eq_true (show (a : Int) < m0.length by omega)
      have r1 := slab_load hE (spare := spare) (show u < m.length by omega)
      have r2 := slab_load hE (spare := spare) (show a < m.length by omega)
      ((repeat first | refine Stp.s ?_ | refine inBlock_exit' (by decide) ?_); refine vc_draw mixed [ ] [0, 1, 2, 3, 4, 5, 6, 7, 8, 9, 10, 11, 12, 13, 14, 15, 16 ] [ 8, 12, 13 ] [] (fun _ => True) (by kernel_rfl) (by kernel_rfl) (by kernel_rfl) trivial fun K KP hK hKP => ?_; simp only [go_sem, g1, g2, g3, g4, hd, Int.toNat_natCast, hbb, r1, r2]; try (refine hK _ _ ?_; clear hK hKP K KP))
      ((try simp only [go_sem, g1, g2, g3, g4, hd, Int.toNat_natCast, hbb, r1, r2]); (try ((first | refine hK _ _ ?_ | refine hKP _ _ _ ?_ | refine hKP _ _ (fun _ => ?_)); clear hK hKP K KP)); repeat (first | refine Stp.s ?_ | refine inBlock_exit' (by decide) ?_ | ((first | refine vc_region fun K KP hK hKP => ?_ | refine Stg.s ?_ | refine guardD_ret0 ?_ | refine exV_intro _ rfl ?_); (try simp only [go_sem, g1, g2, g3, g4, hd, Int.toNat_natCast, hbb, r1, r2]); try ((first | refine hK _ _ ?_ | refine hKP _ _ _ ?_ | refine hKP _ _ (fun _ => ?_)); clear hK hKP K KP))))
      ((try simp only [go_sem, loadL_a]); first | refine guardD_q0 (fun _ => callV_pure (hC.call _ _) ⟨rfl, rfl⟩) ?_ | refine guardD_q0 (fun _ _ => callV_pure (hC.call _ _) ⟨rfl, rfl⟩) ?_)
      ((try simp only [go_sem, g1, g2, g3, g4, hd, Int.toNat_natCast, hbb, r1, r2]); (try ((first | refine hK _ _ ?_ | refine hKP _ _ _ ?_ | refine hKP _ _ (fun _ => ?_)); clear hK hKP K KP)); repeat (first | refine Stp.s ?_ | refine inBlock_exit' (by decide) ?_ | ((first | refine vc_region fun K KP hK hKP => ?_ | refine Stg.s ?_ | refine guardD_ret0 ?_ | refine exV_intro _ rfl ?_); (try simp only [go_sem, g1, g2, g3, g4, hd, Int.toNat_natCast, hbb, r1, r2]); try ((first | refine hK _ _ ?_ | refine hKP _ _ _ ?_ | refine hKP _ _ (fun _ => ?_)); clear hK hKP K KP))))
      refine vc_cond rfl (fun hq => ?_) (fun hq => ?_)
      · have w5 := i64_minus (show u ≤ 10000000 by omega) (show 1 ≤ u by omega)
        (repeat (first | refine Stp.s ?_ | refine inBlock_exit' (by decide) ?_ | ((first | refine vc_region fun K KP hK hKP => ?_ | refine Stg.s ?_ | refine guardD_ret0 ?_ | refine exV_intro _ rfl ?_); (try simp only [go_sem, loadL_a, nc1 ▸ w5]); try ((first | refine hK _ _ ?_ | refine hKP _ _ _ ?_ | refine hKP _ _ (fun _ => ?_)); clear hK hKP K KP))))
        exact ⟨u - 1, _, (by repeat (first | exact LeEnv.nil | refine LeEnv.same ?_ | refine LeEnv.top ?_)), Store.le_refl _, ⟨hP.down key hji (by have q2 : ¬ ky key m u < ky key m a := (fun h => by rw [decide_eq_true ((hC.lt _ _).2 h)] at hq; cases hq); rw [hP.at_] at q2; simpa using q2), by omega, hx.imp (fun h => by omega) id, rfl⟩, by show u - 1 < u; omega⟩
      · (repeat (first | refine Stp.s ?_ | refine inBlock_exit' (by decide) ?_ | ((first | refine vc_region fun K KP hK hKP => ?_ | refine Stg.s ?_ | refine guardD_ret0 ?_ | refine exV_intro _ rfl ?_); (try simp only [go_sem, loadL_a]); try ((first | refine hK _ _ ?_ | refine hKP _ _ _ ?_ | refine hKP _ _ (fun _ => ?_)); clear hK hKP K KP))))
        exact hrest u _ _ ⟨hP, hM, hx, .inr (by have q2 : ky key m u < ky key m a := (hC.lt _ _).1 (by simpa using hq); rw [hP.at_] at q2; simpa using q2), rfl⟩ rfl
  obtain ⟨hP, hM, hx, hy, rfl⟩ := hinv
  have i1 := hP.i1
  have ij := hP.ij
  have j1 := hP.j1
  (repeat (first | refine Stp.s ?_ | refine inBlock_exit' (by decide) ?_ | ((first | refine vc_region fun K KP hK hKP => ?_ | refine Stg.s ?_ | refine guardD_ret0 ?_ | refine exV_intro _ rfl ?_); (try simp only [go_sem, loadL_a]); try ((first | refine hK _ _ ?_ | refine hKP _ _ _ ?_ | refine hKP _ _ (fun _ => ?_)); clear hK hKP K KP))))
  refine vc_cond rfl (fun hq => ?_) (fun hq => ?_)
  · have hji : u < i := by simp at hq; omega
    obtain ⟨d1, d2, d3, d4, d5⟩ := hP.done key he hji
    have g1 := eq_true (show (0 : Int) ≤ (a : Int) by omega)
    have g2 := eq_true (show (a : Int) < m0.length by omega)
    have g3 := eq_true (show (0 : Int) ≤ (u : Int) by omega)
    have g4 := eq_true (show (u : Int) < m0.length by omega)
    have r1 := slab_load hE (spare := spare) (show a < m.length by omega)
    have r2 := slab_load hE (spare := spare) (show u < m.length by omega)
    (repeat (first | refine Stp.s ?_ | refine inBlock_exit' (by decide) ?_ | ((first | refine vc_region fun K KP hK hKP => ?_ | refine Stg.s ?_ | refine guardD_ret0 ?_ | refine exV_intro _ rfl ?_); (try simp only [go_sem, loadL_a]); try ((first | refine hK _ _ ?_ | refine hKP _ _ _ ?_ | refine hKP _ _ (fun _ => ?_)); clear hK hKP K KP))))
    ((repeat first | refine Stp.s ?_ | refine inBlock_exit' (by decide) ?_); refine vc_draw mixed [ 13, 15 ] [0, 1, 2, 3, 4, 5, 6, 7, 8, 9, 10, 11, 12, 13, 14, 15 ] [ 7, 11 ] [] (fun _ => True) (by kernel_rfl) (by kernel_rfl) (by kernel_rfl) trivial fun K KP hK hKP => ?_; simp only [go_sem, g1, g2, g3, g4, Int.toNat_natCast, hbb, r1, r2]; try (refine hK _ _ ?_; clear hK hKP K KP))
    ((try simp only [go_sem, g1, g2, g3, g4, Int.toNat_natCast, hbb, r1, r2]); (try ((first | refine hK _ _ ?_ | refine hKP _ _ _ ?_ | refine hKP _ _ (fun _ => ?_)); clear hK hKP K KP)); repeat (first | refine Stp.s ?_ | refine inBlock_exit' (by decide) ?_ | ((first | refine vc_region fun K KP hK hKP => ?_ | refine Stg.s ?_ | refine guardD_ret0 ?_ | refine exV_intro _ rfl ?_); (try simp only [go_sem, g1, g2, g3, g4, Int.toNat_natCast, hbb, r1, r2]); try ((first | refine hK _ _ ?_ | refine hKP _ _ _ ?_ | refine hKP _ _ (fun _ => ?_)); clear hK hKP K KP))))
    refine ⟨hE.len _, hE.one _, rowE_room1 hE m spare _ _ (by omega), effV_true ⟨hE.len _, hE.one _, rowE_room2 hE m spare _ _ _ _ (by omega), ?_⟩⟩
    rw [rowE_swp hE spare m _ _ (by omega) (by omega)]
    ((try simp only [go_sem, Store.set_set]); (try ((first | refine hK _ _ ?_ | refine hKP _ _ _ ?_ | refine hKP _ _ (fun _ => ?_)); clear hK hKP K KP)); repeat (first | refine Stp.s ?_ | refine inBlock_exit' (by decide) ?_ | ((first | refine vc_region fun K KP hK hKP => ?_ | refine Stg.s ?_ | refine guardD_ret0 ?_ | refine exV_intro _ rfl ?_); (try simp only [go_sem, Store.set_set]); try ((first | refine hK _ _ ?_ | refine hKP _ _ _ ?_ | refine hKP _ _ (fun _ => ?_)); clear hK hKP K KP))))
    (simp only [postV, resV, oneOf, List.getD_cons_succ, List.getD_cons_zero, and_true, true_and])
    exact ⟨u, false, swp m u a, rfl, d1, ⟨d2, d3⟩, d4, d5, rfl⟩
  have hji : i ≤ u := by simp at hq; omega
  have g3 := eq_true (show (0 : Int) ≤ (u : Int) by omega)
  have g4 := eq_true (show (u : Int) < m0.length by omega)
  have g5 := eq_true (show (0 : Int) ≤ (i : Int) by omega)
  have g6 := eq_true (show (i : Int) < m0.length by omega)
  have r2 := slab_load hE (spare := spare) (show u < m.length by omega)
  have r3 := slab_load hE (spare := spare) (show i < m.length by omega)
  have hP := hP.swap key he hji (hx.resolve_left (by omega)) (hy.resolve_left (by omega))
  have w1 := i64_up (show i ≤ 10000000 by omega)
  have w2 := i64_minus (show u ≤ 10000000 by omega) (show 1 ≤ u by omega)
  (repeat (first | refine Stp.s ?_ | refine inBlock_exit' (by decide) ?_ | ((first | refine vc_region fun K KP hK hKP => ?_ | refine Stg.s ?_ | refine guardD_ret0 ?_ | refine exV_intro _ rfl ?_); (try simp only [go_sem, loadL_a]); try ((first | refine hK _ _ ?_ | refine hKP _ _ _ ?_ | refine hKP _ _ (fun _ => ?_)); clear hK hKP K KP))))
  ((repeat first | refine Stp.s ?_ | refine inBlock_exit' (by decide) ?_); refine vc_draw mixed [ 13, 15 ] [0, 1, 2, 3, 4, 5, 6, 7, 8, 9, 10, 11, 12, 13, 14, 15 ] [ 7, 11 ] [] (fun _ => True) (by kernel_rfl) (by kernel_rfl) (by kernel_rfl) trivial fun K KP hK hKP => ?_; simp only [go_sem, g3, g4, g5, g6, Int.toNat_natCast, hbb, r2, r3]; try (refine hK _ _ ?_; clear hK hKP K KP))
  ((try simp only [go_sem, g3, g4, g5, g6, Int.toNat_natCast, hbb, r2, r3]); (try ((first | refine hK _ _ ?_ | refine hKP _ _ _ ?_ | refine hKP _ _ (fun _ => ?_)); clear hK hKP K KP)); repeat (first | refine Stp.s ?_ | refine inBlock_exit' (by decide) ?_ | ((first | refine vc_region fun K KP hK hKP => ?_ | refine Stg.s ?_ | refine guardD_ret0 ?_ | refine exV_intro _ rfl ?_); (try simp only [go_sem, g3, g4, g5, g6, Int.toNat_natCast, hbb, r2, r3]); try ((first | refine hK _ _ ?_ | refine hKP _ _ _ ?_ | refine hKP _ _ (fun _ => ?_)); clear hK hKP K KP))))
  refine ⟨hE.len _, hE.one _, rowE_room1 hE m spare _ _ (by omega), effV_true ⟨hE.len _, hE.one _, rowE_room2 hE m spare _ _ _ _ (by omega), ?_⟩⟩
  rw [rowE_swp hE spare m _ _ (by omega) (by omega)]
  ((try simp only [go_sem, Store.set_set, w1, nc1 ▸ w2]); (try ((first | refine hK _ _ ?_ | refine hKP _ _ _ ?_ | refine hKP _ _ (fun _ => ?_)); clear hK hKP K KP)); repeat (first | refine Stp.s ?_ | refine inBlock_exit' (by decide) ?_ | ((first | refine vc_region fun K KP hK hKP => ?_ | refine Stg.s ?_ | refine guardD_ret0 ?_ | refine exV_intro _ rfl ?_); (try simp only [go_sem, Store.set_set, w1, nc1 ▸ w2]); try ((first | refine hK _ _ ?_ | refine hKP _ _ _ ?_ | refine hKP _ _ (fun _ => ?_)); clear hK hKP K KP))))
  exact ⟨(i + 1, u - 1, swp m i u), _, (by repeat (first | exact LeEnv.nil | refine LeEnv.same ?_ | refine LeEnv.top ?_)), Store.le_refl _, ⟨hP, rfl⟩, Nat.lt_of_lt_of_eq (show u - 1 + 1 - (i + 1) < sz by omega) hsz⟩


theorem slab_parte (hE : Elt 17 enc) (hC : Cmpr Tryz.prog g ps qs enc key cv) (b cap a e p : Nat) (m0 : List α) (spare : List V) (σ : Store) (hb : σ b = some (rowE enc m0 spare)) (hp : a ≤ p ∧ p < e) (he : e ≤ m0.length) (hn : m0.length ≤ 250) :
    HCalls Tryz.prog 204 [.sl b 0 m0.length cap, I64 a, I64 e, I64 p, .fn (.func g) ps qs] σ (fun r σ' => ∃ (i : Nat) (m' : List α), r = .ret (I64 i) ∧ WP a e m0 m' ∧ (a < i ∧ i ≤ e) ∧ Blw key a i (ky key m0 p) m' ∧ σ' = σ.set b (rowE enc m' spare)) := by
  (refine HCalls.of_vc Tryz.func204 rfl ?_; rw [Tryz.ntmps204, Tryz.results204]; simp only [List.length_cons, List.length_nil, Nat.reduceAdd, Nat.reduceSub, List.replicate, List.cons_append, List.nil_append])
  have g1 := eq_true (show (0 : Int) ≤ (a : Int) by omega)
  have g2 := eq_true (show (a : Int) < m0.length by omega)
  have g3 := eq_true (show (0 : Int) ≤ (p : Int) by omega)
  have g4 := eq_true (show (p : Int) < m0.length by omega)
  have r1 := slab_load hE (spare := spare) (show a < m0.length by omega)
  have r2 := slab_load hE (spare := spare) (show p < m0.length by omega)
  have w1 := i64_up (show a ≤ 10000000 by omega)
  have w2 := i64_minus (show e ≤ 10000000 by omega) (show 1 ≤ e by omega)
  (repeat (first | refine Stp.s ?_ | refine inBlock_exit' (by decide) ?_ | ((first | refine vc_region fun K KP hK hKP => ?_ | refine Stg.s ?_ | refine guardD_ret0 ?_ | refine exV_intro _ rfl ?_); (try simp only [go_sem, loadL_a]); try ((first | refine hK _ _ ?_ | refine hKP _ _ _ ?_ | refine hKP _ _ (fun _ => ?_)); clear hK hKP K KP))))
  ((repeat first | refine Stp.s ?_ | refine inBlock_exit' (by decide) ?_); refine vc_draw mixed [ 13, 15 ] [0, 1, 2, 3, 4, 5, 6, 7, 8, 9, 10, 11, 12, 13, 14, 15 ] [ 7, 11 ] [] (fun _ => True) (by kernel_rfl) (by kernel_rfl) (by kernel_rfl) trivial fun K KP hK hKP => ?_; simp only [go_sem, g1, g2, g3, g4, Int.toNat_natCast, hb, r1, r2]; try (refine hK _ _ ?_; clear hK hKP K KP))
  ((try simp only [go_sem, g1, g2, g3, g4, Int.toNat_natCast, hb, r1, r2]); (try ((first | refine hK _ _ ?_ | refine hKP _ _ _ ?_ | refine hKP _ _ (fun _ => ?_)); clear hK hKP K KP)); repeat (first | refine Stp.s ?_ | refine inBlock_exit' (by decide) ?_ | ((first | refine vc_region fun K KP hK hKP => ?_ | refine Stg.s ?_ | refine guardD_ret0 ?_ | refine exV_intro _ rfl ?_); (try simp only [go_sem, g1, g2, g3, g4, Int.toNat_natCast, hb, r1, r2]); try ((first | refine hK _ _ ?_ | refine hKP _ _ _ ?_ | refine hKP _ _ (fun _ => ?_)); clear hK hKP K KP))))
  refine ⟨hE.len _, hE.one _, rowE_room1 hE m0 spare _ _ (by omega), effV_true ⟨hE.len _, hE.one _, rowE_room2 hE m0 spare _ _ _ _ (by omega), ?_⟩⟩
  rw [rowE_swp hE spare m0 _ _ (by omega) (by omega)]
  ((try simp only [go_sem, Store.set_set, w1, nc1 ▸ w2]); (try ((first | refine hK _ _ ?_ | refine hKP _ _ _ ?_ | refine hKP _ _ (fun _ => ?_)); clear hK hKP K KP)); repeat (first | refine Stp.s ?_ | refine inBlock_exit' (by decide) ?_ | ((first | refine vc_region fun K KP hK hKP => ?_ | refine Stg.s ?_ | refine guardD_ret0 ?_ | refine exV_intro _ rfl ?_); (try simp only [go_sem, Store.set_set, w1, nc1 ▸ w2]); try ((first | refine hK _ _ ?_ | refine hKP _ _ _ ?_ | refine hKP _ _ (fun _ => ?_)); clear hK hKP K KP))))
  have hP := Part.start key (fun k => decide (k ≤ ky key m0 p)) he hp
  generalize ky key m0 p = x at *
  refine vc_loop (loopV (fun (q : Nat × Nat × List α) => [.sl b 0 m0.length cap, I64 a, I64 e, I64 p, .fn (.func g) ps qs, .top, .top, .top, .top, .top, I64 0, I64 q.1, I64 q.2.1, .top, .top, .top, .top, .top, .top, .top, .top, .top, .top, .top, .top, .top, .top, .top, .top, .top, .top, .top, .top, .top, .top, .top, .top, .top, .top, .top, .top, .top, .top, .top, .top, .top, .top, .top, .top, .top, .top, .top, .top, .top, .top, .top, .top, .top, .top, .top, .top, .top, .top, .top, .top, .top, .top, .top, .top, .top, .top, .top, .top, .top, .top, .top, .top, .top, .top, .top, .top, .top, .top, .top, .top, .top, .top, .top, .top, .top]) (fun q τ => Part key (fun k => decide (k ≤ x)) a e q.1 q.2.1 x m0 q.2.2 ∧ τ = σ.set b (rowE enc q.2.2 spare)) (fun q _ => q.2.1 + 1 - q.1) (a + 1, e - 1, swp m0 a p) (by repeat (first | exact LeEnv.nil | refine LeEnv.same ?_ | refine LeEnv.top ?_)) ⟨hP, rfl⟩ ?_)
  clear hP r1 r2 g1 g2 g3 g4 w1 w2
  rintro ⟨i, u, m⟩ τ ⟨hP, rfl⟩
  simp only at hP
  have hml := hP.w.len
  have hbb := Store.set_same σ b (rowE enc m spare)
  obtain ⟨sz1, hsz⟩ : ∃ sz, sz = u + 1 - i := ⟨_, rfl⟩
  have hM : u + 1 - i ≤ sz1 := by omega
  generalize hszz : sz1 = sz at *
  clear hszz
  refine vc_block ?_
  refine vc_join (fun j (i : Nat) => [.sl b 0 m0.length cap, I64 a, I64 e, I64 p, .fn (.func g) ps qs, j 5, j 6, j 7, j 8, j 9, I64 0, I64 i, I64 u, j 13, j 14, j 15, j 16, j 17, j 18, j 19, j 20, j 21, j 22, j 23, j 24, j 25, j 26, j 27, j 28, j 29, j 30, j 31, j 32, j 33, j 34, j 35, j 36, j 37, j 38, j 39, j 40, j 41, j 42, j 43, j 44, j 45, j 46, j 47, j 48, j 49, j 50, j 51, j 52, j 53, j 54, j 55, j 56, j 57, j 58, j 59, j 60, j 61, j 62, j 63, j 64, j 65, j 66, j 67, j 68, j 69, j 70, j 71, j 72, j 73, j 74, j 75, j 76, j 77, j 78, j 79, j 80, j 81, j 82, j 83, j 84, j 85, j 86, j 87, j 88, j 89]) (fun i τ => Part key (fun k => decide (k ≤ x)) a e i u x m0 m ∧ u + 1 - i ≤ sz ∧ (u < i ∨ (fun k => decide (k ≤ x)) (ky key m i) = false) ∧ τ = σ.set b (rowE enc m spare)) (fun j i τ hinv => ?_) (fun rest hrest => ?_)
  rotate_left
  · (repeat (first | refine Stp.s ?_ | refine inBlock_exit' (by decide) ?_ | ((first | refine vc_region fun K KP hK hKP => ?_ | refine Stg.s ?_ | refine guardD_ret0 ?_ | refine exV_intro _ rfl ?_); (try simp only [go_sem, loadL_a]); try ((first | refine hK _ _ ?_ | refine hKP _ _ _ ?_ | refine hKP _ _ (fun _ => ?_)); clear hK hKP K KP))))
    refine vc_loop (loopV (fun (i : Nat) => [.sl b 0 m0.length cap, I64 a, I64 e, I64 p, .fn (.func g) ps qs, .top, .top, .top, .top, .top, I64 0, I64 i, I64 u, .top, .top, .top, .top, .top, .top, .top, .top, .top, .top, .top, .top, .top, .top, .top, .top, .top, .top, .top, .top, .top, .top, .top, .top, .top, .top, .top, .top, .top, .top, .top, .top, .top, .top, .top, .top, .top, .top, .top, .top, .top, .top, .top, .top, .top, .top, .top, .top, .top, .top, .top, .top, .top, .top, .top, .top, .top, .top, .top, .top, .top, .top, .top, .top, .top, .top, .top, .top, .top, .top, .top, .top, .top, .top, .top, .top, .top]) (fun i τ => Part key (fun k => decide (k ≤ x)) a e i u x m0 m ∧ u + 1 - i ≤ sz ∧ τ = σ.set b (rowE enc m spare)) (fun i _ => u + 1 - i) i (by repeat (first | exact LeEnv.nil | refine LeEnv.same ?_ | refine LeEnv.top ?_)) ⟨hP, hM, rfl⟩ ?_)
    clear hP hM
    rintro i τ ⟨hP, hM, rfl⟩
    have i1 := hP.i1
    have ij := hP.ij
    have j1 := hP.j1
    (repeat (first | refine Stp.s ?_ | refine inBlock_exit' (by decide) ?_ | ((first | refine vc_region fun K KP hK hKP => ?_ | refine Stg.s ?_ | refine guardD_ret0 ?_ | refine exV_intro _ rfl ?_); (try simp only [go_sem, loadL_a]); try ((first | refine hK _ _ ?_ | refine hKP _ _ _ ?_ | refine hKP _ _ (fun _ => ?_)); clear hK hKP K KP))))
    rcases Nat.lt_or_ge u i with hji | hji
    · have hd : decide ((i : Int) ≤ (u : Int)) = false := decide_eq_false (by omega)
      ((repeat first | refine Stp.s ?_ | refine inBlock_exit' (by decide) ?_); refine vc_draw mixed [ ] [0, 1, 2, 3, 4, 5, 6, 7, 8, 9, 10, 11, 12, 13, 14, 15, 16 ] [ 8, 12, 13 ] [] (fun _ => True) (by kernel_rfl) (by kernel_rfl) (by kernel_rfl) trivial fun K KP hK hKP => ?_; simp only [go_sem, hd]; try (refine hK _ _ ?_; clear hK hKP K KP))
      ((try simp only [go_sem, loadL_a, hd]); (try ((first | refine hK _ _ ?_ | refine hKP _ _ _ ?_ | refine hKP _ _ (fun _ => ?_)); clear hK hKP K KP)); repeat (first | refine Stp.s ?_ | refine inBlock_exit' (by decide) ?_ | ((first | refine vc_region fun K KP hK hKP => ?_ | refine Stg.s ?_ | refine guardD_ret0 ?_ | refine exV_intro _ rfl ?_); (try simp only [go_sem, loadL_a, hd]); try ((first | refine hK _ _ ?_ | refine hKP _ _ _ ?_ | refine hKP _ _ (fun _ => ?_)); clear hK hKP K KP))))
      refine vc_cond rfl (fun hq => by cases hq) (fun _ => ?_)
      (repeat (first | refine Stp.s ?_ | refine inBlock_exit' (by decide) ?_ | ((first | refine vc_region fun K KP hK hKP => ?_ | refine Stg.s ?_ | refine guardD_ret0 ?_ | refine exV_intro _ rfl ?_); (try simp only [go_sem, loadL_a]); try ((first | refine hK _ _ ?_ | refine hKP _ _ _ ?_ | refine hKP _ _ (fun _ => ?_)); clear hK hKP K KP))))
      exact hrest i _ _ ⟨hP, hM, .inl hji, rfl⟩ rfl
    · have hd : decide ((i : Int) ≤ (u : Int)) = true := decide_eq_true (by omega)
      have g1 := eq_true (show (0 : Int) ≤ (i : Int) by omega)
      have g2 := eq_true (show (i : Int) < m0.length by omega)
      have g3 := eq_true (show (0 : Int) ≤ (a : Int) by omega)
      have g4 := eq_true (show (a : Int) < m0.length by omega)
      have r1 := slab_load hE (spare := spare) (show i < m.length by omega)
      have r2 := slab_load hE (spare := spare) (show a < m.length by omega)
      ((repeat first | refine Stp.s ?_ | refine inBlock_exit' (by decide) ?_); refine vc_draw mixed [ ] [0, 1, 2, 3, 4, 5, 6, 7, 8, 9, 10, 11, 12, 13, 14, 15, 16 ] [ 8, 12, 13 ] [] (fun _ => True) (by kernel_rfl) (by kernel_rfl) (by kernel_rfl) trivial fun K KP hK hKP => ?_; simp only [go_sem, g1, g2, g3, g4, hd, Int.toNat_natCast, hbb, r1, r2]; try (refine hK _ _ ?_; clear hK hKP K KP))
      ((try simp only [go_sem, g1, g2, g3, g4, hd, Int.toNat_natCast, hbb, r1, r2]); (try ((first | refine hK _ _ ?_ | refine hKP _ _ _ ?_ | refine hKP _ _ (fun _ => ?_)); clear hK hKP K KP)); repeat (first | refine Stp.s ?_ | refine inBlock_exit' (by decide) ?_ | ((first | refine vc_region fun K KP hK hKP => ?_ | refine Stg.s ?_ | refine guardD_ret0 ?_ | refine exV_intro _ rfl ?_); (try simp only [go_sem, g1, g2, g3, g4, hd, Int.toNat_natCast, hbb, r1, r2]); try ((first | refine hK _ _ ?_ | refine hKP _ _ _ ?_ | refine hKP _ _ (fun _ => ?_)); clear hK hKP K KP))))
      ((try simp only [go_sem, loadL_a]); first | refine guardD_q0 (fun _ => callV_pure (hC.call _ _) ⟨rfl, rfl⟩) ?_ | refine guardD_q0 (fun _ _ => callV_pure (hC.call _ _) ⟨rfl, rfl⟩) ?_)
      ((try simp only [go_sem, g1, g2, g3, g4, hd, Int.toNat_natCast, hbb, r1, r2]); (try ((first | refine hK _ _ ?_ | refine hKP _ _ _ ?_ | refine hKP _ _ (fun _ => ?_)); clear hK hKP K KP)); repeat (first | refine Stp.s ?_ | refine inBlock_exit' (by decide) ?_ | ((first | refine vc_region fun K KP hK hKP => ?_ | refine Stg.s ?_ | refine guardD_ret0 ?_ | refine exV_intro _ rfl ?_); (try simp only [go_sem, g1, g2, g3, g4, hd, Int.toNat_natCast, hbb, r1, r2]); try ((first | refine hK _ _ ?_ | refine hKP _ _ _ ?_ | refine hKP _ _ (fun _ => ?_)); clear hK hKP K KP))))
      refine vc_cond rfl (fun hq => ?_) (fun hq => ?_)
      · have w5 := i64_up (show i ≤ 10000000 by omega)
        (repeat (first | refine Stp.s ?_ | refine inBlock_exit' (by decide) ?_ | ((first | refine vc_region fun K KP hK hKP => ?_ | refine Stg.s ?_ | refine guardD_ret0 ?_ | refine exV_intro _ rfl ?_); (try simp only [go_sem, loadL_a, w5]); try ((first | refine hK _ _ ?_ | refine hKP _ _ _ ?_ | refine hKP _ _ (fun _ => ?_)); clear hK hKP K KP))))
        exact ⟨i + 1, _, (by repeat (first | exact LeEnv.nil | refine LeEnv.same ?_ | refine LeEnv.top ?_)), Store.le_refl _, ⟨hP.up key hji (by have q2 : ¬ ky key m a < ky key m i := (fun h => by rw [decide_eq_true ((hC.lt _ _).2 h)] at hq; cases hq); rw [hP.at_] at q2; simpa using q2), by omega, rfl⟩, by show u + 1 - (i + 1) < u + 1 - i; omega⟩
      · (repeat (first | refine Stp.s ?_ | refine inBlock_exit' (by decide) ?_ | ((first | refine vc_region fun K KP hK hKP => ?_ | refine Stg.s ?_ | refine guardD_ret0 ?_ | refine exV_intro _ rfl ?_); (try simp only [go_sem, loadL_a]); try ((first | refine hK _ _ ?_ | refine hKP _ _ _ ?_ | refine hKP _ _ (fun _ => ?_)); clear hK hKP K KP))))
        exact hrest i _ _ ⟨hP, hM, .inr (by have q2 : ky key m a < ky key m i := (hC.lt _ _).1 (by simpa using hq); rw [hP.at_] at q2; simpa using q2), rfl⟩ rfl
  obtain ⟨hP, hM, hx, rfl⟩ := hinv
  refine vc_join (fun j (u : Nat) => [.sl b 0 m0.length cap, I64 a, I64 e, I64 p, .fn (.func g) ps qs, j 5, j 6, j 7, j 8, j 9, I64 0, I64 i, I64 u, j 13, j 14, j 15, j 16, j 17, j 18, j 19, j 20, j 21, j 22, j 23, j 24, j 25, j 26, j 27, j 28, j 29, j 30, j 31, j 32, j 33, j 34, j 35, j 36, j 37, j 38, j 39, j 40, j 41, j 42, j 43, j 44, j 45, j 46, j 47, j 48, j 49, j 50, j 51, j 52, j 53, j 54, j 55, j 56, j 57, j 58, j 59, j 60, j 61, j 62, j 63, j 64, j 65, j 66, j 67, j 68, j 69, j 70, j 71, j 72, j 73, j 74, j 75, j 76, j 77, j 78, j 79, j 80, j 81, j 82, j 83, j 84, j 85, j 86, j 87, j 88, j 89]) (fun u τ => Part key (fun k => decide (k ≤ x)) a e i u x m0 m ∧ u + 1 - i ≤ sz ∧ (u < i ∨ (fun k => decide (k ≤ x)) (ky key m i) = false) ∧ (u < i ∨ (fun k => decide (k ≤ x)) (ky key m u) = true) ∧ τ = σ.set b (rowE enc m spare)) (fun j u τ hinv => ?_) (fun rest hrest => ?_)
  rotate_left
  · (repeat (first | refine Stp.s ?_ | refine inBlock_exit' (by decide) ?_ | ((first | refine vc_region fun K KP hK hKP => ?_ | refine Stg.s ?_ | refine guardD_ret0 ?_ | refine exV_intro _ rfl ?_); (try simp only [go_sem, loadL_a]); try ((first | refine hK _ _ ?_ | refine hKP _ _ _ ?_ | refine hKP _ _ (fun _ => ?_)); clear hK hKP K KP))))
    refine vc_loop (loopV (fun (u : Nat) => [.sl b 0 m0.length cap, I64 a, I64 e, I64 p, .fn (.func g) ps qs, .top, .top, .top, .top, .top, I64 0, I64 i, I64 u, .top, .top, .top, .top, .top, .top, .top, .top, .top, .top, .top, .top, .top, .top, .top, .top, .top, .top, .top, .top, .top, .top, .top, .top, .top, .top, .top, .top, .top, .top, .top, .top, .top, .top, .top, .top, .top, .top, .top, .top, .top, .top, .top, .top, .top, .top, .top, .top, .top, .top, .top, .top, .top, .top, .top, .top, .top, .top, .top, .top, .top, .top, .top, .top, .top, .top, .top, .top, .top, .top, .top, .top, .top, .top, .top, .top, .top]) (fun u τ => Part key (fun k => decide (k ≤ x)) a e i u x m0 m ∧ u + 1 - i ≤ sz ∧ (u < i ∨ (fun k => decide (k ≤ x)) (ky key m i) = false) ∧ τ = σ.set b (rowE enc m spare)) (fun u _ => u) u (by repeat (first | exact LeEnv.nil | refine LeEnv.same ?_ | refine LeEnv.top ?_)) ⟨hP, hM, hx, rfl⟩ ?_)
    clear hP hM hx
    rintro u τ ⟨hP, hM, hx, rfl⟩
    have i1 := hP.i1
    have ij := hP.ij
    have j1 := hP.j1
    (repeat (first | refine Stp.s ?_ | refine inBlock_exit' (by decide) ?_ | ((first | refine vc_region fun K KP hK hKP => ?_ | refine Stg.s ?_ | refine guardD_ret0 ?_ | refine exV_intro _ rfl ?_); (try simp only [go_sem, loadL_a]); try ((first | refine hK _ _ ?_ | refine hKP _ _ _ ?_ | refine hKP _ _ (fun _ => ?_)); clear hK hKP K KP))))
    rcases Nat.lt_or_ge u i with hji | hji
    · have hd : decide ((i : Int) ≤ (u : Int)) = false := decide_eq_false (by omega)
      ((repeat first | refine Stp.s ?_ | refine inBlock_exit' (by decide) ?_); refine vc_draw mixed [ ] [0, 1, 2, 3, 4, 5, 6, 7, 8, 9, 10, 11, 12, 13, 14, 15 ] [ 8, 12, 13 ] [] (fun _ => True) (by kernel_rfl) (by kernel_rfl) (by kernel_rfl) trivial fun K KP hK hKP => ?_; simp only [go_sem, hd]; try (refine hK _ _ ?_; clear hK hKP K KP))
      ((try simp only [go_sem, loadL_a, hd]); (try ((first | refine hK _ _ ?_ | refine hKP _ _ _ ?_ | refine hKP _ _ (fun _ => ?_)); clear hK hKP K KP)); repeat (first | refine Stp.s ?_ | refine inBlock_exit' (by decide) ?_ | ((first | refine vc_region fun K KP hK hKP => ?_ | refine Stg.s ?_ | refine guardD_ret0 ?_ | refine exV_intro _ rfl ?_); (try simp only [go_sem, loadL_a, hd]); try ((first | refine hK _ _ ?_ | refine hKP _ _ _ ?_ | refine hKP _ _ (fun _ => ?_)); clear hK hKP K KP))))
      refine vc_cond rfl (fun hq => by cases hq) (fun _ => ?_)
      (repeat (first | refine Stp.s ?_ | refine inBlock_exit' (by decide) ?_ | ((first | refine vc_region fun K KP hK hKP => ?_ | refine Stg.s ?_ | refine guardD_ret0 ?_ | refine exV_intro _ rfl ?_); (try simp only [go_sem, loadL_a]); try ((first | refine hK _ _ ?_ | refine hKP _ _ _ ?_ | refine hKP _ _ (fun _ => ?_)); clear hK hKP K KP))))
      exact hrest u _ _ ⟨hP, hM, hx, .inl hji, rfl⟩ rfl
    · have hd : decide ((i : Int) ≤ (u : Int)) = true := decide_eq_true (by omega)
      have g1 := eq_true (show (0 : Int) ≤ (u : Int) by omega)
      have g2 := eq_true (show (u : Int) < m0.length by omega)
      have g3 := eq_true (show (0 : Int) ≤ (a : Int) by omega)
      have g4 := eq_true (show (a : Int) < m0.length by omega)
      have r1 := slab_load hE (spare := spare) (show u < m.length by omega)
      have r2 := slab_load hE (spare := spare) (show a < m.length by omega)
      ((repeat first | refine Stp.s ?_ | refine inBlock_exit' (by decide) ?_); refine vc_draw mixed [ ] [0, 1, 2, 3, 4, 5, 6, 7, 8, 9, 10, 11, 12, 13, 14, 15 ] [ 8, 12, 13 ] [] (fun _ => True) (by kernel_rfl) (by kernel_rfl) (by kernel_rfl) trivial fun K KP hK hKP => ?_; simp only [go_sem, g1, g2, g3, g4, hd, Int.toNat_natCast, hbb, r1, r2]; try (refine hK _ _ ?_; clear hK hKP K KP))
      ((try simp only [go_sem, g1, g2, g3, g4, hd, Int.toNat_natCast, hbb, r1, r2]); (try ((first | refine hK _ _ ?_ | refine hKP _ _ _ ?_ | refine hKP _ _ (fun _ => ?_)); clear hK hKP K KP)); repeat (first | refine Stp.s ?_ | refine inBlock_exit' (by decide) ?_ | ((first | refine vc_region fun K KP hK hKP => ?_ | refine Stg.s ?_ | refine guardD_ret0 ?_ | refine exV_intro _ rfl ?_); (try simp only [go_sem, g1, g2, g3, g4, hd, Int.toNat_natCast, hbb, r1, r2]); try ((first | refine hK _ _ ?_ | refine hKP _ _ _ ?_ | refine hKP _ _ (fun _ => ?_)); clear hK hKP K KP))))
      ((try simp only [go_sem, loadL_a]); first | refine guardD_q0 (fun _ => callV_pure (hC.call _ _) ⟨rfl, rfl⟩) ?_ | refine guardD_q0 (fun _ _ => callV_pure (hC.call _ _) ⟨rfl, rfl⟩) ?_)
      ((try simp only [go_sem, g1, g2, g3, g4, hd, Int.toNat_natCast, hbb, r1, r2]); (try ((first | refine hK _ _ ?_ | refine hKP _ _ _ ?_ | refine hKP _ _ (fun _ => ?_)); clear hK hKP K KP)); repeat (first | refine Stp.s ?_ | refine inBlock_exit' (by decide) ?_ | ((first | refine vc_region fun K KP hK hKP => ?_ | refine Stg.s ?_ | refine guardD_ret0 ?_ | refine exV_intro _ rfl ?_); (try simp only [go_sem, g1, g2, g3, g4, hd, Int.toNat_natCast, hbb, r1, r2]); try ((first | refine hK _ _ ?_ | refine hKP _ _ _ ?_ | refine hKP _ _ (fun _ => ?_)); clear hK hKP K KP))))
      refine vc_cond rfl (fun hq => ?_) (fun hq => ?_)
      · have w5 := i64_minus (show u ≤ 10000000 by omega) (show 1 ≤ u by omega)
        (repeat (first | refine Stp.s ?_ | refine inBlock_exit' (by decide) ?_ | ((first | refine vc_region fun K KP hK hKP => ?_ | refine Stg.s ?_ | refine guardD_ret0 ?_ | refine exV_intro _ rfl ?_); (try simp only [go_sem, loadL_a, nc1 ▸ w5]); try ((first | refine hK _ _ ?_ | refine hKP _ _ _ ?_ | refine hKP _ _ (fun _ => ?_)); clear hK hKP K KP))))
        exact ⟨u - 1, _, (by repeat (first | exact LeEnv.nil | refine LeEnv.same ?_ | refine LeEnv.top ?_)), Store.le_refl _, ⟨hP.down key hji (by have q2 : ky key m a < ky key m u := (hC.lt _ _).1 (by simpa using hq); rw [hP.at_] at q2; simpa using q2), by omega, hx.imp (fun h => by omega) id, rfl⟩, by show u - 1 < u; omega⟩
      · (repeat (first | refine Stp.s ?_ | refine inBlock_exit' (by decide) ?_ | ((first | refine vc_region fun K KP hK hKP => ?_ | refine Stg.s ?_ | refine guardD_ret0 ?_ | refine exV_intro _ rfl ?_); (try simp only [go_sem, loadL_a]); try ((first | refine hK _ _ ?_ | refine hKP _ _ _ ?_ | refine hKP _ _ (fun _ => ?_)); clear hK hKP K KP))))
        exact hrest u _ _ ⟨hP, hM, hx, .inr (by have q2 : ¬ ky key m a < ky key m u := (fun h => by rw [decide_eq_true ((hC.lt _ _).2 h)] at hq; cases hq); rw [hP.at_] at q2; simpa using q2), rfl⟩ rfl
  obtain ⟨hP, hM, hx, hy, rfl⟩ := hinv
  have i1 := hP.i1
  have ij := hP.ij
  have j1 := hP.j1
  (repeat (first | refine Stp.s ?_ | refine inBlock_exit' (by decide) ?_ | ((first | refine vc_region fun K KP hK hKP => ?_ | refine Stg.s ?_ | refine guardD_ret0 ?_ | refine exV_intro _ rfl ?_); (try simp only [go_sem, loadL_a]); try ((first | refine hK _ _ ?_ | refine hKP _ _ _ ?_ | refine hKP _ _ (fun _ => ?_)); clear hK hKP K KP))))
  refine vc_cond rfl (fun hq => ?_) (fun hq => ?_)
  · have hji : u < i := by simp at hq; omega
    have d1 := hP.doneE key
    (repeat (first | refine Stp.s ?_ | refine inBlock_exit' (by decide) ?_ | ((first | refine vc_region fun K KP hK hKP => ?_ | refine Stg.s ?_ | refine guardD_ret0 ?_ | refine exV_intro _ rfl ?_); (try simp only [go_sem, loadL_a]); try ((first | refine hK _ _ ?_ | refine hKP _ _ _ ?_ | refine hKP _ _ (fun _ => ?_)); clear hK hKP K KP))))
    (simp only [postV, resV, oneOf, List.getD_cons_succ, List.getD_cons_zero, and_true, true_and])
    exact ⟨i, m, rfl, hP.w, ⟨by omega, by omega⟩, d1, rfl⟩
  have hji : i ≤ u := by simp at hq; omega
  have g3 := eq_true (show (0 : Int) ≤ (u : Int) by omega)
  have g4 := eq_true (show (u : Int) < m0.length by omega)
  have g5 := eq_true (show (0 : Int) ≤ (i : Int) by omega)
  have g6 := eq_true (show (i : Int) < m0.length by omega)
  have r2 := slab_load hE (spare := spare) (show u < m.length by omega)
  have r3 := slab_load hE (spare := spare) (show i < m.length by omega)
  have hP := hP.swap key he hji (hx.resolve_left (by omega)) (hy.resolve_left (by omega))
  have w1 := i64_up (show i ≤ 10000000 by omega)
  have w2 := i64_minus (show u ≤ 10000000 by omega) (show 1 ≤ u by omega)
  (repeat (first | refine Stp.s ?_ | refine inBlock_exit' (by decide) ?_ | ((first | refine vc_region fun K KP hK hKP => ?_ | refine Stg.s ?_ | refine guardD_ret0 ?_ | refine exV_intro _ rfl ?_); (try simp only [go_sem, loadL_a]); try ((first | refine hK _ _ ?_ | refine hKP _ _ _ ?_ | refine hKP _ _ (fun _ => ?_)); clear hK hKP K KP))))
  ((repeat first | refine Stp.s ?_ | refine inBlock_exit' (by decide) ?_); refine vc_draw mixed [ 13, 15 ] [0, 1, 2, 3, 4, 5, 6, 7, 8, 9, 10, 11, 12, 13, 14, 15 ] [ 7, 11 ] [] (fun _ => True) (by kernel_rfl) (by kernel_rfl) (by kernel_rfl) trivial fun K KP hK hKP => ?_; simp only [go_sem, g3, g4, g5, g6, Int.toNat_natCast, hbb, r2, r3]; try (refine hK _ _ ?_; clear hK hKP K KP))
  ((try simp only [go_sem, g3, g4, g5, g6, Int.toNat_natCast, hbb, r2, r3]); (try ((first | refine hK _ _ ?_ | refine hKP _ _ _ ?_ | refine hKP _ _ (fun _ => ?_)); clear hK hKP K KP)); repeat (first | refine Stp.s ?_ | refine inBlock_exit' (by decide) ?_ | ((first | refine vc_region fun K KP hK hKP => ?_ | refine Stg.s ?_ | refine guardD_ret0 ?_ | refine exV_intro _ rfl ?_); (try simp only [go_sem, g3, g4, g5, g6, Int.toNat_natCast, hbb, r2, r3]); try ((first | refine hK _ _ ?_ | refine hKP _ _ _ ?_ | refine hKP _ _ (fun _ => ?_)); clear hK hKP K KP))))
  refine ⟨hE.len _, hE.one _, rowE_room1 hE m spare _ _ (by omega), effV_true ⟨hE.len _, hE.one _, rowE_room2 hE m spare _ _ _ _ (by omega), ?_⟩⟩
  rw [rowE_swp hE spare m _ _ (by omega) (by omega)]
  ((try simp only [go_sem, Store.set_set, w1, nc1 ▸ w2]); (try ((first | refine hK _ _ ?_ | refine hKP _ _ _ ?_ | refine hKP _ _ (fun _ => ?_)); clear hK hKP K KP)); repeat (first | refine Stp.s ?_ | refine inBlock_exit' (by decide) ?_ | ((first | refine vc_region fun K KP hK hKP => ?_ | refine Stg.s ?_ | refine guardD_ret0 ?_ | refine exV_intro _ rfl ?_); (try simp only [go_sem, Store.set_set, w1, nc1 ▸ w2]); try ((first | refine hK _ _ ?_ | refine hKP _ _ _ ?_ | refine hKP _ _ (fun _ => ?_)); clear hK hKP K KP))))
  exact ⟨(i + 1, u - 1, swp m i u), _, (by repeat (first | exact LeEnv.nil | refine LeEnv.same ?_ | refine LeEnv.top ?_)), Store.le_refl _, ⟨hP, rfl⟩, Nat.lt_of_lt_of_eq (show u - 1 + 1 - (i + 1) < sz by omega) hsz⟩


end

end Go.Proofs.YtociliegljoldaaGreat
