/- Numbers that sorting draws. -/
import Derived.Test.YtociliegljoldaaGreatS2
namespace Go.Proofs.YtociliegljoldaaGreat
set_option linter.unusedSimpArgs false
set_option linter.unusedVariables false
open Go.Proofs
attribute [local irreducible] vc vcOps vcDraw vcK vcKP vcDK vcDB HWp HCalls postV Ex.then Ex.inBlock stepD callV appendV guardC guardD exV effV opV loadV storeV indexAddrV indexV sliceV
set_option maxRecDepth 10000
set_option maxHeartbeats 4000000

/-- How many bits a number has. -/
def lenN (n : Nat) : Nat := if n = 0 then 0 else Nat.log2 n + 1
theorem lenN_spec (n : Nat) (h : n < 256) : n < 2 ^ lenN n ∧ lenN n ≤ 8 ∧ (0 < n → 2 ^ lenN n ≤ 2 * n) := by
  revert n; decide +kernel
theorem len64b (n : Nat) (h : n < 256) : HPure Tryz.prog 207 [.val (.int .u64 n)] (I64 (lenN n)) := by
  (refine HPure.of en207 fun σ => ?_); (refine HCalls.of_vc Tryz.func207 rfl ?_; rw [Tryz.ntmps207, Tryz.results207]; simp only [List.length_cons, List.length_nil, Nat.reduceAdd, Nat.reduceSub, List.replicate, List.cons_append, List.nil_append])
  (repeat (first | refine Stp.s ?_ | refine inBlock_exit' (by decide) ?_ | ((first | refine vc_region fun K KP hK hKP => ?_ | refine Stg.s ?_ | refine guardD_ret0 ?_ | refine exV_intro _ rfl ?_); (try simp only [go_sem, loadL_a]); try ((first | refine hK _ _ ?_ | refine hKP _ _ _ ?_ | refine hKP _ _ (fun _ => ?_)); clear hK hKP K KP))))
  refine vc_cond rfl (fun hc => absurd hc (by simp; omega)) (fun _ => ?_)
  (repeat (first | refine Stp.s ?_ | refine inBlock_exit' (by decide) ?_ | ((first | refine vc_region fun K KP hK hKP => ?_ | refine Stg.s ?_ | refine guardD_ret0 ?_ | refine exV_intro _ rfl ?_); (try simp only [go_sem, loadL_a]); try ((first | refine hK _ _ ?_ | refine hKP _ _ _ ?_ | refine hKP _ _ (fun _ => ?_)); clear hK hKP K KP))))
  refine vc_cond rfl (fun hc => absurd hc (by simp; omega)) (fun _ => ?_)
  (repeat (first | refine Stp.s ?_ | refine inBlock_exit' (by decide) ?_ | ((first | refine vc_region fun K KP hK hKP => ?_ | refine Stg.s ?_ | refine guardD_ret0 ?_ | refine exV_intro _ rfl ?_); (try simp only [go_sem, loadL_a]); try ((first | refine hK _ _ ?_ | refine hKP _ _ _ ?_ | refine hKP _ _ (fun _ => ?_)); clear hK hKP K KP))))
  refine vc_cond rfl (fun hc => absurd hc (by simp; omega)) (fun _ => ?_)
  (repeat (first | refine Stp.s ?_ | refine inBlock_exit' (by decide) ?_ | ((first | refine vc_region fun K KP hK hKP => ?_ | refine Stg.s ?_ | refine guardD_ret0 ?_ | refine exV_intro _ rfl ?_); (try simp only [go_sem, loadL_a, u8_in (show (0:Int) ≤ n by omega) (by omega)]); try ((first | refine hK _ _ ?_ | refine hKP _ _ _ ?_ | refine hKP _ _ (fun _ => ?_)); clear hK hKP K KP))))
  refine ⟨by omega, Int.lt_of_lt_of_le (b := ((256 : Nat) : Int)) (by omega) (Int.ofNat_le.2 (Nat.le_of_eq (by kernel_rfl))), ?_⟩
  ((try simp only [go_sem, loadL_a]); refine hK _ _ ?_; clear hK hKP K KP; repeat (first | refine Stp.s ?_ | refine inBlock_exit' (by decide) ?_ | ((first | refine vc_region fun K KP hK hKP => ?_ | refine Stg.s ?_ | refine guardD_ret0 ?_ | refine exV_intro _ rfl ?_); (try simp only [go_sem, loadL_a]); try ((first | refine hK _ _ ?_ | refine hKP _ _ _ ?_ | refine hKP _ _ (fun _ => ?_)); clear hK hKP K KP))))
  (simp only [postV, resV, oneOf, List.getD_cons_succ, List.getD_cons_zero, and_true, true_and])
  refine Ends.le (congrArg I64 ?_) (Store.le_refl _)
  revert n
  decide +kernel
theorem lenb (n : Nat) (h : n < 256) : HPure Tryz.prog 158 [.val (.int .u64 n)] (I64 (lenN n)) := by
  (refine HPure.of en158 fun σ => ?_); (refine HCalls.of_vc Tryz.func158 rfl ?_; rw [Tryz.ntmps158, Tryz.results158]; simp only [List.length_cons, List.length_nil, Nat.reduceAdd, Nat.reduceSub, List.replicate, List.cons_append, List.nil_append])
  (repeat (first | refine Stp.s ?_ | refine inBlock_exit' (by decide) ?_ | ((first | refine vc_region fun K KP hK hKP => ?_ | refine Stg.s ?_ | refine guardD_ret0 ?_ | refine exV_intro _ rfl ?_); (try simp only [go_sem, loadL_a]); try ((first | refine hK _ _ ?_ | refine hKP _ _ _ ?_ | refine hKP _ _ (fun _ => ?_)); clear hK hKP K KP))))
  refine vc_cond rfl (fun hc => absurd hc (by simp)) (fun _ => ?_)
  (repeat (first | refine Stp.s ?_ | refine inBlock_exit' (by decide) ?_ | ((first | refine vc_region fun K KP hK hKP => ?_ | refine Stg.s ?_ | refine guardD_ret0 ?_ | refine exV_intro _ rfl ?_); (try simp only [go_sem, loadL_a]); try ((first | refine hK _ _ ?_ | refine hKP _ _ _ ?_ | refine hKP _ _ (fun _ => ?_)); clear hK hKP K KP))))
  ((try simp only [go_sem, loadL_a]); first | refine callV_pure (len64b n h) ?_ | refine guardC_q0 (fun _ => callV_pure (len64b n h) ⟨rfl, rfl⟩) ?_)
  ((try simp only [go_sem, loadL_a]); (try ((first | refine hK _ _ ?_ | refine hKP _ _ _ ?_ | refine hKP _ _ (fun _ => ?_)); clear hK hKP K KP)); repeat (first | refine Stp.s ?_ | refine inBlock_exit' (by decide) ?_ | ((first | refine vc_region fun K KP hK hKP => ?_ | refine Stg.s ?_ | refine guardD_ret0 ?_ | refine exV_intro _ rfl ?_); (try simp only [go_sem, loadL_a]); try ((first | refine hK _ _ ?_ | refine hKP _ _ _ ?_ | refine hKP _ _ (fun _ => ?_)); clear hK hKP K KP))))
  (simp only [postV, resV, oneOf, List.getD_cons_succ, List.getD_cons_zero, and_true, true_and])
  exact Ends.le rfl (Store.le_refl _)
theorem npow_pure (n : Nat) (h : n < 256) : HPure Tryz.prog 249 [I64 n] (U64 (2 ^ lenN n)) := by
  (refine HPure.of en249 fun σ => ?_); (refine HCalls.of_vc Tryz.func249 rfl ?_; rw [Tryz.ntmps249, Tryz.results249]; simp only [List.length_cons, List.length_nil, Nat.reduceAdd, Nat.reduceSub, List.replicate, List.cons_append, List.nil_append])
  have hs := lenN_spec n h
  have wu : IntKind.u64.wrap (n : Int) = ((n : Nat) : Int) := u64_in (by omega) (by omega)
  have wp : IntKind.u64.wrap (1 * (2 : Int) ^ min (lenN n) 64) = ((2 ^ lenN n : Nat) : Int) := by
    rw [Nat.min_eq_left (by omega), Int.one_mul]
    have : 2 ^ lenN n ≤ 2 ^ 8 := Nat.pow_le_pow_right (by decide) hs.2.1
    rw [u64_in (by exact Int.le_of_lt (Int.pow_pos (by decide))) (by
      have : ((2 : Int) ^ lenN n) = ((2 ^ lenN n : Nat) : Int) := by rw [Int.natCast_pow]; rfl
      omega)]
    rw [Int.natCast_pow]; rfl
  (repeat (first | refine Stp.s ?_ | refine inBlock_exit' (by decide) ?_ | ((first | refine vc_region fun K KP hK hKP => ?_ | refine Stg.s ?_ | refine guardD_ret0 ?_ | refine exV_intro _ rfl ?_); (try simp only [go_sem, loadL_a, wu]); try ((first | refine hK _ _ ?_ | refine hKP _ _ _ ?_ | refine hKP _ _ (fun _ => ?_)); clear hK hKP K KP))))
  ((try simp only [go_sem, loadL_a]); first | refine callV_pure (lenb n h) ?_ | refine guardC_q0 (fun _ => callV_pure (lenb n h) ⟨rfl, rfl⟩) ?_)
  ((try simp only [go_sem, loadL_a, Int.toNat_natCast, wp]); (try ((first | refine hK _ _ ?_ | refine hKP _ _ _ ?_ | refine hKP _ _ (fun _ => ?_)); clear hK hKP K KP)); repeat (first | refine Stp.s ?_ | refine inBlock_exit' (by decide) ?_ | ((first | refine vc_region fun K KP hK hKP => ?_ | refine Stg.s ?_ | refine guardD_ret0 ?_ | refine exV_intro _ rfl ?_); (try simp only [go_sem, loadL_a, Int.toNat_natCast, wp]); try ((first | refine hK _ _ ?_ | refine hKP _ _ _ ?_ | refine hKP _ _ (fun _ => ?_)); clear hK hKP K KP))))
  refine ⟨by omega, ?_⟩
  ((try simp only [go_sem, loadL_a]); refine hK _ _ ?_; clear hK hKP K KP; repeat (first | refine Stp.s ?_ | refine inBlock_exit' (by decide) ?_ | ((first | refine vc_region fun K KP hK hKP => ?_ | refine Stg.s ?_ | refine guardD_ret0 ?_ | refine exV_intro _ rfl ?_); (try simp only [go_sem, loadL_a]); try ((first | refine hK _ _ ?_ | refine hKP _ _ _ ?_ | refine hKP _ _ (fun _ => ?_)); clear hK hKP K KP))))
  (simp only [postV, resV, oneOf, List.getD_cons_succ, List.getD_cons_zero, and_true, true_and])
  exact Ends.le rfl (Store.le_refl _)
theorem xnext (c : Nat) (z : Int) (σ : Store) (hc : σ c = some (.cells [.val (.int .u64 z)])) : HCalls Tryz.prog 250 [.ptr c 0] σ (fun r σ' => ∃ z2 : Int, r = .ret (.val (.int .u64 z2)) ∧ σ' = σ.set c (.cells [.val (.int .u64 z2)])) := by
  (refine HCalls.of_vc Tryz.func250 rfl ?_; rw [Tryz.ntmps250, Tryz.results250]; simp only [List.length_cons, List.length_nil, Nat.reduceAdd, Nat.reduceSub, List.replicate, List.cons_append, List.nil_append])
  have hcc := fun x => Store.set_same σ c (.cells [.val (.int .u64 x)])
  (repeat (first | refine Stp.s ?_ | refine inBlock_exit' (by decide) ?_ | ((first | refine vc_region fun K KP hK hKP => ?_ | refine Stg.s ?_ | refine guardD_ret0 ?_ | refine exV_intro _ rfl ?_); (try simp only [go_sem, loadL_a]); try ((first | refine hK _ _ ?_ | refine hKP _ _ _ ?_ | refine hKP _ _ (fun _ => ?_)); clear hK hKP K KP))))
  ((repeat first | refine Stp.s ?_ | refine inBlock_exit' (by decide) ?_); refine vc_draw mixed [ 9 ] [0, 1, 2, 3, 4, 5, 6, 7, 8, 9 ] [ 2, 5 ] [] (fun _ => True) (by kernel_rfl) (by kernel_rfl) (by kernel_rfl) trivial fun K KP hK hKP => ?_; simp only [go_sem, loadL_a, hc]; try (refine hK _ _ ?_; clear hK hKP K KP))
  ((try simp only [go_sem, loadL_a, hc]); (try ((first | refine hK _ _ ?_ | refine hKP _ _ _ ?_ | refine hKP _ _ (fun _ => ?_)); clear hK hKP K KP)); repeat (first | refine Stp.s ?_ | refine inBlock_exit' (by decide) ?_ | ((first | refine vc_region fun K KP hK hKP => ?_ | refine Stg.s ?_ | refine guardD_ret0 ?_ | refine exV_intro _ rfl ?_); (try simp only [go_sem, loadL_a, hc]); try ((first | refine hK _ _ ?_ | refine hKP _ _ _ ?_ | refine hKP _ _ (fun _ => ?_)); clear hK hKP K KP))))
  refine exV_intro _ ⟨by decide, rfl⟩ ?_
  ((try simp only [go_sem, loadL_a, hc]); (try ((first | refine hK _ _ ?_ | refine hKP _ _ _ ?_ | refine hKP _ _ (fun _ => ?_)); clear hK hKP K KP)); repeat (first | refine Stp.s ?_ | refine inBlock_exit' (by decide) ?_ | ((first | refine vc_region fun K KP hK hKP => ?_ | refine Stg.s ?_ | refine guardD_ret0 ?_ | refine exV_intro _ rfl ?_); (try simp only [go_sem, loadL_a, hc]); try ((first | refine hK _ _ ?_ | refine hKP _ _ _ ?_ | refine hKP _ _ (fun _ => ?_)); clear hK hKP K KP))))
  generalize IntKind.u64.wrap (xorI .u64 _ _) = z1
  ((repeat first | refine Stp.s ?_ | refine inBlock_exit' (by decide) ?_); refine vc_draw mixed [ 9 ] [0, 1, 2, 3, 4, 5, 6, 7, 8, 9 ] [ 2, 5 ] [] (fun _ => True) (by kernel_rfl) (by kernel_rfl) (by kernel_rfl) trivial fun K KP hK hKP => ?_; simp only [go_sem, loadL_a, hcc]; try (refine hK _ _ ?_; clear hK hKP K KP))
  ((try simp only [go_sem, loadL_a, hcc]); (try ((first | refine hK _ _ ?_ | refine hKP _ _ _ ?_ | refine hKP _ _ (fun _ => ?_)); clear hK hKP K KP)); repeat (first | refine Stp.s ?_ | refine inBlock_exit' (by decide) ?_ | ((first | refine vc_region fun K KP hK hKP => ?_ | refine Stg.s ?_ | refine guardD_ret0 ?_ | refine exV_intro _ rfl ?_); (try simp only [go_sem, loadL_a, hcc]); try ((first | refine hK _ _ ?_ | refine hKP _ _ _ ?_ | refine hKP _ _ (fun _ => ?_)); clear hK hKP K KP))))
  refine exV_intro _ ⟨by decide, rfl⟩ ?_
  ((try simp only [go_sem, loadL_a, hcc]); (try ((first | refine hK _ _ ?_ | refine hKP _ _ _ ?_ | refine hKP _ _ (fun _ => ?_)); clear hK hKP K KP)); repeat (first | refine Stp.s ?_ | refine inBlock_exit' (by decide) ?_ | ((first | refine vc_region fun K KP hK hKP => ?_ | refine Stg.s ?_ | refine guardD_ret0 ?_ | refine exV_intro _ rfl ?_); (try simp only [go_sem, loadL_a, hcc]); try ((first | refine hK _ _ ?_ | refine hKP _ _ _ ?_ | refine hKP _ _ (fun _ => ?_)); clear hK hKP K KP))))
  generalize IntKind.u64.wrap (xorI .u64 _ _) = z2
  ((repeat first | refine Stp.s ?_ | refine inBlock_exit' (by decide) ?_); refine vc_draw mixed [ 9 ] [0, 1, 2, 3, 4, 5, 6, 7, 8, 9 ] [ 2, 5 ] [] (fun _ => True) (by kernel_rfl) (by kernel_rfl) (by kernel_rfl) trivial fun K KP hK hKP => ?_; simp only [go_sem, loadL_a, hcc, Store.set_set]; try (refine hK _ _ ?_; clear hK hKP K KP))
  ((try simp only [go_sem, loadL_a, hcc, Store.set_set]); (try ((first | refine hK _ _ ?_ | refine hKP _ _ _ ?_ | refine hKP _ _ (fun _ => ?_)); clear hK hKP K KP)); repeat (first | refine Stp.s ?_ | refine inBlock_exit' (by decide) ?_ | ((first | refine vc_region fun K KP hK hKP => ?_ | refine Stg.s ?_ | refine guardD_ret0 ?_ | refine exV_intro _ rfl ?_); (try simp only [go_sem, loadL_a, hcc, Store.set_set]); try ((first | refine hK _ _ ?_ | refine hKP _ _ _ ?_ | refine hKP _ _ (fun _ => ?_)); clear hK hKP K KP))))
  refine exV_intro _ ⟨by decide, rfl⟩ ?_
  ((try simp only [go_sem, loadL_a, hcc, Store.set_set]); (try ((first | refine hK _ _ ?_ | refine hKP _ _ _ ?_ | refine hKP _ _ (fun _ => ?_)); clear hK hKP K KP)); repeat (first | refine Stp.s ?_ | refine inBlock_exit' (by decide) ?_ | ((first | refine vc_region fun K KP hK hKP => ?_ | refine Stg.s ?_ | refine guardD_ret0 ?_ | refine exV_intro _ rfl ?_); (try simp only [go_sem, loadL_a, hcc, Store.set_set]); try ((first | refine hK _ _ ?_ | refine hKP _ _ _ ?_ | refine hKP _ _ (fun _ => ?_)); clear hK hKP K KP))))
  (simp only [postV, resV, oneOf, List.getD_cons_succ, List.getD_cons_zero, and_true, true_and])
  exact ⟨_, rfl, rfl⟩
theorem and_pow (z : Int) (n : Nat) (h : n < 256) : ∃ u : Nat, IntKind.u64.wrap (andI .u64 z ((2 ^ lenN n - 1 : Nat) : Int)) = ((u : Nat) : Int) ∧ u < 2 ^ lenN n := by
  obtain ⟨h1, h2, _⟩ := lenN_spec n h
  have hp : 2 ^ lenN n ≤ 2 ^ 8 := Nat.pow_le_pow_right (by decide) h2
  have hpos : 0 < 2 ^ lenN n := Nat.pow_pos (by decide)
  have hle : (BitVec.ofInt 64 z &&& BitVec.ofInt 64 ((2 ^ lenN n - 1 : Nat) : Int)).toNat ≤ 2 ^ lenN n - 1 := by
    rw [BitVec.toNat_and]
    refine Nat.le_trans Nat.and_le_right ?_
    exact Nat.le_of_eq (ofInt_nat (k := .u64) (by show _ < 2 ^ 64; omega))
  refine ⟨_, u64_in (by unfold andI; omega) ?_, ?_⟩
  · unfold andI; show _ ≤ (18446744073709551615 : Int); have : IntKind.u64.bits = 64 := rfl; rw [this]; omega
  · have : IntKind.u64.bits = 64 := rfl
    rw [this]; omega
section
variable {α : Type} [Inhabited α] {enc : α → List V} {key : α → Nat} {cv : α → α → Int} {g : FuncId} {ps qs : List V}
theorem slab_brk (hE : Elt 17 enc) (b cap a e : Nat) (m0 : List α) (spare : List V) (σ : Store) (hb : σ b = some (rowE enc m0 spare)) (hae : a + 12 < e) (he : e ≤ m0.length) (hn : m0.length ≤ 250) :
    HCalls Tryz.prog 200 [.sl b 0 m0.length cap, I64 a, I64 e, .fn (.func g) ps qs] σ (fun r σ' => ∃ m', r = .ret (oneOf []) ∧ WP a e m0 m' ∧ (σ.set b (rowE enc m' spare)).le σ') := by
  (refine HCalls.of_vc Tryz.func200 rfl ?_; rw [Tryz.ntmps200, Tryz.results200]; simp only [List.length_cons, List.length_nil, Nat.reduceAdd, Nat.reduceSub, List.replicate, List.cons_append, List.nil_append])
  have w0 := i64_minus (show e ≤ 10000000 by omega) (show a ≤ e by omega)
  obtain ⟨n, hn2⟩ : ∃ n, n = e - a := ⟨_, rfl⟩
  rw [← hn2] at w0
  have wq : IntKind.i64.wrap ((n : Int).tdiv 4) = ((n / 4 : Nat) : Int) := by rw [Int.tdiv_eq_ediv_of_nonneg (by omega), i64_in (by omega) (by omega)]; omega
  have x2 : IntKind.i64.wrap (((n / 4 : Nat) : Int) * 2) = ((n / 4 * 2 : Nat) : Int) := by rw [i64_in (by omega) (by omega)]; omega
  have y2 := i64_plus (show a ≤ 10000000 by omega) (show n / 4 * 2 ≤ 10000000 by omega)
  have y3 := i64_up (show a + n / 4 * 2 ≤ 10000000 by omega)
  have y4 := i64_minus (show a + n / 4 * 2 ≤ 10000000 by omega) (show 1 ≤ a + n / 4 * 2 by omega)
  have z4 := eq_true (show ¬((4 : Int) = 0) by decide)
  have wu : IntKind.u64.wrap (n : Int) = ((n : Nat) : Int) := u64_in (by omega) (by omega)
  (repeat (first | refine Stp.s ?_ | refine inBlock_exit' (by decide) ?_ | ((first | refine vc_region fun K KP hK hKP => ?_ | refine Stg.s ?_ | refine guardD_ret0 ?_ | refine exV_intro _ rfl ?_); (try simp only [go_sem, loadL_a, w0]); try ((first | refine hK _ _ ?_ | refine hKP _ _ _ ?_ | refine hKP _ _ (fun _ => ?_)); clear hK hKP K KP))))
  refine vc_cond rfl (fun _ => ?_) (fun hq => by simp at hq; omega)
  (repeat (first | refine Stp.s ?_ | refine inBlock_exit' (by decide) ?_ | ((first | refine vc_region fun K KP hK hKP => ?_ | refine Stg.s ?_ | refine guardD_ret0 ?_ | refine exV_intro _ rfl ?_); (try simp only [go_sem, loadL_a, wu]); try ((first | refine hK _ _ ?_ | refine hKP _ _ _ ?_ | refine hKP _ _ (fun _ => ?_)); clear hK hKP K KP))))
  intro c hc
  have hcb : b ≠ c := fun q => by rw [q, hc] at hb; cases hb
  ((try simp only [go_sem, loadL_a, Store.set_same, Store.set_set, wu]); (try ((first | refine hK _ _ ?_ | refine hKP _ _ _ ?_ | refine hKP _ _ (fun _ => ?_)); clear hK hKP K KP)); repeat (first | refine Stp.s ?_ | refine inBlock_exit' (by decide) ?_ | ((first | refine vc_region fun K KP hK hKP => ?_ | refine Stg.s ?_ | refine guardD_ret0 ?_ | refine exV_intro _ rfl ?_); (try simp only [go_sem, loadL_a, Store.set_same, Store.set_set, wu]); try ((first | refine hK _ _ ?_ | refine hKP _ _ _ ?_ | refine hKP _ _ (fun _ => ?_)); clear hK hKP K KP))))
  ((try simp only [go_sem, loadL_a]); first | refine callV_pure (npow_pure n (by omega)) ?_ | refine guardC_q0 (fun _ => callV_pure (npow_pure n (by omega)) ⟨rfl, rfl⟩) ?_)
  ((try simp only [go_sem, loadL_a, wq, x2, y2, y3, z4, nc1 ▸ y4]); (try ((first | refine hK _ _ ?_ | refine hKP _ _ _ ?_ | refine hKP _ _ (fun _ => ?_)); clear hK hKP K KP)); repeat (first | refine Stp.s ?_ | refine inBlock_exit' (by decide) ?_ | ((first | refine vc_region fun K KP hK hKP => ?_ | refine Stg.s ?_ | refine guardD_ret0 ?_ | refine exV_intro _ rfl ?_); (try simp only [go_sem, loadL_a, wq, x2, y2, y3, z4, nc1 ▸ y4]); try ((first | refine hK _ _ ?_ | refine hKP _ _ _ ?_ | refine hKP _ _ (fun _ => ?_)); clear hK hKP K KP))))
  refine vc_loop (loopV (fun (p : Nat × Int × List α) => [.sl b 0 m0.length cap, I64 a, I64 e, .fn (.func g) ps qs, .top, .top, .top, .top, I64 n, .ptr c 0, U64 (2 ^ lenN n), I64 p.1, .top, .top, .top, .top, .top, .top, .top, .top, .top, .top, .top, .top, .top, .top, .top, .top, .top, .top, .top, .top, .top, .top, .top, .top, .top, .top, .top, .top, .top, .top, .top, .top, .top, .top, .top, .top, .top, .top, .top, .top, .top, .top, .top, .top, .top, .top, .top, .top, .top, .top, .top, .top, .top, .top, .top]) (fun p τ => a + n / 4 * 2 - 1 ≤ p.1 ∧ p.1 ≤ a + n / 4 * 2 + 2 ∧ WP a e m0 p.2.2 ∧ τ = (σ.set c (.cells [.val (.int .u64 p.2.1)])).set b (rowE enc p.2.2 spare)) (fun p _ => a + n / 4 * 2 + 2 - p.1) (a + n / 4 * 2 - 1, (n : Int), m0) (by repeat (first | exact LeEnv.nil | refine LeEnv.same ?_ | refine LeEnv.top ?_)) ⟨Nat.le_refl _, by show a + n / 4 * 2 - 1 ≤ _; omega, WP.refl _ _ _, (Store.set_id (by rw [Store.set_other _ _ hcb]; exact hb)).symm⟩ ?_)
  rintro ⟨i, z, m⟩ τ ⟨hi1, hi2, hw, rfl⟩
  simp only at hi1 hi2 hw
  have hml := hw.len
  (repeat (first | refine Stp.s ?_ | refine inBlock_exit' (by decide) ?_ | ((first | refine vc_region fun K KP hK hKP => ?_ | refine Stg.s ?_ | refine guardD_ret0 ?_ | refine exV_intro _ rfl ?_); (try simp only [go_sem, loadL_a, wq, x2, y2, y3, z4]); try ((first | refine hK _ _ ?_ | refine hKP _ _ _ ?_ | refine hKP _ _ (fun _ => ?_)); clear hK hKP K KP))))
  refine vc_cond rfl (fun hq => ?_) (fun hq => ?_)
  · have hi3 : i ≤ a + n / 4 * 2 + 1 := by simp at hq; omega
    have hcc : ((σ.set c (.cells [.val (.int .u64 z)])).set b (rowE enc m spare)) c = some (.cells [.val (.int .u64 z)]) := by rw [Store.set_other _ _ (Ne.symm hcb), Store.set_same]
    (repeat (first | refine Stp.s ?_ | refine inBlock_exit' (by decide) ?_ | ((first | refine vc_region fun K KP hK hKP => ?_ | refine Stg.s ?_ | refine guardD_ret0 ?_ | refine exV_intro _ rfl ?_); (try simp only [go_sem, loadL_a]); try ((first | refine hK _ _ ?_ | refine hKP _ _ _ ?_ | refine hKP _ _ (fun _ => ?_)); clear hK hKP K KP))))
    refine callV_of en250 (xnext c z _ hcc) (fun x σ' q => ?_) (fun x σ' q => by obtain ⟨_, e, _⟩ := q; cases e)
    obtain ⟨z2, e1, rfl⟩ := q
    cases e1
    have hst : ((σ.set c (.cells [.val (.int .u64 z)])).set b (rowE enc m spare)).set c (.cells [.val (.int .u64 z2)]) = (σ.set c (.cells [.val (.int .u64 z2)])).set b (rowE enc m spare) := by
      rw [Store.set_comm _ _ _ hcb, Store.set_set]
    rw [hst]
    have hbb := Store.set_same (σ.set c (.cells [.val (.int .u64 z2)])) b (rowE enc m spare)
    obtain ⟨u, hu, hu2⟩ := and_pow z2 n (by omega)
    obtain ⟨hl1, hl2, hl3⟩ := lenN_spec n (by omega)
    have hl4 := hl3 (by omega)
    have wm : IntKind.u64.wrap (((2 ^ lenN n : Nat) : Int) - 1) = ((2 ^ lenN n - 1 : Nat) : Int) := by
      have : 0 < 2 ^ lenN n := Nat.pow_pos (by decide)
      rw [u64_in (by omega) (by omega)]; omega
    have wi : IntKind.i64.wrap (u : Int) = (u : Int) := i64_in (by omega) (by omega)
    ((try simp only [go_sem, loadL_a, wm, hu, wi]); refine hK _ _ ?_; clear hK hKP K KP; repeat (first | refine then_normal ?_ | refine inBlock_normal ?_))
    refine vc_join (fun j (v : Nat) => [.sl b 0 m0.length cap, I64 a, I64 e, .fn (.func g) ps qs, j 4, j 5, j 6, j 7, I64 n, .ptr c 0, U64 (2 ^ lenN n), I64 i, I64 v, j 13, j 14, j 15, j 16, j 17, j 18, j 19, j 20, j 21, j 22, j 23, j 24, j 25, j 26, j 27, j 28, j 29, j 30, j 31, j 32, j 33, j 34, j 35, j 36, j 37, j 38, j 39, j 40, j 41, j 42, j 43, j 44, j 45, j 46, j 47, j 48, j 49, j 50, j 51, j 52, j 53, j 54, j 55, j 56, j 57, j 58, j 59, j 60, j 61, j 62, j 63, j 64, j 65, j 66]) (fun v τ => v < n ∧ τ = (σ.set c (.cells [.val (.int .u64 z2)])).set b (rowE enc m spare)) (fun j v τ hinv => ?_) (fun rest hrest => ?_)
    · obtain ⟨hv, rfl⟩ := hinv
      have g1 := eq_true (show (0 : Int) ≤ (i : Int) by omega)
      have g2 := eq_true (show (i : Int) < m0.length by omega)
      have g3 := eq_true (show (0 : Int) ≤ ((a + v : Nat) : Int) by omega)
      have g4 := eq_true (show ((a + v : Nat) : Int) < m0.length by omega)
      have w4 := i64_plus (show a ≤ 10000000 by omega) (show v ≤ 10000000 by omega)
      have r1 := slab_load hE (spare := spare) (show i < m.length by omega)
      have r2 := slab_load hE (spare := spare) (show a + v < m.length by omega)
      have w5 := i64_up (show i ≤ 10000000 by omega)
      (repeat (first | refine Stp.s ?_ | refine inBlock_exit' (by decide) ?_ | ((first | refine vc_region fun K KP hK hKP => ?_ | refine Stg.s ?_ | refine guardD_ret0 ?_ | refine exV_intro _ rfl ?_); (try simp only [go_sem, loadL_a]); try ((first | refine hK _ _ ?_ | refine hKP _ _ _ ?_ | refine hKP _ _ (fun _ => ?_)); clear hK hKP K KP))))
      ((repeat first | refine Stp.s ?_ | refine inBlock_exit' (by decide) ?_); refine vc_draw mixed [ 17, 19 ] [0, 1, 2, 3, 4, 5, 6, 7, 8, 9, 10, 11, 12, 13, 14, 15, 16, 17, 18, 19 ] [ 11, 15 ] [] (fun _ => True) (by kernel_rfl) (by kernel_rfl) (by kernel_rfl) trivial fun K KP hK hKP => ?_; simp only [go_sem, g1, g2, g3, g4, w4, Int.toNat_natCast, hbb, r1, r2]; try (refine hK _ _ ?_; clear hK hKP K KP))
      ((try simp only [go_sem, g1, g2, g3, g4, w4, Int.toNat_natCast, hbb, r1, r2]); (try ((first | refine hK _ _ ?_ | refine hKP _ _ _ ?_ | refine hKP _ _ (fun _ => ?_)); clear hK hKP K KP)); repeat (first | refine Stp.s ?_ | refine inBlock_exit' (by decide) ?_ | ((first | refine vc_region fun K KP hK hKP => ?_ | refine Stg.s ?_ | refine guardD_ret0 ?_ | refine exV_intro _ rfl ?_); (try simp only [go_sem, g1, g2, g3, g4, w4, Int.toNat_natCast, hbb, r1, r2]); try ((first | refine hK _ _ ?_ | refine hKP _ _ _ ?_ | refine hKP _ _ (fun _ => ?_)); clear hK hKP K KP))))
      refine ⟨hE.len _, hE.one _, rowE_room1 hE m spare _ _ (by omega), effV_true ⟨hE.len _, hE.one _, rowE_room2 hE m spare _ _ _ _ (by omega), ?_⟩⟩
      rw [rowE_swp hE spare m _ _ (by omega) (by omega)]
      ((try simp only [go_sem, Store.set_set, w5]); (try ((first | refine hK _ _ ?_ | refine hKP _ _ _ ?_ | refine hKP _ _ (fun _ => ?_)); clear hK hKP K KP)); repeat (first | refine Stp.s ?_ | refine inBlock_exit' (by decide) ?_ | ((first | refine vc_region fun K KP hK hKP => ?_ | refine Stg.s ?_ | refine guardD_ret0 ?_ | refine exV_intro _ rfl ?_); (try simp only [go_sem, Store.set_set, w5]); try ((first | refine hK _ _ ?_ | refine hKP _ _ _ ?_ | refine hKP _ _ (fun _ => ?_)); clear hK hKP K KP))))
      exact ⟨(i + 1, z2, swp m i (a + v)), _, (by repeat (first | exact LeEnv.nil | refine LeEnv.same ?_ | refine LeEnv.top ?_)), Store.le_refl _, ⟨by show a + n / 4 * 2 - 1 ≤ i + 1; omega, by show i + 1 ≤ a + n / 4 * 2 + 2; omega, hw.trans (WP.swap (by omega) (by omega) (by omega)), rfl⟩, by show a + n / 4 * 2 + 2 - (i + 1) < a + n / 4 * 2 + 2 - i; omega⟩
    · (repeat (first | refine Stp.s ?_ | refine inBlock_exit' (by decide) ?_ | ((first | refine vc_region fun K KP hK hKP => ?_ | refine Stg.s ?_ | refine guardD_ret0 ?_ | refine exV_intro _ rfl ?_); (try simp only [go_sem, loadL_a]); try ((first | refine hK _ _ ?_ | refine hKP _ _ _ ?_ | refine hKP _ _ (fun _ => ?_)); clear hK hKP K KP))))
      refine vc_cond rfl (fun hq2 => ?_) (fun hq2 => ?_)
      · have hge : n ≤ u := by simp at hq2; omega
        have wd := i64_minus (show u ≤ 10000000 by omega) hge
        (repeat (first | refine Stp.s ?_ | refine inBlock_exit' (by decide) ?_ | ((first | refine vc_region fun K KP hK hKP => ?_ | refine Stg.s ?_ | refine guardD_ret0 ?_ | refine exV_intro _ rfl ?_); (try simp only [go_sem, loadL_a, wd]); try ((first | refine hK _ _ ?_ | refine hKP _ _ _ ?_ | refine hKP _ _ (fun _ => ?_)); clear hK hKP K KP))))
        exact hrest (u - n) _ _ ⟨by omega, rfl⟩ rfl
      · have hlt : u < n := by simp at hq2; omega
        (repeat (first | refine Stp.s ?_ | refine inBlock_exit' (by decide) ?_ | ((first | refine vc_region fun K KP hK hKP => ?_ | refine Stg.s ?_ | refine guardD_ret0 ?_ | refine exV_intro _ rfl ?_); (try simp only [go_sem, loadL_a]); try ((first | refine hK _ _ ?_ | refine hKP _ _ _ ?_ | refine hKP _ _ (fun _ => ?_)); clear hK hKP K KP))))
        exact hrest u _ _ ⟨hlt, rfl⟩ rfl
  · (repeat (first | refine Stp.s ?_ | refine inBlock_exit' (by decide) ?_ | ((first | refine vc_region fun K KP hK hKP => ?_ | refine Stg.s ?_ | refine guardD_ret0 ?_ | refine exV_intro _ rfl ?_); (try simp only [go_sem, loadL_a]); try ((first | refine hK _ _ ?_ | refine hKP _ _ _ ?_ | refine hKP _ _ (fun _ => ?_)); clear hK hKP K KP))))
    (simp only [postV, resV, oneOf, List.getD_cons_succ, List.getD_cons_zero, and_true, true_and])
    exact ⟨m, hw, Store.le_set_both (Store.le_set hc (Store.le_refl σ))⟩

end

end Go.Proofs.YtociliegljoldaaGreat
