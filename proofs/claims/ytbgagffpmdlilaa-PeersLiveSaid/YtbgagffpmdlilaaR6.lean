/- A number's bytes, in the document's way. -/
import Derived.Test.YtbgagffpmdlilaaG1
import Derived.Test.YtbgagffpmdlilaaWB
namespace Go.Proofs.Ytbgagffpmdlilaa
set_option linter.unusedSimpArgs false
set_option linter.unusedVariables false
open Go.Proofs
attribute [local irreducible] vc vcOps vcDraw vcK vcKP vcDK vcDB HWp HCalls postV Ex.then Ex.inBlock stepD callV appendV guardC guardD exV effV opV loadV storeV indexAddrV indexV sliceV
set_option maxRecDepth 10000
set_option maxHeartbeats 4000000

theorem rnum_bld (n : Nat) (hn : n < 18446744073709551616) (σ : Store) : HCalls Try.prog 88 [U64 n] σ fun r σ' => ∃ y τ, r = .ret y ∧ τ.le σ' ∧ Bld 1 σ τ y ((numB n).map byteV) (numB n).length := by
  (refine HCalls.of_vc Try.func88 rfl ?_; rw [Try.ntmps88, Try.results88]; simp only [List.length_cons, List.length_nil, Nat.reduceAdd, Nat.reduceSub, List.replicate, List.cons_append, List.nil_append])
  have n1 := eq_true (show ¬((128 : Int) = 0) by decide)
  have n2 : IntKind.u8.wrap ((n : Int).tmod 128) = ((n % 128 : Nat) : Int) := by rw [Int.tmod_eq_emod_of_nonneg (by omega), u8_in (by omega) (by omega)]; omega
  have n3 : IntKind.u64.wrap ((n : Int).tdiv 128) = ((n / 128 : Nat) : Int) := by rw [Int.tdiv_eq_ediv_of_nonneg (by omega), u64_in (by omega) (by omega)]; omega
  (repeat (first | refine Stp.s ?_ | refine inBlock_exit' (by decide) ?_ | ((first | refine vc_region fun K KP hK hKP => ?_ | refine Stg.s ?_ | refine guardD_ret0 ?_ | refine exV_intro _ rfl ?_); (try simp only [go_sem, loadL_a, n1, n2]); try ((first | refine hK _ _ ?_ | refine hKP _ _ _ ?_ | refine hKP _ _ (fun _ => ?_)); clear hK hKP K KP))))
  intro b5 hb5
  ((try simp only [go_sem, loadL_a, n1, n2, n3]); refine hK _ _ ?_; clear hK hKP K KP; repeat (first | refine Stp.s ?_ | refine inBlock_exit' (by decide) ?_ | ((first | refine vc_region fun K KP hK hKP => ?_ | refine Stg.s ?_ | refine guardD_ret0 ?_ | refine exV_intro _ rfl ?_); (try simp only [go_sem, loadL_a, n1, n2, n3]); try ((first | refine hK _ _ ?_ | refine hKP _ _ _ ?_ | refine hKP _ _ (fun _ => ?_)); clear hK hKP K KP))))
  have hB0 : Bld 1 σ (σ.set b5 (.cells [V.val (.int .u8 ((n % 128 : Nat) : Int))])) (.sl b5 0 1 1) ([UInt8.ofNat (n % 128)].map byteV) 1 := .inr ⟨b5, 1, [], rfl, hb5, by rw [byte_of (by omega)]; rfl, rfl, by simp, Nat.le_refl _, by decide⟩
  generalize σ.set b5 _ = σ1 at *
  have e10 : (128 : Nat) ^ 10 = 1180591620717411303424 := by decide
  have h10 : n / 128 < 128 ^ 10 := by omega
  refine vc_loop (loopV (fun (a : Nat × Nat × List UInt8 × V) => [U64 a.2.1, .top, nilS, a.2.2.2, .top, .top, .top, .top, .top, .top, .top, .top, .top, .top, .top, .top, .top, .top, .top, .top, .top, .top]) (fun a τ => Bld 1 σ τ a.2.2.2 (a.2.2.1.map byteV) a.2.2.1.length ∧ a.2.1 < 18446744073709551616 ∧ a.2.1 < 128 ^ a.1 ∧ a.2.2.1.reverse ++ hiF a.1 a.2.1 = UInt8.ofNat (n % 128) :: hiN (n / 128)) (fun a _ => a.1) (10, n / 128, [UInt8.ofNat (n % 128)], .sl b5 0 1 1) (by repeat (first | exact LeEnv.nil | refine LeEnv.same ?_ | refine LeEnv.top ?_)) ⟨hB0, (by show n / 128 < 18446744073709551616; omega), h10, rfl⟩ ?_)
  clear hB0 n2 n3 hb5
  rintro ⟨f, m, l, y⟩ τ ⟨hB, hm, hmf, hml⟩
  simp only at hB hm hmf hml
  have n2 : IntKind.u8.wrap (IntKind.u64.wrap (128 + (m : Int).tmod 128)) = ((m % 128 + 128 : Nat) : Int) := by rw [Int.tmod_eq_emod_of_nonneg (by omega), u64_in (by omega) (by omega), u8_in (by omega) (by omega)]; omega
  have n3 : IntKind.u64.wrap ((m : Int).tdiv 128) = ((m / 128 : Nat) : Int) := by rw [Int.tdiv_eq_ediv_of_nonneg (by omega), u64_in (by omega) (by omega)]; omega
  have hll : l.length ≤ 11 := by
    have := congrArg List.length hml
    have h2 := hiN_len (n / 128)
    simp at this; omega
  (repeat (first | refine Stp.s ?_ | refine inBlock_exit' (by decide) ?_ | ((first | refine vc_region fun K KP hK hKP => ?_ | refine Stg.s ?_ | refine guardD_ret0 ?_ | refine exV_intro _ rfl ?_); (try simp only [go_sem, loadL_a]); try ((first | refine hK _ _ ?_ | refine hKP _ _ _ ?_ | refine hKP _ _ (fun _ => ?_)); clear hK hKP K KP))))
  refine vc_cond rfl (fun hc => ?_) (fun hc => ?_)
  · have hm0 : m ≠ 0 := by simp at hc; omega
    cases f with
    | zero => simp at hmf; exact absurd hmf hm0
    | succ f =>
      rw [hiF, if_neg hm0] at hml
      (repeat (first | refine Stp.s ?_ | refine inBlock_exit' (by decide) ?_ | ((first | refine vc_region fun K KP hK hKP => ?_ | refine Stg.s ?_ | refine guardD_ret0 ?_ | refine exV_intro _ rfl ?_); (try simp only [go_sem, loadL_a, n1, n2]); try ((first | refine hK _ _ ?_ | refine hKP _ _ _ ?_ | refine hKP _ _ (fun _ => ?_)); clear hK hKP K KP))))
      intro b6 hb6
      have hle6 : τ.le (τ.set b6 (.cells [V.val (.int .u8 ((m % 128 + 128 : Nat) : Int))])) := Store.le_set hb6 (Store.le_refl _)
      have hN : Bld 1 τ (τ.set b6 (.cells [V.val (.int .u8 ((m % 128 + 128 : Nat) : Int))])) (.sl b6 0 1 1) ([UInt8.ofNat (m % 128 + 128)].map byteV) 1 := .inr ⟨b6, 1, [], rfl, hb6, by rw [byte_of (by omega)]; rfl, rfl, by simp, Nat.le_refl _, by decide⟩
      refine append_u8 hN (Store.le_refl _) (hB.row hle6) (m := l.length) (by simp) (by simp [V.one, byteV]) (by omega) ?_
      intro y' τ' σ' hB' hle' _
      obtain ⟨υ, hB2, hυ⟩ := Bld.rebase hB.base hB'
      ((try simp only [go_sem, loadL_a, n1, n3]); refine hK _ _ ?_; clear hK hKP K KP; repeat (first | refine Stp.s ?_ | refine inBlock_exit' (by decide) ?_ | ((first | refine vc_region fun K KP hK hKP => ?_ | refine Stg.s ?_ | refine guardD_ret0 ?_ | refine exV_intro _ rfl ?_); (try simp only [go_sem, loadL_a, n1, n3]); try ((first | refine hK _ _ ?_ | refine hKP _ _ _ ?_ | refine hKP _ _ (fun _ => ?_)); clear hK hKP K KP))))
      refine ⟨(f, m / 128, UInt8.ofNat (m % 128 + 128) :: l, y'), υ, ?_, Store.le_trans hυ hle', ⟨?_, ?_, ?_, ?_⟩, Nat.lt_succ_self f⟩
      · repeat (first | exact LeEnv.nil | refine LeEnv.same ?_ | refine LeEnv.top ?_)
      · show Bld 1 σ υ y' _ _
        simpa [Nat.add_comm] using hB2
      · show m / 128 < 18446744073709551616; omega
      · show m / 128 < 128 ^ f
        rw [Nat.div_lt_iff_lt_mul (by decide), ← Nat.pow_succ]; exact hmf
      · show (_ :: l).reverse ++ hiF f (m / 128) = _
        rw [List.reverse_cons, List.append_assoc]; exact hml
  · have hm0 : m = 0 := by simp at hc; omega
    subst hm0
    have hlf : l.reverse = UInt8.ofNat (n % 128) :: hiN (n / 128) := by rw [← hml]; cases f <;> simp [hiF]
    have hlr : l = numB n := by
      rw [← List.reverse_reverse l, hlf]; rfl
    (repeat (first | refine Stp.s ?_ | refine inBlock_exit' (by decide) ?_ | ((first | refine vc_region fun K KP hK hKP => ?_ | refine Stg.s ?_ | refine guardD_ret0 ?_ | refine exV_intro _ rfl ?_); (try simp only [go_sem, loadL_a]); try ((first | refine hK _ _ ?_ | refine hKP _ _ _ ?_ | refine hKP _ _ (fun _ => ?_)); clear hK hKP K KP))))
    (simp only [postV, resV, oneOf, List.getD_cons_succ, List.getD_cons_zero, and_true, true_and])
    rw [← hlr]
    exact ⟨_, _, rfl, Store.le_refl _, hB⟩
theorem rnum_pure (n : Nat) (hn : n < 18446744073709551616) : HPure Try.prog 88 [U64 n] (.lst 1 ((numB n).map byteV)) :=
  .of en88 fun σ => (rnum_bld n hn σ).mono fun r σ' ⟨x, τ, e, hle, hB⟩ => ⟨x, e, Bld.weakens hB hle (by simp) (by rw [flat_bytes]) (bytes_len _)⟩
end Go.Proofs.Ytbgagffpmdlilaa
