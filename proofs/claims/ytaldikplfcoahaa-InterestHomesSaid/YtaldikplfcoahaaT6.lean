import Derived.Test.YtaldikplfcoahaaT5
import Derived.Test.YtaldikplfcoahaaT1
namespace Go.Proofs.Ytaldikplfcoahaa
set_option linter.unusedSimpArgs false
set_option linter.unusedVariables false
open Go.Proofs
attribute [local irreducible] vc vcOps vcDraw vcK vcKP vcDK vcDB HWp HCalls postV Ex.then Ex.inBlock stepD callV appendV guardC guardD exV effV opV loadV storeV indexAddrV indexV sliceV
set_option maxRecDepth 10000
set_option maxHeartbeats 2000000

/-- A slice of numbers that was built, or (f) one of length and room 1 that is borrowed. -/
def Bor (f : Option Nat) (σ0 τ : Store) (x : V) (cs : List V) (n : Nat) : Prop :=
  (Bld 1 σ0 τ x cs n ∧ (f.isSome = true → n ≠ 1)) ∨ (∃ b c spare, f = some b ∧ x = .sl b 0 1 1 ∧ n = 1 ∧ cs = [c] ∧ σ0 b = some (.cells (c :: spare)) ∧ τ = σ0)
theorem Bor.base {f : Option Nat} {σ0 τ : Store} {x : V} {cs : List V} {n : Nat} (h : Bor f σ0 τ x cs n) : σ0.le τ := by
  rcases h with ⟨h, _⟩ | ⟨b, c, spare, _, _, _, _, _, rfl⟩
  · exact h.base
  · exact Store.le_refl _
theorem Bor.push {f : Option Nat} {σ0 τ : Store} {x : V} {cs : List V} {n c : Nat} {kk : Blk} (h : Bor f σ0 τ x cs n) (hc : τ c = none) : Bor f (σ0.set c kk) (τ.set c kk) x cs n := by
  rcases h with ⟨h, hf⟩ | ⟨b, d, spare, hf, rfl, rfl, rfl, hb, rfl⟩
  · exact .inl ⟨h.push hc, hf⟩
  · exact .inr ⟨b, d, spare, hf, rfl, rfl, rfl, Store.keep hc hb _, rfl⟩
theorem Bor.at_ {f : Option Nat} {σ0 τ : Store} {x : V} {cs : List V} {n : Nat} (h : Bor f σ0 τ x cs n) (hn : n ≠ 0) : ∃ b cap spare, x = .sl b 0 n cap ∧ τ b = some (.cells (cs ++ spare)) ∧ ∀ cs', cs'.length = cs.length → (n = 1 → cs' = cs) → Bor f σ0 (τ.set b (.cells (cs' ++ spare))) (.sl b 0 n cap) cs' n := by
  rcases h with ⟨h, hf⟩ | ⟨b, d, spare, hf, rfl, rfl, rfl, hb, rfl⟩
  · obtain ⟨b, cap, spare, e, h1, h2⟩ := h.at_ hn
    exact ⟨b, cap, spare, e, h1, fun cs' hl _ => .inl ⟨h2 cs' hl, hf⟩⟩
  · refine ⟨b, 1, spare, rfl, hb, fun cs' _ he => ?_⟩
    rw [he rfl, Store.set_id (by simpa using hb)]
    exact .inr ⟨b, d, spare, hf, rfl, rfl, rfl, hb, rfl⟩
theorem append_bor {f : Option Nat} {σ0 τ σ : Store} {x y : V} {cs : List V} {n : Nat} {c : V} {K : V → Store → Prop} (hb : Bor f σ0 τ x cs n) (hle : τ.le σ) (hrow : ∀ KK : Nat → List V → Prop, KK 1 [c] → rowV 1 y σ KK) (hc : c.one = true) (hm : n + 1 ≤ 1000000000)
    (h : ∀ x' τ' σ', Bld 1 σ0 τ' x' (cs ++ [c]) (n + 1) → τ'.le σ' → K x' σ') : appendV Try.prog 29 29 x y σ K := by
  rcases hb with ⟨hb, _⟩ | ⟨b, d, spare, hf, rfl, rfl, rfl, hb, rfl⟩
  · exact append_int hb hle hrow (m := 1) rfl (by simpa using hc) hm fun x' τ' σ' h1 h2 _ => h x' τ' σ' h1 h2
  · have hσb := hle _ _ hb
    unfold appendV
    rw [Try.underlying29]
    show _ ∧ _ ∧ _ ∧ rowV (Try.prog.cellsOf 3) y σ _
    rw [ce3]
    refine ⟨by exact trivial, in3, by decide, hrow _ ⟨by simpa using hc, ?_⟩⟩
    simp only [hσb]
    refine ⟨by simp, Nat.le_refl _, by decide, fun q => absurd q (by decide), fun _ => ⟨by decide, ?_, zl3, fun b' cap' hb' h1 h2 => ?_⟩⟩
    · rw [show Try.prog.bytesOf 3 = 8 from by kernel_rfl]; decide
    · have h0 : τ b' = none := Store.none_of_le hle hb'
      refine h _ (τ.set b' (.cells ([d] ++ [c] ++ List.replicate ((cap' - 2) * 1) .top))) _ (.inr ⟨b', cap', _, rfl, h0, rfl, rfl, by simp, h1, h2⟩) ?_
      intro e k q
      by_cases he : e = b'
      · rw [he, Store.set_same] at q ⊢; rw [← q]; simp
      · rw [Store.set_other _ _ he] at q ⊢; exact hle _ _ q

/-- What sorting leaves. -/
def Sorts (b : Nat) (l : List Int) (spare : List V) (σ : Store) (r : Res) (σ' : Store) : Prop :=
  ∃ l', r = .ret (oneOf []) ∧ l'.Perm l ∧ (∀ p q, p < q → q < l.length → l'.getD p 0 ≤ l'.getD q 0) ∧ σ' = σ.set b (row l' spare)
theorem pdq (b cap : Nat) (l : List Int) (spare : List V) (σ : Store) (hb : σ b = some (row l spare)) (hn : l.length ≤ 12) (v : Int) :
    HCalls Try.prog 69 [.sl b 0 l.length cap, I64 0, I64 l.length, I64 v] σ (Sorts b l spare σ) := by
  (refine HCalls.of_vc Try.func69 rfl ?_; rw [Try.ntmps69, Try.results69]; simp only [List.length_cons, List.length_nil, Nat.reduceAdd, Nat.reduceSub, List.replicate, List.cons_append, List.nil_append])
  (repeat (first | refine vc_seq ?_ | refine vc_block ?_ | refine then_normal ?_ | refine vc_ret ?_ | refine vc_skip ?_ | refine vc_exit ?_ | refine then_ret ?_ | refine then_exit ?_ | refine inBlock_normal ?_ | refine inBlock_ret ?_ | refine inBlock_exit ?_ | refine vc_goto ?_ | refine then_goto ?_ | refine inBlock_goto ?_ | refine jump_goto ?_ | refine jump_normal ?_ | refine jump_ret ?_ | refine inBlock_exit' (by decide) ?_ | ((first | refine vc_region fun K KP hK hKP => ?_ | refine guardC_ret0 ?_ | refine guardC_yes0 ?_ | refine guardC_no ?_ | refine guardD_no ?_ | refine effV_true ?_ | refine guardD_ret0 ?_); simp only [go_sem, loadL_a, lenV, indexAddrV, loadV, storeV, sliceV, convertV, V.flag, V.strip]; try (refine hK _ _ ?_; clear hK hKP K KP)) | (refine exV_intro _ rfl ?_; (try simp only [go_sem, loadL_a, lenV, indexAddrV, loadV, storeV, sliceV, convertV, V.flag, V.strip]); try (refine hK _ _ ?_; clear hK hKP K KP))))
  refine vc_loop (loop_once ?_)
  have hw : IntKind.i64.wrap ((l.length : Int) - 0) = l.length := by rw [i64_in (by omega) (by omega)]; omega
  (repeat (first | refine vc_seq ?_ | refine vc_block ?_ | refine then_normal ?_ | refine vc_ret ?_ | refine vc_skip ?_ | refine vc_exit ?_ | refine then_ret ?_ | refine then_exit ?_ | refine inBlock_normal ?_ | refine inBlock_ret ?_ | refine inBlock_exit ?_ | refine vc_goto ?_ | refine then_goto ?_ | refine inBlock_goto ?_ | refine jump_goto ?_ | refine jump_normal ?_ | refine jump_ret ?_ | refine inBlock_exit' (by decide) ?_ | ((first | refine vc_region fun K KP hK hKP => ?_ | refine guardC_ret0 ?_ | refine guardC_yes0 ?_ | refine guardC_no ?_ | refine guardD_no ?_ | refine effV_true ?_ | refine guardD_ret0 ?_); simp only [go_sem, loadL_a, lenV, indexAddrV, loadV, storeV, sliceV, convertV, V.flag, V.strip, hw]; try (refine hK _ _ ?_; clear hK hKP K KP)) | (refine exV_intro _ rfl ?_; (try simp only [go_sem, loadL_a, lenV, indexAddrV, loadV, storeV, sliceV, convertV, V.flag, V.strip, hw]); try (refine hK _ _ ?_; clear hK hKP K KP))))
  refine vc_cond rfl (fun _ => ?_) (fun hc => absurd hc (by simp; omega))
  (repeat (first | refine vc_seq ?_ | refine vc_block ?_ | refine then_normal ?_ | refine vc_ret ?_ | refine vc_skip ?_ | refine vc_exit ?_ | refine then_ret ?_ | refine then_exit ?_ | refine inBlock_normal ?_ | refine inBlock_ret ?_ | refine inBlock_exit ?_ | refine vc_goto ?_ | refine then_goto ?_ | refine inBlock_goto ?_ | refine jump_goto ?_ | refine jump_normal ?_ | refine jump_ret ?_ | refine inBlock_exit' (by decide) ?_ | ((first | refine vc_region fun K KP hK hKP => ?_ | refine guardC_ret0 ?_ | refine guardC_yes0 ?_ | refine guardC_no ?_ | refine guardD_no ?_ | refine effV_true ?_ | refine guardD_ret0 ?_); simp only [go_sem, loadL_a, lenV, indexAddrV, loadV, storeV, sliceV, convertV, V.flag, V.strip]; try (refine hK _ _ ?_; clear hK hKP K KP)) | (refine exV_intro _ rfl ?_; (try simp only [go_sem, loadL_a, lenV, indexAddrV, loadV, storeV, sliceV, convertV, V.flag, V.strip]); try (refine hK _ _ ?_; clear hK hKP K KP))))
  refine callV_of en73 (ins_sort b cap l spare σ hb (by omega)) (fun x σ' ⟨l', e, hp, hs, es⟩ => ?_) (fun x σ' ⟨l', e, _⟩ => by cases e)
  cases e; subst es
  ((try simp only [go_sem, loadL_a, lenV, indexAddrV, loadV, storeV, sliceV, convertV, V.flag, V.strip]); refine hK _ _ ?_; clear hK hKP K KP; repeat (first | refine vc_seq ?_ | refine vc_block ?_ | refine then_normal ?_ | refine vc_ret ?_ | refine vc_skip ?_ | refine vc_exit ?_ | refine then_ret ?_ | refine then_exit ?_ | refine inBlock_normal ?_ | refine inBlock_ret ?_ | refine inBlock_exit ?_ | refine vc_goto ?_ | refine then_goto ?_ | refine inBlock_goto ?_ | refine jump_goto ?_ | refine jump_normal ?_ | refine jump_ret ?_ | refine inBlock_exit' (by decide) ?_ | ((first | refine vc_region fun K KP hK hKP => ?_ | refine guardC_ret0 ?_ | refine guardC_yes0 ?_ | refine guardC_no ?_ | refine guardD_no ?_ | refine effV_true ?_ | refine guardD_ret0 ?_); simp only [go_sem, loadL_a, lenV, indexAddrV, loadV, storeV, sliceV, convertV, V.flag, V.strip]; try (refine hK _ _ ?_; clear hK hKP K KP)) | (refine exV_intro _ rfl ?_; (try simp only [go_sem, loadL_a, lenV, indexAddrV, loadV, storeV, sliceV, convertV, V.flag, V.strip]); try (refine hK _ _ ?_; clear hK hKP K KP))))
  (simp only [postV, resV, oneOf, List.getD_cons_succ, List.getD_cons_zero, and_true, true_and])
  exact ⟨l', rfl, hp, hs, rfl⟩
theorem sort (b cap : Nat) (l : List Int) (spare : List V) (σ : Store) (hb : σ b = some (row l spare)) (hn : l.length ≤ 12) :
    HCalls Try.prog 58 [.sl b 0 l.length cap] σ (Sorts b l spare σ) := by
  (refine HCalls.of_vc Try.func58 rfl ?_; rw [Try.ntmps58, Try.results58]; simp only [List.length_cons, List.length_nil, Nat.reduceAdd, Nat.reduceSub, List.replicate, List.cons_append, List.nil_append])
  (repeat (first | refine vc_seq ?_ | refine vc_block ?_ | refine then_normal ?_ | refine vc_ret ?_ | refine vc_skip ?_ | refine vc_exit ?_ | refine then_ret ?_ | refine then_exit ?_ | refine inBlock_normal ?_ | refine inBlock_ret ?_ | refine inBlock_exit ?_ | refine vc_goto ?_ | refine then_goto ?_ | refine inBlock_goto ?_ | refine jump_goto ?_ | refine jump_normal ?_ | refine jump_ret ?_ | refine inBlock_exit' (by decide) ?_ | ((first | refine vc_region fun K KP hK hKP => ?_ | refine guardC_ret0 ?_ | refine guardC_yes0 ?_ | refine guardC_no ?_ | refine guardD_no ?_ | refine effV_true ?_ | refine guardD_ret0 ?_); simp only [go_sem, loadL_a, lenV, indexAddrV, loadV, storeV, sliceV, convertV, V.flag, V.strip]; try (refine hK _ _ ?_; clear hK hKP K KP)) | (refine exV_intro _ rfl ?_; (try simp only [go_sem, loadL_a, lenV, indexAddrV, loadV, storeV, sliceV, convertV, V.flag, V.strip]); try (refine hK _ _ ?_; clear hK hKP K KP))))
  have hw : IntKind.u64.wrap (l.length : Int) = l.length := u64_in (by omega) (by omega)
  simp only [go_sem, loadL_a, lenV, indexAddrV, loadV, storeV, sliceV, convertV, V.flag, V.strip, hw]
  refine callV_of en70 (len l.length hn σ) (fun x σ' ⟨v, e, es⟩ => ?_) (fun x σ' ⟨v, e, es⟩ => by cases e)
  cases e; rw [es]; clear es
  simp only [go_sem, loadL_a, lenV, indexAddrV, loadV, storeV, sliceV, convertV, V.flag, V.strip]
  refine callV_of en69 (pdq b cap l spare σ hb hn v) (fun x σ' ⟨l', e, hp, hs, es⟩ => ?_) (fun x σ' ⟨l', e, _⟩ => by cases e)
  cases e; subst es
  ((try simp only [go_sem, loadL_a, lenV, indexAddrV, loadV, storeV, sliceV, convertV, V.flag, V.strip]); refine hK _ _ ?_; clear hK hKP K KP; repeat (first | refine vc_seq ?_ | refine vc_block ?_ | refine then_normal ?_ | refine vc_ret ?_ | refine vc_skip ?_ | refine vc_exit ?_ | refine then_ret ?_ | refine then_exit ?_ | refine inBlock_normal ?_ | refine inBlock_ret ?_ | refine inBlock_exit ?_ | refine vc_goto ?_ | refine then_goto ?_ | refine inBlock_goto ?_ | refine jump_goto ?_ | refine jump_normal ?_ | refine jump_ret ?_ | refine inBlock_exit' (by decide) ?_ | ((first | refine vc_region fun K KP hK hKP => ?_ | refine guardC_ret0 ?_ | refine guardC_yes0 ?_ | refine guardC_no ?_ | refine guardD_no ?_ | refine effV_true ?_ | refine guardD_ret0 ?_); simp only [go_sem, loadL_a, lenV, indexAddrV, loadV, storeV, sliceV, convertV, V.flag, V.strip]; try (refine hK _ _ ?_; clear hK hKP K KP)) | (refine exV_intro _ rfl ?_; (try simp only [go_sem, loadL_a, lenV, indexAddrV, loadV, storeV, sliceV, convertV, V.flag, V.strip]); try (refine hK _ _ ?_; clear hK hKP K KP))))
  (simp only [postV, resV, oneOf, List.getD_cons_succ, List.getD_cons_zero, and_true, true_and])
  exact ⟨l', rfl, hp, hs, rfl⟩

/-- A row of numbers that may be read. -/
structure IRow (x : V) (p : Nat → V) (l : List Int) (σ : Store) : Prop where
  len : ∀ K, lenV Try.prog 29 x σ K = K (I64 l.length) σ
  ix : ∀ i, i < l.length → ∀ K, indexAddrV Try.prog 29 x (I64 i) σ K = K (p i) σ
  ld : ∀ i, i < l.length → ∀ K, loadV Try.prog 3 (p i) σ K = K (I64 (l.getD i 0)) σ
theorem IRow.sl {b cap : Nat} {l : List Int} {spare : List V} {σ : Store} (hb : σ b = some (row l spare)) (hl : l.length ≤ 1000000) : IRow (.sl b 0 l.length cap) (fun i => .ptr b i) l σ where
  len K := by skip
              simp only [go_sem, loadL_a, lenV, indexAddrV, loadV, storeV, sliceV, convertV, V.flag, V.strip]
  ix i hi K := by
    skip
    have g1 : (0 : Int) ≤ i := by omega
    have g2 : (i : Int) < l.length := by omega
    simp only [go_sem, loadL_a, lenV, indexAddrV, loadV, storeV, sliceV, convertV, V.flag, V.strip, g1, g2, Int.toNat_natCast]
  ld i hi K := by
    skip
    simp only [go_sem, loadL_a, lenV, indexAddrV, loadV, storeV, sliceV, convertV, V.flag, V.strip, hb, row_get hi]

theorem index_row (x : V) (p : Nat → V) (l : List Int) (v : Int) (hl : l.length ≤ 9223372036854775807) (σ : Store) (hr : IRow x p l σ) : HQuiet Try.prog 60 [x, I64 v] σ (I64 (idxOf (l.findIdx? (v == ·)))) := by
  refine HQuiet.of ?_; (refine HCalls.of_vc Try.func60 rfl ?_; rw [Try.ntmps60, Try.results60]; simp only [List.length_cons, List.length_nil, Nat.reduceAdd, Nat.reduceSub, List.replicate, List.cons_append, List.nil_append])
  (repeat (first | refine vc_seq ?_ | refine vc_block ?_ | refine then_normal ?_ | refine vc_ret ?_ | refine vc_skip ?_ | refine vc_exit ?_ | refine then_ret ?_ | refine then_exit ?_ | refine inBlock_normal ?_ | refine inBlock_ret ?_ | refine inBlock_exit ?_ | refine vc_goto ?_ | refine then_goto ?_ | refine inBlock_goto ?_ | refine jump_goto ?_ | refine jump_normal ?_ | refine jump_ret ?_ | refine inBlock_exit' (by decide) ?_ | ((first | refine vc_region fun K KP hK hKP => ?_ | refine guardC_ret0 ?_ | refine guardC_yes0 ?_ | refine guardC_no ?_ | refine guardD_no ?_ | refine effV_true ?_ | refine guardD_ret0 ?_); simp only [go_sem, loadL_a, indexAddrV, loadV, storeV, sliceV, convertV, V.flag, V.strip, hr.len]; try (refine hK _ _ ?_; clear hK hKP K KP)) | (refine exV_intro _ rfl ?_; (try simp only [go_sem, loadL_a, indexAddrV, loadV, storeV, sliceV, convertV, V.flag, V.strip, hr.len]); try (refine hK _ _ ?_; clear hK hKP K KP))))
  refine vc_loop (loopV (fun (i : Nat) => [x, I64 v, .top, .top, I64 0, .top, x, I64 l.length, I64 i, .top, .top, .top, .top, .top, .top, .top, .top, .top, .top]) (fun i τ => i ≤ l.length ∧ τ = σ ∧ ∀ x ∈ l.take i, (v == x) = false) (fun i _ => l.length - i) 0 (by repeat (first | exact LeEnv.nil | refine LeEnv.same ?_ | refine LeEnv.top ?_)) ⟨Nat.zero_le _, rfl, by simp⟩ ?_)
  rintro i τ ⟨hi, rfl, hno⟩
  (repeat (first | refine vc_seq ?_ | refine vc_block ?_ | refine then_normal ?_ | refine vc_ret ?_ | refine vc_skip ?_ | refine vc_exit ?_ | refine then_ret ?_ | refine then_exit ?_ | refine inBlock_normal ?_ | refine inBlock_ret ?_ | refine inBlock_exit ?_ | refine vc_goto ?_ | refine then_goto ?_ | refine inBlock_goto ?_ | refine jump_goto ?_ | refine jump_normal ?_ | refine jump_ret ?_ | refine inBlock_exit' (by decide) ?_ | ((first | refine vc_region fun K KP hK hKP => ?_ | refine guardC_ret0 ?_ | refine guardC_yes0 ?_ | refine guardC_no ?_ | refine guardD_no ?_ | refine effV_true ?_ | refine guardD_ret0 ?_); simp only [go_sem, loadL_a, lenV, indexAddrV, loadV, storeV, sliceV, convertV, V.flag, V.strip]; try (refine hK _ _ ?_; clear hK hKP K KP)) | (refine exV_intro _ rfl ?_; (try simp only [go_sem, loadL_a, lenV, indexAddrV, loadV, storeV, sliceV, convertV, V.flag, V.strip]); try (refine hK _ _ ?_; clear hK hKP K KP))))
  refine vc_cond rfl (fun hc1 => ?_) (fun hc1 => ?_)
  · have hlt : i < l.length := by simpa using hc1
    have hx : l.getD i 0 = l[i] := by simp [hlt]
    (repeat (first | refine vc_seq ?_ | refine vc_block ?_ | refine then_normal ?_ | refine vc_ret ?_ | refine vc_skip ?_ | refine vc_exit ?_ | refine then_ret ?_ | refine then_exit ?_ | refine inBlock_normal ?_ | refine inBlock_ret ?_ | refine inBlock_exit ?_ | refine vc_goto ?_ | refine then_goto ?_ | refine inBlock_goto ?_ | refine jump_goto ?_ | refine jump_normal ?_ | refine jump_ret ?_ | refine inBlock_exit' (by decide) ?_ | ((first | refine vc_region fun K KP hK hKP => ?_ | refine guardC_ret0 ?_ | refine guardC_yes0 ?_ | refine guardC_no ?_ | refine guardD_no ?_ | refine effV_true ?_ | refine guardD_ret0 ?_); simp only [go_sem, loadL_a, lenV, storeV, sliceV, convertV, V.flag, V.strip, hr.ix i hlt, hr.ld i hlt, hx]; try (refine hK _ _ ?_; clear hK hKP K KP)) | (refine exV_intro _ rfl ?_; (try simp only [go_sem, loadL_a, lenV, storeV, sliceV, convertV, V.flag, V.strip, hr.ix i hlt, hr.ld i hlt, hx]); try (refine hK _ _ ?_; clear hK hKP K KP))))
    refine vc_cond rfl (fun hp => ?_) (fun hp => ?_)
    · (repeat (first | refine vc_seq ?_ | refine vc_block ?_ | refine then_normal ?_ | refine vc_ret ?_ | refine vc_skip ?_ | refine vc_exit ?_ | refine then_ret ?_ | refine then_exit ?_ | refine inBlock_normal ?_ | refine inBlock_ret ?_ | refine inBlock_exit ?_ | refine vc_goto ?_ | refine then_goto ?_ | refine inBlock_goto ?_ | refine jump_goto ?_ | refine jump_normal ?_ | refine jump_ret ?_ | refine inBlock_exit' (by decide) ?_ | ((first | refine vc_region fun K KP hK hKP => ?_ | refine guardC_ret0 ?_ | refine guardC_yes0 ?_ | refine guardC_no ?_ | refine guardD_no ?_ | refine effV_true ?_ | refine guardD_ret0 ?_); simp only [go_sem, loadL_a, lenV, indexAddrV, loadV, storeV, sliceV, convertV, V.flag, V.strip]; try (refine hK _ _ ?_; clear hK hKP K KP)) | (refine exV_intro _ rfl ?_; (try simp only [go_sem, loadL_a, lenV, indexAddrV, loadV, storeV, sliceV, convertV, V.flag, V.strip]); try (refine hK _ _ ?_; clear hK hKP K KP))))
      (simp only [postV, resV, oneOf, List.getD_cons_succ, List.getD_cons_zero, and_true, true_and])
      refine Ends.le ?_ (Store.le_refl _)
      have : l.findIdx? (v == ·) = some i := by
        rw [List.findIdx?_eq_some_iff_getElem]
        exact ⟨hlt, hp, fun j hj => by have := hno l[j] (by rw [List.mem_take_iff_getElem]; exact ⟨j, by omega, rfl⟩); simp [this]⟩
      rw [this]; rfl
    · have hw := i64_succ hlt hl
      (repeat (first | refine vc_seq ?_ | refine vc_block ?_ | refine then_normal ?_ | refine vc_ret ?_ | refine vc_skip ?_ | refine vc_exit ?_ | refine then_ret ?_ | refine then_exit ?_ | refine inBlock_normal ?_ | refine inBlock_ret ?_ | refine inBlock_exit ?_ | refine vc_goto ?_ | refine then_goto ?_ | refine inBlock_goto ?_ | refine jump_goto ?_ | refine jump_normal ?_ | refine jump_ret ?_ | refine inBlock_exit' (by decide) ?_ | ((first | refine vc_region fun K KP hK hKP => ?_ | refine guardC_ret0 ?_ | refine guardC_yes0 ?_ | refine guardC_no ?_ | refine guardD_no ?_ | refine effV_true ?_ | refine guardD_ret0 ?_); simp only [go_sem, loadL_a, lenV, indexAddrV, loadV, storeV, sliceV, convertV, V.flag, V.strip, hw]; try (refine hK _ _ ?_; clear hK hKP K KP)) | (refine exV_intro _ rfl ?_; (try simp only [go_sem, loadL_a, lenV, indexAddrV, loadV, storeV, sliceV, convertV, V.flag, V.strip, hw]); try (refine hK _ _ ?_; clear hK hKP K KP))))
      refine ⟨i + 1, _, (by repeat (first | exact LeEnv.nil | refine LeEnv.same ?_ | refine LeEnv.top ?_)), Store.le_refl _, ⟨by omega, rfl, ?_⟩, by omega⟩
      intro x hx'
      rw [List.take_succ_eq_append_getElem hlt] at hx'
      rcases List.mem_append.1 hx' with h | h
      · exact hno x h
      · simp at h; subst h; exact hp
  · (repeat (first | refine vc_seq ?_ | refine vc_block ?_ | refine then_normal ?_ | refine vc_ret ?_ | refine vc_skip ?_ | refine vc_exit ?_ | refine then_ret ?_ | refine then_exit ?_ | refine inBlock_normal ?_ | refine inBlock_ret ?_ | refine inBlock_exit ?_ | refine vc_goto ?_ | refine then_goto ?_ | refine inBlock_goto ?_ | refine jump_goto ?_ | refine jump_normal ?_ | refine jump_ret ?_ | refine inBlock_exit' (by decide) ?_ | ((first | refine vc_region fun K KP hK hKP => ?_ | refine guardC_ret0 ?_ | refine guardC_yes0 ?_ | refine guardC_no ?_ | refine guardD_no ?_ | refine effV_true ?_ | refine guardD_ret0 ?_); simp only [go_sem, loadL_a, lenV, indexAddrV, loadV, storeV, sliceV, convertV, V.flag, V.strip]; try (refine hK _ _ ?_; clear hK hKP K KP)) | (refine exV_intro _ rfl ?_; (try simp only [go_sem, loadL_a, lenV, indexAddrV, loadV, storeV, sliceV, convertV, V.flag, V.strip]); try (refine hK _ _ ?_; clear hK hKP K KP))))
    (simp only [postV, resV, oneOf, List.getD_cons_succ, List.getD_cons_zero, and_true, true_and])
    refine Ends.le ?_ (Store.le_refl _)
    have hge : l.length ≤ i := by simpa using hc1
    rw [List.take_of_length_le hge] at hno
    have : l.findIdx? (v == ·) = none := by rw [List.findIdx?_eq_none_iff]; exact hno
    rw [this]; rfl
theorem contains_row (x : V) (p : Nat → V) (l : List Int) (v : Int) (hl : l.length ≤ 9223372036854775807) (σ : Store) (hr : IRow x p l σ) : HQuiet Try.prog 38 [x, I64 v] σ (BV (l.any (v == ·))) := by
  refine HQuiet.of ?_; (refine HCalls.of_vc Try.func38 rfl ?_; rw [Try.ntmps38, Try.results38]; simp only [List.length_cons, List.length_nil, Nat.reduceAdd, Nat.reduceSub, List.replicate, List.cons_append, List.nil_append])
  (repeat (first | refine vc_seq ?_ | refine vc_block ?_ | refine then_normal ?_ | refine vc_ret ?_ | refine vc_skip ?_ | refine vc_exit ?_ | refine then_ret ?_ | refine then_exit ?_ | refine inBlock_normal ?_ | refine inBlock_ret ?_ | refine inBlock_exit ?_ | refine vc_goto ?_ | refine then_goto ?_ | refine inBlock_goto ?_ | refine jump_goto ?_ | refine jump_normal ?_ | refine jump_ret ?_ | refine inBlock_exit' (by decide) ?_ | ((first | refine vc_region fun K KP hK hKP => ?_ | refine guardC_ret0 ?_ | refine guardC_yes0 ?_ | refine guardC_no ?_ | refine guardD_no ?_ | refine effV_true ?_ | refine guardD_ret0 ?_); simp only [go_sem, loadL_a, lenV, indexAddrV, loadV, storeV, sliceV, convertV, V.flag, V.strip]; try (refine hK _ _ ?_; clear hK hKP K KP)) | (refine exV_intro _ rfl ?_; (try simp only [go_sem, loadL_a, lenV, indexAddrV, loadV, storeV, sliceV, convertV, V.flag, V.strip]); try (refine hK _ _ ?_; clear hK hKP K KP))))
  ((try simp only [go_sem, loadL_a, lenV, indexAddrV, loadV, storeV, sliceV, convertV, V.flag, V.strip]); refine callV_quiet en60 (index_row x p l v hl _ hr) ?_)
  ((try simp only [go_sem, loadL_a, lenV, indexAddrV, loadV, storeV, sliceV, convertV, V.flag, V.strip]); (try (refine hK _ _ ?_; clear hK hKP K KP)); repeat (first | refine vc_seq ?_ | refine vc_block ?_ | refine then_normal ?_ | refine vc_ret ?_ | refine vc_skip ?_ | refine vc_exit ?_ | refine then_ret ?_ | refine then_exit ?_ | refine inBlock_normal ?_ | refine inBlock_ret ?_ | refine inBlock_exit ?_ | refine vc_goto ?_ | refine then_goto ?_ | refine inBlock_goto ?_ | refine jump_goto ?_ | refine jump_normal ?_ | refine jump_ret ?_ | refine inBlock_exit' (by decide) ?_ | ((first | refine vc_region fun K KP hK hKP => ?_ | refine guardC_ret0 ?_ | refine guardC_yes0 ?_ | refine guardC_no ?_ | refine guardD_no ?_ | refine effV_true ?_ | refine guardD_ret0 ?_); simp only [go_sem, loadL_a, lenV, indexAddrV, loadV, storeV, sliceV, convertV, V.flag, V.strip]; try (refine hK _ _ ?_; clear hK hKP K KP)) | (refine exV_intro _ rfl ?_; (try simp only [go_sem, loadL_a, lenV, indexAddrV, loadV, storeV, sliceV, convertV, V.flag, V.strip]); try (refine hK _ _ ?_; clear hK hKP K KP))))
  (simp only [postV, resV, oneOf, List.getD_cons_succ, List.getD_cons_zero, and_true, true_and])
  exact Ends.le (by rw [any_idx]) (Store.le_refl _)
end Go.Proofs.Ytaldikplfcoahaa
