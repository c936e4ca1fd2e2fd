/- Rows of labels and entries. -/
import Derived.Test.YtociliegljoldaaGreatI2
import Derived.Test.YtociliegljoldaaGreatWR
namespace Go.Proofs.YtociliegljoldaaGreat
set_option linter.unusedSimpArgs false
set_option linter.unusedVariables false
open Go.Proofs
attribute [local irreducible] vc vcOps vcDraw vcK vcKP vcDK vcDB HWp HCalls postV Ex.then Ex.inBlock stepD callV appendV guardC guardD exV effV opV loadV storeV indexAddrV indexV sliceV
set_option maxRecDepth 10000
set_option maxHeartbeats 4000000

/-- append at elements of type label.Label, k cells each. -/
theorem append_lab {σ0 τ σ : Store} {x y : V} {cs news : List V} {n m : Nat} {K : V → Store → Prop} (hb : Bld 17 σ0 τ x cs n) (hle : τ.le σ) (hrow : ∀ KK : Nat → List V → Prop, KK m news → rowV 17 y σ KK) (hl : news.length = m * 17) (h1 : ∀ c ∈ news, c.one = true) (hm : n + m ≤ 1000000000)
    (h : ∀ x' τ' σ', Bld 17 σ0 τ' x' (cs ++ news) (n + m) → τ'.le σ' → (∀ b, σ b = none → σ' b ≠ none → ∃ cap', x' = .sl b 0 (n + m) cap') → K x' σ') : appendV Tryz.prog 102 102 x y σ K := by
  have hby : Tryz.prog.bytesOf 39 ≤ 1000 := by rw [show Tryz.prog.bytesOf 39 = 88 from by kernel_rfl]; decide
  refine Bld.append Tryz.underlying102 Tryz.underlying102 (by exact trivial) in39 ce39 (by decide) zl39 hb hle hrow hl h1 (by rw [maxLen_i]; omega) ?_ h
  exact Nat.le_trans (Nat.mul_le_mul hm hby) (by decide)

/-- append at elements of type index.Entry, k cells each. -/
theorem append_ent {σ0 τ σ : Store} {x y : V} {cs news : List V} {n m : Nat} {K : V → Store → Prop} (hb : Bld 3 σ0 τ x cs n) (hle : τ.le σ) (hrow : ∀ KK : Nat → List V → Prop, KK m news → rowV 3 y σ KK) (hl : news.length = m * 3) (h1 : ∀ c ∈ news, c.one = true) (hm : n + m ≤ 1000000000)
    (h : ∀ x' τ' σ', Bld 3 σ0 τ' x' (cs ++ news) (n + m) → τ'.le σ' → (∀ b, σ b = none → σ' b ≠ none → ∃ cap', x' = .sl b 0 (n + m) cap') → K x' σ') : appendV Tryz.prog 115 115 x y σ K := by
  have hby : Tryz.prog.bytesOf 118 ≤ 1000 := by rw [show Tryz.prog.bytesOf 118 = 24 from by kernel_rfl]; decide
  refine Bld.append Tryz.underlying115 Tryz.underlying115 (by exact trivial) in118 ce118 (by decide) zl118 hb hle hrow hl h1 (by rw [maxLen_i]; omega) ?_ h
  exact Nat.le_trans (Nat.mul_le_mul hm hby) (by decide)

/-- append at elements of type index.Entry, k cells each; the slice is one of several. -/
theorem own_ent {σ0 τ σ : Store} {x y : V} {cs news : List V} {n m : Nat} {ob : Option Nat} {K : V → Store → Prop} (hb : Own 3 σ0 τ x cs n ob) (hle : τ.le σ) (h0 : σ0.le σ) (hrow : ∀ KK : Nat → List V → Prop, KK m news → rowV 3 y σ KK) (hl : news.length = m * 3) (h1 : ∀ c ∈ news, c.one = true) (hm : n + m ≤ 1000000000)
    (h : ∀ x' ob' σ', Own 3 σ0 σ' x' (cs ++ news) (n + m) ob' → (∀ c l, σ c = some l → some c ≠ ob → σ' c = some l) → (∀ c, ob' = some c → ob = some c ∨ σ c = none) → K x' σ') : appendV Tryz.prog 115 115 x y σ K := by
  have hby : Tryz.prog.bytesOf 118 ≤ 1000 := by rw [show Tryz.prog.bytesOf 118 = 24 from by kernel_rfl]; decide
  refine Own.append Tryz.underlying115 Tryz.underlying115 (by exact trivial) in118 ce118 (by decide) zl118 hb hle h0 hrow hl h1 (by rw [maxLen_i]; omega) ?_ h
  exact Nat.le_trans (Nat.mul_le_mul hm hby) (by decide)

/-- slices.IndexFunc at elements of type label.Label: indexFunc_lab. -/
theorem indexFunc_lab (xs : List V) (g : FuncId) (ps qs : List V) (p : V → Bool) (σ : Store) (hl : xs.length ≤ 9223372036854775807) (hc : ∀ x ∈ xs, ∀ K : V → Prop, K x → loadL Tryz.prog 39 x.cells 0 K) (he : entersB Tryz.prog g = true)
    (hf : ∀ x ∈ xs, HQuiet Tryz.prog g (ps ++ [x] ++ qs) σ (BV (p x))) :
    HQuiet Tryz.prog 160 [.lst 17 xs, .fn (.func g) ps qs] σ (I64 (idxOf (xs.findIdx? p))) := by
  refine HQuiet.of ?_; (refine HCalls.of_vc Tryz.func160 rfl ?_; rw [Tryz.ntmps160, Tryz.results160]; simp only [List.length_cons, List.length_nil, Nat.reduceAdd, Nat.reduceSub, List.replicate, List.cons_append, List.nil_append])
  (repeat (first | refine Stp.s ?_ | refine inBlock_exit' (by decide) ?_ | ((first | refine vc_region fun K KP hK hKP => ?_ | refine Stg.s ?_ | refine guardD_ret0 ?_ | refine exV_intro _ rfl ?_); (try simp only [go_sem, loadL_a]); try ((first | refine hK _ _ ?_ | refine hKP _ _ _ ?_ | refine hKP _ _ (fun _ => ?_)); clear hK hKP K KP))))
  refine vc_loop (loopV (fun (i : Nat) => [.lst 17 xs, .fn (.func g) ps qs, .top, .top, I64 0, .top, .lst 17 xs, I64 xs.length, I64 i, .top, .top, .top, .top, .top, .top, .top, .top, .top, .top]) (fun i τ => i ≤ xs.length ∧ τ = σ ∧ ∀ x ∈ xs.take i, p x = false) (fun i _ => xs.length - i) 0 (by repeat (first | exact LeEnv.nil | refine LeEnv.same ?_ | refine LeEnv.top ?_)) ⟨Nat.zero_le _, rfl, by simp⟩ ?_)
  rintro i τ ⟨hi, rfl, hno⟩
  (repeat (first | refine Stp.s ?_ | refine inBlock_exit' (by decide) ?_ | ((first | refine vc_region fun K KP hK hKP => ?_ | refine Stg.s ?_ | refine guardD_ret0 ?_ | refine exV_intro _ rfl ?_); (try simp only [go_sem, loadL_a]); try ((first | refine hK _ _ ?_ | refine hKP _ _ _ ?_ | refine hKP _ _ (fun _ => ?_)); clear hK hKP K KP))))
  refine vc_cond rfl (fun hc1 => ?_) (fun hc1 => ?_)
  · have hlt : i < xs.length := by simpa using hc1
    have hx : xs.getD i .top = xs[i] := by simp [hlt]
    (repeat (first | refine Stp.s ?_ | refine inBlock_exit' (by decide) ?_ | ((first | refine vc_region fun K KP hK hKP => ?_ | refine Stg.s ?_ | refine guardD_ret0 ?_ | refine exV_intro _ rfl ?_); (try simp only [go_sem, Int.toNat_natCast, hx]); try ((first | refine hK _ _ ?_ | refine hKP _ _ _ ?_ | refine hKP _ _ (fun _ => ?_)); clear hK hKP K KP))))
    refine ⟨by omega, by omega, hc _ (List.getElem_mem hlt) _ (callV_quiet he (hf _ (List.getElem_mem hlt)) ?_)⟩
    ((try simp only [go_sem, loadL_a]); refine hK _ _ ?_; clear hK hKP K KP; repeat (first | refine Stp.s ?_ | refine inBlock_exit' (by decide) ?_ | ((first | refine vc_region fun K KP hK hKP => ?_ | refine Stg.s ?_ | refine guardD_ret0 ?_ | refine exV_intro _ rfl ?_); (try simp only [go_sem, loadL_a]); try ((first | refine hK _ _ ?_ | refine hKP _ _ _ ?_ | refine hKP _ _ (fun _ => ?_)); clear hK hKP K KP))))
    refine vc_cond rfl (fun hp => ?_) (fun hp => ?_)
    · (repeat (first | refine Stp.s ?_ | refine inBlock_exit' (by decide) ?_ | ((first | refine vc_region fun K KP hK hKP => ?_ | refine Stg.s ?_ | refine guardD_ret0 ?_ | refine exV_intro _ rfl ?_); (try simp only [go_sem, loadL_a]); try ((first | refine hK _ _ ?_ | refine hKP _ _ _ ?_ | refine hKP _ _ (fun _ => ?_)); clear hK hKP K KP))))
      (simp only [postV, resV, oneOf, List.getD_cons_succ, List.getD_cons_zero, and_true, true_and])
      refine Ends.le ?_ (Store.le_refl _)
      have : xs.findIdx? p = some i := by
        rw [List.findIdx?_eq_some_iff_getElem]
        exact ⟨hlt, hp, fun j hj => by have := hno xs[j] (by rw [List.mem_take_iff_getElem]; exact ⟨j, by omega, rfl⟩); simp [this]⟩
      rw [this]; rfl
    · have hw := i64_succ hlt hl
      (repeat (first | refine Stp.s ?_ | refine inBlock_exit' (by decide) ?_ | ((first | refine vc_region fun K KP hK hKP => ?_ | refine Stg.s ?_ | refine guardD_ret0 ?_ | refine exV_intro _ rfl ?_); (try simp only [go_sem, loadL_a, hw]); try ((first | refine hK _ _ ?_ | refine hKP _ _ _ ?_ | refine hKP _ _ (fun _ => ?_)); clear hK hKP K KP))))
      refine ⟨i + 1, _, (by repeat (first | exact LeEnv.nil | refine LeEnv.same ?_ | refine LeEnv.top ?_)), Store.le_refl _, ⟨by omega, rfl, ?_⟩, by omega⟩
      intro x hx'
      rw [List.take_succ_eq_append_getElem hlt] at hx'
      rcases List.mem_append.1 hx' with h | h
      · exact hno x h
      · simp at h; subst h; exact hp
  · (repeat (first | refine Stp.s ?_ | refine inBlock_exit' (by decide) ?_ | ((first | refine vc_region fun K KP hK hKP => ?_ | refine Stg.s ?_ | refine guardD_ret0 ?_ | refine exV_intro _ rfl ?_); (try simp only [go_sem, loadL_a]); try ((first | refine hK _ _ ?_ | refine hKP _ _ _ ?_ | refine hKP _ _ (fun _ => ?_)); clear hK hKP K KP))))
    (simp only [postV, resV, oneOf, List.getD_cons_succ, List.getD_cons_zero, and_true, true_and])
    refine Ends.le ?_ (Store.le_refl _)
    have hge : xs.length ≤ i := by simpa using hc1
    rw [List.take_of_length_le hge] at hno
    have : xs.findIdx? p = none := by rw [List.findIdx?_eq_none_iff]; exact hno
    rw [this]; rfl

/-- slices.ContainsFunc at elements of type label.Label. -/
theorem indexFunc_lab_any (xs : List V) (g : FuncId) (ps qs : List V) (p : V → Bool) (σ : Store) (hl : xs.length ≤ 9223372036854775807) (hc : ∀ x ∈ xs, ∀ K : V → Prop, K x → loadL Tryz.prog 39 x.cells 0 K) (he : entersB Tryz.prog g = true)
    (hf : ∀ x ∈ xs, HQuiet Tryz.prog g (ps ++ [x] ++ qs) σ (BV (p x))) : HQuiet Tryz.prog 156 [.lst 17 xs, .fn (.func g) ps qs] σ (BV (xs.any p)) := by
  refine HQuiet.of ?_; (refine HCalls.of_vc Tryz.func156 rfl ?_; rw [Tryz.ntmps156, Tryz.results156]; simp only [List.length_cons, List.length_nil, Nat.reduceAdd, Nat.reduceSub, List.replicate, List.cons_append, List.nil_append])
  (repeat (first | refine Stp.s ?_ | refine inBlock_exit' (by decide) ?_ | ((first | refine vc_region fun K KP hK hKP => ?_ | refine Stg.s ?_ | refine guardD_ret0 ?_ | refine exV_intro _ rfl ?_); (try simp only [go_sem, loadL_a]); try ((first | refine hK _ _ ?_ | refine hKP _ _ _ ?_ | refine hKP _ _ (fun _ => ?_)); clear hK hKP K KP))))
  refine callV_quiet en160 (indexFunc_lab xs g ps qs p σ hl hc he hf) ?_
  ((try simp only [go_sem, loadL_a]); refine hK _ _ ?_; clear hK hKP K KP; repeat (first | refine Stp.s ?_ | refine inBlock_exit' (by decide) ?_ | ((first | refine vc_region fun K KP hK hKP => ?_ | refine Stg.s ?_ | refine guardD_ret0 ?_ | refine exV_intro _ rfl ?_); (try simp only [go_sem, loadL_a]); try ((first | refine hK _ _ ?_ | refine hKP _ _ _ ?_ | refine hKP _ _ (fun _ => ?_)); clear hK hKP K KP))))
  (simp only [postV, resV, oneOf, List.getD_cons_succ, List.getD_cons_zero, and_true, true_and])
  exact Ends.le (by rw [any_idx]) (Store.le_refl _)

/-- slices.Clone, open for more, at elements of type label.Label: cloneb_labs. -/
theorem cloneb_labs (xs : List V) (hl : xs.length ≤ 1000000000) (hk : ∀ x ∈ xs, x.cells.length = 17) (h1 : ∀ x ∈ xs, ∀ c ∈ x.cells, c.one = true) (σ : Store) : HCalls Tryz.prog 99 [.lst 17 xs] σ (fun r σ' => ∃ x τ, r = .ret x ∧ τ.le σ' ∧ Bld 17 σ τ x (xs.flatMap V.cells) xs.length) := by
  (refine HCalls.of_vc Tryz.func99 rfl ?_; rw [Tryz.ntmps99, Tryz.results99]; simp only [List.length_cons, List.length_nil, Nat.reduceAdd, Nat.reduceSub, List.replicate, List.cons_append, List.nil_append])
  have hnil : ∀ K : V → Store → Prop, (∀ b : Bool, (b = true → xs = []) → K (BV b) σ) → binV Tryz.prog .eql 102 (.lst 17 xs) nilS σ K := fun K hK => by
    cases xs with
    | nil => rw [bin_empty]; exact ⟨⟨_, Tryz.underlying102⟩, .inl rfl, fun b => hK b fun _ => rfl⟩
    | cons c cs => simp only [go_sem, loadL_a]; exact hK false fun q => by cases q
  (repeat (first | refine Stp.s ?_ | refine inBlock_exit' (by decide) ?_ | ((first | refine vc_region fun K KP hK hKP => ?_ | refine Stg.s ?_ | refine guardD_ret0 ?_ | refine exV_intro _ rfl ?_); (try simp only [go_sem, loadL_a]); try ((first | refine hK _ _ ?_ | refine hKP _ _ _ ?_ | refine hKP _ _ (fun _ => ?_)); clear hK hKP K KP))))
  refine hnil _ (fun b hb => ?_)
  ((try simp only [go_sem, loadL_a]); (try ((first | refine hK _ _ ?_ | refine hKP _ _ _ ?_ | refine hKP _ _ (fun _ => ?_)); clear hK hKP K KP)); repeat (first | refine Stp.s ?_ | refine inBlock_exit' (by decide) ?_ | ((first | refine vc_region fun K KP hK hKP => ?_ | refine Stg.s ?_ | refine guardD_ret0 ?_ | refine exV_intro _ rfl ?_); (try simp only [go_sem, loadL_a]); try ((first | refine hK _ _ ?_ | refine hKP _ _ _ ?_ | refine hKP _ _ (fun _ => ?_)); clear hK hKP K KP))))
  refine vc_cond rfl (fun hc => ?_) (fun hc => ?_)
  · rw [hb hc]
    (repeat (first | refine Stp.s ?_ | refine inBlock_exit' (by decide) ?_ | ((first | refine vc_region fun K KP hK hKP => ?_ | refine Stg.s ?_ | refine guardD_ret0 ?_ | refine exV_intro _ rfl ?_); (try simp only [go_sem, loadL_a]); try ((first | refine hK _ _ ?_ | refine hKP _ _ _ ?_ | refine hKP _ _ (fun _ => ?_)); clear hK hKP K KP))))
    (simp only [postV, resV, oneOf, List.getD_cons_succ, List.getD_cons_zero, and_true, true_and])
    exact ⟨_, _, rfl, Store.le_refl _, Bld.nil 17 σ⟩
  · (repeat (first | refine Stp.s ?_ | refine inBlock_exit' (by decide) ?_ | ((first | refine vc_region fun K KP hK hKP => ?_ | refine Stg.s ?_ | refine guardD_ret0 ?_ | refine exV_intro _ rfl ?_); (try simp only [go_sem, loadL_a]); try ((first | refine hK _ _ ?_ | refine hKP _ _ _ ?_ | refine hKP _ _ (fun _ => ?_)); clear hK hKP K KP))))
    intro b5 hb5
    have hB : Bld 17 σ (σ.set b5 (.cells (repL [V.val (.int .u64 0), V.val (.int .i64 0), V.val (.int .u32 0), V.val (.int .i64 0), V.val (.int .i64 0), V.val (.int .u32 0), V.val (.int .u32 0), V.val (.int .u32 0), V.val (.int .u32 0), V.val (.int .u32 0), V.val (.int .u32 0), V.val (.int .u32 0), V.val (.int .u32 0), V.val (.int .u32 0), V.val (.int .u32 0), V.val (.int .u32 0), V.val (.int .u32 0)] 0))) (.sl b5 0 0 0) [] 0 := .inr ⟨b5, 0, [], rfl, hb5, rfl, rfl, by simp, Nat.le_refl _, by decide⟩
    have hfl : ∀ ys : List V, (∀ x ∈ ys, x.cells.length = 17) → (ys.flatMap V.cells).length = ys.length * 17 := fun ys => by
      induction ys with
      | nil => intro _; rfl
      | cons y ys ih => intro h; rw [List.flatMap_cons, List.length_append, ih fun x hx => h x (by simp [hx]), h y (by simp), List.length_cons]; omega
    refine append_lab hB (Store.le_refl _) (fun KK hk => row_lst KK hk) (hfl xs hk) (fun c hc => by obtain ⟨x, hx, hc⟩ := List.mem_flatMap.1 hc; exact h1 x hx c hc) (by omega) ?_
    intro x' τ' σ' hB' hle' _
    ((try simp only [go_sem, loadL_a]); refine hK _ _ ?_; clear hK hKP K KP; repeat (first | refine Stp.s ?_ | refine inBlock_exit' (by decide) ?_ | ((first | refine vc_region fun K KP hK hKP => ?_ | refine Stg.s ?_ | refine guardD_ret0 ?_ | refine exV_intro _ rfl ?_); (try simp only [go_sem, loadL_a]); try ((first | refine hK _ _ ?_ | refine hKP _ _ _ ?_ | refine hKP _ _ (fun _ => ?_)); clear hK hKP K KP))))
    (simp only [postV, resV, oneOf, List.getD_cons_succ, List.getD_cons_zero, and_true, true_and])
    rw [List.nil_append, Nat.zero_add] at hB'
    exact ⟨_, _, rfl, hle', hB'⟩

/-- slices.Clone at elements of type label.Label: clone_labs. -/
theorem clone_labs (xs : List V) (hl : xs.length ≤ 1000000000) (hk : ∀ x ∈ xs, x.cells.length = 17) (h1 : ∀ x ∈ xs, ∀ c ∈ x.cells, c.one = true) : HPure Tryz.prog 99 [.lst 17 xs] (.lst 17 xs) := by
  (refine HPure.of en99 fun σ => ?_); (refine HCalls.of_vc Tryz.func99 rfl ?_; rw [Tryz.ntmps99, Tryz.results99]; simp only [List.length_cons, List.length_nil, Nat.reduceAdd, Nat.reduceSub, List.replicate, List.cons_append, List.nil_append])
  have hnil : ∀ K : V → Store → Prop, (∀ b : Bool, (b = true → xs = []) → K (BV b) σ) → binV Tryz.prog .eql 102 (.lst 17 xs) nilS σ K := fun K hK => by
    cases xs with
    | nil => rw [bin_empty]; exact ⟨⟨_, Tryz.underlying102⟩, .inl rfl, fun b => hK b fun _ => rfl⟩
    | cons c cs => simp only [go_sem, loadL_a]; exact hK false fun q => by cases q
  (repeat (first | refine Stp.s ?_ | refine inBlock_exit' (by decide) ?_ | ((first | refine vc_region fun K KP hK hKP => ?_ | refine Stg.s ?_ | refine guardD_ret0 ?_ | refine exV_intro _ rfl ?_); (try simp only [go_sem, loadL_a]); try ((first | refine hK _ _ ?_ | refine hKP _ _ _ ?_ | refine hKP _ _ (fun _ => ?_)); clear hK hKP K KP))))
  refine hnil _ (fun b hb => ?_)
  ((try simp only [go_sem, loadL_a]); (try ((first | refine hK _ _ ?_ | refine hKP _ _ _ ?_ | refine hKP _ _ (fun _ => ?_)); clear hK hKP K KP)); repeat (first | refine Stp.s ?_ | refine inBlock_exit' (by decide) ?_ | ((first | refine vc_region fun K KP hK hKP => ?_ | refine Stg.s ?_ | refine guardD_ret0 ?_ | refine exV_intro _ rfl ?_); (try simp only [go_sem, loadL_a]); try ((first | refine hK _ _ ?_ | refine hKP _ _ _ ?_ | refine hKP _ _ (fun _ => ?_)); clear hK hKP K KP))))
  refine vc_cond rfl (fun hc => ?_) (fun hc => ?_)
  · rw [hb hc]
    (repeat (first | refine Stp.s ?_ | refine inBlock_exit' (by decide) ?_ | ((first | refine vc_region fun K KP hK hKP => ?_ | refine Stg.s ?_ | refine guardD_ret0 ?_ | refine exV_intro _ rfl ?_); (try simp only [go_sem, loadL_a]); try ((first | refine hK _ _ ?_ | refine hKP _ _ _ ?_ | refine hKP _ _ (fun _ => ?_)); clear hK hKP K KP))))
    (simp only [postV, resV, oneOf, List.getD_cons_succ, List.getD_cons_zero, and_true, true_and])
    exact Ends.mk (Bld.weakens (Bld.nil 17 σ) (Store.le_refl _) rfl rfl (by simp))
  · (repeat (first | refine Stp.s ?_ | refine inBlock_exit' (by decide) ?_ | ((first | refine vc_region fun K KP hK hKP => ?_ | refine Stg.s ?_ | refine guardD_ret0 ?_ | refine exV_intro _ rfl ?_); (try simp only [go_sem, loadL_a]); try ((first | refine hK _ _ ?_ | refine hKP _ _ _ ?_ | refine hKP _ _ (fun _ => ?_)); clear hK hKP K KP))))
    intro b5 hb5
    have hB : Bld 17 σ (σ.set b5 (.cells (repL [V.val (.int .u64 0), V.val (.int .i64 0), V.val (.int .u32 0), V.val (.int .i64 0), V.val (.int .i64 0), V.val (.int .u32 0), V.val (.int .u32 0), V.val (.int .u32 0), V.val (.int .u32 0), V.val (.int .u32 0), V.val (.int .u32 0), V.val (.int .u32 0), V.val (.int .u32 0), V.val (.int .u32 0), V.val (.int .u32 0), V.val (.int .u32 0), V.val (.int .u32 0)] 0))) (.sl b5 0 0 0) [] 0 := .inr ⟨b5, 0, [], rfl, hb5, rfl, rfl, by simp, Nat.le_refl _, by decide⟩
    have hfl : ∀ ys : List V, (∀ x ∈ ys, x.cells.length = 17) → (ys.flatMap V.cells).length = ys.length * 17 := fun ys => by
      induction ys with
      | nil => intro _; rfl
      | cons y ys ih => intro h; rw [List.flatMap_cons, List.length_append, ih fun x hx => h x (by simp [hx]), h y (by simp), List.length_cons]; omega
    refine append_lab hB (Store.le_refl _) (fun KK hk => row_lst KK hk) (hfl xs hk) (fun c hc => by obtain ⟨x, hx, hc⟩ := List.mem_flatMap.1 hc; exact h1 x hx c hc) (by omega) ?_
    intro x' τ' σ' hB' hle' _
    ((try simp only [go_sem, loadL_a]); refine hK _ _ ?_; clear hK hKP K KP; repeat (first | refine Stp.s ?_ | refine inBlock_exit' (by decide) ?_ | ((first | refine vc_region fun K KP hK hKP => ?_ | refine Stg.s ?_ | refine guardD_ret0 ?_ | refine exV_intro _ rfl ?_); (try simp only [go_sem, loadL_a]); try ((first | refine hK _ _ ?_ | refine hKP _ _ _ ?_ | refine hKP _ _ (fun _ => ?_)); clear hK hKP K KP))))
    (simp only [postV, resV, oneOf, List.getD_cons_succ, List.getD_cons_zero, and_true, true_and])
    exact Ends.mk (Bld.weakens hB' hle' (by simp) (by simp) hk)

/-- slices.Clone at elements of type index.Entry, of a slice in owned memory: clone_ents. -/
theorem clone_ents {x : V} {xs : List V} {σ : Store} {ob : Option Nat} (hO : Own 3 Emp σ x (xs.flatMap V.cells) xs.length ob) (hl : xs.length ≤ 1000000000) (hk : ∀ x ∈ xs, x.cells.length = 3) (h1 : ∀ x ∈ xs, ∀ c ∈ x.cells, c.one = true) : HQuiet Tryz.prog 110 [x] σ (.lst 3 xs) := by
  have hnil : ∀ K : V → Store → Prop, (∀ b : Bool, (b = true → xs = []) → K (BV b) σ) → binV Tryz.prog .eql 115 x nilS σ K := fun K hK => by
    rcases hO with ⟨rfl, h, _⟩ | ⟨b, cap, pre, spare, _, rfl, _⟩
    · have hbs : xs = [] := List.eq_nil_of_length_eq_zero h
      skip
      simp only [go_sem, loadL_a]
      exact hK true fun _ => hbs
    · skip
      simp only [go_sem, loadL_a]
      exact hK false fun q => by cases q
  have hfl : ∀ ys : List V, (∀ x ∈ ys, x.cells.length = 3) → (ys.flatMap V.cells).length = ys.length * 3 := fun ys => by
    induction ys with
    | nil => intro _; rfl
    | cons y ys ih => intro h; rw [List.flatMap_cons, List.length_append, ih fun x hx => h x (by simp [hx]), h y (by simp), List.length_cons]; omega
  refine HQuiet.of ?_; (refine HCalls.of_vc Tryz.func110 rfl ?_; rw [Tryz.ntmps110, Tryz.results110]; simp only [List.length_cons, List.length_nil, Nat.reduceAdd, Nat.reduceSub, List.replicate, List.cons_append, List.nil_append])
  (repeat (first | refine Stp.s ?_ | refine inBlock_exit' (by decide) ?_ | ((first | refine vc_region fun K KP hK hKP => ?_ | refine Stg.s ?_ | refine guardD_ret0 ?_ | refine exV_intro _ rfl ?_); (try simp only [go_sem, loadL_a]); try ((first | refine hK _ _ ?_ | refine hKP _ _ _ ?_ | refine hKP _ _ (fun _ => ?_)); clear hK hKP K KP))))
  refine hnil _ (fun b hb => ?_)
  ((try simp only [go_sem, loadL_a]); (try ((first | refine hK _ _ ?_ | refine hKP _ _ _ ?_ | refine hKP _ _ (fun _ => ?_)); clear hK hKP K KP)); repeat (first | refine Stp.s ?_ | refine inBlock_exit' (by decide) ?_ | ((first | refine vc_region fun K KP hK hKP => ?_ | refine Stg.s ?_ | refine guardD_ret0 ?_ | refine exV_intro _ rfl ?_); (try simp only [go_sem, loadL_a]); try ((first | refine hK _ _ ?_ | refine hKP _ _ _ ?_ | refine hKP _ _ (fun _ => ?_)); clear hK hKP K KP))))
  refine vc_cond rfl (fun hc => ?_) (fun hc => ?_)
  · rw [hb hc]
    (repeat (first | refine Stp.s ?_ | refine inBlock_exit' (by decide) ?_ | ((first | refine vc_region fun K KP hK hKP => ?_ | refine Stg.s ?_ | refine guardD_ret0 ?_ | refine exV_intro _ rfl ?_); (try simp only [go_sem, loadL_a]); try ((first | refine hK _ _ ?_ | refine hKP _ _ _ ?_ | refine hKP _ _ (fun _ => ?_)); clear hK hKP K KP))))
    (simp only [postV, resV, oneOf, List.getD_cons_succ, List.getD_cons_zero, and_true, true_and])
    exact Ends.mk (Bld.weakens (Bld.nil 3 σ) (Store.le_refl _) rfl rfl (by simp))
  · (repeat (first | refine Stp.s ?_ | refine inBlock_exit' (by decide) ?_ | ((first | refine vc_region fun K KP hK hKP => ?_ | refine Stg.s ?_ | refine guardD_ret0 ?_ | refine exV_intro _ rfl ?_); (try simp only [go_sem, loadL_a]); try ((first | refine hK _ _ ?_ | refine hKP _ _ _ ?_ | refine hKP _ _ (fun _ => ?_)); clear hK hKP K KP))))
    intro b5 hb5
    have hB : Bld 3 σ (σ.set b5 (.cells (repL [V.val (.int .i64 0), V.val (.int .u32 0), V.val (.int .i64 0)] 0))) (.sl b5 0 0 0) [] 0 := .inr ⟨b5, 0, [], rfl, hb5, rfl, rfl, by simp, Nat.le_refl _, by decide⟩
    refine append_ent hB (Store.le_refl _) (fun KK hkk => row_own (hO.keep fun b l _ h => hB.base _ _ h) KK hkk) (hfl xs hk) (fun c hc => by obtain ⟨x, hx, hc⟩ := List.mem_flatMap.1 hc; exact h1 x hx c hc) (by omega) ?_
    intro x' τ' σ' hB' hle' _
    ((try simp only [go_sem, loadL_a]); refine hK _ _ ?_; clear hK hKP K KP; repeat (first | refine Stp.s ?_ | refine inBlock_exit' (by decide) ?_ | ((first | refine vc_region fun K KP hK hKP => ?_ | refine Stg.s ?_ | refine guardD_ret0 ?_ | refine exV_intro _ rfl ?_); (try simp only [go_sem, loadL_a]); try ((first | refine hK _ _ ?_ | refine hKP _ _ _ ?_ | refine hKP _ _ (fun _ => ?_)); clear hK hKP K KP))))
    (simp only [postV, resV, oneOf, List.getD_cons_succ, List.getD_cons_zero, and_true, true_and])
    exact Ends.mk (Bld.weakens hB' hle' (by simp) (by simp) hk)

/-- slices.Grow of nothing at elements of type label.Label: grow_labs. -/
theorem grow_labs (m : Nat) (hm : m ≤ 1000000000) (σ : Store) : HCalls Tryz.prog 209 [nilS, I64 m] σ (fun r σ' => ∃ x τ, r = .ret x ∧ τ.le σ' ∧ Bld 17 σ τ x [] 0) := by
  (refine HCalls.of_vc Tryz.func209 rfl ?_; rw [Tryz.ntmps209, Tryz.results209]; simp only [List.length_cons, List.length_nil, Nat.reduceAdd, Nat.reduceSub, List.replicate, List.cons_append, List.nil_append])
  have z0 : ((0 : Nat) : Int) = 0 := rfl
  have hw0 : IntKind.i64.wrap ((0 : Int) - 0) = 0 := by rw [Int.sub_zero, i64_in (by omega) (by omega)]
  have hw : IntKind.i64.wrap ((m : Int) - 0) = (m : Int) := by rw [Int.sub_zero, i64_in (by omega) (by omega)]
  (repeat (first | refine Stp.s ?_ | refine inBlock_exit' (by decide) ?_ | ((first | refine vc_region fun K KP hK hKP => ?_ | refine Stg.s ?_ | refine guardD_ret0 ?_ | refine exV_intro _ rfl ?_); (try simp only [go_sem, loadL_a]); try ((first | refine hK _ _ ?_ | refine hKP _ _ _ ?_ | refine hKP _ _ (fun _ => ?_)); clear hK hKP K KP))))
  refine vc_cond rfl (fun hc => by simp at hc; omega) (fun _ => ?_)
  (repeat (first | refine Stp.s ?_ | refine inBlock_exit' (by decide) ?_ | ((first | refine vc_region fun K KP hK hKP => ?_ | refine Stg.s ?_ | refine guardD_ret0 ?_ | refine exV_intro _ rfl ?_); (try simp only [go_sem, loadL_a, z0, hw0, hw]); try ((first | refine hK _ _ ?_ | refine hKP _ _ _ ?_ | refine hKP _ _ (fun _ => ?_)); clear hK hKP K KP))))
  refine vc_cond rfl (fun hc => ?_) (fun hc => ?_)
  · have hm0 : 0 < m := by simp at hc; omega
    have e1 : (m : Int).toNat = m := Int.toNat_natCast m
    have hbz : (zeroV Tryz.prog 39).map List.length = some 17 := zl39
    have hby : Tryz.prog.bytesOf 39 ≤ 1000 := by rw [by39]; decide
    have hmul : m * Tryz.prog.bytesOf 39 ≤ 140737488355328 := Nat.le_trans (Nat.mul_le_mul hm hby) (by decide)
    have hmx : m ≤ maxLen := by rw [maxLen_i]; omega
    (repeat (first | refine Stp.s ?_ | refine inBlock_exit' (by decide) ?_ | ((first | refine vc_region fun K KP hK hKP => ?_ | refine Stg.s ?_ | refine guardD_ret0 ?_ | refine exV_intro _ rfl ?_); (try simp only [go_sem, loadL_a, z0, hw0, hw, Int.le_refl, e1]); try ((first | refine hK _ _ ?_ | refine hKP _ _ _ ?_ | refine hKP _ _ (fun _ => ?_)); clear hK hKP K KP))))
    refine ⟨by omega, hmx, hmul, fun h => absurd h (by omega), fun _ c cap' hc hcap hcm => ⟨by omega, ?_⟩⟩
    simp only [Int.toNat_natCast, Int.toNat_zero, ite_self, Nat.sub_zero]
    ((try simp only [go_sem, loadL_a]); refine hK _ _ ?_; clear hK hKP K KP; repeat (first | refine Stp.s ?_ | refine inBlock_exit' (by decide) ?_ | ((first | refine vc_region fun K KP hK hKP => ?_ | refine Stg.s ?_ | refine guardD_ret0 ?_ | refine exV_intro _ rfl ?_); (try simp only [go_sem, loadL_a]); try ((first | refine hK _ _ ?_ | refine hKP _ _ _ ?_ | refine hKP _ _ (fun _ => ?_)); clear hK hKP K KP))))
    (simp only [postV, resV, oneOf, List.getD_cons_succ, List.getD_cons_zero, and_true, true_and])
    exact ⟨_, _, rfl, Store.le_refl _, .inr ⟨c, cap', _, rfl, hc, by rw [List.nil_append], rfl, by simp, Nat.zero_le _, hcm⟩⟩
  · (repeat (first | refine Stp.s ?_ | refine inBlock_exit' (by decide) ?_ | ((first | refine vc_region fun K KP hK hKP => ?_ | refine Stg.s ?_ | refine guardD_ret0 ?_ | refine exV_intro _ rfl ?_); (try simp only [go_sem, loadL_a]); try ((first | refine hK _ _ ?_ | refine hKP _ _ _ ?_ | refine hKP _ _ (fun _ => ?_)); clear hK hKP K KP))))
    (simp only [postV, resV, oneOf, List.getD_cons_succ, List.getD_cons_zero, and_true, true_and])
    exact ⟨_, _, rfl, Store.le_refl _, Bld.nil 17 σ⟩

/-- slices.Concat at elements of type label.Label: concat_labs. -/
theorem concat_labs (b cap : Nat) (parts : List (List V)) (σ : Store) (spare : List V) (hb : σ b = some (.cells (parts.map (V.lst 17) ++ spare))) (hl : parts.flatten.length ≤ 1000000000) (hp : parts.length ≤ 1000000)
    (hk : ∀ l ∈ parts, ∀ x ∈ l, x.cells.length = 17) (h1 : ∀ l ∈ parts, ∀ x ∈ l, ∀ c ∈ x.cells, c.one = true) : HQuiet Tryz.prog 162 [.sl b 0 parts.length cap] σ (.lst 17 parts.flatten) := by
  refine HQuiet.of ?_; (refine HCalls.of_vc Tryz.func162 rfl ?_; rw [Tryz.ntmps162, Tryz.results162]; simp only [List.length_cons, List.length_nil, Nat.reduceAdd, Nat.reduceSub, List.replicate, List.cons_append, List.nil_append])
  (repeat (first | refine Stp.s ?_ | refine inBlock_exit' (by decide) ?_ | ((first | refine vc_region fun K KP hK hKP => ?_ | refine Stg.s ?_ | refine guardD_ret0 ?_ | refine exV_intro _ rfl ?_); (try simp only [go_sem, loadL_a]); try ((first | refine hK _ _ ?_ | refine hKP _ _ _ ?_ | refine hKP _ _ (fun _ => ?_)); clear hK hKP K KP))))
  have hlen : ∀ i, (parts.take i).flatten.length ≤ parts.flatten.length := fun i => by
    conv => rhs; rw [← List.take_append_drop i parts, List.flatten_append, List.length_append]
    omega
  refine vc_loop (loopV (fun (i : Nat) => [.sl b 0 parts.length cap, .top, nilS, I64 (parts.take i).flatten.length, .top, .top, .top, .top, .top, .sl b 0 parts.length cap, I64 parts.length, I64 i, .top, .top, .top, .top, .top, .top, .top, .top, .top, .top, .top, .top, .top, .top, .top, .top, .top, .top, .top, .top, .top, .top, .top, .top]) (fun i τ => i ≤ parts.length ∧ τ = σ) (fun i _ => parts.length - i) 0 (by repeat (first | exact LeEnv.nil | refine LeEnv.same ?_ | refine LeEnv.top ?_)) ⟨Nat.zero_le _, rfl⟩ ?_)
  rintro i τ ⟨hi, rfl⟩
  (repeat (first | refine Stp.s ?_ | refine inBlock_exit' (by decide) ?_ | ((first | refine vc_region fun K KP hK hKP => ?_ | refine Stg.s ?_ | refine guardD_ret0 ?_ | refine exV_intro _ rfl ?_); (try simp only [go_sem, loadL_a]); try ((first | refine hK _ _ ?_ | refine hKP _ _ _ ?_ | refine hKP _ _ (fun _ => ?_)); clear hK hKP K KP))))
  refine vc_cond rfl (fun hc => ?_) (fun hc => ?_)
  · have hlt : i < parts.length := by simpa using hc
    have g0 := le_eq (show (0 : Int) ≤ i by omega)
    have g1 := lt_eq (show (i : Int) < parts.length by omega)
    have hx : (parts.map (V.lst 17) ++ spare)[i]? = some (.lst 17 parts[i]) := by
      rw [List.getElem?_append_left (by simpa using hlt), List.getElem?_map, List.getElem?_eq_getElem hlt]; rfl
    have hfl : (parts.take (i + 1)).flatten.length = (parts.take i).flatten.length + parts[i].length := by
      rw [List.take_succ_eq_append_getElem hlt, List.flatten_append, List.length_append]; simp
    have hle := hlen (i + 1)
    generalize parts[i] = l at *
    have hw : IntKind.i64.wrap (((parts.take i).flatten.length : Int) + (l.length : Int)) = ((parts.take (i + 1)).flatten.length : Int) := by rw [i64_in (by omega) (by omega), hfl]; omega
    (repeat (first | refine Stp.s ?_ | refine inBlock_exit' (by decide) ?_ | ((first | refine vc_region fun K KP hK hKP => ?_ | refine Stg.s ?_ | refine guardD_ret0 ?_ | refine exV_intro _ rfl ?_); (try simp only [go_sem, loadL_a, g0, g1, hb, hx, hw, Int.toNat_natCast]); try ((first | refine hK _ _ ?_ | refine hKP _ _ _ ?_ | refine hKP _ _ (fun _ => ?_)); clear hK hKP K KP))))
    refine vc_cond rfl (fun hc => by simp at hc; omega) (fun _ => ?_)
    (repeat (first | refine Stp.s ?_ | refine inBlock_exit' (by decide) ?_ | ((first | refine vc_region fun K KP hK hKP => ?_ | refine Stg.s ?_ | refine guardD_ret0 ?_ | refine exV_intro _ rfl ?_); (try simp only [go_sem, loadL_a, i64_nsucc (show i < 1000000 by omega)]); try ((first | refine hK _ _ ?_ | refine hKP _ _ _ ?_ | refine hKP _ _ (fun _ => ?_)); clear hK hKP K KP))))
    exact ⟨i + 1, _, (by repeat (first | exact LeEnv.nil | refine LeEnv.same ?_ | refine LeEnv.top ?_)), Store.le_refl _, ⟨hlt, rfl⟩, by omega⟩
  · have hii : i = parts.length := by simp at hc; omega
    subst hii
    rw [List.take_length]
    (repeat (first | refine Stp.s ?_ | refine inBlock_exit' (by decide) ?_ | ((first | refine vc_region fun K KP hK hKP => ?_ | refine Stg.s ?_ | refine guardD_ret0 ?_ | refine exV_intro _ rfl ?_); (try simp only [go_sem, loadL_a]); try ((first | refine hK _ _ ?_ | refine hKP _ _ _ ?_ | refine hKP _ _ (fun _ => ?_)); clear hK hKP K KP))))
    refine callV_of en209 (grow_labs parts.flatten.length hl τ) (fun x σ' q => ?_) (fun x σ' q => by obtain ⟨_, _, e, _⟩ := q; cases e)
    obtain ⟨x, υ, e, hle, hB⟩ := q
    cases e
    ((try simp only [go_sem, loadL_a]); (try ((first | refine hK _ _ ?_ | refine hKP _ _ _ ?_ | refine hKP _ _ (fun _ => ?_)); clear hK hKP K KP)); repeat (first | refine Stp.s ?_ | refine inBlock_exit' (by decide) ?_ | ((first | refine vc_region fun K KP hK hKP => ?_ | refine Stg.s ?_ | refine guardD_ret0 ?_ | refine exV_intro _ rfl ?_); (try simp only [go_sem, loadL_a]); try ((first | refine hK _ _ ?_ | refine hKP _ _ _ ?_ | refine hKP _ _ (fun _ => ?_)); clear hK hKP K KP))))
    refine vc_loop (HWp.sub hle (loopV (fun (a : Nat × V) => [.sl b 0 parts.length cap, .top, nilS, I64 parts.flatten.length, .top, .top, a.2, .top, .top, .top, .top, .top, .top, .top, .top, .top, .top, .top, .top, .top, .top, .top, .top, .top, .top, .sl b 0 parts.length cap, I64 parts.length, I64 a.1, .top, .top, .top, .top, .top, .top, .top, .top]) (fun a υ => a.1 ≤ parts.length ∧ Bld 17 τ υ a.2 ((parts.take a.1).flatten.flatMap V.cells) (parts.take a.1).flatten.length) (fun a _ => parts.length - a.1) (0, x) (by repeat (first | exact LeEnv.nil | refine LeEnv.same ?_ | refine LeEnv.top ?_)) ⟨Nat.zero_le _, hB⟩ ?_))
    clear hB hle
    rintro ⟨i, x⟩ υ ⟨hi, hB⟩
    simp only at hi hB
    (repeat (first | refine Stp.s ?_ | refine inBlock_exit' (by decide) ?_ | ((first | refine vc_region fun K KP hK hKP => ?_ | refine Stg.s ?_ | refine guardD_ret0 ?_ | refine exV_intro _ rfl ?_); (try simp only [go_sem, loadL_a]); try ((first | refine hK _ _ ?_ | refine hKP _ _ _ ?_ | refine hKP _ _ (fun _ => ?_)); clear hK hKP K KP))))
    refine vc_cond rfl (fun hc => ?_) (fun hc => ?_)
    · have hlt : i < parts.length := by simpa using hc
      have hbu := hB.base _ _ hb
      have g0 := le_eq (show (0 : Int) ≤ i by omega)
      have g1 := lt_eq (show (i : Int) < parts.length by omega)
      have hx : (parts.map (V.lst 17) ++ spare)[i]? = some (.lst 17 parts[i]) := by
        rw [List.getElem?_append_left (by simpa using hlt), List.getElem?_map, List.getElem?_eq_getElem hlt]; rfl
      have htk : (parts.take (i + 1)).flatten = (parts.take i).flatten ++ parts[i] := by
        rw [List.take_succ_eq_append_getElem hlt, List.flatten_append]; simp
      have hle := hlen (i + 1)
      have hmem := List.getElem_mem hlt
      generalize parts[i] = l at *
      have hcl : (l.flatMap V.cells).length = l.length * 17 := by
        have : ∀ ys : List V, (∀ x ∈ ys, x.cells.length = 17) → (ys.flatMap V.cells).length = ys.length * 17 := fun ys => by
          induction ys with
          | nil => intro _; rfl
          | cons y ys ih => intro h; rw [List.flatMap_cons, List.length_append, ih fun x hx => h x (by simp [hx]), h y (by simp), List.length_cons]; omega
        exact this l (hk l hmem)
      have hll : (parts.take i).flatten.length + l.length ≤ 1000000000 := by rw [htk, List.length_append] at hle; omega
      (repeat (first | refine Stp.s ?_ | refine inBlock_exit' (by decide) ?_ | ((first | refine vc_region fun K KP hK hKP => ?_ | refine Stg.s ?_ | refine guardD_ret0 ?_ | refine exV_intro _ rfl ?_); (try simp only [go_sem, loadL_a, g0, g1, hbu, hx, Int.toNat_natCast]); try ((first | refine hK _ _ ?_ | refine hKP _ _ _ ?_ | refine hKP _ _ (fun _ => ?_)); clear hK hKP K KP))))
      refine append_lab hB (Store.le_refl _) (fun KK hk => row_lst KK hk) hcl (fun c hc => by obtain ⟨x, hx, hc⟩ := List.mem_flatMap.1 hc; exact h1 l hmem x hx c hc) hll ?_
      intro x' τ' σ' hB' hle' _
      ((try simp only [go_sem, loadL_a, i64_nsucc (show i < 1000000 by omega)]); refine hK _ _ ?_; clear hK hKP K KP; repeat (first | refine Stp.s ?_ | refine inBlock_exit' (by decide) ?_ | ((first | refine vc_region fun K KP hK hKP => ?_ | refine Stg.s ?_ | refine guardD_ret0 ?_ | refine exV_intro _ rfl ?_); (try simp only [go_sem, loadL_a, i64_nsucc (show i < 1000000 by omega)]); try ((first | refine hK _ _ ?_ | refine hKP _ _ _ ?_ | refine hKP _ _ (fun _ => ?_)); clear hK hKP K KP))))
      refine ⟨(i + 1, x'), τ', (by repeat (first | exact LeEnv.nil | refine LeEnv.same ?_ | refine LeEnv.top ?_)), hle', ⟨hlt, ?_⟩, by show parts.length - (i + 1) < parts.length - i; omega⟩
      show Bld 17 τ τ' x' _ _
      rw [htk, List.flatMap_append, List.length_append]
      exact hB'
    · have hii : i = parts.length := by simp at hc; omega
      subst hii
      rw [List.take_length] at hB
      (repeat (first | refine Stp.s ?_ | refine inBlock_exit' (by decide) ?_ | ((first | refine vc_region fun K KP hK hKP => ?_ | refine Stg.s ?_ | refine guardD_ret0 ?_ | refine exV_intro _ rfl ?_); (try simp only [go_sem, loadL_a]); try ((first | refine hK _ _ ?_ | refine hKP _ _ _ ?_ | refine hKP _ _ (fun _ => ?_)); clear hK hKP K KP))))
      (simp only [postV, resV, oneOf, List.getD_cons_succ, List.getD_cons_zero, and_true, true_and])
      exact Ends.mk (Bld.weakens hB (Store.le_refl _) rfl rfl (fun y hy => by obtain ⟨l, hl, hy⟩ := List.mem_flatten.1 hy; exact hk l hl y hy))

end Go.Proofs.YtociliegljoldaaGreat
