/- The document's trees: as bytes; the program's tree as the document's. -/
import Derived.Test.YtbgagffpmdlilaaR9
namespace Go.Proofs.Ytbgagffpmdlilaa
set_option linter.unusedSimpArgs false
set_option linter.unusedVariables false
open Go.Proofs
attribute [local irreducible] vc vcOps vcDraw vcK vcKP vcDK vcDB HWp HCalls postV Ex.then Ex.inBlock stepD callV appendV guardC guardD exV effV opV loadV storeV indexAddrV indexV sliceV
set_option maxRecDepth 10000
set_option maxHeartbeats 4000000

/-- append at elements of type trugref18.Edge, k cells each. -/
theorem append_redge {σ0 τ σ : Store} {x y : V} {cs news : List V} {n m : Nat} {K : V → Store → Prop} (hb : Bld 2 σ0 τ x cs n) (hle : τ.le σ) (hrow : ∀ KK : Nat → List V → Prop, KK m news → rowV 2 y σ KK) (hl : news.length = m * 2) (h1 : ∀ c ∈ news, c.one = true) (hm : n + m ≤ 1000000000)
    (h : ∀ x' τ' σ', Bld 2 σ0 τ' x' (cs ++ news) (n + m) → τ'.le σ' → (∀ b, σ b = none → σ' b ≠ none → ∃ cap', x' = .sl b 0 (n + m) cap') → K x' σ') : appendV Try.prog 30 30 x y σ K := by
  have hby : Try.prog.bytesOf 136 ≤ 1000 := by rw [show Try.prog.bytesOf 136 = 16 from by kernel_rfl]; decide
  refine Bld.append Try.underlying30 Try.underlying30 (by exact trivial) in136 ce136 (by decide) zl136 hb hle hrow hl h1 (by rw [maxLen_i]; omega) ?_ h
  exact Nat.le_trans (Nat.mul_le_mul hm hby) (by decide)

/-- Two ways that come together: what lies behind is walked once. -/
theorem vc_join {P : Program} {a b : Code} {Q : Ex → List V → Store → Prop} {env : List V} {σ : Store} {α : Type} (mk : (Nat → V) → α → List V) (inv : α → Store → Prop) (tail : ∀ j x τ, inv x τ → vc P b Q (mk j x) τ)
    (k : ∀ b', (∀ x τ env, inv x τ → env = mk (fun i => env.getD i .top) x → vc P b' Q env τ) → vc P (.seq a b') Q env σ) : vc P (.seq a b) Q env σ :=
  k b fun x τ env h e => by rw [e]; exact tail _ x τ h
theorem bin_seq {t : TypeId} {a b : List UInt8} {σ : Store} {K : V → Store → Prop} : binV Try.prog .eql t (.val (.string ⟨a.toArray⟩)) (.val (.string ⟨b.toArray⟩)) σ K = K (BV (a == b)) σ := by
  show K (.val (.bool ((⟨a.toArray⟩ : ByteArray).toList == (⟨b.toArray⟩ : ByteArray).toList))) σ = _
  rw [ByteArray.toList_eq, ByteArray.toList_eq]
theorem bin_sne {t : TypeId} {a b : List UInt8} {σ : Store} {K : V → Store → Prop} : binV Try.prog .neq t (.val (.string ⟨a.toArray⟩)) (.val (.string ⟨b.toArray⟩)) σ K = K (BV (!(a == b))) σ := by
  show K (.val (.bool (!((⟨a.toArray⟩ : ByteArray).toList == (⟨b.toArray⟩ : ByteArray).toList)))) σ = _
  rw [ByteArray.toList_eq, ByteArray.toList_eq]
theorem Store.le_set_both {σ τ : Store} {b : Nat} {k : Blk} (h : σ.le τ) : (σ.set b k).le (τ.set b k) := fun c l e => by
  by_cases hc : c = b
  · subst hc; rw [Store.set_same] at e ⊢; exact e
  · rw [Store.set_other _ _ hc] at e ⊢; exact h c l e
theorem Bld.reset {k : Nat} {σ0 τ : Store} {x : V} {cs : List V} {n c : Nat} {kk l : Blk} (hb : Bld k σ0 τ x cs n) (hc : σ0 c = some l) : Bld k (σ0.set c kk) (τ.set c kk) x cs n := by
  rcases hb with ⟨rfl, rfl, rfl, rfl⟩ | ⟨b, cap, spare, rfl, hb0, rfl, hcl, hsl, hnc, hcm⟩
  · exact .inl ⟨rfl, rfl, rfl, rfl⟩
  · have hne : b ≠ c := fun e => by rw [← e, hb0] at hc; cases hc
    exact .inr ⟨b, cap, spare, rfl, by rw [Store.set_other _ _ hne]; exact hb0, Store.set_comm _ _ _ hne, hcl, hsl, hnc, hcm⟩
def lowB (n : Int) : UInt8 := UInt8.ofNat n.toNat
theorem low_wrap {n : Int} (h1 : 0 ≤ n) (h2 : n < 256) : V.val (.int .u8 (IntKind.u8.wrap n)) = byteV (lowB n) := by
  unfold lowB byteV
  rw [u8_in h1 (by omega), byte_lo (by omega)]
  congr 2; omega
theorem low_nat {n : Int} (h1 : 0 ≤ n) (h2 : n < 128) : natB n = [lowB n] := by
  unfold natB lowB
  rw [show max n 0 = n by omega]
  unfold numB
  have : n.toNat % 128 = n.toNat := by omega
  have h0 : n.toNat / 128 = 0 := by omega
  rw [this, h0]
  rfl
theorem low_kinds : ∀ l : List Int, (∀ k ∈ l, 0 ≤ k ∧ k ≤ 3) → l.flatMap natB = l.map lowB
  | [], _ => rfl
  | k :: l, h => by
    have := h k (by simp)
    rw [List.flatMap_cons, List.map_cons, low_nat (by omega) (by omega), low_kinds l fun x hx => h x (by simp [hx])]; rfl
theorem rput_pure (t : Tr) (ht : t.Ok) (hr : t.Low) : HPure Try.prog 20 [t.v] (.lst 1 ((treeB t).map byteV)) := by
  (refine HPure.of en20 fun σ => ?_); (refine HCalls.of_vc Try.func20 rfl ?_; rw [Try.ntmps20, Try.results20]; simp only [List.length_cons, List.length_nil, Nat.reduceAdd, Nat.reduceSub, List.replicate, List.cons_append, List.nil_append])
  (repeat (first | refine Stp.s ?_ | refine inBlock_exit' (by decide) ?_ | ((first | refine vc_region fun K KP hK hKP => ?_ | refine Stg.s ?_ | refine guardD_ret0 ?_ | refine exV_intro _ rfl ?_); (try simp only [go_sem, loadL_a]); try ((first | refine hK _ _ ?_ | refine hKP _ _ _ ?_ | refine hKP _ _ (fun _ => ?_)); clear hK hKP K KP))))
  intro b1 hb1
  have hle1 : σ.le (σ.set b1 (.cells (t.kinds.map I64 ++ [t.es]))) := Store.le_set hb1 (Store.le_refl σ)
  have h1 : (σ.set b1 (.cells (t.kinds.map I64 ++ [t.es]))) b1 = some (.cells (t.kinds.map I64 ++ [t.es])) := Store.set_same _ _ _
  generalize σ.set b1 _ = σ1 at *
  clear hb1
  have hel := ht.e
  have hk12 := ht.k
  have hn11 := hr.n
  have hes : (t.kinds.map I64 ++ [t.es])[12]? = some (.lst 2 (t.edges.map edgeV)) := treeEs t ht
  ((try simp only [go_sem, loadL_a]); refine hK _ _ ?_; clear hK hKP K KP; repeat (first | refine Stp.s ?_ | refine inBlock_exit' (by decide) ?_ | ((first | refine vc_region fun K KP hK hKP => ?_ | refine Stg.s ?_ | refine guardD_ret0 ?_ | refine exV_intro _ rfl ?_); (try simp only [go_sem, loadL_a]); try ((first | refine hK _ _ ?_ | refine hKP _ _ _ ?_ | refine hKP _ _ (fun _ => ?_)); clear hK hKP K KP))))
  refine vc_loop (loopV (fun (a : Nat × V) => [t.v, .ptr b1 0, nilS, a.2, I64 a.1, .top, .top, .top, .top, .top, .top, .top, .top, .top, .top, .top, .top, .top, .top, .top, .top, .top, .top, .top, .top, .top, .top, .top, .top, .top, .top, .top, .top, .top, .top, .top, .top, .top, .top, .top, .top, .top, .top, .top, .top, .top, .top, .top, .top, .top]) (fun a τ => a.1 ≤ 12 ∧ Bld 1 σ1 τ a.2 (((t.kinds.take a.1).map lowB).map byteV) a.1) (fun a _ => 12 - a.1) (0, nilS) (by repeat (first | exact LeEnv.nil | refine LeEnv.same ?_ | refine LeEnv.top ?_)) ⟨by omega, Bld.nil 1 σ1⟩ ?_)
  rintro ⟨i, x⟩ τ ⟨hi, hB⟩
  simp only at hi hB
  (repeat (first | refine Stp.s ?_ | refine inBlock_exit' (by decide) ?_ | ((first | refine vc_region fun K KP hK hKP => ?_ | refine Stg.s ?_ | refine guardD_ret0 ?_ | refine exV_intro _ rfl ?_); (try simp only [go_sem, loadL_a]); try ((first | refine hK _ _ ?_ | refine hKP _ _ _ ?_ | refine hKP _ _ (fun _ => ?_)); clear hK hKP K KP))))
  refine vc_cond rfl (fun hc => ?_) (fun hc => ?_)
  · have hlt : i < 12 := by simp at hc; omega
    have h1' := hB.base _ _ h1
    have g0 := eq_true (show (i : Int) < ((12 : Nat) : Int) by omega)
    have hx : (t.kinds.map I64 ++ [t.es])[i]? = some (I64 (t.kinds[i])) := by
      rw [List.getElem?_append_left (by simp [hk12]; omega), List.getElem?_map, List.getElem?_eq_getElem (by omega)]; rfl
    have hlow := hr.k _ (List.getElem_mem (show i < t.kinds.length by omega))
    have htk := List.take_succ_eq_append_getElem (show i < t.kinds.length by omega)
    generalize t.kinds[i] = k at *
    have hw := low_wrap (n := k) (by omega) (by omega)
    have hle13 : i + 1 ≤ (t.kinds.map I64 ++ [t.es]).length := by simp [hk12]; omega
    (repeat (first | refine Stp.s ?_ | refine inBlock_exit' (by decide) ?_ | ((first | refine vc_region fun K KP hK hKP => ?_ | refine Stg.s ?_ | refine guardD_ret0 ?_ | refine exV_intro _ rfl ?_); (try simp only [go_sem, loadL_a, h1', g0, nat_nn, Int.toNat_natCast, hx, hw]); try ((first | refine hK _ _ ?_ | refine hKP _ _ _ ?_ | refine hKP _ _ (fun _ => ?_)); clear hK hKP K KP))))
    intro b6 hb6
    refine append_u8 hB (Store.le_set hb6 (Store.le_refl _)) (row_lit (Store.set_same _ _ _) rfl rfl) (m := 1) rfl (by simp [byteV, V.one]) (by omega) ?_
    intro x' τ' σ' hB' hle' _
    ((try simp only [go_sem, loadL_a, i64_nsucc (show i < 1000000 by omega)]); refine hK _ _ ?_; clear hK hKP K KP; repeat (first | refine Stp.s ?_ | refine inBlock_exit' (by decide) ?_ | ((first | refine vc_region fun K KP hK hKP => ?_ | refine Stg.s ?_ | refine guardD_ret0 ?_ | refine exV_intro _ rfl ?_); (try simp only [go_sem, loadL_a, i64_nsucc (show i < 1000000 by omega)]); try ((first | refine hK _ _ ?_ | refine hKP _ _ _ ?_ | refine hKP _ _ (fun _ => ?_)); clear hK hKP K KP))))
    refine ⟨(i + 1, x'), τ', (by repeat (first | exact LeEnv.nil | refine LeEnv.same ?_ | refine LeEnv.top ?_)), hle', ⟨by show i + 1 ≤ 12; omega, ?_⟩, by show 12 - (i + 1) < 12 - i; omega⟩
    show Bld 1 σ1 τ' x' _ _
    rw [htk, List.map_append, List.map_append]
    exact hB'
  · have hi12 : i = 12 := by simp at hc; omega
    subst hi12
    rw [List.take_of_length_le (by omega)] at hB
    have h1' := hB.base _ _ h1
    have u1 : IntKind.u64.wrap (t.edges.length : Int) = (t.edges.length : Int) := u64_in (by omega) (by omega)
    (repeat (first | refine Stp.s ?_ | refine inBlock_exit' (by decide) ?_ | ((first | refine vc_region fun K KP hK hKP => ?_ | refine Stg.s ?_ | refine guardD_ret0 ?_ | refine exV_intro _ rfl ?_); (try simp only [go_sem, loadL_a, h1', hes, List.length_map, u1]); try ((first | refine hK _ _ ?_ | refine hKP _ _ _ ?_ | refine hKP _ _ (fun _ => ?_)); clear hK hKP K KP))))
    ((try simp only [go_sem, loadL_a]); first | refine callV_pure (rnum_pure t.edges.length (by omega)) ?_ | refine guardC_q0 (fun _ => callV_pure (rnum_pure t.edges.length (by omega)) ⟨rfl, rfl⟩) ?_)
    ((try simp only [go_sem, loadL_a]); (try ((first | refine hK _ _ ?_ | refine hKP _ _ _ ?_ | refine hKP _ _ (fun _ => ?_)); clear hK hKP K KP)); repeat (first | refine Stp.s ?_ | refine inBlock_exit' (by decide) ?_ | ((first | refine vc_region fun K KP hK hKP => ?_ | refine Stg.s ?_ | refine guardD_ret0 ?_ | refine exV_intro _ rfl ?_); (try simp only [go_sem, loadL_a]); try ((first | refine hK _ _ ?_ | refine hKP _ _ _ ?_ | refine hKP _ _ (fun _ => ?_)); clear hK hKP K KP))))
    have hnl := numB_len t.edges.length
    refine append_u8 hB (Store.le_refl _) (fun KK hk => row_lst KK (by rw [List.length_map, flat_bytes]; exact hk)) (by simp) (fun c hc => by obtain ⟨b, _, rfl⟩ := List.mem_map.1 hc; rfl) (by omega) ?_
    intro x' τ' σ' hB2 hle' _
    clear hB
    generalize hpre : t.kinds.map lowB ++ numB t.edges.length = pre
    have hpl : pre.length ≤ 100 := by rw [← hpre, List.length_append, List.length_map]; omega
    have hB2 : Bld 1 σ1 τ' x' (pre.map byteV) pre.length := by
      rw [← hpre, List.map_append, List.length_append, List.length_map, hk12]; exact hB2
    ((try simp only [go_sem, loadL_a]); refine hK _ _ ?_; clear hK hKP K KP; repeat (first | refine Stp.s ?_ | refine inBlock_exit' (by decide) ?_ | ((first | refine vc_region fun K KP hK hKP => ?_ | refine Stg.s ?_ | refine guardD_ret0 ?_ | refine exV_intro _ rfl ?_); (try simp only [go_sem, loadL_a]); try ((first | refine hK _ _ ?_ | refine hKP _ _ _ ?_ | refine hKP _ _ (fun _ => ?_)); clear hK hKP K KP))))
    refine vc_loop (HWp.sub hle' (loopV (fun (a : Nat × V) => [t.v, .ptr b1 0, nilS, a.2, .top, I64 a.1, .top, .top, .top, .top, .top, .top, .top, .top, .top, .top, .top, .top, .top, .top, .top, .top, .top, .top, .top, .top, .top, .top, .top, .top, .top, .top, .top, .top, .top, .top, .top, .top, .top, .top, .top, .top, .top, .top, .top, .top, .top, .top, .top, .top]) (fun a τ => a.1 ≤ t.edges.length ∧ Bld 1 σ1 τ a.2 ((pre ++ (t.edges.take a.1).flatMap fun e => [lowB e.1, lowB e.2]).map byteV) (pre.length + 2 * a.1)) (fun a _ => t.edges.length - a.1) (0, x') (by repeat (first | exact LeEnv.nil | refine LeEnv.same ?_ | refine LeEnv.top ?_)) ⟨Nat.zero_le _, ?_⟩ ?_))
    · show Bld 1 σ1 τ' x' _ _
      simpa using hB2
    clear hB2 hle' h1'
    rintro ⟨i, x⟩ τ ⟨hi, hB⟩
    simp only at hi hB
    have h1' := hB.base _ _ h1
    (repeat (first | refine Stp.s ?_ | refine inBlock_exit' (by decide) ?_ | ((first | refine vc_region fun K KP hK hKP => ?_ | refine Stg.s ?_ | refine guardD_ret0 ?_ | refine exV_intro _ rfl ?_); (try simp only [go_sem, loadL_a, h1', hes, List.length_map]); try ((first | refine hK _ _ ?_ | refine hKP _ _ _ ?_ | refine hKP _ _ (fun _ => ?_)); clear hK hKP K KP))))
    refine vc_cond rfl (fun hc => ?_) (fun hc => ?_)
    · have hlt : i < t.edges.length := by simpa using hc
      have g0 := le_eq (show (0 : Int) ≤ i by omega)
      have g1 := lt_eq (show (i : Int) < t.edges.length by omega)
      have hx : (t.edges.map edgeV).getD i .top = edgeV t.edges[i] := getD_map edgeV t.edges i hlt
      have htk := List.take_succ_eq_append_getElem hlt
      have hlow := hr.e _ (List.getElem_mem hlt)
      generalize t.edges[i] = e at *
      have w1 := low_wrap (n := e.1) (by omega) (by omega)
      have w2 := low_wrap (n := e.2) (by omega) (by omega)
      (repeat (first | refine Stp.s ?_ | refine inBlock_exit' (by decide) ?_ | ((first | refine vc_region fun K KP hK hKP => ?_ | refine Stg.s ?_ | refine guardD_ret0 ?_ | refine exV_intro _ rfl ?_); (try simp only [go_sem, loadL_a]); try ((first | refine hK _ _ ?_ | refine hKP _ _ _ ?_ | refine hKP _ _ (fun _ => ?_)); clear hK hKP K KP))))
      ((repeat first | refine Stp.s ?_ | refine inBlock_exit' (by decide) ?_); refine vc_draw mixed [ 15, 16 ] [0, 1, 2, 3, 4, 5, 6, 7, 8, 9, 10, 11, 12, 13, 14, 15, 16, 17 ] [ 2, 6, 9, 13 ] [] (fun _ => True) (by kernel_rfl) (by kernel_rfl) (by kernel_rfl) trivial fun K KP hK hKP => ?_; simp only [go_sem, loadL_a, h1', hes, g0, g1, hx, Int.toNat_natCast, List.length_map]; try (refine hK _ _ ?_; clear hK hKP K KP))
      ((try simp only [go_sem, loadL_a, h1', hes, g0, g1, hx, Int.toNat_natCast, List.length_map]); (try ((first | refine hK _ _ ?_ | refine hKP _ _ _ ?_ | refine hKP _ _ (fun _ => ?_)); clear hK hKP K KP)); repeat (first | refine Stp.s ?_ | refine inBlock_exit' (by decide) ?_ | ((first | refine vc_region fun K KP hK hKP => ?_ | refine Stg.s ?_ | refine guardD_ret0 ?_ | refine exV_intro _ rfl ?_); (try simp only [go_sem, loadL_a, h1', hes, g0, g1, hx, Int.toNat_natCast, List.length_map]); try ((first | refine hK _ _ ?_ | refine hKP _ _ _ ?_ | refine hKP _ _ (fun _ => ?_)); clear hK hKP K KP))))
      intro b6 hb6
      rw [w1, w2]
      have hfl := flat_len (fun e : Int × Int => [lowB e.1, lowB e.2]) 2 (fun _ => Nat.le_refl _) (t.edges.take i)
      rw [List.length_take] at hfl
      refine effV_true ?_
      refine append_u8 hB (Store.le_set hb6 (Store.le_refl _)) (row_lit (Store.set_same _ _ _) rfl rfl) (m := 2) rfl (by simp [byteV, V.one]) (by omega) ?_
      intro x' τ' σ' hB' hle' _
      ((try simp only [go_sem, loadL_a, i64_nsucc (show i < 1000000 by omega)]); (try ((first | refine hK _ _ ?_ | refine hKP _ _ _ ?_ | refine hKP _ _ (fun _ => ?_)); clear hK hKP K KP)); repeat (first | refine Stp.s ?_ | refine inBlock_exit' (by decide) ?_ | ((first | refine vc_region fun K KP hK hKP => ?_ | refine Stg.s ?_ | refine guardD_ret0 ?_ | refine exV_intro _ rfl ?_); (try simp only [go_sem, loadL_a, i64_nsucc (show i < 1000000 by omega)]); try ((first | refine hK _ _ ?_ | refine hKP _ _ _ ?_ | refine hKP _ _ (fun _ => ?_)); clear hK hKP K KP))))
      refine ⟨(i + 1, x'), τ', (by repeat (first | exact LeEnv.nil | refine LeEnv.same ?_ | refine LeEnv.top ?_)), hle', ⟨hlt, ?_⟩, by show t.edges.length - (i + 1) < t.edges.length - i; omega⟩
      show Bld 1 σ1 τ' x' _ _
      rw [htk, List.flatMap_append, ← List.append_assoc, List.map_append]
      exact hB'
    · (repeat (first | refine Stp.s ?_ | refine inBlock_exit' (by decide) ?_ | ((first | refine vc_region fun K KP hK hKP => ?_ | refine Stg.s ?_ | refine guardD_ret0 ?_ | refine exV_intro _ rfl ?_); (try simp only [go_sem, loadL_a]); try ((first | refine hK _ _ ?_ | refine hKP _ _ _ ?_ | refine hKP _ _ (fun _ => ?_)); clear hK hKP K KP))))
      (simp only [postV, resV, oneOf, List.getD_cons_succ, List.getD_cons_zero, and_true, true_and])
      have hii : i = t.edges.length := by simp at hc; omega
      subst hii
      rw [List.take_of_length_le (Nat.le_refl _)] at hB
      have : treeB t = pre ++ t.edges.flatMap fun e => [lowB e.1, lowB e.2] := by
        unfold treeB
        rw [low_kinds _ hr.k, hpre]
        congr 1
        have gen : ∀ l : List (Int × Int), (∀ e ∈ l, (1 ≤ e.1 ∧ e.1 ≤ 12) ∧ (1 ≤ e.2 ∧ e.2 ≤ 12)) → (l.flatMap fun e => natB e.1 ++ natB e.2) = l.flatMap fun e => [lowB e.1, lowB e.2] := by
          intro l
          induction l with
          | nil => intro _; rfl
          | cons e l ih =>
            intro h
            have := h e (by simp)
            rw [List.flatMap_cons, List.flatMap_cons, ih fun x hx => h x (by simp [hx]), low_nat (by omega) (by omega), low_nat (by omega) (by omega)]; rfl
        exact gen _ hr.e
      rw [this]
      have hll : ((t.edges.flatMap fun e => [lowB e.1, lowB e.2])).length = 2 * t.edges.length := by
        rw [List.length_flatMap]; induction t.edges with | nil => rfl | cons a l ih => simp at ih ⊢; omega
      exact Ends.mk (Weakens.trans (Bld.weakens hB (Store.le_refl _) (by rw [List.length_map, List.length_append, hll]) (by rw [flat_bytes]) (bytes_len _)) (Weakens.le hle1))

theorem as_pure (t : Tr) (ht : t.Ok) : HPure Try.prog 15 [t.v] t.v := by
  (refine HPure.of en15 fun σ => ?_); (refine HCalls.of_vc Try.func15 rfl ?_; rw [Try.ntmps15, Try.results15]; simp only [List.length_cons, List.length_nil, Nat.reduceAdd, Nat.reduceSub, List.replicate, List.cons_append, List.nil_append])
  (repeat (first | refine Stp.s ?_ | refine inBlock_exit' (by decide) ?_ | ((first | refine vc_region fun K KP hK hKP => ?_ | refine Stg.s ?_ | refine guardD_ret0 ?_ | refine exV_intro _ rfl ?_); (try simp only [go_sem, loadL_a]); try ((first | refine hK _ _ ?_ | refine hKP _ _ _ ?_ | refine hKP _ _ (fun _ => ?_)); clear hK hKP K KP))))
  intro b1 hb1 b2 hb2
  have hle1 : σ.le (σ.set b1 (.cells (t.kinds.map I64 ++ [t.es]))) := Store.le_set hb1 (Store.le_refl σ)
  have h1 : (σ.set b1 (.cells (t.kinds.map I64 ++ [t.es]))) b1 = some (.cells (t.kinds.map I64 ++ [t.es])) := Store.set_same _ _ _
  generalize σ.set b1 _ = σ1 at *
  have hk12 := ht.k
  have hel := ht.e
  have h21 := Store.keep (k := .cells [V.val (Value.int IntKind.i64 0), V.val (Value.int IntKind.i64 0), V.val (Value.int IntKind.i64 0), V.val (Value.int IntKind.i64 0), V.val (Value.int IntKind.i64 0), V.val (Value.int IntKind.i64 0), V.val (Value.int IntKind.i64 0), V.val (Value.int IntKind.i64 0), V.val (Value.int IntKind.i64 0), V.val (Value.int IntKind.i64 0), V.val (Value.int IntKind.i64 0), V.val (Value.int IntKind.i64 0), nilS]) hb2 h1
  have hle2 := Store.le_set (k := .cells [V.val (Value.int IntKind.i64 0), V.val (Value.int IntKind.i64 0), V.val (Value.int IntKind.i64 0), V.val (Value.int IntKind.i64 0), V.val (Value.int IntKind.i64 0), V.val (Value.int IntKind.i64 0), V.val (Value.int IntKind.i64 0), V.val (Value.int IntKind.i64 0), V.val (Value.int IntKind.i64 0), V.val (Value.int IntKind.i64 0), V.val (Value.int IntKind.i64 0), V.val (Value.int IntKind.i64 0), nilS]) hb2 hle1
  have h22 := Store.set_same σ1 b2 (.cells [V.val (Value.int IntKind.i64 0), V.val (Value.int IntKind.i64 0), V.val (Value.int IntKind.i64 0), V.val (Value.int IntKind.i64 0), V.val (Value.int IntKind.i64 0), V.val (Value.int IntKind.i64 0), V.val (Value.int IntKind.i64 0), V.val (Value.int IntKind.i64 0), V.val (Value.int IntKind.i64 0), V.val (Value.int IntKind.i64 0), V.val (Value.int IntKind.i64 0), V.val (Value.int IntKind.i64 0), nilS])
  have n2 : σ b2 = none := Store.none_of_le hle1 hb2
  generalize σ1.set b2 _ = σ2 at *
  clear hb1 hb2 h1
  have ld1 : List.take 12 (t.kinds.map I64 ++ [t.es]) = t.kinds.map I64 := by rw [List.take_append_of_le_length (by simp [hk12]), List.take_of_length_le (by simp [hk12])]
  have ln1 : (t.kinds.map I64 ++ [t.es]).length = 13 := by simp [hk12]
  have ln2 : (t.kinds.map I64).length = 12 := by simp [hk12]
  have sl1 : ∀ z : List V, z.length = 13 → setL z 0 (t.kinds.map I64) = t.kinds.map I64 ++ z.drop 12 := fun z hz => by
    have := setL_append [] (t.kinds.map I64) z (by rw [ln2, hz]; omega)
    simpa [hk12] using this
  have sl2 : setL [V.val (Value.int IntKind.i64 0), V.val (Value.int IntKind.i64 0), V.val (Value.int IntKind.i64 0), V.val (Value.int IntKind.i64 0), V.val (Value.int IntKind.i64 0), V.val (Value.int IntKind.i64 0), V.val (Value.int IntKind.i64 0), V.val (Value.int IntKind.i64 0), V.val (Value.int IntKind.i64 0), V.val (Value.int IntKind.i64 0), V.val (Value.int IntKind.i64 0), V.val (Value.int IntKind.i64 0), nilS] 0 (t.kinds.map I64) = t.kinds.map I64 ++ [nilS] := sl1 _ rfl
  have ln3 : ∀ x : V, (t.kinds.map I64 ++ [x]).length = 13 := fun x => by simp [hk12]
  have sl3 : setL [V.val (Value.int IntKind.i64 0), V.val (Value.int IntKind.i64 0), V.val (Value.int IntKind.i64 0), V.val (Value.int IntKind.i64 0), V.val (Value.int IntKind.i64 0), V.val (Value.int IntKind.i64 0), V.val (Value.int IntKind.i64 0), V.val (Value.int IntKind.i64 0), V.val (Value.int IntKind.i64 0), V.val (Value.int IntKind.i64 0), V.val (Value.int IntKind.i64 0), V.val (Value.int IntKind.i64 0), nilS] 0 (t.kinds.map I64 ++ [nilS]) = t.kinds.map I64 ++ [nilS] := by
    have := setL_append [] (t.kinds.map I64 ++ [nilS]) [V.val (Value.int IntKind.i64 0), V.val (Value.int IntKind.i64 0), V.val (Value.int IntKind.i64 0), V.val (Value.int IntKind.i64 0), V.val (Value.int IntKind.i64 0), V.val (Value.int IntKind.i64 0), V.val (Value.int IntKind.i64 0), V.val (Value.int IntKind.i64 0), V.val (Value.int IntKind.i64 0), V.val (Value.int IntKind.i64 0), V.val (Value.int IntKind.i64 0), V.val (Value.int IntKind.i64 0), nilS] (by rw [ln3]; exact Nat.le_refl _)
    simp only [List.nil_append, List.length_nil] at this
    rw [this, List.drop_of_length_le (by rw [ln3]; exact Nat.le_refl _), List.append_nil]
  have one3 : ∀ x : V, x.one = true → ∀ c ∈ t.kinds.map I64 ++ [x], c.one = true := fun x hx c hc => by
    rcases List.mem_append.1 hc with h | h
    · obtain ⟨k, _, rfl⟩ := List.mem_map.1 h; rfl
    · simp at h; subst h; exact hx
  ((try simp only [go_sem, loadL_a, h21, ld1, ln1, ln2, sl2, sl3, ln3]); refine hK _ _ ?_; clear hK hKP K KP; repeat (first | refine Stp.s ?_ | refine inBlock_exit' (by decide) ?_ | ((first | refine vc_region fun K KP hK hKP => ?_ | refine Stg.s ?_ | refine guardD_ret0 ?_ | refine exV_intro _ rfl ?_); (try simp only [go_sem, loadL_a, h21, ld1, ln1, ln2, sl2, sl3, ln3]); try ((first | refine hK _ _ ?_ | refine hKP _ _ _ ?_ | refine hKP _ _ (fun _ => ?_)); clear hK hKP K KP))))
  intro b3 hb3
  refine ⟨one3 nilS rfl, ?_⟩
  have hes : (t.kinds.map I64 ++ [t.es])[12]? = some (.lst 2 (t.edges.map edgeV)) := treeEs t ht
  have n3 : σ b3 = none := Store.none_of_le hle2 hb3
  have n23 : b2 ≠ b3 := fun e => by rw [e, hb3] at h22; cases h22
  ((try simp only [go_sem, loadL_a]); refine hK _ _ ?_; clear hK hKP K KP; repeat (first | refine Stp.s ?_ | refine inBlock_exit' (by decide) ?_ | ((first | refine vc_region fun K KP hK hKP => ?_ | refine Stg.s ?_ | refine guardD_ret0 ?_ | refine exV_intro _ rfl ?_); (try simp only [go_sem, loadL_a]); try ((first | refine hK _ _ ?_ | refine hKP _ _ _ ?_ | refine hKP _ _ (fun _ => ?_)); clear hK hKP K KP))))
  refine vc_loop (loopV (fun (a : Nat × V) => [t.v, .ptr b1 0, .ptr b2 0, .ptr b3 0, I64 a.1, .top, .top, .top, .top, .top, .top, .top, .top, .top, .top, .top, .top, .top, .top, .top, .top, .top, .top, .top, .top, .top, .top, .top, .top, .top, .top, .top, .top, .top]) (fun a τ => a.1 ≤ t.edges.length ∧ Bld 2 (σ2.set b3 (.cells (t.kinds.map I64 ++ [a.2]))) τ a.2 ((t.edges.take a.1).flatMap fun e => [I64 e.1, I64 e.2]) a.1) (fun a _ => t.edges.length - a.1) (0, nilS) (by repeat (first | exact LeEnv.nil | refine LeEnv.same ?_ | refine LeEnv.top ?_)) ⟨Nat.zero_le _, Bld.nil 2 _⟩ ?_)
  rintro ⟨i, x⟩ τ ⟨hi, hB⟩
  simp only at hi hB
  have h1' := hB.base _ _ (Store.keep hb3 h21 _)
  have h3' := hB.base _ _ (Store.set_same _ _ _)
  have hx12 : (t.kinds.map I64 ++ [x])[12]? = some x := by rw [List.getElem?_append_right (by simp [hk12])]; simp [hk12]
  have hx1 : x.one = true := by rcases hB with ⟨rfl, _⟩ | ⟨_, _, _, rfl, _⟩ <;> rfl
  (repeat (first | refine Stp.s ?_ | refine inBlock_exit' (by decide) ?_ | ((first | refine vc_region fun K KP hK hKP => ?_ | refine Stg.s ?_ | refine guardD_ret0 ?_ | refine exV_intro _ rfl ?_); (try simp only [go_sem, loadL_a, h1', hes, List.length_map]); try ((first | refine hK _ _ ?_ | refine hKP _ _ _ ?_ | refine hKP _ _ (fun _ => ?_)); clear hK hKP K KP))))
  refine vc_cond rfl (fun hc => ?_) (fun hc => ?_)
  · have hlt : i < t.edges.length := by simpa using hc
    have g0 := le_eq (show (0 : Int) ≤ i by omega)
    have g1 := lt_eq (show (i : Int) < t.edges.length by omega)
    have hx : (t.edges.map edgeV).getD i .top = edgeV t.edges[i] := getD_map edgeV t.edges i hlt
    have htk := List.take_succ_eq_append_getElem hlt
    generalize t.edges[i] = e at *
    (repeat (first | refine Stp.s ?_ | refine inBlock_exit' (by decide) ?_ | ((first | refine vc_region fun K KP hK hKP => ?_ | refine Stg.s ?_ | refine guardD_ret0 ?_ | refine exV_intro _ rfl ?_); (try simp only [go_sem, loadL_a]); try ((first | refine hK _ _ ?_ | refine hKP _ _ _ ?_ | refine hKP _ _ (fun _ => ?_)); clear hK hKP K KP))))
    ((repeat first | refine Stp.s ?_ | refine inBlock_exit' (by decide) ?_); refine vc_draw mixed [ 15, 16, 18 ] [0, 1, 2, 3, 4, 5, 6, 7, 8, 9, 10, 11, 12, 13, 14, 15, 16, 17, 18 ] [ 3, 7, 9, 13 ] [18] (fun υ => υ b3 = some (.cells (t.kinds.map I64 ++ [x]))) (by kernel_rfl) (by kernel_rfl) (by kernel_rfl) (h3') fun K KP hK hKP => ?_; simp only [go_sem, loadL_a, h1', h3', hx12, hes, g0, g1, hx, Int.toNat_natCast, List.length_map]; try ((first | refine hK _ _ ?_ | refine hKP _ _ _ ?_ | refine hKP _ _ (fun _ => ?_)); clear hK hKP K KP))
    ((try simp only [go_sem, loadL_a, h1', h3', hx12, hes, g0, g1, hx, Int.toNat_natCast, List.length_map]); (try ((first | refine hK _ _ ?_ | refine hKP _ _ _ ?_ | refine hKP _ _ (fun _ => ?_)); clear hK hKP K KP)); repeat (first | refine Stp.s ?_ | refine inBlock_exit' (by decide) ?_ | ((first | refine vc_region fun K KP hK hKP => ?_ | refine Stg.s ?_ | refine guardD_ret0 ?_ | refine exV_intro _ rfl ?_); (try simp only [go_sem, loadL_a, h1', h3', hx12, hes, g0, g1, hx, Int.toNat_natCast, List.length_map]); try ((first | refine hK _ _ ?_ | refine hKP _ _ _ ?_ | refine hKP _ _ (fun _ => ?_)); clear hK hKP K KP))))
    refine exV_intro x (fun υ hτ => by rw [hτ]; simp only [hx12]) ?_
    ((try simp only [go_sem, loadL_a, h1', h3', hx12, hes, g0, g1, hx, Int.toNat_natCast, List.length_map]); (try ((first | refine hK _ _ ?_ | refine hKP _ _ _ ?_ | refine hKP _ _ (fun _ => ?_)); clear hK hKP K KP)); repeat (first | refine Stp.s ?_ | refine inBlock_exit' (by decide) ?_ | ((first | refine vc_region fun K KP hK hKP => ?_ | refine Stg.s ?_ | refine guardD_ret0 ?_ | refine exV_intro _ rfl ?_); (try simp only [go_sem, loadL_a, h1', h3', hx12, hes, g0, g1, hx, Int.toNat_natCast, List.length_map]); try ((first | refine hK _ _ ?_ | refine hKP _ _ _ ?_ | refine hKP _ _ (fun _ => ?_)); clear hK hKP K KP))))
    refine effV_intro (fun b6 hb6 => ⟨Store.keep hb6 h3' _, ?_⟩)
    ((try simp only [go_sem, loadL_a]); (try ((first | refine hK _ _ ?_ | refine hKP _ _ _ ?_ | refine hKP _ _ (fun _ => ?_)); clear hK hKP K KP)); repeat (first | refine Stp.s ?_ | refine inBlock_exit' (by decide) ?_ | ((first | refine vc_region fun K KP hK hKP => ?_ | refine Stg.s ?_ | refine guardD_ret0 ?_ | refine exV_intro _ rfl ?_); (try simp only [go_sem, loadL_a]); try ((first | refine hK _ _ ?_ | refine hKP _ _ _ ?_ | refine hKP _ _ (fun _ => ?_)); clear hK hKP K KP))))
    refine effV_intro ?_
    refine append_redge hB (Store.le_set hb6 (Store.le_refl _)) (row_lit (Store.set_same _ _ _) rfl rfl) (m := 1) rfl (by simp [V.one]) (by omega) ?_
    intro x' τ' σ' hB' hle' _
    have h3'' := hle' _ _ (hB'.base _ _ (Store.set_same _ _ _))
    refine ⟨h3'', ?_⟩
    have st3 : (t.kinds.map I64 ++ [x]).set 12 x' = t.kinds.map I64 ++ [x'] := by
      rw [List.set_append_right _ _ (by rw [ln2]; exact Nat.le_refl _), ln2]; rfl
    have hxc : x'.cells = [x'] := by rcases hB' with ⟨rfl, _⟩ | ⟨_, _, _, rfl, _⟩ <;> rfl
    have hsl : setL (t.kinds.map I64 ++ [x]) 12 [x'] = t.kinds.map I64 ++ [x'] := by rw [setL, setL, st3]
    ((try simp only [go_sem, loadL_a, h3'', ln3, hxc, hsl]); (try ((first | refine hK _ _ ?_ | refine hKP _ _ _ ?_ | refine hKP _ _ (fun _ => ?_)); clear hK hKP K KP)); repeat (first | refine Stp.s ?_ | refine inBlock_exit' (by decide) ?_ | ((first | refine vc_region fun K KP hK hKP => ?_ | refine Stg.s ?_ | refine guardD_ret0 ?_ | refine exV_intro _ rfl ?_); (try simp only [go_sem, loadL_a, h3'', ln3, hxc, hsl]); try ((first | refine hK _ _ ?_ | refine hKP _ _ _ ?_ | refine hKP _ _ (fun _ => ?_)); clear hK hKP K KP))))
    refine ⟨by rcases hB' with ⟨rfl, _⟩ | ⟨_, _, _, rfl, _⟩ <;> rfl, by rcases hB' with ⟨rfl, _⟩ | ⟨_, _, _, rfl, _⟩ <;> rfl, ?_⟩
    ((try simp only [go_sem, loadL_a, i64_nsucc (show i < 1000000 by omega)]); (try ((first | refine hK _ _ ?_ | refine hKP _ _ _ ?_ | refine hKP _ _ (fun _ => ?_)); clear hK hKP K KP)); repeat (first | refine Stp.s ?_ | refine inBlock_exit' (by decide) ?_ | ((first | refine vc_region fun K KP hK hKP => ?_ | refine Stg.s ?_ | refine guardD_ret0 ?_ | refine exV_intro _ rfl ?_); (try simp only [go_sem, loadL_a, i64_nsucc (show i < 1000000 by omega)]); try ((first | refine hK _ _ ?_ | refine hKP _ _ _ ?_ | refine hKP _ _ (fun _ => ?_)); clear hK hKP K KP))))
    refine ⟨(i + 1, x'), _, (by repeat (first | exact LeEnv.nil | refine LeEnv.same ?_ | refine LeEnv.top ?_)), Store.le_set_both hle', ⟨hlt, ?_⟩, by show t.edges.length - (i + 1) < t.edges.length - i; omega⟩
    show Bld 2 (σ2.set b3 (.cells (t.kinds.map I64 ++ [x']))) (τ'.set b3 (.cells (t.kinds.map I64 ++ [x']))) x' _ _
    have := hB'.reset (kk := .cells (t.kinds.map I64 ++ [x'])) (Store.set_same _ _ _)
    rw [Store.set_set] at this
    rw [htk, List.flatMap_append]
    exact this
  · have hii : i = t.edges.length := by simp at hc; omega
    subst hii
    rw [List.take_of_length_le (Nat.le_refl _)] at hB
    have tk3 : List.take 13 (t.kinds.map I64 ++ [x]) = t.kinds.map I64 ++ [x] := List.take_of_length_le (by rw [ln3]; exact Nat.le_refl _)
    have h2' := hB.base _ _ (Store.keep hb3 h22 _)
    have sl4 : setL [V.val (Value.int IntKind.i64 0), V.val (Value.int IntKind.i64 0), V.val (Value.int IntKind.i64 0), V.val (Value.int IntKind.i64 0), V.val (Value.int IntKind.i64 0), V.val (Value.int IntKind.i64 0), V.val (Value.int IntKind.i64 0), V.val (Value.int IntKind.i64 0), V.val (Value.int IntKind.i64 0), V.val (Value.int IntKind.i64 0), V.val (Value.int IntKind.i64 0), V.val (Value.int IntKind.i64 0), nilS] 0 (t.kinds.map I64 ++ [x]) = t.kinds.map I64 ++ [x] := by
      have := setL_append [] (t.kinds.map I64 ++ [x]) [V.val (Value.int IntKind.i64 0), V.val (Value.int IntKind.i64 0), V.val (Value.int IntKind.i64 0), V.val (Value.int IntKind.i64 0), V.val (Value.int IntKind.i64 0), V.val (Value.int IntKind.i64 0), V.val (Value.int IntKind.i64 0), V.val (Value.int IntKind.i64 0), V.val (Value.int IntKind.i64 0), V.val (Value.int IntKind.i64 0), V.val (Value.int IntKind.i64 0), V.val (Value.int IntKind.i64 0), nilS] (by rw [ln3]; exact Nat.le_refl _)
      simp only [List.nil_append, List.length_nil] at this
      rw [this, List.drop_of_length_le (by rw [ln3]; exact Nat.le_refl _), List.append_nil]
    (repeat (first | refine Stp.s ?_ | refine inBlock_exit' (by decide) ?_ | ((first | refine vc_region fun K KP hK hKP => ?_ | refine Stg.s ?_ | refine guardD_ret0 ?_ | refine exV_intro _ rfl ?_); (try simp only [go_sem, loadL_a, h3', ln3, h2', tk3, sl4, List.length_cons, List.length_nil]); try ((first | refine hK _ _ ?_ | refine hKP _ _ _ ?_ | refine hKP _ _ (fun _ => ?_)); clear hK hKP K KP))))
    refine ⟨one3 x hx1, ?_⟩
    ((try simp only [go_sem, loadL_a, Store.set_same]); refine hK _ _ ?_; clear hK hKP K KP; repeat (first | refine Stp.s ?_ | refine inBlock_exit' (by decide) ?_ | ((first | refine vc_region fun K KP hK hKP => ?_ | refine Stg.s ?_ | refine guardD_ret0 ?_ | refine exV_intro _ rfl ?_); (try simp only [go_sem, loadL_a, Store.set_same]); try ((first | refine hK _ _ ?_ | refine hKP _ _ _ ?_ | refine hKP _ _ (fun _ => ?_)); clear hK hKP K KP))))
    (simp only [postV, resV, oneOf, List.getD_cons_succ, List.getD_cons_zero, and_true, true_and])
    simp only [go_sem, loadL_a, Store.set_same, ln3, tk3]
    have hB2 := hB.reset (kk := .cells (t.kinds.map I64 ++ [x])) (Store.keep hb3 h22 _)
    refine Ends.mk (Weakens.agg_last (Weakens.trans (Bld.weakens (xs := t.edges.map edgeV) hB2 (Store.le_refl _) (by simp) ?_ (fun y hy => by obtain ⟨e, _, rfl⟩ := List.mem_map.1 hy; rfl)) (Weakens.le (Store.le_over n2 (Store.le_over n3 hle2)))))
    rw [List.flatMap_map]; rfl
end Go.Proofs.Ytbgagffpmdlilaa
