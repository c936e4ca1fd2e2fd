/- Rows of numbers, put together. -/
import Derived.Test.YtbgagffpmdlilaaP3
namespace Go.Proofs.Ytbgagffpmdlilaa
set_option linter.unusedSimpArgs false
set_option linter.unusedVariables false
open Go.Proofs
attribute [local irreducible] vc vcOps vcDraw vcK vcKP vcDK vcDB HWp HCalls postV Ex.then Ex.inBlock stepD callV appendV guardC guardD exV effV opV loadV storeV indexAddrV indexV sliceV
set_option maxRecDepth 10000
set_option maxHeartbeats 4000000

/-- slices.Clone at elements of type int: clone_ints. -/
theorem clone_ints (xs : List V) (hl : xs.length ≤ 1000000000) (hk : ∀ x ∈ xs, x.cells.length = 1) (h1 : ∀ x ∈ xs, ∀ c ∈ x.cells, c.one = true) : HPure Try.prog 106 [.lst 1 xs] (.lst 1 xs) := by
  (refine HPure.of en106 fun σ => ?_); (refine HCalls.of_vc Try.func106 rfl ?_; rw [Try.ntmps106, Try.results106]; simp only [List.length_cons, List.length_nil, Nat.reduceAdd, Nat.reduceSub, List.replicate, List.cons_append, List.nil_append])
  have hnil : ∀ K : V → Store → Prop, (∀ b : Bool, (b = true → xs = []) → K (BV b) σ) → binV Try.prog .eql 46 (.lst 1 xs) nilS σ K := fun K hK => by
    cases xs with
    | nil => rw [bin_empty]; exact ⟨⟨_, Try.underlying46⟩, .inl rfl, fun b => hK b fun _ => rfl⟩
    | cons c cs => simp only [go_sem, loadL_a]; exact hK false fun q => by cases q
  (repeat (first | refine Stp.s ?_ | refine inBlock_exit' (by decide) ?_ | ((first | refine vc_region fun K KP hK hKP => ?_ | refine Stg.s ?_ | refine guardD_ret0 ?_ | refine exV_intro _ rfl ?_); (try simp only [go_sem, loadL_a]); try ((first | refine hK _ _ ?_ | refine hKP _ _ _ ?_ | refine hKP _ _ (fun _ => ?_)); clear hK hKP K KP))))
  refine hnil _ (fun b hb => ?_)
  ((try simp only [go_sem, loadL_a]); (try ((first | refine hK _ _ ?_ | refine hKP _ _ _ ?_ | refine hKP _ _ (fun _ => ?_)); clear hK hKP K KP)); repeat (first | refine Stp.s ?_ | refine inBlock_exit' (by decide) ?_ | ((first | refine vc_region fun K KP hK hKP => ?_ | refine Stg.s ?_ | refine guardD_ret0 ?_ | refine exV_intro _ rfl ?_); (try simp only [go_sem, loadL_a]); try ((first | refine hK _ _ ?_ | refine hKP _ _ _ ?_ | refine hKP _ _ (fun _ => ?_)); clear hK hKP K KP))))
  refine vc_cond rfl (fun hc => ?_) (fun hc => ?_)
  · rw [hb hc]
    (repeat (first | refine Stp.s ?_ | refine inBlock_exit' (by decide) ?_ | ((first | refine vc_region fun K KP hK hKP => ?_ | refine Stg.s ?_ | refine guardD_ret0 ?_ | refine exV_intro _ rfl ?_); (try simp only [go_sem, loadL_a]); try ((first | refine hK _ _ ?_ | refine hKP _ _ _ ?_ | refine hKP _ _ (fun _ => ?_)); clear hK hKP K KP))))
    (simp only [postV, resV, oneOf, List.getD_cons_succ, List.getD_cons_zero, and_true, true_and])
    exact Ends.mk (Bld.weakens (Bld.nil 1 σ) (Store.le_refl _) rfl rfl (by simp))
  · (repeat (first | refine Stp.s ?_ | refine inBlock_exit' (by decide) ?_ | ((first | refine vc_region fun K KP hK hKP => ?_ | refine Stg.s ?_ | refine guardD_ret0 ?_ | refine exV_intro _ rfl ?_); (try simp only [go_sem, loadL_a]); try ((first | refine hK _ _ ?_ | refine hKP _ _ _ ?_ | refine hKP _ _ (fun _ => ?_)); clear hK hKP K KP))))
    intro b5 hb5
    have hB : Bld 1 σ (σ.set b5 (.cells (repL [V.val (.int .i64 0)] 0))) (.sl b5 0 0 0) [] 0 := .inr ⟨b5, 0, [], rfl, hb5, rfl, rfl, by simp, Nat.le_refl _, by decide⟩
    have hfl : ∀ ys : List V, (∀ x ∈ ys, x.cells.length = 1) → (ys.flatMap V.cells).length = ys.length * 1 := fun ys => by
      induction ys with
      | nil => intro _; rfl
      | cons y ys ih => intro h; rw [List.flatMap_cons, List.length_append, ih fun x hx => h x (by simp [hx]), h y (by simp), List.length_cons]; omega
    refine append_int hB (Store.le_refl _) (fun KK hk => row_lst KK hk) (hfl xs hk) (fun c hc => by obtain ⟨x, hx, hc⟩ := List.mem_flatMap.1 hc; exact h1 x hx c hc) (by omega) ?_
    intro x' τ' σ' hB' hle' _
    ((try simp only [go_sem, loadL_a]); refine hK _ _ ?_; clear hK hKP K KP; repeat (first | refine Stp.s ?_ | refine inBlock_exit' (by decide) ?_ | ((first | refine vc_region fun K KP hK hKP => ?_ | refine Stg.s ?_ | refine guardD_ret0 ?_ | refine exV_intro _ rfl ?_); (try simp only [go_sem, loadL_a]); try ((first | refine hK _ _ ?_ | refine hKP _ _ _ ?_ | refine hKP _ _ (fun _ => ?_)); clear hK hKP K KP))))
    (simp only [postV, resV, oneOf, List.getD_cons_succ, List.getD_cons_zero, and_true, true_and])
    exact Ends.mk (Bld.weakens hB' hle' (by simp) (by simp) hk)

/-- slices.Grow of nothing at elements of type int: grow_ints. -/
theorem grow_ints (m : Nat) (hm : m ≤ 1000000000) (σ : Store) : HCalls Try.prog 160 [nilS, I64 m] σ (fun r σ' => ∃ x τ, r = .ret x ∧ τ.le σ' ∧ Bld 1 σ τ x [] 0) := by
  (refine HCalls.of_vc Try.func160 rfl ?_; rw [Try.ntmps160, Try.results160]; simp only [List.length_cons, List.length_nil, Nat.reduceAdd, Nat.reduceSub, List.replicate, List.cons_append, List.nil_append])
  have z0 : ((0 : Nat) : Int) = 0 := rfl
  have hw0 : IntKind.i64.wrap ((0 : Int) - 0) = 0 := by rw [Int.sub_zero, i64_in (by omega) (by omega)]
  have hw : IntKind.i64.wrap ((m : Int) - 0) = (m : Int) := by rw [Int.sub_zero, i64_in (by omega) (by omega)]
  (repeat (first | refine Stp.s ?_ | refine inBlock_exit' (by decide) ?_ | ((first | refine vc_region fun K KP hK hKP => ?_ | refine Stg.s ?_ | refine guardD_ret0 ?_ | refine exV_intro _ rfl ?_); (try simp only [go_sem, loadL_a]); try ((first | refine hK _ _ ?_ | refine hKP _ _ _ ?_ | refine hKP _ _ (fun _ => ?_)); clear hK hKP K KP))))
  refine vc_cond rfl (fun hc => by simp at hc; omega) (fun _ => ?_)
  (repeat (first | refine Stp.s ?_ | refine inBlock_exit' (by decide) ?_ | ((first | refine vc_region fun K KP hK hKP => ?_ | refine Stg.s ?_ | refine guardD_ret0 ?_ | refine exV_intro _ rfl ?_); (try simp only [go_sem, loadL_a, z0, hw0, hw]); try ((first | refine hK _ _ ?_ | refine hKP _ _ _ ?_ | refine hKP _ _ (fun _ => ?_)); clear hK hKP K KP))))
  refine vc_cond rfl (fun hc => ?_) (fun hc => ?_)
  · have hm0 : 0 < m := by simp at hc; omega
    have e1 : (m : Int).toNat = m := Int.toNat_natCast m
    have hbz : (zeroV Try.prog 3).map List.length = some 1 := zl3
    have hby : Try.prog.bytesOf 3 ≤ 1000 := by rw [by3]; decide
    have hmul : m * Try.prog.bytesOf 3 ≤ 140737488355328 := Nat.le_trans (Nat.mul_le_mul hm hby) (by decide)
    have hmx : m ≤ maxLen := by rw [maxLen_i]; omega
    (repeat (first | refine Stp.s ?_ | refine inBlock_exit' (by decide) ?_ | ((first | refine vc_region fun K KP hK hKP => ?_ | refine Stg.s ?_ | refine guardD_ret0 ?_ | refine exV_intro _ rfl ?_); (try simp only [go_sem, loadL_a, z0, hw0, hw, Int.le_refl, e1]); try ((first | refine hK _ _ ?_ | refine hKP _ _ _ ?_ | refine hKP _ _ (fun _ => ?_)); clear hK hKP K KP))))
    refine ⟨by omega, hmx, hmul, fun h => absurd h (by omega), fun _ c cap' hc hcap hcm => ⟨by omega, ?_⟩⟩
    simp only [Int.toNat_natCast, Int.toNat_zero, ite_self, Nat.sub_zero]
    ((try simp only [go_sem, loadL_a]); refine hK _ _ ?_; clear hK hKP K KP; repeat (first | refine Stp.s ?_ | refine inBlock_exit' (by decide) ?_ | ((first | refine vc_region fun K KP hK hKP => ?_ | refine Stg.s ?_ | refine guardD_ret0 ?_ | refine exV_intro _ rfl ?_); (try simp only [go_sem, loadL_a]); try ((first | refine hK _ _ ?_ | refine hKP _ _ _ ?_ | refine hKP _ _ (fun _ => ?_)); clear hK hKP K KP))))
    (simp only [postV, resV, oneOf, List.getD_cons_succ, List.getD_cons_zero, and_true, true_and])
    exact ⟨_, _, rfl, Store.le_refl _, .inr ⟨c, cap', _, rfl, hc, by rw [List.nil_append], rfl, by simp, Nat.zero_le _, hcm⟩⟩
  · (repeat (first | refine Stp.s ?_ | refine inBlock_exit' (by decide) ?_ | ((first | refine vc_region fun K KP hK hKP => ?_ | refine Stg.s ?_ | refine guardD_ret0 ?_ | refine exV_intro _ rfl ?_); (try simp only [go_sem, loadL_a]); try ((first | refine hK _ _ ?_ | refine hKP _ _ _ ?_ | refine hKP _ _ (fun _ => ?_)); clear hK hKP K KP))))
    (simp only [postV, resV, oneOf, List.getD_cons_succ, List.getD_cons_zero, and_true, true_and])
    exact ⟨_, _, rfl, Store.le_refl _, Bld.nil 1 σ⟩

/-- slices.Concat at elements of type int: concat_ints. -/
theorem concat_ints (b cap : Nat) (parts : List (List V)) (σ : Store) (spare : List V) (hb : σ b = some (.cells (parts.map (V.lst 1) ++ spare))) (hl : parts.flatten.length ≤ 1000000000) (hp : parts.length ≤ 1000000)
    (hk : ∀ l ∈ parts, ∀ x ∈ l, x.cells.length = 1) (h1 : ∀ l ∈ parts, ∀ x ∈ l, ∀ c ∈ x.cells, c.one = true) : HQuiet Try.prog 114 [.sl b 0 parts.length cap] σ (.lst 1 parts.flatten) := by
  refine HQuiet.of ?_; (refine HCalls.of_vc Try.func114 rfl ?_; rw [Try.ntmps114, Try.results114]; simp only [List.length_cons, List.length_nil, Nat.reduceAdd, Nat.reduceSub, List.replicate, List.cons_append, List.nil_append])
  (repeat (first | refine Stp.s ?_ | refine inBlock_exit' (by decide) ?_ | ((first | refine vc_region fun K KP hK hKP => ?_ | refine Stg.s ?_ | refine guardD_ret0 ?_ | refine exV_intro _ rfl ?_); (try simp only [go_sem, loadL_a]); try ((first | refine hK _ _ ?_ | refine hKP _ _ _ ?_ | refine hKP _ _ (fun _ => ?_)); clear hK hKP K KP))))
  have hlen : ∀ i, (parts.take i).flatten.length ≤ parts.flatten.length := fun i => by
    conv => rhs; rw [← List.take_append_drop i parts, List.flatten_append, List.length_append]
    omega
  refine vc_loop (loopV (fun (i : Nat) => [.sl b 0 parts.length cap, .top, nilS, I64 (parts.take i).flatten.length, .top, .top, .top, .top, .top, .sl b 0 parts.length cap, I64 parts.length, I64 i, .top, .top, .top, .top, .top, .top, .top, .top, .top, .top, .top, .top, .top, .top, .top, .top, .top, .top, .top, .top, .top, .top, .top, .top]) (fun i τ => i ≤ parts.length ∧ τ = σ) (fun i _ => parts.length - i) 0 (by repeat (first | exact LeEnv.nil | refine LeEnv.same ?_ | refine LeEnv.top ?_)) ⟨Nat.zero_le _, rfl⟩ ?_)
  rintro i τ ⟨hi, rfl⟩
  (repeat (first | refine Stp.s ?_ | refine inBlock_exit' (by decide) ?_ | ((first | refine vc_region fun K KP hK hKP => ?_ | refine Stg.s ?_ | refine guardD_ret0 ?_ | refine exV_intro _ rfl ?_); (try simp only [go_sem, loadL_a]); try ((first | refine hK _ _ ?_ | refine hKP _ _ _ ?_ | refine hKP _ _ (fun _ => ?_)); clear hK hKP K KP))))
  refine vc_cond rfl (fun hc => ?_) (fun hc => ?_)
  · have hlt : i < parts.length := by simpa using hc
    have g0 := le_eq (show (0 : Int) ≤ i by omega)
    have g1 := lt_eq (show (i : Int) < parts.length by omega)
    have hx : (parts.map (V.lst 1) ++ spare)[i]? = some (.lst 1 parts[i]) := by
      rw [List.getElem?_append_left (by simpa using hlt), List.getElem?_map, List.getElem?_eq_getElem hlt]; rfl
    have hfl : (parts.take (i + 1)).flatten.length = (parts.take i).flatten.length + parts[i].length := by
      rw [List.take_succ_eq_append_getElem hlt, List.flatten_append, List.length_append]; simp
    have hle := hlen (i + 1)
    generalize parts[i] = l at *
    have hw : IntKind.i64.wrap (((parts.take i).flatten.length : Int) + (l.length : Int)) = ((parts.take (i + 1)).flatten.length : Int) := by rw [i64_in (by omega) (by omega), hfl]; omega
    (repeat (first | refine Stp.s ?_ | refine inBlock_exit' (by decide) ?_ | ((first | refine vc_region fun K KP hK hKP => ?_ | refine Stg.s ?_ | refine guardD_ret0 ?_ | refine exV_intro _ rfl ?_); (try simp only [go_sem, loadL_a, g0, g1, hb, hx, hw, Int.toNat_natCast]); try ((first | refine hK _ _ ?_ | refine hKP _ _ _ ?_ | refine hKP _ _ (fun _ => ?_)); clear hK hKP K KP))))
    refine vc_cond rfl (fun hc => by simp at hc; omega) (fun _ => ?_)
    (repeat (first | refine Stp.s ?_ | refine inBlock_exit' (by decide) ?_ | ((first | refine vc_region fun K KP hK hKP => ?_ | refine Stg.s ?_ | refine guardD_ret0 ?_ | refine exV_intro _ rfl ?_); (try simp only [go_sem, loadL_a, i64_nsucc (show i < 1000000 by omega)]); try ((first | refine hK _ _ ?_ | refine hKP _ _ _ ?_ | refine hKP _ _ (fun _ => ?_)); clear hK hKP K KP))))
    exact ⟨i + 1, _, (by repeat (first | exact LeEnv.nil | refine LeEnv.same ?_ | refine LeEnv.top ?_)), Store.le_refl _, ⟨hlt, rfl⟩, by omega⟩
  · have hii : i = parts.length := by simp at hc; omega
    subst hii
    rw [List.take_length]
    (repeat (first | refine Stp.s ?_ | refine inBlock_exit' (by decide) ?_ | ((first | refine vc_region fun K KP hK hKP => ?_ | refine Stg.s ?_ | refine guardD_ret0 ?_ | refine exV_intro _ rfl ?_); (try simp only [go_sem, loadL_a]); try ((first | refine hK _ _ ?_ | refine hKP _ _ _ ?_ | refine hKP _ _ (fun _ => ?_)); clear hK hKP K KP))))
    refine callV_of en160 (grow_ints parts.flatten.length hl τ) (fun x σ' q => ?_) (fun x σ' q => by obtain ⟨_, _, e, _⟩ := q; cases e)
    obtain ⟨x, υ, e, hle, hB⟩ := q
    cases e
    ((try simp only [go_sem, loadL_a]); (try ((first | refine hK _ _ ?_ | refine hKP _ _ _ ?_ | refine hKP _ _ (fun _ => ?_)); clear hK hKP K KP)); repeat (first | refine Stp.s ?_ | refine inBlock_exit' (by decide) ?_ | ((first | refine vc_region fun K KP hK hKP => ?_ | refine Stg.s ?_ | refine guardD_ret0 ?_ | refine exV_intro _ rfl ?_); (try simp only [go_sem, loadL_a]); try ((first | refine hK _ _ ?_ | refine hKP _ _ _ ?_ | refine hKP _ _ (fun _ => ?_)); clear hK hKP K KP))))
    refine vc_loop (HWp.sub hle (loopV (fun (a : Nat × V) => [.sl b 0 parts.length cap, .top, nilS, I64 parts.flatten.length, .top, .top, a.2, .top, .top, .top, .top, .top, .top, .top, .top, .top, .top, .top, .top, .top, .top, .top, .top, .top, .top, .sl b 0 parts.length cap, I64 parts.length, I64 a.1, .top, .top, .top, .top, .top, .top, .top, .top]) (fun a υ => a.1 ≤ parts.length ∧ Bld 1 τ υ a.2 ((parts.take a.1).flatten.flatMap V.cells) (parts.take a.1).flatten.length) (fun a _ => parts.length - a.1) (0, x) (by repeat (first | exact LeEnv.nil | refine LeEnv.same ?_ | refine LeEnv.top ?_)) ⟨Nat.zero_le _, hB⟩ ?_))
    clear hB hle
    rintro ⟨i, x⟩ υ ⟨hi, hB⟩
    simp only at hi hB
    (repeat (first | refine Stp.s ?_ | refine inBlock_exit' (by decide) ?_ | ((first | refine vc_region fun K KP hK hKP => ?_ | refine Stg.s ?_ | refine guardD_ret0 ?_ | refine exV_intro _ rfl ?_); (try simp only [go_sem, loadL_a]); try ((first | refine hK _ _ ?_ | refine hKP _ _ _ ?_ | refine hKP _ _ (fun _ => ?_)); clear hK hKP K KP))))
    refine vc_cond rfl (fun hc => ?_) (fun hc => ?_)
    · have hlt : i < parts.length := by simpa using hc
      have hbu := hB.base _ _ hb
      have g0 := le_eq (show (0 : Int) ≤ i by omega)
      have g1 := lt_eq (show (i : Int) < parts.length by omega)
      have hx : (parts.map (V.lst 1) ++ spare)[i]? = some (.lst 1 parts[i]) := by
        rw [List.getElem?_append_left (by simpa using hlt), List.getElem?_map, List.getElem?_eq_getElem hlt]; rfl
      have htk : (parts.take (i + 1)).flatten = (parts.take i).flatten ++ parts[i] := by
        rw [List.take_succ_eq_append_getElem hlt, List.flatten_append]; simp
      have hle := hlen (i + 1)
      have hmem := List.getElem_mem hlt
      generalize parts[i] = l at *
      have hcl : (l.flatMap V.cells).length = l.length * 1 := by
        have : ∀ ys : List V, (∀ x ∈ ys, x.cells.length = 1) → (ys.flatMap V.cells).length = ys.length * 1 := fun ys => by
          induction ys with
          | nil => intro _; rfl
          | cons y ys ih => intro h; rw [List.flatMap_cons, List.length_append, ih fun x hx => h x (by simp [hx]), h y (by simp), List.length_cons]; omega
        exact this l (hk l hmem)
      have hll : (parts.take i).flatten.length + l.length ≤ 1000000000 := by rw [htk, List.length_append] at hle; omega
      (repeat (first | refine Stp.s ?_ | refine inBlock_exit' (by decide) ?_ | ((first | refine vc_region fun K KP hK hKP => ?_ | refine Stg.s ?_ | refine guardD_ret0 ?_ | refine exV_intro _ rfl ?_); (try simp only [go_sem, loadL_a, g0, g1, hbu, hx, Int.toNat_natCast]); try ((first | refine hK _ _ ?_ | refine hKP _ _ _ ?_ | refine hKP _ _ (fun _ => ?_)); clear hK hKP K KP))))
      refine append_int hB (Store.le_refl _) (fun KK hk => row_lst KK hk) hcl (fun c hc => by obtain ⟨x, hx, hc⟩ := List.mem_flatMap.1 hc; exact h1 l hmem x hx c hc) hll ?_
      intro x' τ' σ' hB' hle' _
      ((try simp only [go_sem, loadL_a, i64_nsucc (show i < 1000000 by omega)]); refine hK _ _ ?_; clear hK hKP K KP; repeat (first | refine Stp.s ?_ | refine inBlock_exit' (by decide) ?_ | ((first | refine vc_region fun K KP hK hKP => ?_ | refine Stg.s ?_ | refine guardD_ret0 ?_ | refine exV_intro _ rfl ?_); (try simp only [go_sem, loadL_a, i64_nsucc (show i < 1000000 by omega)]); try ((first | refine hK _ _ ?_ | refine hKP _ _ _ ?_ | refine hKP _ _ (fun _ => ?_)); clear hK hKP K KP))))
      refine ⟨(i + 1, x'), τ', (by repeat (first | exact LeEnv.nil | refine LeEnv.same ?_ | refine LeEnv.top ?_)), hle', ⟨hlt, ?_⟩, by show parts.length - (i + 1) < parts.length - i; omega⟩
      show Bld 1 τ τ' x' _ _
      rw [htk, List.flatMap_append, List.length_append]
      exact hB'
    · have hii : i = parts.length := by simp at hc; omega
      subst hii
      rw [List.take_length] at hB
      (repeat (first | refine Stp.s ?_ | refine inBlock_exit' (by decide) ?_ | ((first | refine vc_region fun K KP hK hKP => ?_ | refine Stg.s ?_ | refine guardD_ret0 ?_ | refine exV_intro _ rfl ?_); (try simp only [go_sem, loadL_a]); try ((first | refine hK _ _ ?_ | refine hKP _ _ _ ?_ | refine hKP _ _ (fun _ => ?_)); clear hK hKP K KP))))
      (simp only [postV, resV, oneOf, List.getD_cons_succ, List.getD_cons_zero, and_true, true_and])
      exact Ends.mk (Bld.weakens hB (Store.le_refl _) rfl rfl (fun y hy => by obtain ⟨l, hl, hy⟩ := List.mem_flatten.1 hy; exact hk l hl y hy))

theorem pflat_ints : ∀ l : List Int, (l.map I64).flatMap V.cells = l.map I64
  | [] => rfl
  | a :: l => by rw [List.map_cons, List.flatMap_cons, pflat_ints l]; rfl
/-- A copy, open for more. -/
theorem cloneb_ints (l : List Int) (hl : l.length ≤ 1000000) (σ : Store) : HCalls Try.prog 106 [ints l] σ (fun r σ' => ∃ x τ, r = .ret x ∧ τ.le σ' ∧ Bld 1 σ τ x (l.map I64) l.length) := by
  (refine HCalls.of_vc Try.func106 rfl ?_; rw [Try.ntmps106, Try.results106]; simp only [List.length_cons, List.length_nil, Nat.reduceAdd, Nat.reduceSub, List.replicate, List.cons_append, List.nil_append])
  have hnil : ∀ K : V → Store → Prop, (∀ b : Bool, (b = true → l = []) → K (BV b) σ) → binV Try.prog .eql 46 (ints l) nilS σ K := fun K hK => by
    cases l with
    | nil => unfold ints; rw [List.map_nil, bin_empty]; exact ⟨⟨_, Try.underlying46⟩, .inl rfl, fun b => hK b fun _ => rfl⟩
    | cons c cs => unfold ints; rw [List.map_cons]; simp only [go_sem, loadL_a]; exact hK false fun q => by cases q
  (repeat (first | refine Stp.s ?_ | refine inBlock_exit' (by decide) ?_ | ((first | refine vc_region fun K KP hK hKP => ?_ | refine Stg.s ?_ | refine guardD_ret0 ?_ | refine exV_intro _ rfl ?_); (try simp only [go_sem, loadL_a]); try ((first | refine hK _ _ ?_ | refine hKP _ _ _ ?_ | refine hKP _ _ (fun _ => ?_)); clear hK hKP K KP))))
  refine hnil _ (fun b hb => ?_)
  ((try simp only [go_sem, loadL_a]); (try ((first | refine hK _ _ ?_ | refine hKP _ _ _ ?_ | refine hKP _ _ (fun _ => ?_)); clear hK hKP K KP)); repeat (first | refine Stp.s ?_ | refine inBlock_exit' (by decide) ?_ | ((first | refine vc_region fun K KP hK hKP => ?_ | refine Stg.s ?_ | refine guardD_ret0 ?_ | refine exV_intro _ rfl ?_); (try simp only [go_sem, loadL_a]); try ((first | refine hK _ _ ?_ | refine hKP _ _ _ ?_ | refine hKP _ _ (fun _ => ?_)); clear hK hKP K KP))))
  refine vc_cond rfl (fun hc => ?_) (fun hc => ?_)
  · rw [hb hc]
    (repeat (first | refine Stp.s ?_ | refine inBlock_exit' (by decide) ?_ | ((first | refine vc_region fun K KP hK hKP => ?_ | refine Stg.s ?_ | refine guardD_ret0 ?_ | refine exV_intro _ rfl ?_); (try simp only [go_sem, loadL_a]); try ((first | refine hK _ _ ?_ | refine hKP _ _ _ ?_ | refine hKP _ _ (fun _ => ?_)); clear hK hKP K KP))))
    (simp only [postV, resV, oneOf, List.getD_cons_succ, List.getD_cons_zero, and_true, true_and])
    exact ⟨_, _, rfl, Store.le_refl _, Bld.nil 1 σ⟩
  · (repeat (first | refine Stp.s ?_ | refine inBlock_exit' (by decide) ?_ | ((first | refine vc_region fun K KP hK hKP => ?_ | refine Stg.s ?_ | refine guardD_ret0 ?_ | refine exV_intro _ rfl ?_); (try simp only [go_sem, loadL_a]); try ((first | refine hK _ _ ?_ | refine hKP _ _ _ ?_ | refine hKP _ _ (fun _ => ?_)); clear hK hKP K KP))))
    intro b5 hb5
    have hB : Bld 1 σ (σ.set b5 (.cells (repL [V.val (.int .i64 0)] 0))) (.sl b5 0 0 0) ([] : List V) 0 := .inr ⟨b5, 0, [], rfl, hb5, rfl, rfl, by simp, Nat.le_refl _, by decide⟩
    refine append_int hB (Store.le_refl _) (fun KK hk => row_lst KK (by rw [List.length_map, pflat_ints]; exact hk)) (news := l.map I64) (m := l.length) (by simp) (fun c hc => by obtain ⟨x, _, rfl⟩ := List.mem_map.1 hc; rfl) (by omega) ?_
    intro x' τ' σ' hB' hle' _
    ((try simp only [go_sem, loadL_a]); refine hK _ _ ?_; clear hK hKP K KP; repeat (first | refine Stp.s ?_ | refine inBlock_exit' (by decide) ?_ | ((first | refine vc_region fun K KP hK hKP => ?_ | refine Stg.s ?_ | refine guardD_ret0 ?_ | refine exV_intro _ rfl ?_); (try simp only [go_sem, loadL_a]); try ((first | refine hK _ _ ?_ | refine hKP _ _ _ ?_ | refine hKP _ _ (fun _ => ?_)); clear hK hKP K KP))))
    (simp only [postV, resV, oneOf, List.getD_cons_succ, List.getD_cons_zero, and_true, true_and])
    rw [List.nil_append, Nat.zero_add] at hB'
    exact ⟨_, _, rfl, hle', hB'⟩
end Go.Proofs.Ytbgagffpmdlilaa
