/- Clocks and labels: join, covers, with, has; the order of labels. -/
import Derived.Test.YtociliegljoldaaGreatK1
import Derived.Test.YtociliegljoldaaGreatRL
import Derived.Test.YtociliegljoldaaGreatS1
namespace Go.Proofs.YtociliegljoldaaGreat
set_option linter.unusedSimpArgs false
set_option linter.unusedVariables false
open Go.Proofs
attribute [local irreducible] vc vcOps vcDraw vcK vcKP vcDK vcDB HWp HCalls postV Ex.then Ex.inBlock stepD callV appendV guardC guardD exV effV opV loadV storeV indexAddrV indexV sliceV
set_option maxRecDepth 10000
set_option maxHeartbeats 4000000

/-- Joined up to place k. -/
def jnV (a v : List Nat) (k : Nat) : List Nat := (List.range 12).map fun i => if i < k then max (a.getD i 0) (v.getD i 0) else a.getD i 0
def joinV (a v : List Nat) : List Nat := jnV a v 12
def zeroN : List Nat := List.replicate 12 0
theorem jnV_len (a v : List Nat) (k : Nat) : (jnV a v k).length = 12 := by simp [jnV]
theorem jnV_at (a v : List Nat) (k i : Nat) (h : i < 12) : (jnV a v k).getD i 0 = if i < k then max (a.getD i 0) (v.getD i 0) else a.getD i 0 := by
  unfold jnV; rw [List.getD_eq_getElem?_getD, List.getElem?_map, List.getElem?_range h]; rfl
theorem vec_ext {a b : List Nat} (ha : a.length = 12) (hb : b.length = 12) (h : ∀ i, i < 12 → a.getD i 0 = b.getD i 0) : a = b := by
  refine List.ext_getElem (by omega) fun i h1 h2 => ?_
  have := h i (by omega)
  rw [List.getD_eq_getElem?_getD, List.getD_eq_getElem?_getD, List.getElem?_eq_getElem h1, List.getElem?_eq_getElem h2] at this
  exact this
theorem jnV_zero (a v : List Nat) (ha : a.length = 12) : jnV a v 0 = a := vec_ext (jnV_len _ _ _) ha fun i hi => by rw [jnV_at _ _ _ _ hi, if_neg (by omega)]
theorem getD_setN (a : List Nat) (k i x : Nat) (h : k < a.length) : (a.set k x).getD i 0 = if i = k then x else a.getD i 0 := by
  simp only [List.getD_eq_getElem?_getD, List.getElem?_set]
  by_cases e : i = k
  · subst e; simp [h]
  · rw [if_neg (Ne.symm e), if_neg e]
theorem jnV_set (a v : List Nat) (k : Nat) (h : k < 12) : (jnV a v k).set k (max (a.getD k 0) (v.getD k 0)) = jnV a v (k + 1) :=
  vec_ext (by simp [jnV_len]) (jnV_len _ _ _) fun i hi => by
    rw [getD_setN _ _ _ _ (by rw [jnV_len]; exact h), jnV_at _ _ _ _ hi, jnV_at _ _ _ _ hi]
    by_cases e : i = k
    · subst e; rw [if_pos rfl, if_pos (by omega)]
    · rw [if_neg e]
      by_cases e2 : i < k
      · rw [if_pos e2, if_pos (by omega)]
      · rw [if_neg e2, if_neg (by omega)]
theorem u32_at (a : List Nat) (ha : a.length = 12) (i : Nat) (h : i < 12) : (a.map U32)[i]? = some (U32 (a.getD i 0)) := by
  rw [List.getElem?_map, List.getD_eq_getElem?_getD, List.getElem?_eq_getElem (by omega)]; rfl
theorem u32_set (a : List Nat) (i x : Nat) : (a.map U32).set i (U32 x) = (a.set i x).map U32 := by rw [List.map_set]
theorem maxI32 (a b : Nat) : (if ((b : Nat) : Int) > ((a : Nat) : Int) then ((b : Nat) : Int) else ((a : Nat) : Int)) = ((max a b : Nat) : Int) := by split <;> omega
theorem vecLoad (a : List Nat) (ha : a.length = 12) (K : V → Prop) : loadL Tryz.prog 27 (a.map U32) 0 K = K (vecV a) := by
  rw [loadL_a kd27, ce27, List.drop_zero, List.take_of_length_le (by simp [ha])]
  simp [ha, vecV]
theorem setL_full (z ys : List V) (h : ys.length = z.length) : setL z 0 ys = ys := by
  have := setL_head z ys [] h
  rwa [List.append_nil, List.append_nil] at this
theorem u32_one (v : List Nat) : ∀ c ∈ v.map U32, c.one = true := fun c hc => by obtain ⟨x, _, rfl⟩ := List.mem_map.1 hc; rfl
def acc2 (a c : List Nat) (i : Nat) : List Nat := if i = 0 then zeroN else if i = 1 then joinV zeroN a else joinV (joinV zeroN a) c
theorem acc2_len (a c : List Nat) (i : Nat) : (acc2 a c i).length = 12 := by unfold acc2; split; rfl; split <;> exact jnV_len _ _ _
theorem pairLoad (a c : List Nat) (ha : a.length = 12) (hc : c.length = 12) (i : Nat) (hi : i < 2) (K : V → Prop) : loadL Tryz.prog 27 (a.map U32 ++ c.map U32) (i * 12) K = K (vecV (if i = 0 then a else c)) := by
  rw [loadL_a kd27, ce27]
  have : i = 0 ∨ i = 1 := by omega
  rcases this with rfl | rfl
  · rw [Nat.zero_mul, List.drop_zero, List.take_append_of_le_length (by simp [ha]), List.take_of_length_le (by simp [ha])]
    simp [ha, hc, vecV]
  · rw [Nat.one_mul, List.drop_append_of_le_length (by simp [ha]), List.drop_eq_nil_of_le (by simp [ha]), List.nil_append, List.take_of_length_le (by simp [hc])]
    simp [ha, hc, vecV]
theorem cjoin2 (a c : List Nat) (ha : a.length = 12) (hc : c.length = 12) (b : Nat) (σ : Store) (hb : σ b = some (.cells (a.map U32 ++ c.map U32))) : HQuiet Tryz.prog 82 [.sl b 0 2 2] σ (vecV (joinV (joinV zeroN a) c)) := by
  refine HQuiet.of ?_; (refine HCalls.of_vc Tryz.func82 rfl ?_; rw [Tryz.ntmps82, Tryz.results82]; simp only [List.length_cons, List.length_nil, Nat.reduceAdd, Nat.reduceSub, List.replicate, List.cons_append, List.nil_append])
  (repeat (first | refine Stp.s ?_ | refine inBlock_exit' (by decide) ?_ | ((first | refine vc_region fun K KP hK hKP => ?_ | refine Stg.s ?_ | refine guardD_ret0 ?_ | refine exV_intro _ rfl ?_); (try simp only [go_sem, loadL_a]); try ((first | refine hK _ _ ?_ | refine hKP _ _ _ ?_ | refine hKP _ _ (fun _ => ?_)); clear hK hKP K KP))))
  intro b2 hb2
  ((try simp only [go_sem, loadL_a]); (try ((first | refine hK _ _ ?_ | refine hKP _ _ _ ?_ | refine hKP _ _ (fun _ => ?_)); clear hK hKP K KP)); repeat (first | refine Stp.s ?_ | refine inBlock_exit' (by decide) ?_ | ((first | refine vc_region fun K KP hK hKP => ?_ | refine Stg.s ?_ | refine guardD_ret0 ?_ | refine exV_intro _ rfl ?_); (try simp only [go_sem, loadL_a]); try ((first | refine hK _ _ ?_ | refine hKP _ _ _ ?_ | refine hKP _ _ (fun _ => ?_)); clear hK hKP K KP))))
  intro b3 hb3
  show K _ ((σ.set b2 (.cells (zeroN.map U32))).set b3 (.cells (zeroN.map U32)))
  have q2 := Store.set_same σ b2 (.cells (zeroN.map U32))
  have hle := Store.le_set hb2 (Store.le_refl σ) (k := .cells (zeroN.map U32))
  have hb3' : (σ.set b2 (.cells (zeroN.map U32))) b3 = none := hb3
  clear hb3
  generalize σ.set b2 (.cells (zeroN.map U32)) = σ1 at *
  have p2 := Store.keep hb3' q2 (.cells (zeroN.map U32))
  have p3 := Store.set_same σ1 b3 (.cells (zeroN.map U32))
  have hle := Store.le_set hb3' hle (k := .cells (zeroN.map U32))
  have h23 : b2 ≠ b3 := fun e => by rw [← e, q2] at hb3'; cases hb3'
  have n3 : σ b3 = none := Store.none_of_le (by assumption) hb3'
  generalize σ1.set b3 (.cells (zeroN.map U32)) = σ2 at *
  clear q2 hb3'
  ((try simp only [go_sem, loadL_a]); (try ((first | refine hK _ _ ?_ | refine hKP _ _ _ ?_ | refine hKP _ _ (fun _ => ?_)); clear hK hKP K KP)); repeat (first | refine Stp.s ?_ | refine inBlock_exit' (by decide) ?_ | ((first | refine vc_region fun K KP hK hKP => ?_ | refine Stg.s ?_ | refine guardD_ret0 ?_ | refine exV_intro _ rfl ?_); (try simp only [go_sem, loadL_a]); try ((first | refine hK _ _ ?_ | refine hKP _ _ _ ?_ | refine hKP _ _ (fun _ => ?_)); clear hK hKP K KP))))
  refine vc_loop (loopV (fun (i : Nat) => [.sl b 0 2 2, .top, .ptr b2 0, .ptr b3 0, .top, .top, .top, .top, .sl b 0 2 2, I64 2, I64 i, .top, .top, .top, .top, .top, .top, .top, .top, .top, .top, .top, .top, .top, .top, .top, .top, .top, .top]) (fun i τ => i ≤ 2 ∧ σ.le τ ∧ τ b2 = some (.cells (zeroN.map U32)) ∧ τ b3 = some (.cells ((acc2 a c i).map U32))) (fun i _ => 2 - i) 0 (by repeat (first | exact LeEnv.nil | refine LeEnv.same ?_ | refine LeEnv.top ?_)) ⟨by omega, hle, p2, p3⟩ ?_)
  clear hle p2 p3
  rintro i τ ⟨hi, hle, p2, p3⟩
  (repeat (first | refine Stp.s ?_ | refine inBlock_exit' (by decide) ?_ | ((first | refine vc_region fun K KP hK hKP => ?_ | refine Stg.s ?_ | refine guardD_ret0 ?_ | refine exV_intro _ rfl ?_); (try simp only [go_sem, loadL_a]); try ((first | refine hK _ _ ?_ | refine hKP _ _ _ ?_ | refine hKP _ _ (fun _ => ?_)); clear hK hKP K KP))))
  refine vc_cond rfl (fun hq => ?_) (fun hq => ?_)
  · have hlt : i < 2 := by simp at hq; omega
    have g0 := eq_true (show (0 : Int) ≤ (i : Int) by omega)
    have g1 := eq_true (show (i : Int) < ((2 : Nat) : Int) by omega)
    have g1' := eq_true (show (i : Int) < 2 by omega)
    have hld := pairLoad a c ha hc i hlt
    have hA1 : acc2 a c (i + 1) = joinV (acc2 a c i) (if i = 0 then a else c) := by
      have : i = 0 ∨ i = 1 := by omega
      rcases this with rfl | rfl <;> rfl
    have hvl : (if i = 0 then a else c).length = 12 := by split <;> assumption
    have hAl := acc2_len a c i
    generalize (if i = 0 then a else c) = v at *
    generalize acc2 a c i = A at *
    have hb1 := hle _ _ hb
    (repeat (first | refine Stp.s ?_ | refine inBlock_exit' (by decide) ?_ | ((first | refine vc_region fun K KP hK hKP => ?_ | refine Stg.s ?_ | refine guardD_ret0 ?_ | refine exV_intro _ rfl ?_); (try simp only [go_sem, g0, g1, g1', Int.toNat_natCast, hb1, hld, vecV]); try ((first | refine hK _ _ ?_ | refine hKP _ _ _ ?_ | refine hKP _ _ (fun _ => ?_)); clear hK hKP K KP))))
    intro b5 hb5
    ((try simp only [go_sem, loadL_a, Store.set_same, Store.set_set]); (try ((first | refine hK _ _ ?_ | refine hKP _ _ _ ?_ | refine hKP _ _ (fun _ => ?_)); clear hK hKP K KP)); repeat (first | refine Stp.s ?_ | refine inBlock_exit' (by decide) ?_ | ((first | refine vc_region fun K KP hK hKP => ?_ | refine Stg.s ?_ | refine guardD_ret0 ?_ | refine exV_intro _ rfl ?_); (try simp only [go_sem, loadL_a, Store.set_same, Store.set_set]); try ((first | refine hK _ _ ?_ | refine hKP _ _ _ ?_ | refine hKP _ _ (fun _ => ?_)); clear hK hKP K KP))))
    refine ⟨by simp [hvl], u32_one v, by simp [hvl], ?_⟩
    rw [setL_full _ _ (by simp [hvl])]
    have q5 := Store.set_same τ b5 (.cells (v.map U32))
    have q2 := Store.keep hb5 p2 (.cells (v.map U32))
    have q3 := Store.keep hb5 p3 (.cells (v.map U32))
    have hle5 := Store.le_set hb5 hle (k := .cells (v.map U32))
    generalize τ.set b5 (.cells (v.map U32)) = τ5 at *
    have hld5 := vecLoad v hvl
    ((try simp only [go_sem, q5, hld5, vecV]); (try ((first | refine hK _ _ ?_ | refine hKP _ _ _ ?_ | refine hKP _ _ (fun _ => ?_)); clear hK hKP K KP)); repeat (first | refine Stp.s ?_ | refine inBlock_exit' (by decide) ?_ | ((first | refine vc_region fun K KP hK hKP => ?_ | refine Stg.s ?_ | refine guardD_ret0 ?_ | refine exV_intro _ rfl ?_); (try simp only [go_sem, q5, hld5, vecV]); try ((first | refine hK _ _ ?_ | refine hKP _ _ _ ?_ | refine hKP _ _ (fun _ => ?_)); clear hK hKP K KP))))
    refine vc_loop (loopV (fun (k : Nat) => [.sl b 0 2 2, .top, .ptr b2 0, .ptr b3 0, .top, .top, .top, .top, .sl b 0 2 2, I64 2, I64 i, .top, .top, .top, vecV v, I64 k, .top, .top, .top, .top, .top, .top, .top, .top, .top, .top, .top, .top, .top]) (fun k τ => k ≤ 12 ∧ σ.le τ ∧ τ b2 = some (.cells (zeroN.map U32)) ∧ τ b3 = some (.cells ((jnV A v k).map U32))) (fun k _ => 12 - k) 0 (by repeat (first | exact LeEnv.nil | refine LeEnv.same ?_ | refine LeEnv.top ?_)) ⟨by omega, hle5, q2, by rw [jnV_zero A v hAl]; exact q3⟩ ?_)
    clear q2 q3 hle5 q5 p2 p3 hle hb1 hb5
    rintro k υ ⟨hk, hle, p2, p3⟩
    (repeat (first | refine Stp.s ?_ | refine inBlock_exit' (by decide) ?_ | ((first | refine vc_region fun K KP hK hKP => ?_ | refine Stg.s ?_ | refine guardD_ret0 ?_ | refine exV_intro _ rfl ?_); (try simp only [go_sem, loadL_a]); try ((first | refine hK _ _ ?_ | refine hKP _ _ _ ?_ | refine hKP _ _ (fun _ => ?_)); clear hK hKP K KP))))
    refine vc_cond rfl (fun hq2 => ?_) (fun hq2 => ?_)
    · have hk12 : k < 12 := by simp at hq2; omega
      have g2 := eq_true (show (0 : Int) ≤ (k : Int) by omega)
      have g3 := eq_true (show (k : Int) < ((12 : Nat) : Int) by omega)
      have g3' := eq_true (show (k : Int) < 12 by omega)
      have r1 := u32_at v hvl k hk12
      have r2 := u32_at (jnV A v k) (jnV_len _ _ _) k hk12
      have hjk : (jnV A v k).getD k 0 = A.getD k 0 := by rw [jnV_at _ _ _ _ hk12, if_neg (by omega)]
      rw [hjk] at r2
      have hmx := maxI32 (A.getD k 0) (v.getD k 0)
      have hst : ((jnV A v k).map U32).set k (U32 (max (A.getD k 0) (v.getD k 0))) = (jnV A v (k + 1)).map U32 := by rw [u32_set, jnV_set _ _ _ hk12]
      have hln : ((jnV A v k).map U32).length = 12 := by simp [jnV_len]
      have hk13 := eq_true (show k + 1 ≤ 12 by omega)
      (repeat (first | refine Stp.s ?_ | refine inBlock_exit' (by decide) ?_ | ((first | refine vc_region fun K KP hK hKP => ?_ | refine Stg.s ?_ | refine guardD_ret0 ?_ | refine exV_intro _ rfl ?_); (try simp only [go_sem, loadL_a, vecV, indexV_arr, g2, g3, g3', Int.toNat_natCast, r1, r2, p3, hmx, hst, hln, hk13, i64_up (show k ≤ 10000000 by omega)]); try ((first | refine hK _ _ ?_ | refine hKP _ _ _ ?_ | refine hKP _ _ (fun _ => ?_)); clear hK hKP K KP))))
      exact ⟨k + 1, _, (by repeat (first | exact LeEnv.nil | refine LeEnv.same ?_ | refine LeEnv.top ?_)), Store.le_refl _, ⟨by omega, Store.le_over n3 hle, by rw [Store.set_other _ _ h23]; exact p2, Store.set_same _ _ _⟩, by omega⟩
    · have hk12 : k = 12 := by simp at hq2; omega
      subst hk12
      (repeat (first | refine Stp.s ?_ | refine inBlock_exit' (by decide) ?_ | ((first | refine vc_region fun K KP hK hKP => ?_ | refine Stg.s ?_ | refine guardD_ret0 ?_ | refine exV_intro _ rfl ?_); (try simp only [go_sem, loadL_a, i64_up (show i ≤ 10000000 by omega)]); try ((first | refine hK _ _ ?_ | refine hKP _ _ _ ?_ | refine hKP _ _ (fun _ => ?_)); clear hK hKP K KP))))
      exact ⟨i + 1, υ, (by repeat (first | exact LeEnv.nil | refine LeEnv.same ?_ | refine LeEnv.top ?_)), Store.le_refl _, ⟨by omega, hle, p2, by rw [hA1]; exact p3⟩, by omega⟩
  · have hi2 : i = 2 := by simp at hq; omega
    subst hi2
    have hld := vecLoad (acc2 a c 2) (acc2_len _ _ _)
    have hAl := acc2_len a c 2
    have hfin : joinV (joinV zeroN a) c = acc2 a c 2 := rfl
    rw [hfin]
    generalize acc2 a c 2 = A at *
    (repeat (first | refine Stp.s ?_ | refine inBlock_exit' (by decide) ?_ | ((first | refine vc_region fun K KP hK hKP => ?_ | refine Stg.s ?_ | refine guardD_ret0 ?_ | refine exV_intro _ rfl ?_); (try simp only [go_sem, p3, p2, hld, vecV]); try ((first | refine hK _ _ ?_ | refine hKP _ _ _ ?_ | refine hKP _ _ (fun _ => ?_)); clear hK hKP K KP))))
    refine ⟨by simp [hAl], u32_one A, by simp [hAl, zeroN], ?_⟩
    rw [setL_full _ _ (by simp [hAl, zeroN])]
    ((try simp only [go_sem, loadL_a]); (try ((first | refine hK _ _ ?_ | refine hKP _ _ _ ?_ | refine hKP _ _ (fun _ => ?_)); clear hK hKP K KP)); repeat (first | refine Stp.s ?_ | refine inBlock_exit' (by decide) ?_ | ((first | refine vc_region fun K KP hK hKP => ?_ | refine Stg.s ?_ | refine guardD_ret0 ?_ | refine exV_intro _ rfl ?_); (try simp only [go_sem, loadL_a]); try ((first | refine hK _ _ ?_ | refine hKP _ _ _ ?_ | refine hKP _ _ (fun _ => ?_)); clear hK hKP K KP))))
    (simp only [postV, resV, oneOf, List.getD_cons_succ, List.getD_cons_zero, and_true, true_and])
    simp only [go_sem, Store.set_same, hld, vecV]
    exact Ends.le rfl (Store.le_over hb2 hle)
end Go.Proofs.YtociliegljoldaaGreat
