/- The document's trees: who comes to whom. -/
import Derived.Test.YtbgagffpmdlilaaR6
namespace Go.Proofs.Ytbgagffpmdlilaa
set_option linter.unusedSimpArgs false
set_option linter.unusedVariables false
open Go.Proofs
attribute [local irreducible] vc vcOps vcDraw vcK vcKP vcDK vcDB HWp HCalls postV Ex.then Ex.inBlock stepD callV appendV guardC guardD exV effV opV loadV storeV indexAddrV indexV sliceV
set_option maxRecDepth 10000
set_option maxHeartbeats 4000000

/-- A table of 13 by 13 truths. -/
def gridM (m : Nat → Nat → Bool) : List V := (List.range 169).map fun i => BV (m (i / 13) (i % 13))
def updM (m : Nat → Nat → Bool) (a b : Nat) (v : Bool) : Nat → Nat → Bool := fun x y => if x = a ∧ y = b then v else m x y
theorem gridM_len (m : Nat → Nat → Bool) : (gridM m).length = 169 := by simp [gridM]
theorem gridM_at (m : Nat → Nat → Bool) (i : Nat) (h : i < 169) : (gridM m)[i]? = some (BV (m (i / 13) (i % 13))) := by
  unfold gridM
  rw [List.getElem?_map, List.getElem?_range h]; rfl
theorem gridM_get (m : Nat → Nat → Bool) {a b : Nat} (ha : a < 13) (hb : b < 13) : (gridM m)[a * 13 + b]? = some (BV (m a b)) := by
  rw [gridM_at m _ (by omega)]
  congr 3 <;> omega
theorem gridM_congr {m n : Nat → Nat → Bool} (h : ∀ x y, x < 13 → y < 13 → m x y = n x y) : gridM m = gridM n := by
  unfold gridM
  refine List.map_congr_left fun i hi => ?_
  rw [List.mem_range] at hi
  rw [h _ _ (by omega) (by omega)]
theorem gridM_set (m : Nat → Nat → Bool) {a b : Nat} (ha : a < 13) (hb : b < 13) (v : Bool) : (gridM m).set (a * 13 + b) (BV v) = gridM (updM m a b v) := by
  refine List.ext_getElem? fun i => ?_
  rw [List.getElem?_set, gridM_len]
  by_cases hi : i < 169
  · rw [gridM_at _ i hi, gridM_at _ i hi]
    unfold updM
    by_cases e : a * 13 + b = i
    · rw [if_pos e, if_pos (by omega), if_pos (by omega)]
    · rw [if_neg e, if_neg (by omega)]
  · rw [if_neg (by omega), List.getElem?_eq_none (by rw [gridM_len]; omega), List.getElem?_eq_none (by rw [gridM_len]; omega)]
/-- One round of Warshall. -/
def roundM (k : Nat) (m : Nat → Nat → Bool) : Nat → Nat → Bool := fun x y => m x y || m x k && m k y
def roundsM (m : Nat → Nat → Bool) : Nat → Nat → Nat → Bool
  | 0 => m
  | k + 1 => roundM (k + 1) (roundsM m k)
def Tr.base (t : Tr) (w : Int) : Nat → Nat → Bool := fun a b => (a : Int) != w && (b : Int) != w && t.there a && t.there b && ((a : Int) == b || t.adj a b)
def Tr.table (t : Tr) (w : Int) : Nat → Nat → Bool := roundsM (t.base w) 12
def lexB (a b x y : Nat) : Bool := decide (x < a) || x == a && decide (y < b)
theorem there0 (t : Tr) : t.there 0 = false := by unfold Tr.there Tr.kind; rfl
theorem base0 (t : Tr) (w : Int) (y : Nat) : t.base w 0 y = false := by unfold Tr.base; rw [show ((0 : Nat) : Int) = 0 from rfl, there0]; simp
theorem base00 (t : Tr) (w : Int) (y : Nat) : t.base w y 0 = false := by unfold Tr.base; rw [show ((0 : Nat) : Int) = 0 from rfl, there0]; simp
theorem rounds0 (m : Nat → Nat → Bool) (h : ∀ y, m 0 y = false) (k y : Nat) : roundsM m k 0 y = false := by
  induction k generalizing y with
  | zero => exact h y
  | succ k ih => simp [roundsM, roundM, ih]
theorem rounds00 (m : Nat → Nat → Bool) (h : ∀ y, m y 0 = false) (k y : Nat) : roundsM m k y 0 = false := by
  induction k generalizing y with
  | zero => exact h y
  | succ k ih => simp [roundsM, roundM, ih]
/-- In the midst of a round. -/
def midM (k : Nat) (m : Nat → Nat → Bool) (a b : Nat) : Nat → Nat → Bool := fun x y => if lexB a b x y = true then roundM k m x y else m x y
theorem midM_row (k : Nat) (m : Nat → Nat → Bool) (a b x : Nat) : midM k m a b x k = m x k := by
  unfold midM roundM; split <;> cases m x k <;> simp
theorem midM_col (k : Nat) (m : Nat → Nat → Bool) (a b y : Nat) : midM k m a b k y = m k y := by
  unfold midM roundM; split <;> cases m k y <;> simp
theorem midM_at (k : Nat) (m : Nat → Nat → Bool) (a b : Nat) : midM k m a b a b = m a b := by
  unfold midM lexB; rw [if_neg (by simp)]
theorem lexB_succ (a b x y : Nat) : lexB a (b + 1) x y = (lexB a b x y || (x == a && y == b)) := by
  unfold lexB; rw [Bool.eq_iff_iff]; simp; omega
theorem midM_next (k : Nat) (m : Nat → Nat → Bool) (a b : Nat) : updM (midM k m a b) a b (m a b || m a k && m k b) = midM k m a (b + 1) := by
  funext x y
  unfold updM
  by_cases e : x = a ∧ y = b
  · obtain ⟨rfl, rfl⟩ := e
    rw [if_pos ⟨rfl, rfl⟩]; unfold midM; rw [if_pos (by rw [lexB_succ]; simp)]; rfl
  · rw [if_neg e]
    unfold midM
    have : lexB a (b + 1) x y = lexB a b x y := by
      rw [lexB_succ]
      have : (x == a && y == b) = false := by
        rw [Bool.and_eq_false_iff]; simp; omega
      rw [this, Bool.or_false]
    rw [this]
theorem midM_line (k : Nat) (m : Nat → Nat → Bool) (a : Nat) (h0 : ∀ y, m y 0 = false) : gridM (midM k m a 13) = gridM (midM k m (a + 1) 1) := by
  refine gridM_congr fun x y _ hy => ?_
  unfold midM
  by_cases e : x = a + 1 ∧ y = 0
  · obtain ⟨rfl, rfl⟩ := e
    rw [if_neg (by unfold lexB; simp), if_pos (by unfold lexB; simp)]
    simp [roundM, h0]
  · have : lexB a 13 x y = lexB (a + 1) 1 x y := by unfold lexB; rw [Bool.eq_iff_iff]; simp; omega
    rw [this]
theorem midM_start (k : Nat) (m : Nat → Nat → Bool) (h1 : ∀ y, m 0 y = false) (h0 : ∀ y, m y 0 = false) : gridM (midM k m 1 1) = gridM m := by
  refine gridM_congr fun x y _ hy => ?_
  unfold midM
  split
  · rename_i h
    unfold lexB at h
    simp at h
    rcases Nat.eq_zero_or_pos x with rfl | hx
    · simp [roundM, h1]
    · have : y = 0 := by omega
      subst this; simp [roundM, h0]
  · rfl
theorem midM_end (k : Nat) (m : Nat → Nat → Bool) : gridM (midM k m 13 1) = gridM (roundM k m) := by
  refine gridM_congr fun x y hx hy => ?_
  unfold midM; rw [if_pos (by unfold lexB; simp; omega)]
/-- The beginning, in the midst. -/
def begM (m : Nat → Nat → Bool) (a b : Nat) : Nat → Nat → Bool := fun x y => lexB a b x y && m x y
theorem begM_next (m : Nat → Nat → Bool) (a b : Nat) : updM (begM m a b) a b (m a b) = begM m a (b + 1) := by
  funext x y
  unfold updM begM
  by_cases e : x = a ∧ y = b
  · obtain ⟨rfl, rfl⟩ := e
    rw [if_pos ⟨rfl, rfl⟩, lexB_succ]; simp
  · rw [if_neg e, lexB_succ]
    have : (x == a && y == b) = false := by
      rw [Bool.and_eq_false_iff]; simp; omega
    rw [this, Bool.or_false]
theorem begM_line (m : Nat → Nat → Bool) (a : Nat) (h0 : ∀ y, m y 0 = false) : gridM (begM m a 13) = gridM (begM m (a + 1) 1) := by
  refine gridM_congr fun x y _ hy => ?_
  unfold begM
  by_cases e : x = a + 1 ∧ y = 0
  · obtain ⟨rfl, rfl⟩ := e
    rw [h0]; simp
  · have : lexB a 13 x y = lexB (a + 1) 1 x y := by unfold lexB; rw [Bool.eq_iff_iff]; simp; omega
    rw [this]
theorem begM_start (m : Nat → Nat → Bool) (h1 : ∀ y, m 0 y = false) (h0 : ∀ y, m y 0 = false) : gridM (fun _ _ => false) = gridM (begM m 1 1) := by
  refine gridM_congr fun x y _ hy => ?_
  unfold begM lexB
  rcases Nat.eq_zero_or_pos x with rfl | hx
  · simp [h1]
  · rcases Nat.eq_zero_or_pos y with rfl | hy
    · simp [h0]
    · have : (decide (x < 1) || x == 1 && decide (y < 1)) = false := by
        rw [Bool.or_eq_false_iff]; simp; omega
      rw [this]; rfl
theorem begM_end (m : Nat → Nat → Bool) : gridM (begM m 13 1) = gridM m := by
  refine gridM_congr fun x y hx hy => ?_
  unfold begM lexB; rw [decide_eq_true (by omega)]; simp
theorem Store.le_over {σ τ : Store} {b : Nat} {k : Blk} (hb : σ b = none) (h : σ.le τ) : σ.le (τ.set b k) := fun c l e => by
  have : c ≠ b := fun q => by rw [q, hb] at e; cases e
  rw [Store.set_other _ _ this]; exact h c l e
theorem grid_zero : zeroV Try.prog 85 = some (gridM fun _ _ => false) := by kernel_rfl
theorem i64_n (i : Nat) (h : i < 1000000) : IntKind.i64.wrap ((i : Int) + 1) = ((i + 1 : Nat) : Int) := by rw [i64_in (by omega) (by omega)]; omega

theorem gridLoad (m : Nat → Nat → Bool) (K : V → Prop) : loadL Try.prog 85 (gridM m) 0 K = K (.agg (gridM m)) := by
  rw [loadL_a kd85, ce85, List.drop_zero, List.take_of_length_le (by rw [gridM_len]; omega)]
  simp [gridM_len]
theorem gridM_one (m : Nat → Nat → Bool) : ∀ c ∈ gridM m, c.one = true := fun c hc => by
  unfold gridM at hc; obtain ⟨i, _, rfl⟩ := List.mem_map.1 hc; rfl
theorem nat_nn (n : Nat) : ((0 : Int) ≤ (n : Int)) = True := eq_true (by omega)
theorem setL_grid (m n : Nat → Nat → Bool) : setL (gridM m) 0 (gridM n) = gridM n := by
  have := setL_append [] (gridM n) (gridM m) (by rw [gridM_len, gridM_len]; exact Nat.le_refl _)
  simp only [List.nil_append, List.length_nil] at this
  rw [this, List.drop_of_length_le (by rw [gridM_len, gridM_len]; exact Nat.le_refl _), List.append_nil]
theorem rreach_pure (t : Tr) (ht : t.Ok) (w : Int) : HPure Try.prog 78 [t.v, I64 w] (.agg (gridM (t.table w))) := by
  (refine HPure.of en78 fun σ => ?_); (refine HCalls.of_vc Try.func78 rfl ?_; rw [Try.ntmps78, Try.results78]; simp only [List.length_cons, List.length_nil, Nat.reduceAdd, Nat.reduceSub, List.replicate, List.cons_append, List.nil_append])
  (repeat (first | refine Stp.s ?_ | refine inBlock_exit' (by decide) ?_ | ((first | refine vc_region fun K KP hK hKP => ?_ | refine Stg.s ?_ | refine guardD_ret0 ?_ | refine exV_intro _ rfl ?_); (try simp only [go_sem, loadL_a, grid_zero]); try ((first | refine hK _ _ ?_ | refine hKP _ _ _ ?_ | refine hKP _ _ (fun _ => ?_)); clear hK hKP K KP))))
  intro b2 hb2 b4 hb4
  have hle2 : σ.le (σ.set b2 (.cells (t.kinds.map I64 ++ [t.es]))) := Store.le_set hb2 (Store.le_refl _)
  have h2 : (σ.set b2 (.cells (t.kinds.map I64 ++ [t.es]))) b2 = some (.cells (t.kinds.map I64 ++ [t.es])) := Store.set_same _ _ _
  generalize σ.set b2 _ = σ1 at *
  have n4 : σ b4 = none := Store.none_of_le hle2 hb4
  have hle4 := Store.le_trans hle2 (Store.le_set hb4 (Store.le_refl σ1) (k := (.cells (gridM fun _ _ => false))))
  have h24 : (σ1.set b4 (.cells (gridM fun _ _ => false))) b2 = some (.cells (t.kinds.map I64 ++ [t.es])) := Store.keep hb4 h2 _
  have h44 : (σ1.set b4 (.cells (gridM fun _ _ => false))) b4 = some (.cells (gridM fun _ _ => false)) := Store.set_same _ _ _
  generalize σ1.set b4 _ = σ2 at *
  clear hb2 hb4 h2 hle2
  ((try simp only [go_sem, rtreeLoad t ht, grid_zero]); refine hK _ _ ?_; clear hK hKP K KP; repeat (first | refine Stp.s ?_ | refine inBlock_exit' (by decide) ?_ | ((first | refine vc_region fun K KP hK hKP => ?_ | refine Stg.s ?_ | refine guardD_ret0 ?_ | refine exV_intro _ rfl ?_); (try simp only [go_sem, rtreeLoad t ht, grid_zero]); try ((first | refine hK _ _ ?_ | refine hKP _ _ _ ?_ | refine hKP _ _ (fun _ => ?_)); clear hK hKP K KP))))
  intro b5 hb5
  have hle5 := Store.le_trans hle4 (Store.le_set hb5 (Store.le_refl σ2) (k := (.cells (gridM fun _ _ => false))))
  ((try simp only [go_sem, rtreeLoad t ht, grid_zero]); refine hK _ _ ?_; clear hK hKP K KP; repeat (first | refine Stp.s ?_ | refine inBlock_exit' (by decide) ?_ | ((first | refine vc_region fun K KP hK hKP => ?_ | refine Stg.s ?_ | refine guardD_ret0 ?_ | refine exV_intro _ rfl ?_); (try simp only [go_sem, rtreeLoad t ht, grid_zero]); try ((first | refine hK _ _ ?_ | refine hKP _ _ _ ?_ | refine hKP _ _ (fun _ => ?_)); clear hK hKP K KP))))
  have n54 : b4 ≠ b5 := fun e => by rw [e, hb5] at h44; cases h44
  have k2 : ∀ m, (σ2.set b5 (.cells (gridM m))) b2 = some (.cells (t.kinds.map I64 ++ [t.es])) := fun m => Store.keep hb5 h24 _
  rw [begM_start (t.base w) (base0 t w) (base00 t w)]
  refine vc_loop (loopV (fun (a : Nat) => [t.v, I64 w, .ptr b2 0, .top, .ptr b4 0, .ptr b5 0, I64 ((a + 1 : Nat) : Int), .top, .top, .top, .top, .top, .top, .top, .top, .top, .top, .top, .top, .top, .top, .top, .top, .top, .top, .top, .top, .top, .top, .top, .top, .top, .top, .top, .top, .top, .top, .top, .top, .top, .top, .top, .top, .top, .top, .top, .top, .top, .top, .top, .top, .top, .top, .top, .top, .top, .top, .top, .top, .top, .top, .top, .top, .top, .top, .top, .top, .top, .top, .top, .top, .top, .top, .top, .top, .top, .top, .top, .top, .top, .top, .top, .top, .top, .top, .top, .top, .top]) (fun a τ => a < 13 ∧ τ = σ2.set b5 (.cells (gridM (begM (t.base w) (a + 1) 1)))) (fun a _ => 13 - a) 0 (by repeat (first | exact LeEnv.nil | refine LeEnv.same ?_ | refine LeEnv.top ?_)) ⟨by omega, rfl⟩ ?_)
  rintro a τ ⟨ha, rfl⟩
  (repeat (first | refine Stp.s ?_ | refine inBlock_exit' (by decide) ?_ | ((first | refine vc_region fun K KP hK hKP => ?_ | refine Stg.s ?_ | refine guardD_ret0 ?_ | refine exV_intro _ rfl ?_); (try simp only [go_sem, loadL_a]); try ((first | refine hK _ _ ?_ | refine hKP _ _ _ ?_ | refine hKP _ _ (fun _ => ?_)); clear hK hKP K KP))))
  refine vc_cond rfl (fun hc => ?_) (fun hc => ?_)
  · have ha12 : a < 12 := by simp at hc; omega
    (repeat (first | refine Stp.s ?_ | refine inBlock_exit' (by decide) ?_ | ((first | refine vc_region fun K KP hK hKP => ?_ | refine Stg.s ?_ | refine guardD_ret0 ?_ | refine exV_intro _ rfl ?_); (try simp only [go_sem, loadL_a]); try ((first | refine hK _ _ ?_ | refine hKP _ _ _ ?_ | refine hKP _ _ (fun _ => ?_)); clear hK hKP K KP))))
    refine vc_loop (loopV (fun (b : Nat) => [t.v, I64 w, .ptr b2 0, .top, .ptr b4 0, .ptr b5 0, I64 ((a + 1 : Nat) : Int), I64 ((b + 1 : Nat) : Int), .top, .top, .top, .top, .top, .top, .top, .top, .top, .top, .top, .top, .top, .top, .top, .top, .top, .top, .top, .top, .top, .top, .top, .top, .top, .top, .top, .top, .top, .top, .top, .top, .top, .top, .top, .top, .top, .top, .top, .top, .top, .top, .top, .top, .top, .top, .top, .top, .top, .top, .top, .top, .top, .top, .top, .top, .top, .top, .top, .top, .top, .top, .top, .top, .top, .top, .top, .top, .top, .top, .top, .top, .top, .top, .top, .top, .top, .top, .top, .top]) (fun b τ => b < 13 ∧ τ = σ2.set b5 (.cells (gridM (begM (t.base w) (a + 1) (b + 1))))) (fun b _ => 13 - b) 0 (by repeat (first | exact LeEnv.nil | refine LeEnv.same ?_ | refine LeEnv.top ?_)) ⟨by omega, rfl⟩ ?_)
    rintro b τ ⟨hb, rfl⟩
    (repeat (first | refine Stp.s ?_ | refine inBlock_exit' (by decide) ?_ | ((first | refine vc_region fun K KP hK hKP => ?_ | refine Stg.s ?_ | refine guardD_ret0 ?_ | refine exV_intro _ rfl ?_); (try simp only [go_sem, loadL_a]); try ((first | refine hK _ _ ?_ | refine hKP _ _ _ ?_ | refine hKP _ _ (fun _ => ?_)); clear hK hKP K KP))))
    refine vc_cond rfl (fun hc => ?_) (fun hc => ?_)
    · have hb12 : b < 12 := by simp at hc; omega
      have h5 := fun m => Store.set_same σ2 b5 (.cells (gridM m))
      (repeat (first | refine Stp.s ?_ | refine inBlock_exit' (by decide) ?_ | ((first | refine vc_region fun K KP hK hKP => ?_ | refine Stg.s ?_ | refine guardD_ret0 ?_ | refine exV_intro _ rfl ?_); (try simp only [go_sem, loadL_a]); try ((first | refine hK _ _ ?_ | refine hKP _ _ _ ?_ | refine hKP _ _ (fun _ => ?_)); clear hK hKP K KP))))
      ((repeat first | refine Stp.s ?_ | refine inBlock_exit' (by decide) ?_); refine vc_draw mixed [ 33 ] [0, 1, 2, 3, 4, 5, 6, 7, 8, 9, 10, 11, 12, 13, 14, 15, 16, 17, 18, 19, 20, 21, 22, 23, 24, 25, 26, 27, 28, 29, 30, 31, 32, 33 ] [ 11, 16, 25 ] [] (fun _ => True) (by kernel_rfl) (by kernel_rfl) (by kernel_rfl) trivial fun K KP hK hKP => ?_; simp only [go_sem, rtreeLoad t ht, k2, h5, gridM_len]; try (refine hK _ _ ?_; clear hK hKP K KP))
      ((try simp only [go_sem, rtreeLoad t ht, k2, h5, gridM_len]); (try ((first | refine hK _ _ ?_ | refine hKP _ _ _ ?_ | refine hKP _ _ (fun _ => ?_)); clear hK hKP K KP)); repeat (first | refine Stp.s ?_ | refine inBlock_exit' (by decide) ?_ | ((first | refine vc_region fun K KP hK hKP => ?_ | refine Stg.s ?_ | refine guardD_ret0 ?_ | refine exV_intro _ rfl ?_); (try simp only [go_sem, rtreeLoad t ht, k2, h5, gridM_len]); try ((first | refine hK _ _ ?_ | refine hKP _ _ _ ?_ | refine hKP _ _ (fun _ => ?_)); clear hK hKP K KP))))
      ((try simp only [go_sem, loadL_a]); first | refine guardD_q0 (fun _ => callV_pure (rthere_pure t ht _) ⟨rfl, rfl⟩) ?_ | refine guardD_q0 (fun _ _ => callV_pure (rthere_pure t ht _) ⟨rfl, rfl⟩) ?_)
      ((try simp only [go_sem, rtreeLoad t ht, k2, h5, gridM_len]); (try ((first | refine hK _ _ ?_ | refine hKP _ _ _ ?_ | refine hKP _ _ (fun _ => ?_)); clear hK hKP K KP)); repeat (first | refine Stp.s ?_ | refine inBlock_exit' (by decide) ?_ | ((first | refine vc_region fun K KP hK hKP => ?_ | refine Stg.s ?_ | refine guardD_ret0 ?_ | refine exV_intro _ rfl ?_); (try simp only [go_sem, rtreeLoad t ht, k2, h5, gridM_len]); try ((first | refine hK _ _ ?_ | refine hKP _ _ _ ?_ | refine hKP _ _ (fun _ => ?_)); clear hK hKP K KP))))
      ((try simp only [go_sem, loadL_a]); first | refine guardD_q0 (fun _ => callV_pure (rthere_pure t ht _) ⟨rfl, rfl⟩) ?_ | refine guardD_q0 (fun _ _ => callV_pure (rthere_pure t ht _) ⟨rfl, rfl⟩) ?_)
      ((try simp only [go_sem, rtreeLoad t ht, k2, h5, gridM_len]); (try ((first | refine hK _ _ ?_ | refine hKP _ _ _ ?_ | refine hKP _ _ (fun _ => ?_)); clear hK hKP K KP)); repeat (first | refine Stp.s ?_ | refine inBlock_exit' (by decide) ?_ | ((first | refine vc_region fun K KP hK hKP => ?_ | refine Stg.s ?_ | refine guardD_ret0 ?_ | refine exV_intro _ rfl ?_); (try simp only [go_sem, rtreeLoad t ht, k2, h5, gridM_len]); try ((first | refine hK _ _ ?_ | refine hKP _ _ _ ?_ | refine hKP _ _ (fun _ => ?_)); clear hK hKP K KP))))
      ((try simp only [go_sem, loadL_a]); first | refine guardD_q0 (fun _ => callV_pure (redged_pure t ht _ _) ⟨rfl, rfl⟩) ?_ | refine guardD_q0 (fun _ _ => callV_pure (redged_pure t ht _ _) ⟨rfl, rfl⟩) ?_)
      ((try simp only [go_sem, rtreeLoad t ht, k2, h5, gridM_len]); (try ((first | refine hK _ _ ?_ | refine hKP _ _ _ ?_ | refine hKP _ _ (fun _ => ?_)); clear hK hKP K KP)); repeat (first | refine Stp.s ?_ | refine inBlock_exit' (by decide) ?_ | ((first | refine vc_region fun K KP hK hKP => ?_ | refine Stg.s ?_ | refine guardD_ret0 ?_ | refine exV_intro _ rfl ?_); (try simp only [go_sem, rtreeLoad t ht, k2, h5, gridM_len]); try ((first | refine hK _ _ ?_ | refine hKP _ _ _ ?_ | refine hKP _ _ (fun _ => ?_)); clear hK hKP K KP))))
      refine guardD_q0 (x := BV ((((a + 1 : Nat) : Int) == ((b + 1 : Nat) : Int)) || t.adj ((a + 1 : Nat) : Int) ((b + 1 : Nat) : Int))) (fun hr => ⟨fun h => by rw [hr, h]; rfl, rfl⟩) ?_
      have g1 : (((a + 1 : Nat) : Int) < ((13 : Nat) : Int)) = True := eq_true (by omega)
      have g2 : (((b + 1 : Nat) : Int) < ((13 : Nat) : Int)) = True := eq_true (by omega)
      have g3 : ((a + 1) * 13 + (b + 1) + 1 ≤ 169) = True := eq_true (by omega)
      have g4 := gridM_set (begM (t.base w) (a + 1) (b + 1)) (show a + 1 < 13 by omega) (show b + 1 < 13 by omega)
      ((try simp only [go_sem, rtreeLoad t ht, k2, h5, gridM_len, g1, g2, g3, g4, nat_nn, Int.toNat_natCast, i64_n (b + 1) (by omega)]); (try ((first | refine hK _ _ ?_ | refine hKP _ _ _ ?_ | refine hKP _ _ (fun _ => ?_)); clear hK hKP K KP)); repeat (first | refine Stp.s ?_ | refine inBlock_exit' (by decide) ?_ | ((first | refine vc_region fun K KP hK hKP => ?_ | refine Stg.s ?_ | refine guardD_ret0 ?_ | refine exV_intro _ rfl ?_); (try simp only [go_sem, rtreeLoad t ht, k2, h5, gridM_len, g1, g2, g3, g4, nat_nn, Int.toNat_natCast, i64_n (b + 1) (by omega)]); try ((first | refine hK _ _ ?_ | refine hKP _ _ _ ?_ | refine hKP _ _ (fun _ => ?_)); clear hK hKP K KP))))
      refine ⟨b + 1, _, (by repeat (first | exact LeEnv.nil | refine LeEnv.same ?_ | refine LeEnv.top ?_)), ?_, ⟨by omega, rfl⟩, by omega⟩
      rw [← begM_next]
      exact Store.le_refl _
    · have hb12 : b = 12 := by simp at hc; omega
      subst hb12
      (repeat (first | refine Stp.s ?_ | refine inBlock_exit' (by decide) ?_ | ((first | refine vc_region fun K KP hK hKP => ?_ | refine Stg.s ?_ | refine guardD_ret0 ?_ | refine exV_intro _ rfl ?_); (try simp only [go_sem, loadL_a, i64_n (a + 1) (by omega)]); try ((first | refine hK _ _ ?_ | refine hKP _ _ _ ?_ | refine hKP _ _ (fun _ => ?_)); clear hK hKP K KP))))
      exact ⟨a + 1, _, (by repeat (first | exact LeEnv.nil | refine LeEnv.same ?_ | refine LeEnv.top ?_)), by rw [begM_line _ _ (base00 t w)]; exact Store.le_refl _, ⟨by omega, rfl⟩, by omega⟩
  · have ha12 : a = 12 := by simp at hc; omega
    subst ha12
    rw [begM_end]
    (repeat (first | refine Stp.s ?_ | refine inBlock_exit' (by decide) ?_ | ((first | refine vc_region fun K KP hK hKP => ?_ | refine Stg.s ?_ | refine guardD_ret0 ?_ | refine exV_intro _ rfl ?_); (try simp only [go_sem, loadL_a]); try ((first | refine hK _ _ ?_ | refine hKP _ _ _ ?_ | refine hKP _ _ (fun _ => ?_)); clear hK hKP K KP))))
    refine vc_loop (loopV (fun (k : Nat) => [t.v, I64 w, .ptr b2 0, .top, .ptr b4 0, .ptr b5 0, I64 13, .top, I64 ((k + 1 : Nat) : Int), .top, .top, .top, .top, .top, .top, .top, .top, .top, .top, .top, .top, .top, .top, .top, .top, .top, .top, .top, .top, .top, .top, .top, .top, .top, .top, .top, .top, .top, .top, .top, .top, .top, .top, .top, .top, .top, .top, .top, .top, .top, .top, .top, .top, .top, .top, .top, .top, .top, .top, .top, .top, .top, .top, .top, .top, .top, .top, .top, .top, .top, .top, .top, .top, .top, .top, .top, .top, .top, .top, .top, .top, .top, .top, .top, .top, .top, .top, .top]) (fun k τ => k < 13 ∧ τ = σ2.set b5 (.cells (gridM (roundsM (t.base w) k)))) (fun k _ => 13 - k) 0 (by repeat (first | exact LeEnv.nil | refine LeEnv.same ?_ | refine LeEnv.top ?_)) ⟨by omega, rfl⟩ ?_)
    rintro k τ ⟨hk, rfl⟩
    (repeat (first | refine Stp.s ?_ | refine inBlock_exit' (by decide) ?_ | ((first | refine vc_region fun K KP hK hKP => ?_ | refine Stg.s ?_ | refine guardD_ret0 ?_ | refine exV_intro _ rfl ?_); (try simp only [go_sem, loadL_a]); try ((first | refine hK _ _ ?_ | refine hKP _ _ _ ?_ | refine hKP _ _ (fun _ => ?_)); clear hK hKP K KP))))
    refine vc_cond rfl (fun hc => ?_) (fun hc => ?_)
    · have hk12 : k < 12 := by simp at hc; omega
      have z0 := rounds0 (t.base w) (base0 t w) k
      have z1 := rounds00 (t.base w) (base00 t w) k
      have zr : roundsM (t.base w) (k + 1) = roundM (k + 1) (roundsM (t.base w) k) := rfl
      generalize roundsM (t.base w) k = m at *
      rw [← midM_start (k + 1) m z0 z1]
      (repeat (first | refine Stp.s ?_ | refine inBlock_exit' (by decide) ?_ | ((first | refine vc_region fun K KP hK hKP => ?_ | refine Stg.s ?_ | refine guardD_ret0 ?_ | refine exV_intro _ rfl ?_); (try simp only [go_sem, loadL_a]); try ((first | refine hK _ _ ?_ | refine hKP _ _ _ ?_ | refine hKP _ _ (fun _ => ?_)); clear hK hKP K KP))))
      refine vc_loop (loopV (fun (a : Nat) => [t.v, I64 w, .ptr b2 0, .top, .ptr b4 0, .ptr b5 0, I64 13, .top, I64 ((k + 1 : Nat) : Int), I64 ((a + 1 : Nat) : Int), .top, .top, .top, .top, .top, .top, .top, .top, .top, .top, .top, .top, .top, .top, .top, .top, .top, .top, .top, .top, .top, .top, .top, .top, .top, .top, .top, .top, .top, .top, .top, .top, .top, .top, .top, .top, .top, .top, .top, .top, .top, .top, .top, .top, .top, .top, .top, .top, .top, .top, .top, .top, .top, .top, .top, .top, .top, .top, .top, .top, .top, .top, .top, .top, .top, .top, .top, .top, .top, .top, .top, .top, .top, .top, .top, .top, .top, .top]) (fun a τ => a < 13 ∧ τ = σ2.set b5 (.cells (gridM (midM (k + 1) m (a + 1) 1)))) (fun a _ => 13 - a) 0 (by repeat (first | exact LeEnv.nil | refine LeEnv.same ?_ | refine LeEnv.top ?_)) ⟨by omega, rfl⟩ ?_)
      rintro a τ ⟨ha, rfl⟩
      (repeat (first | refine Stp.s ?_ | refine inBlock_exit' (by decide) ?_ | ((first | refine vc_region fun K KP hK hKP => ?_ | refine Stg.s ?_ | refine guardD_ret0 ?_ | refine exV_intro _ rfl ?_); (try simp only [go_sem, loadL_a]); try ((first | refine hK _ _ ?_ | refine hKP _ _ _ ?_ | refine hKP _ _ (fun _ => ?_)); clear hK hKP K KP))))
      refine vc_cond rfl (fun hc => ?_) (fun hc => ?_)
      · have ha12 : a < 12 := by simp at hc; omega
        (repeat (first | refine Stp.s ?_ | refine inBlock_exit' (by decide) ?_ | ((first | refine vc_region fun K KP hK hKP => ?_ | refine Stg.s ?_ | refine guardD_ret0 ?_ | refine exV_intro _ rfl ?_); (try simp only [go_sem, loadL_a]); try ((first | refine hK _ _ ?_ | refine hKP _ _ _ ?_ | refine hKP _ _ (fun _ => ?_)); clear hK hKP K KP))))
        refine vc_loop (loopV (fun (b : Nat) => [t.v, I64 w, .ptr b2 0, .top, .ptr b4 0, .ptr b5 0, I64 13, .top, I64 ((k + 1 : Nat) : Int), I64 ((a + 1 : Nat) : Int), I64 ((b + 1 : Nat) : Int), .top, .top, .top, .top, .top, .top, .top, .top, .top, .top, .top, .top, .top, .top, .top, .top, .top, .top, .top, .top, .top, .top, .top, .top, .top, .top, .top, .top, .top, .top, .top, .top, .top, .top, .top, .top, .top, .top, .top, .top, .top, .top, .top, .top, .top, .top, .top, .top, .top, .top, .top, .top, .top, .top, .top, .top, .top, .top, .top, .top, .top, .top, .top, .top, .top, .top, .top, .top, .top, .top, .top, .top, .top, .top, .top, .top, .top]) (fun b τ => b < 13 ∧ τ = σ2.set b5 (.cells (gridM (midM (k + 1) m (a + 1) (b + 1))))) (fun b _ => 13 - b) 0 (by repeat (first | exact LeEnv.nil | refine LeEnv.same ?_ | refine LeEnv.top ?_)) ⟨by omega, rfl⟩ ?_)
        rintro b τ ⟨hb, rfl⟩
        (repeat (first | refine Stp.s ?_ | refine inBlock_exit' (by decide) ?_ | ((first | refine vc_region fun K KP hK hKP => ?_ | refine Stg.s ?_ | refine guardD_ret0 ?_ | refine exV_intro _ rfl ?_); (try simp only [go_sem, loadL_a]); try ((first | refine hK _ _ ?_ | refine hKP _ _ _ ?_ | refine hKP _ _ (fun _ => ?_)); clear hK hKP K KP))))
        refine vc_cond rfl (fun hc => ?_) (fun hc => ?_)
        · have hb12 : b < 12 := by simp at hc; omega
          have h5 := fun m => Store.set_same σ2 b5 (.cells (gridM m))
          have g0 : (((k + 1 : Nat) : Int) < ((13 : Nat) : Int)) = True := eq_true (by omega)
          have g1 : (((a + 1 : Nat) : Int) < ((13 : Nat) : Int)) = True := eq_true (by omega)
          have g2 : (((b + 1 : Nat) : Int) < ((13 : Nat) : Int)) = True := eq_true (by omega)
          have g3 : ((a + 1) * 13 + (b + 1) + 1 ≤ 169) = True := eq_true (by omega)
          have r1 := gridM_get (midM (k + 1) m (a + 1) (b + 1)) (show a + 1 < 13 by omega) (show b + 1 < 13 by omega)
          have r2 := gridM_get (midM (k + 1) m (a + 1) (b + 1)) (show a + 1 < 13 by omega) (show k + 1 < 13 by omega)
          have r3 := gridM_get (midM (k + 1) m (a + 1) (b + 1)) (show k + 1 < 13 by omega) (show b + 1 < 13 by omega)
          rw [midM_at] at r1
          rw [midM_row] at r2
          rw [midM_col] at r3
          have g4 := gridM_set (midM (k + 1) m (a + 1) (b + 1)) (show a + 1 < 13 by omega) (show b + 1 < 13 by omega)
          (repeat (first | refine Stp.s ?_ | refine inBlock_exit' (by decide) ?_ | ((first | refine vc_region fun K KP hK hKP => ?_ | refine Stg.s ?_ | refine guardD_ret0 ?_ | refine exV_intro _ rfl ?_); (try simp only [go_sem, loadL_a]); try ((first | refine hK _ _ ?_ | refine hKP _ _ _ ?_ | refine hKP _ _ (fun _ => ?_)); clear hK hKP K KP))))
          ((repeat first | refine Stp.s ?_ | refine inBlock_exit' (by decide) ?_); refine vc_draw mixed [ 23 ] [0, 1, 2, 3, 4, 5, 6, 7, 8, 9, 10, 11, 12, 13, 14, 15, 16, 17, 18, 19, 20, 21, 22, 23 ] [ 6, 12, 18 ] [] (fun _ => True) (by kernel_rfl) (by kernel_rfl) (by kernel_rfl) trivial fun K KP hK hKP => ?_; simp only [go_sem, loadL_a, h5, gridM_len, g0, g1, g2, g3, r1, r2, r3, nat_nn, Int.toNat_natCast]; try (refine hK _ _ ?_; clear hK hKP K KP))
          ((try simp only [go_sem, loadL_a, h5, gridM_len, g0, g1, g2, g3, r1, r2, r3, nat_nn, Int.toNat_natCast]); (try ((first | refine hK _ _ ?_ | refine hKP _ _ _ ?_ | refine hKP _ _ (fun _ => ?_)); clear hK hKP K KP)); repeat (first | refine Stp.s ?_ | refine inBlock_exit' (by decide) ?_ | ((first | refine vc_region fun K KP hK hKP => ?_ | refine Stg.s ?_ | refine guardD_ret0 ?_ | refine exV_intro _ rfl ?_); (try simp only [go_sem, loadL_a, h5, gridM_len, g0, g1, g2, g3, r1, r2, r3, nat_nn, Int.toNat_natCast]); try ((first | refine hK _ _ ?_ | refine hKP _ _ _ ?_ | refine hKP _ _ (fun _ => ?_)); clear hK hKP K KP))))
          refine guardD_q0 (x := BV (m (a + 1) (k + 1) && m (k + 1) (b + 1))) (fun hr => ⟨fun h => by rw [hr, h]; rfl, rfl⟩) ?_
          ((try simp only [go_sem, loadL_a, h5, gridM_len, g0, g1, g2, g3, r1, r2, r3, g4, nat_nn, Int.toNat_natCast, i64_n (b + 1) (by omega)]); (try ((first | refine hK _ _ ?_ | refine hKP _ _ _ ?_ | refine hKP _ _ (fun _ => ?_)); clear hK hKP K KP)); repeat (first | refine Stp.s ?_ | refine inBlock_exit' (by decide) ?_ | ((first | refine vc_region fun K KP hK hKP => ?_ | refine Stg.s ?_ | refine guardD_ret0 ?_ | refine exV_intro _ rfl ?_); (try simp only [go_sem, loadL_a, h5, gridM_len, g0, g1, g2, g3, r1, r2, r3, g4, nat_nn, Int.toNat_natCast, i64_n (b + 1) (by omega)]); try ((first | refine hK _ _ ?_ | refine hKP _ _ _ ?_ | refine hKP _ _ (fun _ => ?_)); clear hK hKP K KP))))
          refine ⟨b + 1, _, (by repeat (first | exact LeEnv.nil | refine LeEnv.same ?_ | refine LeEnv.top ?_)), ?_, ⟨by omega, rfl⟩, by omega⟩
          rw [← midM_next]
          exact Store.le_refl _
        · have hb12 : b = 12 := by simp at hc; omega
          subst hb12
          (repeat (first | refine Stp.s ?_ | refine inBlock_exit' (by decide) ?_ | ((first | refine vc_region fun K KP hK hKP => ?_ | refine Stg.s ?_ | refine guardD_ret0 ?_ | refine exV_intro _ rfl ?_); (try simp only [go_sem, loadL_a, i64_n (a + 1) (by omega)]); try ((first | refine hK _ _ ?_ | refine hKP _ _ _ ?_ | refine hKP _ _ (fun _ => ?_)); clear hK hKP K KP))))
          exact ⟨a + 1, _, (by repeat (first | exact LeEnv.nil | refine LeEnv.same ?_ | refine LeEnv.top ?_)), by rw [midM_line _ _ _ z1]; exact Store.le_refl _, ⟨by omega, rfl⟩, by omega⟩
      · have ha12 : a = 12 := by simp at hc; omega
        subst ha12
        rw [midM_end]
        (repeat (first | refine Stp.s ?_ | refine inBlock_exit' (by decide) ?_ | ((first | refine vc_region fun K KP hK hKP => ?_ | refine Stg.s ?_ | refine guardD_ret0 ?_ | refine exV_intro _ rfl ?_); (try simp only [go_sem, loadL_a, i64_n (k + 1) (by omega)]); try ((first | refine hK _ _ ?_ | refine hKP _ _ _ ?_ | refine hKP _ _ (fun _ => ?_)); clear hK hKP K KP))))
        exact ⟨k + 1, _, (by repeat (first | exact LeEnv.nil | refine LeEnv.same ?_ | refine LeEnv.top ?_)), Store.le_refl _, ⟨by omega, by rw [zr]⟩, by omega⟩
    · have hk12 : k = 12 := by simp at hc; omega
      subst hk12
      have h5 := fun m => Store.set_same σ2 b5 (.cells (gridM m))
      have h4 : ∀ m, (σ2.set b5 (.cells (gridM m))) b4 = some (.cells (gridM fun _ _ => false)) := fun m => Store.keep hb5 h44 _
      (repeat (first | refine Stp.s ?_ | refine inBlock_exit' (by decide) ?_ | ((first | refine vc_region fun K KP hK hKP => ?_ | refine Stg.s ?_ | refine guardD_ret0 ?_ | refine exV_intro _ rfl ?_); (try simp only [go_sem, h5, gridLoad, h4, setL_grid, gridM_len]); try ((first | refine hK _ _ ?_ | refine hKP _ _ _ ?_ | refine hKP _ _ (fun _ => ?_)); clear hK hKP K KP))))
      refine ⟨gridM_one _, ?_⟩
      ((try simp only [go_sem, h5, gridLoad, h4, setL_grid, gridM_len]); refine hK _ _ ?_; clear hK hKP K KP; repeat (first | refine Stp.s ?_ | refine inBlock_exit' (by decide) ?_ | ((first | refine vc_region fun K KP hK hKP => ?_ | refine Stg.s ?_ | refine guardD_ret0 ?_ | refine exV_intro _ rfl ?_); (try simp only [go_sem, h5, gridLoad, h4, setL_grid, gridM_len]); try ((first | refine hK _ _ ?_ | refine hKP _ _ _ ?_ | refine hKP _ _ (fun _ => ?_)); clear hK hKP K KP))))
      (simp only [postV, resV, oneOf, List.getD_cons_succ, List.getD_cons_zero, and_true, true_and])
      simp only [go_sem, gridLoad, Store.set_same]
      exact Ends.le rfl (Store.le_over n4 (Store.le_over (Store.none_of_le hle4 hb5) hle4))
end Go.Proofs.Ytbgagffpmdlilaa
