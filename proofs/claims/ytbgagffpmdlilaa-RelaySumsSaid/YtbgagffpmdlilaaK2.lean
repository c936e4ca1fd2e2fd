/- A relay: what it holds; a new one. -/
import Derived.Test.YtbgagffpmdlilaaK1
import Derived.Test.YtbgagffpmdlilaaR10
namespace Go.Proofs.Ytbgagffpmdlilaa
set_option linter.unusedSimpArgs false
set_option linter.unusedVariables false
open Go.Proofs
attribute [local irreducible] vc vcOps vcDraw vcK vcKP vcDK vcDB HWp HCalls postV Ex.then Ex.inBlock stepD callV appendV guardC guardD exV effV opV loadV storeV indexAddrV indexV sliceV
set_option maxRecDepth 10000
set_option maxHeartbeats 4000000

/-- The end of a call that makes one new block. -/
def EndsNew (F : Nat → V) (k : Blk) (σ : Store) : Res → Store → Prop := fun r σ' => ∃ b y, σ b = none ∧ r = .ret y ∧ Weakens y σ' (F b) (σ.set b k)
theorem callV_new {P : Program} {f : FuncId} {ps qs xs : List V} {σ : Store} {K KP : V → Store → Prop} {F : Nat → V} {k : Blk} (he : entersB P f = true) (h : HCalls P f (ps ++ xs ++ qs) σ (EndsNew F k σ)) (h2 : ∀ b, σ b = none → K (F b) (σ.set b k)) : callV P (.fn (.func f) ps qs) xs σ K KP :=
  callV_of he (h.weaken (Q' := fun r σ' => ∃ b, σ b = none ∧ r = .ret (F b) ∧ σ' = σ.set b k) (fun r σ' ⟨b, y, hb, e, hw⟩ => by cases e; exact ⟨F b, _, hw, b, hb, rfl, rfl⟩) (fun r σ' ⟨b, y, hb, e, hw⟩ => by cases e))
    (fun x σ' ⟨b, hb, e, f⟩ => by cases e; subst f; exact h2 b hb) (fun x σ' ⟨b, hb, e, f⟩ => by cases e)
/-- Counters: came, went. -/
abbrev Cnt := Nat → Nat × Nat
def cwN (c : Cnt) (k : Nat) : Nat := if k % 2 = 0 then (c (k / 2)).1 else (c (k / 2)).2
def rlT (c : Cnt) : List V := (List.range 24).map fun k => U64 (cwN c k)
def rlC (t : Tr) (n : Int) (c : Cnt) : List V := (t.kinds.map I64 ++ [t.es]) ++ (I64 n :: rlT c)
def setCame (c : Cnt) (i x : Nat) : Cnt := fun j => if j = i then (x, (c j).2) else c j
def setWent (c : Cnt) (i x : Nat) : Cnt := fun j => if j = i then ((c j).1, x) else c j
theorem rlT_len (c : Cnt) : (rlT c).length = 24 := by simp [rlT]
theorem rlT_at (c : Cnt) (k : Nat) (h : k < 24) : (rlT c)[k]? = some (U64 (cwN c k)) := by
  unfold rlT; rw [List.getElem?_map, List.getElem?_range h]; rfl
theorem cwN_0 (c : Cnt) (i : Nat) : cwN c (i * 2) = (c i).1 := by unfold cwN; rw [if_pos (by omega)]; congr 2; omega
theorem cwN_1 (c : Cnt) (i : Nat) : cwN c (i * 2 + 1) = (c i).2 := by unfold cwN; rw [if_neg (by omega)]; congr 2; omega
theorem rlT_set0 (c : Cnt) (i x : Nat) (h : i < 12) : (rlT c).set (i * 2) (U64 x) = rlT (setCame c i x) := by
  refine List.ext_getElem? fun k => ?_
  rw [List.getElem?_set, rlT_len]
  by_cases hk : k < 24
  · rw [rlT_at _ k hk, rlT_at _ k hk]
    by_cases e : i * 2 = k
    · rw [if_pos e, if_pos (by omega), ← e, cwN_0]
      unfold setCame; rw [if_pos rfl]
    · rw [if_neg e]
      have : cwN c k = cwN (setCame c i x) k := by
        unfold cwN setCame
        split
        · rw [if_neg (by omega)]
        · split <;> rfl
      rw [this]
  · rw [if_neg (by omega), List.getElem?_eq_none (by rw [rlT_len]; omega), List.getElem?_eq_none (by rw [rlT_len]; omega)]
theorem rlT_set1 (c : Cnt) (i x : Nat) (h : i < 12) : (rlT c).set (i * 2 + 1) (U64 x) = rlT (setWent c i x) := by
  refine List.ext_getElem? fun k => ?_
  rw [List.getElem?_set, rlT_len]
  by_cases hk : k < 24
  · rw [rlT_at _ k hk, rlT_at _ k hk]
    by_cases e : i * 2 + 1 = k
    · rw [if_pos e, if_pos (by omega), ← e, cwN_1]
      unfold setWent; rw [if_pos rfl]
    · rw [if_neg e]
      have : cwN c k = cwN (setWent c i x) k := by
        unfold cwN setWent
        split
        · split <;> rfl
        · rw [if_neg (by omega)]
      rw [this]
  · rw [if_neg (by omega), List.getElem?_eq_none (by rw [rlT_len]; omega), List.getElem?_eq_none (by rw [rlT_len]; omega)]
section
variable {t : Tr} {n : Int} {c : Cnt}
theorem rlA_len (ht : t.Ok) : (t.kinds.map I64 ++ [t.es]).length = 13 := by simp [ht.k]
theorem rlC_len (ht : t.Ok) : (rlC t n c).length = 38 := by unfold rlC; rw [List.length_append, rlA_len ht, List.length_cons, rlT_len]
theorem rlC_tree (ht : t.Ok) (K : V → Prop) : loadL Try.prog 25 (rlC t n c) 0 K = K t.v := by
  rw [loadL_a kd25, ce25, List.drop_zero]
  unfold rlC
  rw [List.take_append_of_le_length (by rw [rlA_len ht]; exact Nat.le_refl _), List.take_of_length_le (by rw [rlA_len ht]; exact Nat.le_refl _)]
  simp [ht.k, rlT_len]
theorem rlC_node (ht : t.Ok) : (rlC t n c)[13]? = some (I64 n) := by
  unfold rlC; rw [List.getElem?_append_right (by rw [rlA_len ht]; exact Nat.le_refl _), rlA_len ht]; rfl
theorem rlC_at (ht : t.Ok) (k : Nat) : (rlC t n c)[14 + k]? = (rlT c)[k]? := by
  unfold rlC; rw [List.getElem?_append_right (by rw [rlA_len ht]; omega), rlA_len ht, show 14 + k - 13 = k + 1 by omega]; rfl
theorem rlC_came (ht : t.Ok) (i : Nat) (h : i < 12) : (rlC t n c)[14 + i * 2]? = some (U64 (c i).1) := by rw [rlC_at ht, rlT_at _ _ (by omega), cwN_0]
theorem rlC_went (ht : t.Ok) (i : Nat) (h : i < 12) : (rlC t n c)[14 + i * 2 + 1]? = some (U64 (c i).2) := by rw [Nat.add_assoc, rlC_at ht, rlT_at _ _ (by omega), cwN_1]
theorem rlC_set (ht : t.Ok) (k : Nat) (x : V) : (rlC t n c).set (14 + k) x = (t.kinds.map I64 ++ [t.es]) ++ (I64 n :: (rlT c).set k x) := by
  unfold rlC; rw [List.set_append_right _ _ (by rw [rlA_len ht]; omega), rlA_len ht, show 14 + k - 13 = k + 1 by omega, List.set_cons_succ]
theorem rlC_setCame (ht : t.Ok) (i x : Nat) (h : i < 12) : (rlC t n c).set (14 + i * 2) (U64 x) = rlC t n (setCame c i x) := by rw [rlC_set ht, rlT_set0 c i x h]; rfl
theorem rlC_setWent (ht : t.Ok) (i x : Nat) (h : i < 12) : (rlC t n c).set (14 + i * 2 + 1) (U64 x) = rlC t n (setWent c i x) := by rw [Nat.add_assoc, rlC_set ht, rlT_set1 c i x h]; rfl
end
/-- slices.Clone at elements of type tree.Edge: clone_edges. -/
theorem clone_edges (xs : List V) (hl : xs.length ≤ 1000000000) (hk : ∀ x ∈ xs, x.cells.length = 2) (h1 : ∀ x ∈ xs, ∀ c ∈ x.cells, c.one = true) : HPure Try.prog 97 [.lst 2 xs] (.lst 2 xs) := by
  (refine HPure.of en97 fun σ => ?_); (refine HCalls.of_vc Try.func97 rfl ?_; rw [Try.ntmps97, Try.results97]; simp only [List.length_cons, List.length_nil, Nat.reduceAdd, Nat.reduceSub, List.replicate, List.cons_append, List.nil_append])
  have hnil : ∀ K : V → Store → Prop, (∀ b : Bool, (b = true → xs = []) → K (BV b) σ) → binV Try.prog .eql 23 (.lst 2 xs) nilS σ K := fun K hK => by
    cases xs with
    | nil => rw [bin_empty]; exact ⟨⟨_, Try.underlying23⟩, .inl rfl, fun b => hK b fun _ => rfl⟩
    | cons c cs => simp only [go_sem, loadL_a]; exact hK false fun q => by cases q
  (repeat (first | refine Stp.s ?_ | refine inBlock_exit' (by decide) ?_ | ((first | refine vc_region fun K KP hK hKP => ?_ | refine Stg.s ?_ | refine guardD_ret0 ?_ | refine exV_intro _ rfl ?_); (try simp only [go_sem, loadL_a]); try ((first | refine hK _ _ ?_ | refine hKP _ _ _ ?_ | refine hKP _ _ (fun _ => ?_)); clear hK hKP K KP))))
  refine hnil _ (fun b hb => ?_)
  ((try simp only [go_sem, loadL_a]); (try ((first | refine hK _ _ ?_ | refine hKP _ _ _ ?_ | refine hKP _ _ (fun _ => ?_)); clear hK hKP K KP)); repeat (first | refine Stp.s ?_ | refine inBlock_exit' (by decide) ?_ | ((first | refine vc_region fun K KP hK hKP => ?_ | refine Stg.s ?_ | refine guardD_ret0 ?_ | refine exV_intro _ rfl ?_); (try simp only [go_sem, loadL_a]); try ((first | refine hK _ _ ?_ | refine hKP _ _ _ ?_ | refine hKP _ _ (fun _ => ?_)); clear hK hKP K KP))))
  refine vc_cond rfl (fun hc => ?_) (fun hc => ?_)
  · rw [hb hc]
    (repeat (first | refine Stp.s ?_ | refine inBlock_exit' (by decide) ?_ | ((first | refine vc_region fun K KP hK hKP => ?_ | refine Stg.s ?_ | refine guardD_ret0 ?_ | refine exV_intro _ rfl ?_); (try simp only [go_sem, loadL_a]); try ((first | refine hK _ _ ?_ | refine hKP _ _ _ ?_ | refine hKP _ _ (fun _ => ?_)); clear hK hKP K KP))))
    (simp only [postV, resV, oneOf, List.getD_cons_succ, List.getD_cons_zero, and_true, true_and])
    exact Ends.mk (Bld.weakens (Bld.nil 2 σ) (Store.le_refl _) rfl rfl (by simp))
  · (repeat (first | refine Stp.s ?_ | refine inBlock_exit' (by decide) ?_ | ((first | refine vc_region fun K KP hK hKP => ?_ | refine Stg.s ?_ | refine guardD_ret0 ?_ | refine exV_intro _ rfl ?_); (try simp only [go_sem, loadL_a]); try ((first | refine hK _ _ ?_ | refine hKP _ _ _ ?_ | refine hKP _ _ (fun _ => ?_)); clear hK hKP K KP))))
    intro b5 hb5
    have hB : Bld 2 σ (σ.set b5 (.cells (repL [V.val (.int .i64 0), V.val (.int .i64 0)] 0))) (.sl b5 0 0 0) [] 0 := .inr ⟨b5, 0, [], rfl, hb5, rfl, rfl, by simp, Nat.le_refl _, by decide⟩
    have hfl : ∀ ys : List V, (∀ x ∈ ys, x.cells.length = 2) → (ys.flatMap V.cells).length = ys.length * 2 := fun ys => by
      induction ys with
      | nil => intro _; rfl
      | cons y ys ih => intro h; rw [List.flatMap_cons, List.length_append, ih fun x hx => h x (by simp [hx]), h y (by simp), List.length_cons]; omega
    refine append_edge hB (Store.le_refl _) (fun KK hk => row_lst KK hk) (hfl xs hk) (fun c hc => by obtain ⟨x, hx, hc⟩ := List.mem_flatMap.1 hc; exact h1 x hx c hc) (by omega) ?_
    intro x' τ' σ' hB' hle' _
    ((try simp only [go_sem, loadL_a]); refine hK _ _ ?_; clear hK hKP K KP; repeat (first | refine Stp.s ?_ | refine inBlock_exit' (by decide) ?_ | ((first | refine vc_region fun K KP hK hKP => ?_ | refine Stg.s ?_ | refine guardD_ret0 ?_ | refine exV_intro _ rfl ?_); (try simp only [go_sem, loadL_a]); try ((first | refine hK _ _ ?_ | refine hKP _ _ _ ?_ | refine hKP _ _ (fun _ => ?_)); clear hK hKP K KP))))
    (simp only [postV, resV, oneOf, List.getD_cons_succ, List.getD_cons_zero, and_true, true_and])
    exact Ends.mk (Bld.weakens hB' hle' (by simp) (by simp) hk)

def Cnt0 : Cnt := fun _ => (0, 0)
theorem rmade (b : Nat) (σ : Store) (t : Tr) (ht : t.Ok) (n : Int) (c : Cnt) (h : σ b = some (.cells (rlC t n c))) : HQuiet Try.prog 100 [.ptr b 0] σ (BV (decide (0 < n))) := by
  refine HQuiet.of ?_; (refine HCalls.of_vc Try.func100 rfl ?_; rw [Try.ntmps100, Try.results100]; simp only [List.length_cons, List.length_nil, Nat.reduceAdd, Nat.reduceSub, List.replicate, List.cons_append, List.nil_append])
  (repeat (first | refine Stp.s ?_ | refine inBlock_exit' (by decide) ?_ | ((first | refine vc_region fun K KP hK hKP => ?_ | refine Stg.s ?_ | refine guardD_ret0 ?_ | refine exV_intro _ rfl ?_); (try simp only [go_sem, loadL_a, h, rlC_node ht]); try ((first | refine hK _ _ ?_ | refine hKP _ _ _ ?_ | refine hKP _ _ (fun _ => ?_)); clear hK hKP K KP))))
  (simp only [postV, resV, oneOf, List.getD_cons_succ, List.getD_cons_zero, and_true, true_and])
  exact Ends.le rfl (Store.le_refl _)
theorem rnextm (b : Nat) (σ : Store) (t : Tr) (ht : t.Ok) (n : Int) (c : Cnt) (h : σ b = some (.cells (rlC t n c))) (hn : 0 < n) : HQuiet Try.prog 102 [.ptr b 0] σ (ints (t.next n)) := by
  refine HQuiet.of ?_; (refine HCalls.of_vc Try.func102 rfl ?_; rw [Try.ntmps102, Try.results102]; simp only [List.length_cons, List.length_nil, Nat.reduceAdd, Nat.reduceSub, List.replicate, List.cons_append, List.nil_append])
  (repeat (first | refine Stp.s ?_ | refine inBlock_exit' (by decide) ?_ | ((first | refine vc_region fun K KP hK hKP => ?_ | refine Stg.s ?_ | refine guardD_ret0 ?_ | refine exV_intro _ rfl ?_); (try simp only [go_sem, loadL_a]); try ((first | refine hK _ _ ?_ | refine hKP _ _ _ ?_ | refine hKP _ _ (fun _ => ?_)); clear hK hKP K KP))))
  ((try simp only [go_sem, loadL_a]); refine callV_quiet en100 (rmade b σ t ht n c h) ?_)
  ((try simp only [go_sem, loadL_a]); (try ((first | refine hK _ _ ?_ | refine hKP _ _ _ ?_ | refine hKP _ _ (fun _ => ?_)); clear hK hKP K KP)); repeat (first | refine Stp.s ?_ | refine inBlock_exit' (by decide) ?_ | ((first | refine vc_region fun K KP hK hKP => ?_ | refine Stg.s ?_ | refine guardD_ret0 ?_ | refine exV_intro _ rfl ?_); (try simp only [go_sem, loadL_a]); try ((first | refine hK _ _ ?_ | refine hKP _ _ _ ?_ | refine hKP _ _ (fun _ => ?_)); clear hK hKP K KP))))
  refine vc_cond rfl (fun hc => ?_) (fun hc => ?_)
  · exfalso; simp at hc; omega
  · (repeat (first | refine Stp.s ?_ | refine inBlock_exit' (by decide) ?_ | ((first | refine vc_region fun K KP hK hKP => ?_ | refine Stg.s ?_ | refine guardD_ret0 ?_ | refine exV_intro _ rfl ?_); (try simp only [go_sem, loadL_a]); try ((first | refine hK _ _ ?_ | refine hKP _ _ _ ?_ | refine hKP _ _ (fun _ => ?_)); clear hK hKP K KP))))
    ((repeat first | refine Stp.s ?_ | refine inBlock_exit' (by decide) ?_); refine vc_draw mixed [ ] [0, 1, 2, 3, 4, 5, 6, 7, 8, 9 ] [ 3, 7 ] [] (fun _ => True) (by kernel_rfl) (by kernel_rfl) (by kernel_rfl) trivial fun K KP hK hKP => ?_; simp only [go_sem, h, rlC_node ht, rlC_tree ht]; try (refine hK _ _ ?_; clear hK hKP K KP))
    ((try simp only [go_sem, h, rlC_node ht, rlC_tree ht]); (try ((first | refine hK _ _ ?_ | refine hKP _ _ _ ?_ | refine hKP _ _ (fun _ => ?_)); clear hK hKP K KP)); repeat (first | refine Stp.s ?_ | refine inBlock_exit' (by decide) ?_ | ((first | refine vc_region fun K KP hK hKP => ?_ | refine Stg.s ?_ | refine guardD_ret0 ?_ | refine exV_intro _ rfl ?_); (try simp only [go_sem, h, rlC_node ht, rlC_tree ht]); try ((first | refine hK _ _ ?_ | refine hKP _ _ _ ?_ | refine hKP _ _ (fun _ => ?_)); clear hK hKP K KP))))
    ((try simp only [go_sem, loadL_a]); first | refine exV_intro _ (callV_pure (next_pure t ht n) ⟨rfl, rfl⟩) ?_ | refine exV_intro _ (fun _ => callV_pure (next_pure t ht n) ⟨rfl, rfl⟩) ?_)
    ((try simp only [go_sem, loadL_a]); (try ((first | refine hK _ _ ?_ | refine hKP _ _ _ ?_ | refine hKP _ _ (fun _ => ?_)); clear hK hKP K KP)); repeat (first | refine Stp.s ?_ | refine inBlock_exit' (by decide) ?_ | ((first | refine vc_region fun K KP hK hKP => ?_ | refine Stg.s ?_ | refine guardD_ret0 ?_ | refine exV_intro _ rfl ?_); (try simp only [go_sem, loadL_a]); try ((first | refine hK _ _ ?_ | refine hKP _ _ _ ?_ | refine hKP _ _ (fun _ => ?_)); clear hK hKP K KP))))
    (simp only [postV, resV, oneOf, List.getD_cons_succ, List.getD_cons_zero, and_true, true_and])
    exact Ends.le rfl (Store.le_refl _)
theorem cell_load (c : Nat × Nat) (cs : List V) (k : Nat) (h0 : cs[k]? = some (U64 c.1)) (h1 : cs[k + 1]? = some (U64 c.2)) (K : V → Prop) : loadL Try.prog 157 cs k K = K (.agg [U64 c.1, U64 c.2]) := by
  have hl : k + 1 < cs.length := (List.getElem?_eq_some_iff.1 h1).1
  rw [loadL_a kd157, ce157]
  have : (cs.drop k).take 2 = [U64 c.1, U64 c.2] := by
    refine List.ext_getElem? fun i => ?_
    match i with
    | 0 => rw [List.getElem?_take, List.getElem?_drop]; simpa using h0
    | 1 => rw [List.getElem?_take, List.getElem?_drop]; simpa using h1
    | i + 2 => rw [List.getElem?_take, if_neg (by omega)]; rfl
  rw [this]
  exact propext ⟨fun h => h.2, fun h => ⟨by omega, h⟩⟩
theorem any_mem {l : List Int} {m : Int} : l.any (m == ·) = decide (m ∈ l) := by
  rw [Bool.eq_iff_iff, List.any_eq_true, decide_eq_true_eq]
  exact ⟨fun ⟨y, hy, e⟩ => by rw [beq_iff_eq] at e; rw [e]; exact hy, fun h => ⟨m, h, by simp⟩⟩
theorem next_bnd {t : Tr} {n m : Int} (h : m ∈ t.next n) : 1 ≤ m ∧ m ≤ 12 := mem_nums.1 (List.mem_filter.1 h).1
theorem rcount (b : Nat) (σ : Store) (t : Tr) (ht : t.Ok) (n : Int) (c : Cnt) (h : σ b = some (.cells (rlC t n c))) (hn : 0 < n) (m : Int) : HQuiet Try.prog 27 [.ptr b 0, I64 m] σ (if m ∈ t.next n then .tup [U64 (c (m - 1).toNat).1, U64 (c (m - 1).toNat).2] else .tup [U64 0, U64 0]) := by
  refine HQuiet.of ?_; (refine HCalls.of_vc Try.func27 rfl ?_; rw [Try.ntmps27, Try.results27]; simp only [List.length_cons, List.length_nil, Nat.reduceAdd, Nat.reduceSub, List.replicate, List.cons_append, List.nil_append])
  (repeat (first | refine Stp.s ?_ | refine inBlock_exit' (by decide) ?_ | ((first | refine vc_region fun K KP hK hKP => ?_ | refine Stg.s ?_ | refine guardD_ret0 ?_ | refine exV_intro _ rfl ?_); (try simp only [go_sem, loadL_a]); try ((first | refine hK _ _ ?_ | refine hKP _ _ _ ?_ | refine hKP _ _ (fun _ => ?_)); clear hK hKP K KP))))
  ((try simp only [go_sem, loadL_a]); refine callV_quiet en102 (rnextm b σ t ht n c h hn) ?_)
  ((try simp only [go_sem, loadL_a]); (try ((first | refine hK _ _ ?_ | refine hKP _ _ _ ?_ | refine hKP _ _ (fun _ => ?_)); clear hK hKP K KP)); repeat (first | refine Stp.s ?_ | refine inBlock_exit' (by decide) ?_ | ((first | refine vc_region fun K KP hK hKP => ?_ | refine Stg.s ?_ | refine guardD_ret0 ?_ | refine exV_intro _ rfl ?_); (try simp only [go_sem, loadL_a]); try ((first | refine hK _ _ ?_ | refine hKP _ _ _ ?_ | refine hKP _ _ (fun _ => ?_)); clear hK hKP K KP))))
  ((try simp only [go_sem, loadL_a]); first | refine callV_pure (contains_int (t.next n) m (by have := next_len t n; omega)) ?_ | refine guardC_q0 (fun _ => callV_pure (contains_int (t.next n) m (by have := next_len t n; omega)) ⟨rfl, rfl⟩) ?_)
  rw [any_mem]
  ((try simp only [go_sem, loadL_a]); (try ((first | refine hK _ _ ?_ | refine hKP _ _ _ ?_ | refine hKP _ _ (fun _ => ?_)); clear hK hKP K KP)); repeat (first | refine Stp.s ?_ | refine inBlock_exit' (by decide) ?_ | ((first | refine vc_region fun K KP hK hKP => ?_ | refine Stg.s ?_ | refine guardD_ret0 ?_ | refine exV_intro _ rfl ?_); (try simp only [go_sem, loadL_a]); try ((first | refine hK _ _ ?_ | refine hKP _ _ _ ?_ | refine hKP _ _ (fun _ => ?_)); clear hK hKP K KP))))
  refine vc_cond rfl (fun hc => ?_) (fun hc => ?_)
  · (repeat (first | refine Stp.s ?_ | refine inBlock_exit' (by decide) ?_ | ((first | refine vc_region fun K KP hK hKP => ?_ | refine Stg.s ?_ | refine guardD_ret0 ?_ | refine exV_intro _ rfl ?_); (try simp only [go_sem, loadL_a]); try ((first | refine hK _ _ ?_ | refine hKP _ _ _ ?_ | refine hKP _ _ (fun _ => ?_)); clear hK hKP K KP))))
    (simp only [postV, resV, oneOf, List.getD_cons_succ, List.getD_cons_zero, and_true, true_and])
    exact Ends.le (by rw [if_neg (by simpa using hc)]; rfl) (Store.le_refl _)
  · have hm : m ∈ t.next n := by simpa using hc
    have hb := next_bnd hm
    have hw : IntKind.i64.wrap (m - 1) = m - 1 := i64_in (by omega) (by omega)
    have g0 := eq_true (show (0 : Int) ≤ m - 1 by omega)
    have g1 := eq_true (show m - 1 < ((12 : Nat) : Int) by omega)
    have hi : (m - 1).toNat < 12 := by omega
    have hc1 := cell_load (c (m - 1).toNat) (rlC t n c) (14 + (m - 1).toNat * 2) (rlC_came ht _ hi) (rlC_went ht _ hi)
    (repeat (first | refine Stp.s ?_ | refine inBlock_exit' (by decide) ?_ | ((first | refine vc_region fun K KP hK hKP => ?_ | refine Stg.s ?_ | refine guardD_ret0 ?_ | refine exV_intro _ rfl ?_); (try simp only [go_sem, h, hw, g0, g1, hc1]); try ((first | refine hK _ _ ?_ | refine hKP _ _ _ ?_ | refine hKP _ _ (fun _ => ?_)); clear hK hKP K KP))))
    intro b6 hb6
    have h6 := Store.set_same σ b6
    have hle6 := fun k => Store.le_set (k := k) hb6 (Store.le_refl σ)
    ((try simp only [go_sem, loadL_a]); refine hK _ _ ?_; clear hK hKP K KP; repeat (first | refine Stp.s ?_ | refine inBlock_exit' (by decide) ?_ | ((first | refine vc_region fun K KP hK hKP => ?_ | refine Stg.s ?_ | refine guardD_ret0 ?_ | refine exV_intro _ rfl ?_); (try simp only [go_sem, loadL_a]); try ((first | refine hK _ _ ?_ | refine hKP _ _ _ ?_ | refine hKP _ _ (fun _ => ?_)); clear hK hKP K KP))))
    ((repeat first | refine Stp.s ?_ | refine inBlock_exit' (by decide) ?_); refine vc_draw mixed [ ] [0, 1, 2, 3, 4, 5 ] [ 1, 3 ] [] (fun _ => True) (by kernel_rfl) (by kernel_rfl) (by kernel_rfl) trivial fun K KP hK hKP => ?_; simp only [go_sem, loadL_a, h6]; try (refine hK _ _ ?_; clear hK hKP K KP))
    ((try simp only [go_sem, loadL_a, h6]); (try ((first | refine hK _ _ ?_ | refine hKP _ _ _ ?_ | refine hKP _ _ (fun _ => ?_)); clear hK hKP K KP)); repeat (first | refine Stp.s ?_ | refine inBlock_exit' (by decide) ?_ | ((first | refine vc_region fun K KP hK hKP => ?_ | refine Stg.s ?_ | refine guardD_ret0 ?_ | refine exV_intro _ rfl ?_); (try simp only [go_sem, loadL_a, h6]); try ((first | refine hK _ _ ?_ | refine hKP _ _ _ ?_ | refine hKP _ _ (fun _ => ?_)); clear hK hKP K KP))))
    (simp only [postV, resV, oneOf, List.getD_cons_succ, List.getD_cons_zero, and_true, true_and])
    exact Ends.le (by rw [if_pos hm]) (hle6 _)

theorem rl_build (t : Tr) (ht : t.Ok) (n : Int) (z : List V) (hz : z.length = 38) (hz2 : z.drop 14 = rlT Cnt0) : setL (setL z 0 (t.kinds.map I64 ++ [t.es])) 13 [I64 n] = rlC t n Cnt0 := by
  have h1 := setL_append [] (t.kinds.map I64 ++ [t.es]) z (by rw [rlA_len ht, hz]; decide)
  simp only [List.nil_append, List.length_nil, rlA_len ht] at h1
  rw [h1]
  have h2 := setL_append (t.kinds.map I64 ++ [t.es]) [I64 n] (z.drop 13) (by rw [List.length_drop, hz]; simp)
  rw [rlA_len ht] at h2
  rw [h2, List.length_cons, List.length_nil, List.drop_drop, hz2]
  unfold rlC
  simp
def relNew (t : Tr) (n : Int) (σ : Store) : Res → Store → Prop :=
  if t.right = true then (if n ∈ t.nodes 3 then EndsNew (fun b => .tup [.ptr b 0, I64 0]) (.cells (rlC t n Cnt0)) σ else Ends (.tup [nilP, I64 11]) σ) else Ends (.tup [nilP, I64 3]) σ
theorem rnew (t : Tr) (ht : t.Ok) (n : Int) (σ : Store) : HCalls Try.prog 24 [t.v, I64 n] σ (relNew t n σ) := by
  (refine HCalls.of_vc Try.func24 rfl ?_; rw [Try.ntmps24, Try.results24]; simp only [List.length_cons, List.length_nil, Nat.reduceAdd, Nat.reduceSub, List.replicate, List.cons_append, List.nil_append])
  (repeat (first | refine Stp.s ?_ | refine inBlock_exit' (by decide) ?_ | ((first | refine vc_region fun K KP hK hKP => ?_ | refine Stg.s ?_ | refine guardD_ret0 ?_ | refine exV_intro _ rfl ?_); (try simp only [go_sem, loadL_a]); try ((first | refine hK _ _ ?_ | refine hKP _ _ _ ?_ | refine hKP _ _ (fun _ => ?_)); clear hK hKP K KP))))
  intro b2 hb2
  have hle2 : σ.le (σ.set b2 (.cells (t.kinds.map I64 ++ [t.es]))) := Store.le_set hb2 (Store.le_refl _)
  have h2 : (σ.set b2 (.cells (t.kinds.map I64 ++ [t.es]))) b2 = some (.cells (t.kinds.map I64 ++ [t.es])) := Store.set_same _ _ _
  generalize σ.set b2 _ = σ1 at *
  ((try simp only [go_sem, treeLoad t ht, h2]); refine hK _ _ ?_; clear hK hKP K KP; repeat (first | refine Stp.s ?_ | refine inBlock_exit' (by decide) ?_ | ((first | refine vc_region fun K KP hK hKP => ?_ | refine Stg.s ?_ | refine guardD_ret0 ?_ | refine exV_intro _ rfl ?_); (try simp only [go_sem, treeLoad t ht, h2]); try ((first | refine hK _ _ ?_ | refine hKP _ _ _ ?_ | refine hKP _ _ (fun _ => ?_)); clear hK hKP K KP))))
  ((try simp only [go_sem, loadL_a]); first | refine callV_pure (right_pure t ht) ?_ | refine guardC_q0 (fun _ => callV_pure (right_pure t ht) ⟨rfl, rfl⟩) ?_)
  ((try simp only [go_sem, treeLoad t ht, h2]); (try ((first | refine hK _ _ ?_ | refine hKP _ _ _ ?_ | refine hKP _ _ (fun _ => ?_)); clear hK hKP K KP)); repeat (first | refine Stp.s ?_ | refine inBlock_exit' (by decide) ?_ | ((first | refine vc_region fun K KP hK hKP => ?_ | refine Stg.s ?_ | refine guardD_ret0 ?_ | refine exV_intro _ rfl ?_); (try simp only [go_sem, treeLoad t ht, h2]); try ((first | refine hK _ _ ?_ | refine hKP _ _ _ ?_ | refine hKP _ _ (fun _ => ?_)); clear hK hKP K KP))))
  refine vc_cond rfl (fun hr => ?_) (fun hr => ?_)
  · have hr : ¬t.right = true := by simpa using hr
    (repeat (first | refine Stp.s ?_ | refine inBlock_exit' (by decide) ?_ | ((first | refine vc_region fun K KP hK hKP => ?_ | refine Stg.s ?_ | refine guardD_ret0 ?_ | refine exV_intro _ rfl ?_); (try simp only [go_sem, loadL_a]); try ((first | refine hK _ _ ?_ | refine hKP _ _ _ ?_ | refine hKP _ _ (fun _ => ?_)); clear hK hKP K KP))))
    (simp only [postV, resV, oneOf, List.getD_cons_succ, List.getD_cons_zero, and_true, true_and])
    unfold relNew
    rw [if_neg hr]
    exact Ends.le rfl hle2
  · have hr : t.right = true := by simpa using hr
    (repeat (first | refine Stp.s ?_ | refine inBlock_exit' (by decide) ?_ | ((first | refine vc_region fun K KP hK hKP => ?_ | refine Stg.s ?_ | refine guardD_ret0 ?_ | refine exV_intro _ rfl ?_); (try simp only [go_sem, treeLoad t ht, h2]); try ((first | refine hK _ _ ?_ | refine hKP _ _ _ ?_ | refine hKP _ _ (fun _ => ?_)); clear hK hKP K KP))))
    ((try simp only [go_sem, loadL_a]); first | refine callV_pure (nodes_pure t ht 3) ?_ | refine guardC_q0 (fun _ => callV_pure (nodes_pure t ht 3) ⟨rfl, rfl⟩) ?_)
    ((try simp only [go_sem, loadL_a, List.length_map]); (try ((first | refine hK _ _ ?_ | refine hKP _ _ _ ?_ | refine hKP _ _ (fun _ => ?_)); clear hK hKP K KP)); repeat (first | refine Stp.s ?_ | refine inBlock_exit' (by decide) ?_ | ((first | refine vc_region fun K KP hK hKP => ?_ | refine Stg.s ?_ | refine guardD_ret0 ?_ | refine exV_intro _ rfl ?_); (try simp only [go_sem, loadL_a, List.length_map]); try ((first | refine hK _ _ ?_ | refine hKP _ _ _ ?_ | refine hKP _ _ (fun _ => ?_)); clear hK hKP K KP))))
    have hnl := nodes_len t 3
    have hel := ht.e
    have h12 : (t.kinds.map I64 ++ [t.es])[12]? = some (.lst 2 (t.edges.map edgeV)) := treeEs t ht
    have st : (t.kinds.map I64 ++ [t.es]).set 12 (.lst 2 (t.edges.map edgeV)) = t.kinds.map I64 ++ [t.es] := by
      rw [List.set_append_right _ _ (by simp [ht.k])]; simp [ht.k, Tr.es]
    refine vc_loop (loopV (fun (i : Nat) => [t.v, I64 n, .ptr b2 0, .top, nilP, I64 0, .top, .top, .top, .top, .top, .top, ints (t.nodes 3), I64 (t.nodes 3).length, I64 i, .top, .top, .top, .top, .top, .top, .top, .top, .top, .top, .top, .top, .top, .top, .top]) (fun i τ => i ≤ (t.nodes 3).length ∧ τ = σ1 ∧ n ∉ (t.nodes 3).take i) (fun i _ => (t.nodes 3).length - i) 0 (by repeat (first | exact LeEnv.nil | refine LeEnv.same ?_ | refine LeEnv.top ?_)) ⟨Nat.zero_le _, rfl, by simp⟩ ?_)
    rintro i τ ⟨hi, rfl, hno⟩
    (repeat (first | refine Stp.s ?_ | refine inBlock_exit' (by decide) ?_ | ((first | refine vc_region fun K KP hK hKP => ?_ | refine Stg.s ?_ | refine guardD_ret0 ?_ | refine exV_intro _ rfl ?_); (try simp only [go_sem, loadL_a]); try ((first | refine hK _ _ ?_ | refine hKP _ _ _ ?_ | refine hKP _ _ (fun _ => ?_)); clear hK hKP K KP))))
    refine vc_cond rfl (fun hc => ?_) (fun hc => ?_)
    · have hlt : i < (t.nodes 3).length := by simpa using hc
      have g0 := le_eq (show (0 : Int) ≤ i by omega)
      have g1 := lt_eq (show (i : Int) < (t.nodes 3).length by omega)
      have hx : ((t.nodes 3).map I64).getD i .top = I64 (t.nodes 3)[i] := getD_map I64 _ i hlt
      have htk := List.take_succ_eq_append_getElem hlt
      have hmem := List.getElem_mem hlt
      generalize (t.nodes 3)[i] = x at *
      (repeat (first | refine Stp.s ?_ | refine inBlock_exit' (by decide) ?_ | ((first | refine vc_region fun K KP hK hKP => ?_ | refine Stg.s ?_ | refine guardD_ret0 ?_ | refine exV_intro _ rfl ?_); (try simp only [go_sem, loadL_a, g0, g1, hx, Int.toNat_natCast, List.length_map]); try ((first | refine hK _ _ ?_ | refine hKP _ _ _ ?_ | refine hKP _ _ (fun _ => ?_)); clear hK hKP K KP))))
      refine vc_cond rfl (fun he => ?_) (fun he => ?_)
      · have he : x = n := by simpa using he
        subst he
        (repeat (first | refine Stp.s ?_ | refine inBlock_exit' (by decide) ?_ | ((first | refine vc_region fun K KP hK hKP => ?_ | refine Stg.s ?_ | refine guardD_ret0 ?_ | refine exV_intro _ rfl ?_); (try simp only [go_sem, h2, h12]); try ((first | refine hK _ _ ?_ | refine hKP _ _ _ ?_ | refine hKP _ _ (fun _ => ?_)); clear hK hKP K KP))))
        ((try simp only [go_sem, loadL_a]); first | refine callV_pure (clone_edges (t.edges.map edgeV) (by rw [List.length_map]; omega) (fun y hy => by obtain ⟨e, _, rfl⟩ := List.mem_map.1 hy; rfl) (fun y hy c hc => by obtain ⟨e, _, rfl⟩ := List.mem_map.1 hy; unfold edgeV V.cells at hc; simp at hc; rcases hc with rfl | rfl <;> rfl)) ?_ | refine guardC_q0 (fun _ => callV_pure (clone_edges (t.edges.map edgeV) (by rw [List.length_map]; omega) (fun y hy => by obtain ⟨e, _, rfl⟩ := List.mem_map.1 hy; rfl) (fun y hy c hc => by obtain ⟨e, _, rfl⟩ := List.mem_map.1 hy; unfold edgeV V.cells at hc; simp at hc; rcases hc with rfl | rfl <;> rfl)) ⟨rfl, rfl⟩) ?_)
        have tk13 : List.take 13 (t.kinds.map I64 ++ [t.es]) = t.kinds.map I64 ++ [t.es] := List.take_of_length_le (by rw [rlA_len ht]; exact Nat.le_refl _)
        have len1 : (setL [V.val (Value.int IntKind.i64 0), V.val (Value.int IntKind.i64 0), V.val (Value.int IntKind.i64 0), V.val (Value.int IntKind.i64 0), V.val (Value.int IntKind.i64 0), V.val (Value.int IntKind.i64 0), V.val (Value.int IntKind.i64 0), V.val (Value.int IntKind.i64 0), V.val (Value.int IntKind.i64 0), V.val (Value.int IntKind.i64 0), V.val (Value.int IntKind.i64 0), V.val (Value.int IntKind.i64 0), V.val (Value.slice none 0 0), V.val (Value.int IntKind.i64 0), V.val (Value.int IntKind.u64 0), V.val (Value.int IntKind.u64 0), V.val (Value.int IntKind.u64 0), V.val (Value.int IntKind.u64 0), V.val (Value.int IntKind.u64 0), V.val (Value.int IntKind.u64 0), V.val (Value.int IntKind.u64 0), V.val (Value.int IntKind.u64 0), V.val (Value.int IntKind.u64 0), V.val (Value.int IntKind.u64 0), V.val (Value.int IntKind.u64 0), V.val (Value.int IntKind.u64 0), V.val (Value.int IntKind.u64 0), V.val (Value.int IntKind.u64 0), V.val (Value.int IntKind.u64 0), V.val (Value.int IntKind.u64 0), V.val (Value.int IntKind.u64 0), V.val (Value.int IntKind.u64 0), V.val (Value.int IntKind.u64 0), V.val (Value.int IntKind.u64 0), V.val (Value.int IntKind.u64 0), V.val (Value.int IntKind.u64 0), V.val (Value.int IntKind.u64 0), V.val (Value.int IntKind.u64 0)] 0 (t.kinds.map I64 ++ [t.es])).length = 38 := by rw [setL_length]; rfl
        have hbd : (setL [V.val (Value.int IntKind.i64 0), V.val (Value.int IntKind.i64 0), V.val (Value.int IntKind.i64 0), V.val (Value.int IntKind.i64 0), V.val (Value.int IntKind.i64 0), V.val (Value.int IntKind.i64 0), V.val (Value.int IntKind.i64 0), V.val (Value.int IntKind.i64 0), V.val (Value.int IntKind.i64 0), V.val (Value.int IntKind.i64 0), V.val (Value.int IntKind.i64 0), V.val (Value.int IntKind.i64 0), V.val (Value.slice none 0 0), V.val (Value.int IntKind.i64 0), V.val (Value.int IntKind.u64 0), V.val (Value.int IntKind.u64 0), V.val (Value.int IntKind.u64 0), V.val (Value.int IntKind.u64 0), V.val (Value.int IntKind.u64 0), V.val (Value.int IntKind.u64 0), V.val (Value.int IntKind.u64 0), V.val (Value.int IntKind.u64 0), V.val (Value.int IntKind.u64 0), V.val (Value.int IntKind.u64 0), V.val (Value.int IntKind.u64 0), V.val (Value.int IntKind.u64 0), V.val (Value.int IntKind.u64 0), V.val (Value.int IntKind.u64 0), V.val (Value.int IntKind.u64 0), V.val (Value.int IntKind.u64 0), V.val (Value.int IntKind.u64 0), V.val (Value.int IntKind.u64 0), V.val (Value.int IntKind.u64 0), V.val (Value.int IntKind.u64 0), V.val (Value.int IntKind.u64 0), V.val (Value.int IntKind.u64 0), V.val (Value.int IntKind.u64 0), V.val (Value.int IntKind.u64 0)] 0 (t.kinds.map I64 ++ [t.es])).set 13 (I64 x) = rlC t x Cnt0 := rl_build t ht x [V.val (Value.int IntKind.i64 0), V.val (Value.int IntKind.i64 0), V.val (Value.int IntKind.i64 0), V.val (Value.int IntKind.i64 0), V.val (Value.int IntKind.i64 0), V.val (Value.int IntKind.i64 0), V.val (Value.int IntKind.i64 0), V.val (Value.int IntKind.i64 0), V.val (Value.int IntKind.i64 0), V.val (Value.int IntKind.i64 0), V.val (Value.int IntKind.i64 0), V.val (Value.int IntKind.i64 0), V.val (Value.slice none 0 0), V.val (Value.int IntKind.i64 0), V.val (Value.int IntKind.u64 0), V.val (Value.int IntKind.u64 0), V.val (Value.int IntKind.u64 0), V.val (Value.int IntKind.u64 0), V.val (Value.int IntKind.u64 0), V.val (Value.int IntKind.u64 0), V.val (Value.int IntKind.u64 0), V.val (Value.int IntKind.u64 0), V.val (Value.int IntKind.u64 0), V.val (Value.int IntKind.u64 0), V.val (Value.int IntKind.u64 0), V.val (Value.int IntKind.u64 0), V.val (Value.int IntKind.u64 0), V.val (Value.int IntKind.u64 0), V.val (Value.int IntKind.u64 0), V.val (Value.int IntKind.u64 0), V.val (Value.int IntKind.u64 0), V.val (Value.int IntKind.u64 0), V.val (Value.int IntKind.u64 0), V.val (Value.int IntKind.u64 0), V.val (Value.int IntKind.u64 0), V.val (Value.int IntKind.u64 0), V.val (Value.int IntKind.u64 0), V.val (Value.int IntKind.u64 0)] rfl rfl
        have hone : ∀ c ∈ rlC t x Cnt0, c.one = true := fun c hc => by
          unfold rlC at hc
          rcases List.mem_append.1 hc with h | h
          · rcases List.mem_append.1 h with h | h
            · obtain ⟨k, _, rfl⟩ := List.mem_map.1 h; rfl
            · simp at h; subst h; rfl
          · rcases List.mem_cons.1 h with rfl | h
            · rfl
            · unfold rlT at h; obtain ⟨k, _, rfl⟩ := List.mem_map.1 h; rfl
        ((try simp only [go_sem, loadL_a, h2, st, rlA_len ht, tk13, len1, hbd, Store.set_id h2]); (try ((first | refine hK _ _ ?_ | refine hKP _ _ _ ?_ | refine hKP _ _ (fun _ => ?_)); clear hK hKP K KP)); repeat (first | refine Stp.s ?_ | refine inBlock_exit' (by decide) ?_ | ((first | refine vc_region fun K KP hK hKP => ?_ | refine Stg.s ?_ | refine guardD_ret0 ?_ | refine exV_intro _ rfl ?_); (try simp only [go_sem, loadL_a, h2, st, rlA_len ht, tk13, len1, hbd, Store.set_id h2]); try ((first | refine hK _ _ ?_ | refine hKP _ _ _ ?_ | refine hKP _ _ (fun _ => ?_)); clear hK hKP K KP))))
        intro b5 hb5
        ((try simp only [go_sem, loadL_a]); refine hK _ _ ?_; clear hK hKP K KP; repeat (first | refine Stp.s ?_ | refine inBlock_exit' (by decide) ?_ | ((first | refine vc_region fun K KP hK hKP => ?_ | refine Stg.s ?_ | refine guardD_ret0 ?_ | refine exV_intro _ rfl ?_); (try simp only [go_sem, loadL_a]); try ((first | refine hK _ _ ?_ | refine hKP _ _ _ ?_ | refine hKP _ _ (fun _ => ?_)); clear hK hKP K KP))))
        (simp only [postV, resV, oneOf, List.getD_cons_succ, List.getD_cons_zero, and_true, true_and])
        unfold relNew
        rw [if_pos hr, if_pos hmem]
        exact ⟨b5, _, Store.none_of_le hle2 hb5, rfl, Weakens.le (Store.le_set_both hle2)⟩
      · (repeat (first | refine Stp.s ?_ | refine inBlock_exit' (by decide) ?_ | ((first | refine vc_region fun K KP hK hKP => ?_ | refine Stg.s ?_ | refine guardD_ret0 ?_ | refine exV_intro _ rfl ?_); (try simp only [go_sem, loadL_a, i64_nsucc (show i < 1000000 by omega)]); try ((first | refine hK _ _ ?_ | refine hKP _ _ _ ?_ | refine hKP _ _ (fun _ => ?_)); clear hK hKP K KP))))
        refine ⟨i + 1, _, (by repeat (first | exact LeEnv.nil | refine LeEnv.same ?_ | refine LeEnv.top ?_)), Store.le_refl _, ⟨hlt, rfl, ?_⟩, by omega⟩
        rw [htk, List.mem_append]
        have he : x ≠ n := by simpa using he
        rintro (q | q)
        · exact hno q
        · simp at q; exact he q.symm
    · have hii : i = (t.nodes 3).length := by simp at hc; omega
      subst hii
      rw [List.take_length] at hno
      (repeat (first | refine Stp.s ?_ | refine inBlock_exit' (by decide) ?_ | ((first | refine vc_region fun K KP hK hKP => ?_ | refine Stg.s ?_ | refine guardD_ret0 ?_ | refine exV_intro _ rfl ?_); (try simp only [go_sem, loadL_a]); try ((first | refine hK _ _ ?_ | refine hKP _ _ _ ?_ | refine hKP _ _ (fun _ => ?_)); clear hK hKP K KP))))
      (simp only [postV, resV, oneOf, List.getD_cons_succ, List.getD_cons_zero, and_true, true_and])
      unfold relNew
      rw [if_pos hr, if_neg hno]
      exact Ends.le rfl hle2
end Go.Proofs.Ytbgagffpmdlilaa
