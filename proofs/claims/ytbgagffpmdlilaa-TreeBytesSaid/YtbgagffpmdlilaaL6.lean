/- truglaw18.TreeBytes returns true for every input and leaves its arguments as they were: no condition. -/
import Derived.Test.YtbgagffpmdlilaaLb
import Derived.Test.YtbgagffpmdlilaaR10
namespace Go.Proofs.Ytbgagffpmdlilaa
set_option linter.unusedSimpArgs false
set_option linter.unusedVariables false
open Go.Proofs Go.ChangeShapes Go.WideShapes Go.ChangeAt Go.RowKit
attribute [local irreducible] vc vcOps vcDraw vcK vcKP vcDK vcDB HWp HCalls postV Ex.then Ex.inBlock stepD callV appendV guardC guardD exV effV opV loadV storeV indexAddrV indexV sliceV
set_option maxRecDepth 100000
set_option maxHeartbeats 4000000


theorem decF_err : ∀ (bs : List UInt8) (f : Bool) (n : Nat) (e : Int) (r : List UInt8), decF f n bs = .error (e, r) → e ≠ 0
  | [], f, n, e, r, h => by cases h; decide
  | c :: bs, f, n, e, r, h => by
    unfold decF at h
    split at h
    · cases h; decide
    · split at h
      · cases h; decide
      · split at h
        · cases h
        · exact decF_err bs _ _ e r h
theorem pSm_err {m : Nat} {bs : List UInt8} {e : Int} {r : List UInt8} (h : pSm m bs = .error (e, r)) : e ≠ 0 := by
  unfold pSm at h
  split at h
  · split at h
    · cases h
    · cases h; decide
  · rename_i hq; cases h; exact decF_err _ _ _ _ _ hq
theorem pE_err : ∀ (n : Nat) (ks : List Nat) (es : List (Nat × Nat)) (cs : List UInt8) (e : Int) (r : List UInt8), pE n ks es cs = .error (e, r) → e ≠ 0
  | 0, ks, es, cs, e, r, h => by
    unfold pE at h
    split at h
    · cases h
    · cases h; decide
  | n + 1, ks, es, cs, e, r, h => by
    rw [pE_succ] at h
    split at h
    · rename_i hq; cases h; exact pSm_err hq
    · split at h
      · rename_i hq; cases h; exact pSm_err hq
      · exact pE_err n _ _ _ e r h
theorem pK_err : ∀ (n : Nat) (ks : List Nat) (cs : List UInt8) (e : Int) (r : List UInt8), pK n ks cs = .error (e, r) → e ≠ 0
  | 0, ks, cs, e, r, h => by
    unfold pK at h
    split at h
    · rename_i hq; cases h; exact pSm_err hq
    · exact pE_err _ _ _ _ e r h
  | n + 1, ks, cs, e, r, h => by
    rw [pK_succ] at h
    split at h
    · rename_i hq; cases h; exact pSm_err hq
    · exact pK_err n _ _ e r h
theorem cap_tb1 (υ : Store) (br bt : Nat) (bs : List UInt8) (old : List V) (h0 : old.length = 13) (hl : bs.length ≤ 1000000000) (hb : υ br = some (rdr bs)) (ht : υ bt = some (.cells old)) (hn : bt ≠ br) : HCalls Try.prog 18 [.ptr br 0, .ptr bt 0] υ fun r σ' => match pK 12 [] bs with
    | .ok (t, rest) => r = .ret unitV ∧ σ' = (υ.set br (rdr rest)).set bt (.cells t.v.cells)
    | .error (e, rest) => r = .pan (flt e) ∧ σ' = υ.set br (rdr rest) := by
  (refine HCalls.of_vc Try.func18 rfl ?_; rw [Try.ntmps18, Try.results18]; simp only [List.length_cons, List.length_nil, Nat.reduceAdd, Nat.reduceSub, List.replicate, List.cons_append, List.nil_append])
  (repeat (first | refine Stp.s ?_ | refine inBlock_exit' (by decide) ?_ | ((first | refine vc_region fun K KP hK hKP => ?_ | refine Stg.s ?_ | refine guardD_ret0 ?_ | refine exV_intro _ rfl ?_); (try simp only [go_sem, loadL_a]); try ((first | refine hK _ _ ?_ | refine hKP _ _ _ ?_ | refine hKP _ _ (fun _ => ?_)); clear hK hKP K KP))))
  refine callV_get hb hl (fun t rest hp => ?_) (fun e rest hp => ?_)
  · have ho := (tree_read hp).1
    have h13 : (t.kinds.map I64 ++ [t.es]).length = 13 := by simp [ho.k]
    simp only [go_sem, loadL_a, Store.set_other, hn, ht, ne_eq, not_false_eq_true]
    refine ⟨h13, fun c hc => ?_, by rw [h13]; exact Nat.le_of_eq h0.symm, ?_⟩
    · rcases List.mem_append.1 hc with hc | hc
      · obtain ⟨n, _, rfl⟩ := List.mem_map.1 hc; rfl
      · rw [List.mem_singleton.1 hc]; rfl
    · have hs := setL_append [] (t.kinds.map I64 ++ [t.es]) old (by rw [h13, h0]; exact Nat.le_refl 13)
      rw [List.drop_eq_nil_of_le (by rw [h13, h0]; exact Nat.le_refl 13)] at hs
      simp only [List.nil_append, List.length_nil, List.append_nil] at hs
      ((try simp only [go_sem, loadL_a, hs]); (try ((first | refine hK _ _ ?_ | refine hKP _ _ _ ?_ | refine hKP _ _ (fun _ => ?_)); clear hK hKP K KP)); repeat (first | refine Stp.s ?_ | refine inBlock_exit' (by decide) ?_ | ((first | refine vc_region fun K KP hK hKP => ?_ | refine Stg.s ?_ | refine guardD_ret0 ?_ | refine exV_intro _ rfl ?_); (try simp only [go_sem, loadL_a, hs]); try ((first | refine hK _ _ ?_ | refine hKP _ _ _ ?_ | refine hKP _ _ (fun _ => ?_)); clear hK hKP K KP))))
      (simp only [postV, resV, oneOf, List.getD_cons_succ, List.getD_cons_zero, and_true, true_and])
      rw [hp]
      exact rfl
  · ((try simp only [go_sem, loadL_a]); (try ((first | refine hK _ _ ?_ | refine hKP _ _ _ ?_ | refine hKP _ _ (fun _ => ?_)); clear hK hKP K KP)); repeat (first | refine Stp.s ?_ | refine inBlock_exit' (by decide) ?_ | ((first | refine vc_region fun K KP hK hKP => ?_ | refine Stg.s ?_ | refine guardD_ret0 ?_ | refine exV_intro _ rfl ?_); (try simp only [go_sem, loadL_a]); try ((first | refine hK _ _ ?_ | refine hKP _ _ _ ?_ | refine hKP _ _ (fun _ => ?_)); clear hK hKP K KP))))
    (simp only [postV, resV, oneOf, List.getD_cons_succ, List.getD_cons_zero, and_true, true_and])
    rw [hp]
    exact ⟨rfl, rfl⟩

theorem cap_tb2 (υ : Store) (br bt : Nat) (bs : List UInt8) (old : List V) (h0 : old.length = 13) (hl : bs.length ≤ 1000000000) (hb : υ br = some (rdr bs)) (ht : υ bt = some (.cells old)) (hn : bt ≠ br) : HCalls Try.prog 21 [.ptr br 0, .ptr bt 0] υ fun r σ' => match pK 12 [] bs with
    | .ok (t, rest) => r = .ret unitV ∧ σ' = (υ.set br (rdr rest)).set bt (.cells t.v.cells)
    | .error (e, rest) => r = .pan (flt e) ∧ σ' = υ.set br (rdr rest) := by
  (refine HCalls.of_vc Try.func21 rfl ?_; rw [Try.ntmps21, Try.results21]; simp only [List.length_cons, List.length_nil, Nat.reduceAdd, Nat.reduceSub, List.replicate, List.cons_append, List.nil_append])
  (repeat (first | refine Stp.s ?_ | refine inBlock_exit' (by decide) ?_ | ((first | refine vc_region fun K KP hK hKP => ?_ | refine Stg.s ?_ | refine guardD_ret0 ?_ | refine exV_intro _ rfl ?_); (try simp only [go_sem, loadL_a]); try ((first | refine hK _ _ ?_ | refine hKP _ _ _ ?_ | refine hKP _ _ (fun _ => ?_)); clear hK hKP K KP))))
  refine callV_get hb hl (fun t rest hp => ?_) (fun e rest hp => ?_)
  · have ho := (tree_read hp).1
    have h13 : (t.kinds.map I64 ++ [t.es]).length = 13 := by simp [ho.k]
    simp only [go_sem, loadL_a, Store.set_other, hn, ht, ne_eq, not_false_eq_true]
    refine ⟨h13, fun c hc => ?_, by rw [h13]; exact Nat.le_of_eq h0.symm, ?_⟩
    · rcases List.mem_append.1 hc with hc | hc
      · obtain ⟨n, _, rfl⟩ := List.mem_map.1 hc; rfl
      · rw [List.mem_singleton.1 hc]; rfl
    · have hs := setL_append [] (t.kinds.map I64 ++ [t.es]) old (by rw [h13, h0]; exact Nat.le_refl 13)
      rw [List.drop_eq_nil_of_le (by rw [h13, h0]; exact Nat.le_refl 13)] at hs
      simp only [List.nil_append, List.length_nil, List.append_nil] at hs
      ((try simp only [go_sem, loadL_a, hs]); (try ((first | refine hK _ _ ?_ | refine hKP _ _ _ ?_ | refine hKP _ _ (fun _ => ?_)); clear hK hKP K KP)); repeat (first | refine Stp.s ?_ | refine inBlock_exit' (by decide) ?_ | ((first | refine vc_region fun K KP hK hKP => ?_ | refine Stg.s ?_ | refine guardD_ret0 ?_ | refine exV_intro _ rfl ?_); (try simp only [go_sem, loadL_a, hs]); try ((first | refine hK _ _ ?_ | refine hKP _ _ _ ?_ | refine hKP _ _ (fun _ => ?_)); clear hK hKP K KP))))
      (simp only [postV, resV, oneOf, List.getD_cons_succ, List.getD_cons_zero, and_true, true_and])
      rw [hp]
      exact rfl
  · ((try simp only [go_sem, loadL_a]); (try ((first | refine hK _ _ ?_ | refine hKP _ _ _ ?_ | refine hKP _ _ (fun _ => ?_)); clear hK hKP K KP)); repeat (first | refine Stp.s ?_ | refine inBlock_exit' (by decide) ?_ | ((first | refine vc_region fun K KP hK hKP => ?_ | refine Stg.s ?_ | refine guardD_ret0 ?_ | refine exV_intro _ rfl ?_); (try simp only [go_sem, loadL_a]); try ((first | refine hK _ _ ?_ | refine hKP _ _ _ ?_ | refine hKP _ _ (fun _ => ?_)); clear hK hKP K KP))))
    (simp only [postV, resV, oneOf, List.getD_cons_succ, List.getD_cons_zero, and_true, true_and])
    rw [hp]
    exact ⟨rfl, rfl⟩

theorem capB1 : CapTree 18 := ⟨en18, cap_tb1⟩
theorem capB2 : CapTree 21 := ⟨en21, cap_tb2⟩
theorem Tr.Low.int64 {t : Tr} (h : t.Low) : t.Int64 := ⟨fun n hn => by have := h.k n hn; omega, fun e he => by have := h.e e he; omega⟩
theorem treeB_len {t : Tr} (ht : t.Ok) (h : t.Low) : (treeB t).length ≤ 1000 := by
  have a1 := flat_len natB 11 natB_len t.kinds
  have a2 := numB_len t.edges.length
  have a3 := flat_len (fun e : Int × Int => natB e.1 ++ natB e.2) 22 (fun e => by have := natB_len e.1; have := natB_len e.2; simp only [List.length_append]; omega) t.edges
  have a4 := ht.k
  have a5 := h.n
  unfold treeB
  simp only [List.length_append]
  omega
theorem treebytes_pure (t : Tr) (ht : t.kinds.length = 12) (b : List UInt8) : HPure Try.prog 3 [t.v, .lst 1 (b.map byteV)] (BV true) := by
  (refine HPure.of en3 fun σ => ?_); (refine HCalls.of_vc Try.func3 rfl ?_; rw [Try.ntmps3, Try.results3]; simp only [List.length_cons, List.length_nil, Nat.reduceAdd, Nat.reduceSub, List.replicate, List.cons_append, List.nil_append])
  (repeat (first | refine Stp.s ?_ | refine inBlock_exit' (by decide) ?_ | ((first | refine vc_region fun K KP hK hKP => ?_ | refine Stg.s ?_ | refine guardD_ret0 ?_ | refine exV_intro _ rfl ?_); (try simp only [go_sem, loadL_a]); try ((first | refine hK _ _ ?_ | refine hKP _ _ _ ?_ | refine hKP _ _ (fun _ => ?_)); clear hK hKP K KP))))
  intro b3 hb3
  have hle3 : σ.le (σ.set b3 (.cells (t.kinds.map I64 ++ [t.es]))) := Store.le_set hb3 (Store.le_refl _)
  have h3 : (σ.set b3 (.cells (t.kinds.map I64 ++ [t.es]))) b3 = some (.cells (t.kinds.map I64 ++ [t.es])) := Store.set_same _ _ _
  generalize σ.set b3 _ = σ1 at *
  ((try simp only [go_sem, treeLoadK t ht, h3]); refine hK _ _ ?_; clear hK hKP K KP; repeat (first | refine Stp.s ?_ | refine inBlock_exit' (by decide) ?_ | ((first | refine vc_region fun K KP hK hKP => ?_ | refine Stg.s ?_ | refine guardD_ret0 ?_ | refine exV_intro _ rfl ?_); (try simp only [go_sem, treeLoadK t ht, h3]); try ((first | refine hK _ _ ?_ | refine hKP _ _ _ ?_ | refine hKP _ _ (fun _ => ?_)); clear hK hKP K KP))))
  ((try simp only [go_sem, loadL_a]); first | refine callV_pure (great_pure t ht) ?_ | refine guardC_q0 (fun _ => callV_pure (great_pure t ht) ⟨rfl, rfl⟩) ?_)
  ((try simp only [go_sem, treeLoadK t ht, h3, List.length_map]); (try ((first | refine hK _ _ ?_ | refine hKP _ _ _ ?_ | refine hKP _ _ (fun _ => ?_)); clear hK hKP K KP)); repeat (first | refine Stp.s ?_ | refine inBlock_exit' (by decide) ?_ | ((first | refine vc_region fun K KP hK hKP => ?_ | refine Stg.s ?_ | refine guardD_ret0 ?_ | refine exV_intro _ rfl ?_); (try simp only [go_sem, treeLoadK t ht, h3, List.length_map]); try ((first | refine hK _ _ ?_ | refine hKP _ _ _ ?_ | refine hKP _ _ (fun _ => ?_)); clear hK hKP K KP))))
  refine vc_cond rfl (fun hc => ?_) (fun hc => ?_)
  · (repeat (first | refine Stp.s ?_ | refine inBlock_exit' (by decide) ?_ | ((first | refine vc_region fun K KP hK hKP => ?_ | refine Stg.s ?_ | refine guardD_ret0 ?_ | refine exV_intro _ rfl ?_); (try simp only [go_sem, loadL_a]); try ((first | refine hK _ _ ?_ | refine hKP _ _ _ ?_ | refine hKP _ _ (fun _ => ?_)); clear hK hKP K KP))))
    ((try simp only [go_sem, loadL_a]); first | refine callV_pure (alive18) ?_ | refine guardC_q0 (fun _ => callV_pure (alive18) ⟨rfl, rfl⟩) ?_)
    ((try simp only [go_sem, loadL_a]); (try ((first | refine hK _ _ ?_ | refine hKP _ _ _ ?_ | refine hKP _ _ (fun _ => ?_)); clear hK hKP K KP)); repeat (first | refine Stp.s ?_ | refine inBlock_exit' (by decide) ?_ | ((first | refine vc_region fun K KP hK hKP => ?_ | refine Stg.s ?_ | refine guardD_ret0 ?_ | refine exV_intro _ rfl ?_); (try simp only [go_sem, loadL_a]); try ((first | refine hK _ _ ?_ | refine hKP _ _ _ ?_ | refine hKP _ _ (fun _ => ?_)); clear hK hKP K KP))))
    (simp only [postV, resV, oneOf, List.getD_cons_succ, List.getD_cons_zero, and_true, true_and])
    exact Ends.le rfl hle3
  · have hc0 : t.edges.length ≤ 20 ∧ b.length ≤ 200 := by simp at hc; omega
    obtain ⟨hed, hbl⟩ := hc0
    have hok : t.Ok := ⟨ht, by omega⟩
    (repeat (first | refine Stp.s ?_ | refine inBlock_exit' (by decide) ?_ | ((first | refine vc_region fun K KP hK hKP => ?_ | refine Stg.s ?_ | refine guardD_ret0 ?_ | refine exV_intro _ rfl ?_); (try simp only [go_sem, loadL_a]); try ((first | refine hK _ _ ?_ | refine hKP _ _ _ ?_ | refine hKP _ _ (fun _ => ?_)); clear hK hKP K KP))))
    intro b5 hb5
    have h35 := fun k => Store.keep (k := k) hb5 h3
    have hn5 : b3 ≠ b5 := fun e => by rw [e, hb5] at h3; cases h3
    have hle5 := fun k => Store.le_set (k := k) hb5 hle3
    have h5 := Store.set_same σ1 b5
    have hσ5 : σ b5 = none := Store.none_of_le hle3 hb5
    ((try simp only [go_sem, loadL_a]); refine hK _ _ ?_; clear hK hKP K KP; repeat (first | refine then_normal ?_ | refine inBlock_normal ?_))
    refine vc_join (fun j (_ : Unit) => [t.v, .lst 1 (b.map byteV), .ptr b3 0, j 3, BV false, .ptr b5 0, j 6, j 7, j 8, j 9, j 10, j 11, j 12, j 13, j 14, j 15, j 16, j 17, j 18, j 19, j 20, j 21, j 22, j 23, j 24, j 25, j 26, j 27, j 28, j 29, j 30, j 31, j 32, j 33, j 34, j 35, j 36, j 37, j 38, j 39, j 40, j 41, j 42, j 43, j 44, j 45, j 46, j 47, j 48, j 49, j 50, j 51, j 52, j 53, j 54, j 55, j 56, j 57, j 58, j 59, j 60, j 61]) (fun _ τ => σ.le τ ∧ τ b3 = some (.cells (t.kinds.map I64 ++ [t.es])) ∧ ∃ old, old.length = 13 ∧ τ b5 = some (.cells old)) (fun j _ τ ⟨hle, h3, old, h13, h5⟩ => ?_) (fun rest hrest => ?_)
    · (repeat (first | refine Stp.s ?_ | refine inBlock_exit' (by decide) ?_ | ((first | refine vc_region fun K KP hK hKP => ?_ | refine Stg.s ?_ | refine guardD_ret0 ?_ | refine exV_intro _ rfl ?_); (try simp only [go_sem, loadL_a]); try ((first | refine hK _ _ ?_ | refine hKP _ _ _ ?_ | refine hKP _ _ (fun _ => ?_)); clear hK hKP K KP))))
      refine callV_rdt capB2 h5 h13 (by omega) (fun u rest σ' hp hu hf => ?_) (fun e rest σ' hp hu hf => ?_)
      · have hlS : σ.le σ' := fun c l hc => hf c l (hle _ _ hc) (fun e => by rw [e, hσ5] at hc; cases hc)
        obtain ⟨huk, hur, hbs⟩ := tree_read hp
        have hul := Tr.right_low hur
        ((try simp only [go_sem, loadL_a]); (try ((first | refine hK _ _ ?_ | refine hKP _ _ _ ?_ | refine hKP _ _ (fun _ => ?_)); clear hK hKP K KP)); repeat (first | refine Stp.s ?_ | refine inBlock_exit' (by decide) ?_ | ((first | refine vc_region fun K KP hK hKP => ?_ | refine Stg.s ?_ | refine guardD_ret0 ?_ | refine exV_intro _ rfl ?_); (try simp only [go_sem, loadL_a]); try ((first | refine hK _ _ ?_ | refine hKP _ _ _ ?_ | refine hKP _ _ (fun _ => ?_)); clear hK hKP K KP))))
        ((repeat first | refine Stp.s ?_ | refine inBlock_exit' (by decide) ?_); refine vc_draw mixed [ ] [0, 1, 2, 3, 4, 5, 6, 7, 8, 9, 10, 11, 12, 13, 14, 15, 16 ] [ 5, 8 ] [] (fun _ => True) (by kernel_rfl) (by kernel_rfl) (by kernel_rfl) trivial fun K KP hK hKP => ?_; simp only [go_sem, treeLoadK u huk.k, hu]; try (refine hK _ _ ?_; clear hK hKP K KP))
        ((try simp only [go_sem, loadL_a]); first | refine exV_intro _ (callV_pure (alive18) ⟨rfl, rfl⟩) ?_ | refine exV_intro _ (fun _ => callV_pure (alive18) ⟨rfl, rfl⟩) ?_)
        ((try simp only [go_sem, treeLoadK u huk.k, hu]); (try ((first | refine hK _ _ ?_ | refine hKP _ _ _ ?_ | refine hKP _ _ (fun _ => ?_)); clear hK hKP K KP)); repeat (first | refine Stp.s ?_ | refine inBlock_exit' (by decide) ?_ | ((first | refine vc_region fun K KP hK hKP => ?_ | refine Stg.s ?_ | refine guardD_ret0 ?_ | refine exV_intro _ rfl ?_); (try simp only [go_sem, treeLoadK u huk.k, hu]); try ((first | refine hK _ _ ?_ | refine hKP _ _ _ ?_ | refine hKP _ _ (fun _ => ?_)); clear hK hKP K KP))))
        ((try simp only [go_sem, loadL_a]); first | refine guardD_q0 (fun _ => callV_pure (right_pure u huk) ⟨rfl, rfl⟩) ?_ | refine guardD_q0 (fun _ _ => callV_pure (right_pure u huk) ⟨rfl, rfl⟩) ?_)
        rw [hur]
        ((try simp only [go_sem, treeLoadK u huk.k, hu]); (try ((first | refine hK _ _ ?_ | refine hKP _ _ _ ?_ | refine hKP _ _ (fun _ => ?_)); clear hK hKP K KP)); repeat (first | refine Stp.s ?_ | refine inBlock_exit' (by decide) ?_ | ((first | refine vc_region fun K KP hK hKP => ?_ | refine Stg.s ?_ | refine guardD_ret0 ?_ | refine exV_intro _ rfl ?_); (try simp only [go_sem, treeLoadK u huk.k, hu]); try ((first | refine hK _ _ ?_ | refine hKP _ _ _ ?_ | refine hKP _ _ (fun _ => ?_)); clear hK hKP K KP))))
        ((try simp only [go_sem, loadL_a]); first | refine guardD_q0 (fun _ => callV_pure (save18 u huk hul.int64) ⟨rfl, rfl⟩) ?_ | refine guardD_q0 (fun _ _ => callV_pure (save18 u huk hul.int64) ⟨rfl, rfl⟩) ?_)
        ((try simp only [go_sem, treeLoadK u huk.k, hu]); (try ((first | refine hK _ _ ?_ | refine hKP _ _ _ ?_ | refine hKP _ _ (fun _ => ?_)); clear hK hKP K KP)); repeat (first | refine Stp.s ?_ | refine inBlock_exit' (by decide) ?_ | ((first | refine vc_region fun K KP hK hKP => ?_ | refine Stg.s ?_ | refine guardD_ret0 ?_ | refine exV_intro _ rfl ?_); (try simp only [go_sem, treeLoadK u huk.k, hu]); try ((first | refine hK _ _ ?_ | refine hKP _ _ _ ?_ | refine hKP _ _ (fun _ => ?_)); clear hK hKP K KP))))
        refine guardD_q0 (x := .val (.string ⟨b.toArray⟩)) (fun _ => ⟨b, rfl, ⟨_, rfl, Try.underlying5⟩, rfl⟩) ?_
        ((try simp only [go_sem, treeLoadK u huk.k, hu, bin_seq]); (try ((first | refine hK _ _ ?_ | refine hKP _ _ _ ?_ | refine hKP _ _ (fun _ => ?_)); clear hK hKP K KP)); repeat (first | refine Stp.s ?_ | refine inBlock_exit' (by decide) ?_ | ((first | refine vc_region fun K KP hK hKP => ?_ | refine Stg.s ?_ | refine guardD_ret0 ?_ | refine exV_intro _ rfl ?_); (try simp only [go_sem, treeLoadK u huk.k, hu, bin_seq]); try ((first | refine hK _ _ ?_ | refine hKP _ _ _ ?_ | refine hKP _ _ (fun _ => ?_)); clear hK hKP K KP))))
        refine guardD_q0 (x := BV (treeB u == b)) (fun h => ⟨h, rfl⟩) ?_
        ((try simp only [go_sem, loadL_a]); (try ((first | refine hK _ _ ?_ | refine hKP _ _ _ ?_ | refine hKP _ _ (fun _ => ?_)); clear hK hKP K KP)); repeat (first | refine Stp.s ?_ | refine inBlock_exit' (by decide) ?_ | ((first | refine vc_region fun K KP hK hKP => ?_ | refine Stg.s ?_ | refine guardD_ret0 ?_ | refine exV_intro _ rfl ?_); (try simp only [go_sem, loadL_a]); try ((first | refine hK _ _ ?_ | refine hKP _ _ _ ?_ | refine hKP _ _ (fun _ => ?_)); clear hK hKP K KP))))
        (simp only [postV, resV, oneOf, List.getD_cons_succ, List.getD_cons_zero, and_true, true_and])
        refine Ends.le (congrArg BV ?_) hlS
        cases rest with
        | nil => rw [List.append_nil] at hbs; rw [hbs]; simp
        | cons y ys => rfl
      · have hlS : σ.le σ' := fun c l hc => hf c l (hle _ _ hc) (fun e => by rw [e, hσ5] at hc; cases hc)
        have he := pK_err _ _ _ _ _ hp
        have hno : ∀ {p : Prop}, (!(e != 0)) = true → p := fun h => absurd h (by simp [he])
        ((try simp only [go_sem, loadL_a]); (try ((first | refine hK _ _ ?_ | refine hKP _ _ _ ?_ | refine hKP _ _ (fun _ => ?_)); clear hK hKP K KP)); repeat (first | refine Stp.s ?_ | refine inBlock_exit' (by decide) ?_ | ((first | refine vc_region fun K KP hK hKP => ?_ | refine Stg.s ?_ | refine guardD_ret0 ?_ | refine exV_intro _ rfl ?_); (try simp only [go_sem, loadL_a]); try ((first | refine hK _ _ ?_ | refine hKP _ _ _ ?_ | refine hKP _ _ (fun _ => ?_)); clear hK hKP K KP))))
        ((repeat first | refine Stp.s ?_ | refine inBlock_exit' (by decide) ?_); refine vc_draw mixed [ ] [0, 1, 2, 3, 4, 5, 6, 7, 8, 9, 10, 11, 12, 13, 14, 15, 16 ] [ 5, 8 ] [] (fun _ => True) (by kernel_rfl) (by kernel_rfl) (by kernel_rfl) trivial fun K KP hK hKP => ?_; simp only [go_sem]; try (refine hK _ _ ?_; clear hK hKP K KP))
        ((try simp only [go_sem, loadL_a]); first | refine exV_intro _ (callV_pure (alive18) ⟨rfl, rfl⟩) ?_ | refine exV_intro _ (fun _ => callV_pure (alive18) ⟨rfl, rfl⟩) ?_)
        ((try simp only [go_sem]); (try ((first | refine hK _ _ ?_ | refine hKP _ _ _ ?_ | refine hKP _ _ (fun _ => ?_)); clear hK hKP K KP)); repeat (first | refine Stp.s ?_ | refine inBlock_exit' (by decide) ?_ | ((first | refine vc_region fun K KP hK hKP => ?_ | refine Stg.s ?_ | refine guardD_ret0 ?_ | refine exV_intro _ rfl ?_); (try simp only [go_sem]); try ((first | refine hK _ _ ?_ | refine hKP _ _ _ ?_ | refine hKP _ _ (fun _ => ?_)); clear hK hKP K KP))))
        refine guardD_q0 (x := bare.v) (fun h => hno h) ?_
        ((try simp only [go_sem]); (try ((first | refine hK _ _ ?_ | refine hKP _ _ _ ?_ | refine hKP _ _ (fun _ => ?_)); clear hK hKP K KP)); repeat (first | refine Stp.s ?_ | refine inBlock_exit' (by decide) ?_ | ((first | refine vc_region fun K KP hK hKP => ?_ | refine Stg.s ?_ | refine guardD_ret0 ?_ | refine exV_intro _ rfl ?_); (try simp only [go_sem]); try ((first | refine hK _ _ ?_ | refine hKP _ _ _ ?_ | refine hKP _ _ (fun _ => ?_)); clear hK hKP K KP))))
        ((try simp only [go_sem, loadL_a]); first | refine guardD_q0 (fun _ => callV_pure (right_pure bare bare_ok) ⟨rfl, rfl⟩) ?_ | refine guardD_q0 (fun _ _ => callV_pure (right_pure bare bare_ok) ⟨rfl, rfl⟩) ?_)
        ((try simp only [go_sem]); (try ((first | refine hK _ _ ?_ | refine hKP _ _ _ ?_ | refine hKP _ _ (fun _ => ?_)); clear hK hKP K KP)); repeat (first | refine Stp.s ?_ | refine inBlock_exit' (by decide) ?_ | ((first | refine vc_region fun K KP hK hKP => ?_ | refine Stg.s ?_ | refine guardD_ret0 ?_ | refine exV_intro _ rfl ?_); (try simp only [go_sem]); try ((first | refine hK _ _ ?_ | refine hKP _ _ _ ?_ | refine hKP _ _ (fun _ => ?_)); clear hK hKP K KP))))
        refine guardD_q0 (x := bare.v) (fun h => hno (Bool.and_eq_true .. ▸ h).1) ?_
        ((try simp only [go_sem]); (try ((first | refine hK _ _ ?_ | refine hKP _ _ _ ?_ | refine hKP _ _ (fun _ => ?_)); clear hK hKP K KP)); repeat (first | refine Stp.s ?_ | refine inBlock_exit' (by decide) ?_ | ((first | refine vc_region fun K KP hK hKP => ?_ | refine Stg.s ?_ | refine guardD_ret0 ?_ | refine exV_intro _ rfl ?_); (try simp only [go_sem]); try ((first | refine hK _ _ ?_ | refine hKP _ _ _ ?_ | refine hKP _ _ (fun _ => ?_)); clear hK hKP K KP))))
        ((try simp only [go_sem, loadL_a]); first | refine guardD_q0 (fun _ => callV_pure (save18 bare bare_ok ⟨by decide, by decide⟩) ⟨rfl, rfl⟩) ?_ | refine guardD_q0 (fun _ _ => callV_pure (save18 bare bare_ok ⟨by decide, by decide⟩) ⟨rfl, rfl⟩) ?_)
        ((try simp only [go_sem]); (try ((first | refine hK _ _ ?_ | refine hKP _ _ _ ?_ | refine hKP _ _ (fun _ => ?_)); clear hK hKP K KP)); repeat (first | refine Stp.s ?_ | refine inBlock_exit' (by decide) ?_ | ((first | refine vc_region fun K KP hK hKP => ?_ | refine Stg.s ?_ | refine guardD_ret0 ?_ | refine exV_intro _ rfl ?_); (try simp only [go_sem]); try ((first | refine hK _ _ ?_ | refine hKP _ _ _ ?_ | refine hKP _ _ (fun _ => ?_)); clear hK hKP K KP))))
        refine guardD_q0 (x := .val (.string ⟨b.toArray⟩)) (fun _ => ⟨b, rfl, ⟨_, rfl, Try.underlying5⟩, rfl⟩) ?_
        ((try simp only [go_sem, bin_seq]); (try ((first | refine hK _ _ ?_ | refine hKP _ _ _ ?_ | refine hKP _ _ (fun _ => ?_)); clear hK hKP K KP)); repeat (first | refine Stp.s ?_ | refine inBlock_exit' (by decide) ?_ | ((first | refine vc_region fun K KP hK hKP => ?_ | refine Stg.s ?_ | refine guardD_ret0 ?_ | refine exV_intro _ rfl ?_); (try simp only [go_sem, bin_seq]); try ((first | refine hK _ _ ?_ | refine hKP _ _ _ ?_ | refine hKP _ _ (fun _ => ?_)); clear hK hKP K KP))))
        refine guardD_q0 (x := BV (bare.right && treeB bare == b)) (fun hr => ⟨fun h => by rw [hr, h]; rfl, rfl⟩) ?_
        ((try simp only [go_sem, loadL_a]); (try ((first | refine hK _ _ ?_ | refine hKP _ _ _ ?_ | refine hKP _ _ (fun _ => ?_)); clear hK hKP K KP)); repeat (first | refine Stp.s ?_ | refine inBlock_exit' (by decide) ?_ | ((first | refine vc_region fun K KP hK hKP => ?_ | refine Stg.s ?_ | refine guardD_ret0 ?_ | refine exV_intro _ rfl ?_); (try simp only [go_sem, loadL_a]); try ((first | refine hK _ _ ?_ | refine hKP _ _ _ ?_ | refine hKP _ _ (fun _ => ?_)); clear hK hKP K KP))))
        (simp only [postV, resV, oneOf, List.getD_cons_succ, List.getD_cons_zero, and_true, true_and])
        refine Ends.le (congrArg BV ?_) hlS
        have : (e != 0) = true := by simp [he]
        rw [this]; rfl
    · (repeat (first | refine Stp.s ?_ | refine inBlock_exit' (by decide) ?_ | ((first | refine vc_region fun K KP hK hKP => ?_ | refine Stg.s ?_ | refine guardD_ret0 ?_ | refine exV_intro _ rfl ?_); (try simp only [go_sem, treeLoadK t ht, h35]); try ((first | refine hK _ _ ?_ | refine hKP _ _ _ ?_ | refine hKP _ _ (fun _ => ?_)); clear hK hKP K KP))))
      ((try simp only [go_sem, loadL_a]); first | refine callV_pure (as_pure t hok) ?_ | refine guardC_q0 (fun _ => callV_pure (as_pure t hok) ⟨rfl, rfl⟩) ?_)
      ((try simp only [go_sem, loadL_a]); (try ((first | refine hK _ _ ?_ | refine hKP _ _ _ ?_ | refine hKP _ _ (fun _ => ?_)); clear hK hKP K KP)); repeat (first | refine Stp.s ?_ | refine inBlock_exit' (by decide) ?_ | ((first | refine vc_region fun K KP hK hKP => ?_ | refine Stg.s ?_ | refine guardD_ret0 ?_ | refine exV_intro _ rfl ?_); (try simp only [go_sem, loadL_a]); try ((first | refine hK _ _ ?_ | refine hKP _ _ _ ?_ | refine hKP _ _ (fun _ => ?_)); clear hK hKP K KP))))
      ((try simp only [go_sem, loadL_a]); first | refine callV_pure (rright_pure t hok) ?_ | refine guardC_q0 (fun _ => callV_pure (rright_pure t hok) ⟨rfl, rfl⟩) ?_)
      rw [rright_eq t hok]
      ((try simp only [go_sem, loadL_a]); (try ((first | refine hK _ _ ?_ | refine hKP _ _ _ ?_ | refine hKP _ _ (fun _ => ?_)); clear hK hKP K KP)); repeat (first | refine Stp.s ?_ | refine inBlock_exit' (by decide) ?_ | ((first | refine vc_region fun K KP hK hKP => ?_ | refine Stg.s ?_ | refine guardD_ret0 ?_ | refine exV_intro _ rfl ?_); (try simp only [go_sem, loadL_a]); try ((first | refine hK _ _ ?_ | refine hKP _ _ _ ?_ | refine hKP _ _ (fun _ => ?_)); clear hK hKP K KP))))
      refine vc_cond rfl (fun hr => ?_) (fun hr => ?_)
      · have hlow := Tr.right_low hr
        (repeat (first | refine Stp.s ?_ | refine inBlock_exit' (by decide) ?_ | ((first | refine vc_region fun K KP hK hKP => ?_ | refine Stg.s ?_ | refine guardD_ret0 ?_ | refine exV_intro _ rfl ?_); (try simp only [go_sem, treeLoadK t ht, h35]); try ((first | refine hK _ _ ?_ | refine hKP _ _ _ ?_ | refine hKP _ _ (fun _ => ?_)); clear hK hKP K KP))))
        have hlen := treeB_len hok hlow
        have hlen2 : ∀ p : Prop, ((⟨(treeB t).toArray⟩ : ByteArray).size ≤ maxLen ∧ p) = p := fun p => by
          rw [maxLen_i]; exact propext ⟨fun h => h.2, fun h => ⟨by show (treeB t).length ≤ _; omega, h⟩⟩
        have hrd : pK 12 [] (treeB t) = .ok (t, []) := by have := read_tree hok hr []; rwa [List.append_nil] at this
        ((try simp only [go_sem, loadL_a]); first | refine callV_pure (save18 t hok hlow.int64) ?_ | refine guardC_q0 (fun _ => callV_pure (save18 t hok hlow.int64) ⟨rfl, rfl⟩) ?_)
        ((try simp only [go_sem, treeLoadK t ht, h35, hlen2]); (try ((first | refine hK _ _ ?_ | refine hKP _ _ _ ?_ | refine hKP _ _ (fun _ => ?_)); clear hK hKP K KP)); repeat (first | refine Stp.s ?_ | refine inBlock_exit' (by decide) ?_ | ((first | refine vc_region fun K KP hK hKP => ?_ | refine Stg.s ?_ | refine guardD_ret0 ?_ | refine exV_intro _ rfl ?_); (try simp only [go_sem, treeLoadK t ht, h35, hlen2]); try ((first | refine hK _ _ ?_ | refine hKP _ _ _ ?_ | refine hKP _ _ (fun _ => ?_)); clear hK hKP K KP))))
        refine callV_rdt capB1 (h5 _) rfl (by omega) (fun u rest σ' hp hu hf => ?_) (fun e rest σ' hp _ _ => by rw [hrd] at hp; cases hp)
        rw [hrd] at hp
        cases hp
        have hlS : σ.le σ' := fun c l hc => hf c l (hle5 _ _ _ hc) (fun e => by rw [e, hσ5] at hc; cases hc)
        have h3' := hf _ _ (h35 _) hn5
        have hc : rdCode (.ok []) = 0 := rfl
        ((try simp only [go_sem, treeLoadK t ht, h3', hu, hc]); (try ((first | refine hK _ _ ?_ | refine hKP _ _ _ ?_ | refine hKP _ _ (fun _ => ?_)); clear hK hKP K KP)); repeat (first | refine Stp.s ?_ | refine inBlock_exit' (by decide) ?_ | ((first | refine vc_region fun K KP hK hKP => ?_ | refine Stg.s ?_ | refine guardD_ret0 ?_ | refine exV_intro _ rfl ?_); (try simp only [go_sem, treeLoadK t ht, h3', hu, hc]); try ((first | refine hK _ _ ?_ | refine hKP _ _ _ ?_ | refine hKP _ _ (fun _ => ?_)); clear hK hKP K KP))))
        ((try simp only [go_sem, loadL_a]); first | refine callV_pure (as_pure t hok) ?_ | refine guardC_q0 (fun _ => callV_pure (as_pure t hok) ⟨rfl, rfl⟩) ?_)
        ((try simp only [go_sem, treeLoadK t ht, h3', hu, hc]); (try ((first | refine hK _ _ ?_ | refine hKP _ _ _ ?_ | refine hKP _ _ (fun _ => ?_)); clear hK hKP K KP)); repeat (first | refine Stp.s ?_ | refine inBlock_exit' (by decide) ?_ | ((first | refine vc_region fun K KP hK hKP => ?_ | refine Stg.s ?_ | refine guardD_ret0 ?_ | refine exV_intro _ rfl ?_); (try simp only [go_sem, treeLoadK t ht, h3', hu, hc]); try ((first | refine hK _ _ ?_ | refine hKP _ _ _ ?_ | refine hKP _ _ (fun _ => ?_)); clear hK hKP K KP))))
        ((try simp only [go_sem, loadL_a]); first | refine callV_pure (rput_pure t hok hlow) ?_ | refine guardC_q0 (fun _ => callV_pure (rput_pure t hok hlow) ⟨rfl, rfl⟩) ?_)
        ((try simp only [go_sem, treeLoadK t ht, h3', hu, hc]); (try ((first | refine hK _ _ ?_ | refine hKP _ _ _ ?_ | refine hKP _ _ (fun _ => ?_)); clear hK hKP K KP)); repeat (first | refine Stp.s ?_ | refine inBlock_exit' (by decide) ?_ | ((first | refine vc_region fun K KP hK hKP => ?_ | refine Stg.s ?_ | refine guardD_ret0 ?_ | refine exV_intro _ rfl ?_); (try simp only [go_sem, treeLoadK t ht, h3', hu, hc]); try ((first | refine hK _ _ ?_ | refine hKP _ _ _ ?_ | refine hKP _ _ (fun _ => ?_)); clear hK hKP K KP))))
        refine ⟨treeB t, rfl, ⟨_, rfl, Try.underlying5⟩, ?_⟩
        ((try simp only [go_sem, treeLoadK t ht, h3', hu, hc, bin_sne]); (try ((first | refine hK _ _ ?_ | refine hKP _ _ _ ?_ | refine hKP _ _ (fun _ => ?_)); clear hK hKP K KP)); repeat (first | refine Stp.s ?_ | refine inBlock_exit' (by decide) ?_ | ((first | refine vc_region fun K KP hK hKP => ?_ | refine Stg.s ?_ | refine guardD_ret0 ?_ | refine exV_intro _ rfl ?_); (try simp only [go_sem, treeLoadK t ht, h3', hu, hc, bin_sne]); try ((first | refine hK _ _ ?_ | refine hKP _ _ _ ?_ | refine hKP _ _ (fun _ => ?_)); clear hK hKP K KP))))
        ((try simp only [go_sem, loadL_a]); first | refine guardC_q0 (fun _ => callV_pure (save18 t hok hlow.int64) ⟨rfl, rfl⟩) ?_ | refine callV_pure (save18 t hok hlow.int64) ?_)
        ((try simp only [go_sem, bin_sne]); (try ((first | refine hK _ _ ?_ | refine hKP _ _ _ ?_ | refine hKP _ _ (fun _ => ?_)); clear hK hKP K KP)); repeat (first | refine Stp.s ?_ | refine inBlock_exit' (by decide) ?_ | ((first | refine vc_region fun K KP hK hKP => ?_ | refine Stg.s ?_ | refine guardD_ret0 ?_ | refine exV_intro _ rfl ?_); (try simp only [go_sem, bin_sne]); try ((first | refine hK _ _ ?_ | refine hKP _ _ _ ?_ | refine hKP _ _ (fun _ => ?_)); clear hK hKP K KP))))
        refine vc_cond rfl (fun hq => ?_) (fun _ => ?_)
        · rw [beq_self_eq_true] at hq; cases hq
        · (repeat (first | refine Stp.s ?_ | refine inBlock_exit' (by decide) ?_ | ((first | refine vc_region fun K KP hK hKP => ?_ | refine Stg.s ?_ | refine guardD_ret0 ?_ | refine exV_intro _ rfl ?_); (try simp only [go_sem, loadL_a]); try ((first | refine hK _ _ ?_ | refine hKP _ _ _ ?_ | refine hKP _ _ (fun _ => ?_)); clear hK hKP K KP))))
          exact hrest () _ _ ⟨hlS, h3', _, by show (t.kinds.map I64 ++ [t.es]).length = 13; simp [hok.k], hu⟩ rfl
      · (repeat (first | refine Stp.s ?_ | refine inBlock_exit' (by decide) ?_ | ((first | refine vc_region fun K KP hK hKP => ?_ | refine Stg.s ?_ | refine guardD_ret0 ?_ | refine exV_intro _ rfl ?_); (try simp only [go_sem, loadL_a]); try ((first | refine hK _ _ ?_ | refine hKP _ _ _ ?_ | refine hKP _ _ (fun _ => ?_)); clear hK hKP K KP))))
        exact hrest () _ _ ⟨hle5 _, h35 _, _, rfl, h5 _⟩ rfl
theorem treebytes_lifted (os : Os) (started : os.Started) (H : Type) (enc : TypeId × Value → H) :
    ReturnsInHanded {} Try.checked os 3 .any (Rows.treeBytesSpec.pre6 enc Try.prog Try.f3 Rows.treeBytesRow.domain false) (Rows.treeBytesSpec.post enc Try.prog Try.f3 false true false false) := by
  refine law_lift (C := Try.checked) (tb := 4) own_knob started (by kernel_rfl) Try.func3 laid_out
    (ChangeSpec.witness6 (enc := enc) (C := Try.checked) false ⟨#[], #[.agg #[.int .i64 0, .int .i64 0, .int .i64 0, .int .i64 0, .int .i64 0, .int .i64 0, .int .i64 0, .int .i64 0, .int .i64 0, .int .i64 0, .int .i64 0, .int .i64 0, .slice none 0 0], .slice none 0 0], []⟩ 8 (by kernel_rfl) (by kernel_rfl) (by kernel_rfl) (by kernel_rfl))
    rfl rfl Try.underlying4 (by kernel_rfl) (fun ds hd => ?_) ?_
  · rcases ds with _ | ⟨a0, ds⟩
    · cases hd
    rcases ds with _ | ⟨a1, ds⟩
    · cases hd
    rcases ds with _ | ⟨b, ds⟩
    · rfl
    · cases hd
  · intro W base args ds ps hval0 hA0
    have hval : ∀ (j : Nat) t v, Try.f3.params[j]? = some t → args[j]? = some v → Value.okWide Try.prog W .any base t v := hval0
    have hA : DataW.TrodAll enc Try.prog W 0 (fun _ => true) true Try.f3.params.toList args.toList ds ps := hA0
    rw [Try.params3] at hA hval
    obtain ⟨v0, v1, d0, d1, p0, p1, rfl, rfl, rfl, h0, h1⟩ := trodAll_two hA
    obtain ⟨vs0, rfl, r0⟩ := arg_agg (.inl ⟨_, Try.underlying25⟩) (hval 0 25 v0 rfl rfl) h0
    obtain ⟨t, ht, l0⟩ := rd_tree r0
    obtain ⟨b, hb, l1⟩ := arg_bytes (hval 1 26 v1 rfl rfl) h1
    refine ⟨[t.v, .lst 1 (b.map byteV)], LR.cons (VR.mk_agg l0) (LR.cons (l1) (LR.nil _)), ?_⟩
    exact ((treebytes_pure t ht b).2 _).mono fun r σ' q => q.1
theorem treebytes_holds : Rows.TreeBytesSaid :=
  OpenClaim.holds_of_wide 3 Try.f3 rfl rfl rfl rfl rfl rfl rfl ⟨rfl, rfl, rfl, rfl, rfl⟩ rfl rfl rfl rfl rfl (by kernel_rfl) Try.func3 (by kernel_rfl)
    (of_decide_eq_true (by kernel_rfl)) (by unfold Func.isWrapper; first | (rw [if_pos (by decide +kernel)]; kernel_rfl) | (rw [if_neg (by decide +kernel)]; exact ⟨rfl, rfl⟩))
    (fun os started H enc _ => treebytes_lifted os started H enc)
#print axioms treebytes_holds

end Go.Proofs.Ytbgagffpmdlilaa
