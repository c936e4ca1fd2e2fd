/- truglaw20.RelaySums returns true for every input and leaves its arguments as they were: no condition. -/
import Derived.Test.YtbgagffpmdlilaaLb
import Derived.Test.YtbgagffpmdlilaaRL
import Derived.Test.YtbgagffpmdlilaaK5
namespace Go.Proofs.Ytbgagffpmdlilaa
set_option linter.unusedSimpArgs false
set_option linter.unusedVariables false
open Go.Proofs Go.ChangeShapes Go.WideShapes Go.ChangeAt Go.RowKit
attribute [local irreducible] vc vcOps vcDraw vcK vcKP vcDK vcDB HWp HCalls postV Ex.then Ex.inBlock stepD callV appendV guardC guardD exV effV opV loadV storeV indexAddrV indexV sliceV
set_option maxRecDepth 100000
set_option maxHeartbeats 4000000


def comeV (p : Int × Lb) : V := .agg (I64 p.1 :: p.2.cs)
section
variable {H : Type} {enc : TypeId × Value → H} {W : World}
theorem rd_come {cs : List Value} (h : Rd enc Try.prog W 57 cs) : ∃ p : Int × Lb, LbArg p.2 ∧ LR (HeapI W) (comeV p).cells cs := by
  obtain ⟨h1, h2⟩ := rd_struct Try.underlying57 h
  rw [ce57] at h1
  have f0 : Rd enc Try.prog W 3 ((cs.drop 0).take (Try.prog.cellsOf 3)) := h2 0 _ rfl
  have f1 : Rd enc Try.prog W 55 ((cs.drop 1).take (Try.prog.cellsOf 55)) := h2 1 _ rfl
  rw [ce3] at f0
  rw [ce55, List.take_of_length_le (by rw [List.length_drop]; omega)] at f1
  obtain ⟨a, ha, _⟩ := rd_int Try.underlying3 f0
  obtain ⟨l, hl, hr⟩ := rd_label f1
  refine ⟨(a, l), hl, ?_⟩
  have e0 := drop_one cs 0
  rw [ha, List.drop_zero] at e0
  rw [e0]
  exact LR.cons (.val _) hr
theorem arg_comes {base : Nat} {v : Value} {d : DataW H} {ps : List MemPlace} (hval : Value.okWide Try.prog W .any base 42 v) (h : DataW.Trod enc Try.prog W 0 (fun _ => true) true 42 v d ps) :
    ∃ l : List (Int × Lb), ((∀ a ∈ l, LbArg a.2) ∧ l.length ≤ maxLen) ∧ VR (HeapI W) (.lst 18 (l.map comeV)) v :=
  arg_slice comeV (fun p => LbArg p.2) Try.underlying42 ce57 (fun p hp => by show (I64 p.1 :: p.2.cs).length = 18; rw [List.length_cons, lbCells p.2 hp.ok]) (by decide) (fun cs' h' => rd_come h') hval h
end
theorem lb_cells (l : Lb) (hl : l.Ok) : l.cs.length = 17 := lbCells l hl
theorem relaysums_pure (t : Tr) (ht : t.kinds.length = 12) (n : Int) (cm : List (Int × Lb)) (hcm : ∀ p ∈ cm, LbArg p.2) : HPure Try.prog 4 [t.v, I64 n, .lst 18 (cm.map comeV)] (BV true) := by
  (refine HPure.of en4 fun σ => ?_); (refine HCalls.of_vc Try.func4 rfl ?_; rw [Try.ntmps4, Try.results4]; simp only [List.length_cons, List.length_nil, Nat.reduceAdd, Nat.reduceSub, List.replicate, List.cons_append, List.nil_append])
  (repeat (first | refine Stp.s ?_ | refine inBlock_exit' (by decide) ?_ | ((first | refine vc_region fun K KP hK hKP => ?_ | refine Stg.s ?_ | refine guardD_ret0 ?_ | refine exV_intro _ rfl ?_); (try simp only [go_sem, loadL_a]); try ((first | refine hK _ _ ?_ | refine hKP _ _ _ ?_ | refine hKP _ _ (fun _ => ?_)); clear hK hKP K KP))))
  intro b3 hb3
  have hle3 : σ.le (σ.set b3 (.cells (t.kinds.map I64 ++ [t.es]))) := Store.le_set hb3 (Store.le_refl _)
  have h3 : (σ.set b3 (.cells (t.kinds.map I64 ++ [t.es]))) b3 = some (.cells (t.kinds.map I64 ++ [t.es])) := Store.set_same _ _ _
  generalize σ.set b3 _ = σ1 at *
  ((try simp only [go_sem, treeLoadK t ht, h3]); refine hK _ _ ?_; clear hK hKP K KP; repeat (first | refine Stp.s ?_ | refine inBlock_exit' (by decide) ?_ | ((first | refine vc_region fun K KP hK hKP => ?_ | refine Stg.s ?_ | refine guardD_ret0 ?_ | refine exV_intro _ rfl ?_); (try simp only [go_sem, treeLoadK t ht, h3]); try ((first | refine hK _ _ ?_ | refine hKP _ _ _ ?_ | refine hKP _ _ (fun _ => ?_)); clear hK hKP K KP))))
  ((try simp only [go_sem, loadL_a]); first | refine callV_pure (great_pure t ht) ?_ | refine guardC_q0 (fun _ => callV_pure (great_pure t ht) ⟨rfl, rfl⟩) ?_)
  ((try simp only [go_sem, loadL_a]); (try ((first | refine hK _ _ ?_ | refine hKP _ _ _ ?_ | refine hKP _ _ (fun _ => ?_)); clear hK hKP K KP)); repeat (first | refine Stp.s ?_ | refine inBlock_exit' (by decide) ?_ | ((first | refine vc_region fun K KP hK hKP => ?_ | refine Stg.s ?_ | refine guardD_ret0 ?_ | refine exV_intro _ rfl ?_); (try simp only [go_sem, loadL_a]); try ((first | refine hK _ _ ?_ | refine hKP _ _ _ ?_ | refine hKP _ _ (fun _ => ?_)); clear hK hKP K KP))))
  refine vc_cond rfl (fun hc => ?_) (fun hc => ?_)
  · (repeat (first | refine Stp.s ?_ | refine inBlock_exit' (by decide) ?_ | ((first | refine vc_region fun K KP hK hKP => ?_ | refine Stg.s ?_ | refine guardD_ret0 ?_ | refine exV_intro _ rfl ?_); (try simp only [go_sem, loadL_a]); try ((first | refine hK _ _ ?_ | refine hKP _ _ _ ?_ | refine hKP _ _ (fun _ => ?_)); clear hK hKP K KP))))
    ((try simp only [go_sem, loadL_a]); first | refine callV_pure (alive20) ?_ | refine guardC_q0 (fun _ => callV_pure (alive20) ⟨rfl, rfl⟩) ?_)
    ((try simp only [go_sem, loadL_a]); (try ((first | refine hK _ _ ?_ | refine hKP _ _ _ ?_ | refine hKP _ _ (fun _ => ?_)); clear hK hKP K KP)); repeat (first | refine Stp.s ?_ | refine inBlock_exit' (by decide) ?_ | ((first | refine vc_region fun K KP hK hKP => ?_ | refine Stg.s ?_ | refine guardD_ret0 ?_ | refine exV_intro _ rfl ?_); (try simp only [go_sem, loadL_a]); try ((first | refine hK _ _ ?_ | refine hKP _ _ _ ?_ | refine hKP _ _ (fun _ => ?_)); clear hK hKP K KP))))
    (simp only [postV, resV, oneOf, List.getD_cons_succ, List.getD_cons_zero, and_true, true_and])
    exact Ends.le rfl hle3
  have hed : t.edges.length ≤ 20 := by simpa using hc
  have hok : t.Ok := ⟨ht, by omega⟩
  (repeat (first | refine Stp.s ?_ | refine inBlock_exit' (by decide) ?_ | ((first | refine vc_region fun K KP hK hKP => ?_ | refine Stg.s ?_ | refine guardD_ret0 ?_ | refine exV_intro _ rfl ?_); (try simp only [go_sem, treeLoadK t ht, h3]); try ((first | refine hK _ _ ?_ | refine hKP _ _ _ ?_ | refine hKP _ _ (fun _ => ?_)); clear hK hKP K KP))))
  by_cases hr : t.right = true
  rotate_left
  · refine callV_ends en24 (by have := rnew t hok n σ1; rw [relNew_bad hr] at this; exact this) ?_
    ((try simp only [go_sem, loadL_a]); (try ((first | refine hK _ _ ?_ | refine hKP _ _ _ ?_ | refine hKP _ _ (fun _ => ?_)); clear hK hKP K KP)); repeat (first | refine Stp.s ?_ | refine inBlock_exit' (by decide) ?_ | ((first | refine vc_region fun K KP hK hKP => ?_ | refine Stg.s ?_ | refine guardD_ret0 ?_ | refine exV_intro _ rfl ?_); (try simp only [go_sem, loadL_a]); try ((first | refine hK _ _ ?_ | refine hKP _ _ _ ?_ | refine hKP _ _ (fun _ => ?_)); clear hK hKP K KP))))
    refine vc_cond rfl (fun _ => ?_) (fun hc => by cases hc)
    (repeat (first | refine Stp.s ?_ | refine inBlock_exit' (by decide) ?_ | ((first | refine vc_region fun K KP hK hKP => ?_ | refine Stg.s ?_ | refine guardD_ret0 ?_ | refine exV_intro _ rfl ?_); (try simp only [go_sem, loadL_a]); try ((first | refine hK _ _ ?_ | refine hKP _ _ _ ?_ | refine hKP _ _ (fun _ => ?_)); clear hK hKP K KP))))
    ((try simp only [go_sem, loadL_a]); first | refine guardC_q0 (fun _ => callV_pure (alive20) ⟨rfl, rfl⟩) ?_ | refine callV_pure (alive20) ?_)
    ((try simp only [go_sem, loadL_a]); (try ((first | refine hK _ _ ?_ | refine hKP _ _ _ ?_ | refine hKP _ _ (fun _ => ?_)); clear hK hKP K KP)); repeat (first | refine Stp.s ?_ | refine inBlock_exit' (by decide) ?_ | ((first | refine vc_region fun K KP hK hKP => ?_ | refine Stg.s ?_ | refine guardD_ret0 ?_ | refine exV_intro _ rfl ?_); (try simp only [go_sem, loadL_a]); try ((first | refine hK _ _ ?_ | refine hKP _ _ _ ?_ | refine hKP _ _ (fun _ => ?_)); clear hK hKP K KP))))
    (simp only [postV, resV, oneOf, List.getD_cons_succ, List.getD_cons_zero, and_true, true_and])
    exact Ends.le rfl hle3
  by_cases hn : n ∈ t.nodes 3
  rotate_left
  · refine callV_ends en24 (by have := rnew t hok n σ1; rw [relNew_no hr hn] at this; exact this) ?_
    ((try simp only [go_sem, loadL_a]); (try ((first | refine hK _ _ ?_ | refine hKP _ _ _ ?_ | refine hKP _ _ (fun _ => ?_)); clear hK hKP K KP)); repeat (first | refine Stp.s ?_ | refine inBlock_exit' (by decide) ?_ | ((first | refine vc_region fun K KP hK hKP => ?_ | refine Stg.s ?_ | refine guardD_ret0 ?_ | refine exV_intro _ rfl ?_); (try simp only [go_sem, loadL_a]); try ((first | refine hK _ _ ?_ | refine hKP _ _ _ ?_ | refine hKP _ _ (fun _ => ?_)); clear hK hKP K KP))))
    refine vc_cond rfl (fun _ => ?_) (fun hc => by cases hc)
    (repeat (first | refine Stp.s ?_ | refine inBlock_exit' (by decide) ?_ | ((first | refine vc_region fun K KP hK hKP => ?_ | refine Stg.s ?_ | refine guardD_ret0 ?_ | refine exV_intro _ rfl ?_); (try simp only [go_sem, loadL_a]); try ((first | refine hK _ _ ?_ | refine hKP _ _ _ ?_ | refine hKP _ _ (fun _ => ?_)); clear hK hKP K KP))))
    ((try simp only [go_sem, loadL_a]); first | refine guardC_q0 (fun _ => callV_pure (alive20) ⟨rfl, rfl⟩) ?_ | refine callV_pure (alive20) ?_)
    ((try simp only [go_sem, loadL_a]); (try ((first | refine hK _ _ ?_ | refine hKP _ _ _ ?_ | refine hKP _ _ (fun _ => ?_)); clear hK hKP K KP)); repeat (first | refine Stp.s ?_ | refine inBlock_exit' (by decide) ?_ | ((first | refine vc_region fun K KP hK hKP => ?_ | refine Stg.s ?_ | refine guardD_ret0 ?_ | refine exV_intro _ rfl ?_); (try simp only [go_sem, loadL_a]); try ((first | refine hK _ _ ?_ | refine hKP _ _ _ ?_ | refine hKP _ _ (fun _ => ?_)); clear hK hKP K KP))))
    (simp only [postV, resV, oneOf, List.getD_cons_succ, List.getD_cons_zero, and_true, true_and])
    exact Ends.le rfl hle3
  have hn0 : 0 < n := by have := mem_nums.1 (List.mem_filter.1 hn).1; omega
  refine callV_new en24 (by have := rnew t hok n σ1; rw [relNew_ok hr hn] at this; exact this) (fun b hb => ?_)
  have h3b := fun k => Store.keep (k := k) hb h3
  have hbb := fun k => Store.set_same σ1 b k
  have hleb := fun k => Store.le_set (k := k) hb hle3
  ((try simp only [go_sem, loadL_a]); (try ((first | refine hK _ _ ?_ | refine hKP _ _ _ ?_ | refine hKP _ _ (fun _ => ?_)); clear hK hKP K KP)); repeat (first | refine Stp.s ?_ | refine inBlock_exit' (by decide) ?_ | ((first | refine vc_region fun K KP hK hKP => ?_ | refine Stg.s ?_ | refine guardD_ret0 ?_ | refine exV_intro _ rfl ?_); (try simp only [go_sem, loadL_a]); try ((first | refine hK _ _ ?_ | refine hKP _ _ _ ?_ | refine hKP _ _ (fun _ => ?_)); clear hK hKP K KP))))
  refine vc_cond rfl (fun hc => by cases hc) (fun _ => ?_)
  (repeat (first | refine Stp.s ?_ | refine inBlock_exit' (by decide) ?_ | ((first | refine vc_region fun K KP hK hKP => ?_ | refine Stg.s ?_ | refine guardD_ret0 ?_ | refine exV_intro _ rfl ?_); (try simp only [go_sem, treeLoadK t ht, h3b]); try ((first | refine hK _ _ ?_ | refine hKP _ _ _ ?_ | refine hKP _ _ (fun _ => ?_)); clear hK hKP K KP))))
  ((try simp only [go_sem, loadL_a]); first | refine callV_pure (next_pure t hok n) ?_ | refine guardC_q0 (fun _ => callV_pure (next_pure t hok n) ⟨rfl, rfl⟩) ?_)
  ((try simp only [go_sem, loadL_a, List.length_map]); (try ((first | refine hK _ _ ?_ | refine hKP _ _ _ ?_ | refine hKP _ _ (fun _ => ?_)); clear hK hKP K KP)); repeat (first | refine Stp.s ?_ | refine inBlock_exit' (by decide) ?_ | ((first | refine vc_region fun K KP hK hKP => ?_ | refine Stg.s ?_ | refine guardD_ret0 ?_ | refine exV_intro _ rfl ?_); (try simp only [go_sem, loadL_a, List.length_map]); try ((first | refine hK _ _ ?_ | refine hKP _ _ _ ?_ | refine hKP _ _ (fun _ => ?_)); clear hK hKP K KP))))
  have hnl := next_len t n
  refine vc_loop (loopV (fun (i : Nat) => [t.v, I64 n, .lst 18 (cm.map comeV), .ptr b3 0, .top, .top, BV false, .ptr b 0, I64 0, ints (t.next n), I64 i, .top, .top, .top, .top, .top, .top, .top, .top, .top, .top, .top, .top, .top, .top, .top, .top, .top, .top, .top, .top, .top, .top, .top, .top, .top, .top, .top, .top, .top, .top, .top, .top, .top, .top, .top, .top, .top, .top, .top, .top, .top, .top, .top, .top, .top, .top, .top, .top, .top, .top, .top, .top, .top, .top, .top, .top, .top, .top, .top, .top, .top, .top, .top, .top, .top, .top, .top, .top, .top, .top, .top, .top, .top, .top, .top, .top, .top, .top, .top, .top, .top, .top, .top, .top, .top, .top, .top, .top, .top, .top, .top, .top, .top, .top, .top, .top, .top, .top, .top, .top, .top, .top, .top, .top, .top, .top, .top, .top, .top, .top, .top, .top, .top, .top, .top, .top, .top, .top, .top, .top, .top, .top, .top, .top, .top, .top, .top, .top, .top]) (fun i τ => i ≤ cm.length ∧ i ≤ 60 ∧ τ = σ1.set b (.cells (rlC t n (hearN t n (cm.take i))))) (fun i _ => 60 - i) 0 (by repeat (first | exact LeEnv.nil | refine LeEnv.same ?_ | refine LeEnv.top ?_)) ⟨by omega, by omega, rfl⟩ ?_)
  rintro i τ ⟨hi, hi60, rfl⟩
  (repeat (first | refine Stp.s ?_ | refine inBlock_exit' (by decide) ?_ | ((first | refine vc_region fun K KP hK hKP => ?_ | refine Stg.s ?_ | refine guardD_ret0 ?_ | refine exV_intro _ rfl ?_); (try simp only [go_sem, loadL_a, List.length_map]); try ((first | refine hK _ _ ?_ | refine hKP _ _ _ ?_ | refine hKP _ _ (fun _ => ?_)); clear hK hKP K KP))))
  refine vc_cond rfl (fun hc => ?_) (fun hc => ?_)
  · have hlt : i < cm.length ∧ i < 60 := by simp at hc; omega
    obtain ⟨hlt, hlt60⟩ := hlt
    have g0 := le_eq (show (0 : Int) ≤ i by omega)
    have g1 := lt_eq (show (i : Int) < cm.length by omega)
    have hx : (cm.map comeV).getD i .top = comeV cm[i] := getD_map comeV cm i hlt
    have htk := List.take_succ_eq_append_getElem hlt
    have hp := hcm _ (List.getElem_mem hlt)
    have hM := hearN_le t n (cm.take i)
    rw [List.length_take] at hM
    generalize cm[i] = p at *
    have hsn := hearN_snoc t n (cm.take i) p
    rw [← htk] at hsn
    generalize hearN t n (cm.take i) = c at *
    have hcs : (comeV p).cells = I64 p.1 :: p.2.cs := rfl
    have hld : loadL Try.prog 55 p.2.cs 0 = fun K => K p.2.v := by funext K; exact lbLoad p.2 hp.ok K
    (repeat (first | refine Stp.s ?_ | refine inBlock_exit' (by decide) ?_ | ((first | refine vc_region fun K KP hK hKP => ?_ | refine Stg.s ?_ | refine guardD_ret0 ?_ | refine exV_intro _ rfl ?_); (try simp only [go_sem, loadL_a]); try ((first | refine hK _ _ ?_ | refine hKP _ _ _ ?_ | refine hKP _ _ (fun _ => ?_)); clear hK hKP K KP))))
    ((repeat first | refine Stp.s ?_ | refine inBlock_exit' (by decide) ?_); refine vc_draw mixed [ 11 ] [0, 1, 2, 3, 4, 5, 6, 7, 8, 9, 10, 11, 12, 13, 14, 15, 16 ] [ 5, 10 ] [] (fun _ => True) (by kernel_rfl) (by kernel_rfl) (by kernel_rfl) trivial fun K KP hK hKP => ?_; simp only [go_sem, g0, g1, hx, hcs, Int.toNat_natCast, List.length_map, hld]; try (refine hK _ _ ?_; clear hK hKP K KP))
    ((try simp only [go_sem, g0, g1, hx, hcs, Int.toNat_natCast, List.length_map, hld]); (try ((first | refine hK _ _ ?_ | refine hKP _ _ _ ?_ | refine hKP _ _ (fun _ => ?_)); clear hK hKP K KP)); repeat (first | refine Stp.s ?_ | refine inBlock_exit' (by decide) ?_ | ((first | refine vc_region fun K KP hK hKP => ?_ | refine Stg.s ?_ | refine guardD_ret0 ?_ | refine exV_intro _ rfl ?_); (try simp only [go_sem, g0, g1, hx, hcs, Int.toNat_natCast, List.length_map, hld]); try ((first | refine hK _ _ ?_ | refine hKP _ _ _ ?_ | refine hKP _ _ (fun _ => ?_)); clear hK hKP K KP))))
    refine callV_ends en26 (rhear b _ t hok n c (hbb _) hn0 p.1 p.2 hp.ok hp.c (fun j => by have := hM j; omega)) ?_
    have hL1 : (rlHear t n c p.1 p.2).1.Pairwise (· < ·) := by unfold rlHear; split; split; exact toward_asc _ _ _ _; exact List.Pairwise.nil; exact List.Pairwise.nil
    have hL2 : ∀ m ∈ (rlHear t n c p.1 p.2).1, m ≠ p.1 := by unfold rlHear; split; split; exact fun m hm => toward_ne hm; simp; simp
    have hL3 : (rlHear t n c p.1 p.2).1.length ≤ 12 := by unfold rlHear; split; split; exact toward_len _ _ _ _; simp; simp
    rw [← hsn, Store.set_set]
    generalize (rlHear t n c p.1 p.2).1 = L at *
    generalize (rlHear t n c p.1 p.2).2.1 = e at *
    have hbn := hbb (.cells (rlC t n (hearN t n (cm.take (i + 1)))))
    have hln : σ.le (σ1.set b (.cells (rlC t n (hearN t n (cm.take (i + 1)))))) := hleb _
    ((try simp only [go_sem, loadL_a]); (try ((first | refine hK _ _ ?_ | refine hKP _ _ _ ?_ | refine hKP _ _ (fun _ => ?_)); clear hK hKP K KP)); repeat (first | refine Stp.s ?_ | refine inBlock_exit' (by decide) ?_ | ((first | refine vc_region fun K KP hK hKP => ?_ | refine Stg.s ?_ | refine guardD_ret0 ?_ | refine exV_intro _ rfl ?_); (try simp only [go_sem, loadL_a]); try ((first | refine hK _ _ ?_ | refine hKP _ _ _ ?_ | refine hKP _ _ (fun _ => ?_)); clear hK hKP K KP))))
    refine vc_loop (loopV (fun (k : Nat) => [t.v, I64 n, .lst 18 (cm.map comeV), .ptr b3 0, .top, .top, BV false, .ptr b 0, I64 0, ints (t.next n), I64 i, ints L, I64 e, I64 k, .top, .top, .top, .top, .top, .top, .top, .top, .top, .top, .top, .top, .top, .top, .top, .top, .top, .top, .top, .top, .top, .top, .top, .top, .top, .top, .top, .top, .top, .top, .top, .top, .top, .top, .top, .top, .top, .top, .top, .top, .top, .top, .top, .top, .top, .top, .top, .top, .top, .top, .top, .top, .top, .top, .top, .top, .top, .top, .top, .top, .top, .top, .top, .top, .top, .top, .top, .top, .top, .top, .top, .top, .top, .top, .top, .top, .top, .top, .top, .top, .top, .top, .top, .top, .top, .top, .top, .top, .top, .top, .top, .top, .top, .top, .top, .top, .top, .top, .top, .top, .top, .top, .top, .top, .top, .top, .top, .top, .top, .top, .top, .top, .top, .top, .top, .top, .top, .top, .top, .top, .top, .top, .top, .top, .top, .top]) (fun k τ => k ≤ L.length ∧ τ = σ1.set b (.cells (rlC t n (hearN t n (cm.take (i + 1)))))) (fun k _ => L.length - k) 0 (by repeat (first | exact LeEnv.nil | refine LeEnv.same ?_ | refine LeEnv.top ?_)) ⟨by omega, rfl⟩ ?_)
    rintro k τ ⟨hk, rfl⟩
    (repeat (first | refine Stp.s ?_ | refine inBlock_exit' (by decide) ?_ | ((first | refine vc_region fun K KP hK hKP => ?_ | refine Stg.s ?_ | refine guardD_ret0 ?_ | refine exV_intro _ rfl ?_); (try simp only [go_sem, loadL_a, List.length_map]); try ((first | refine hK _ _ ?_ | refine hKP _ _ _ ?_ | refine hKP _ _ (fun _ => ?_)); clear hK hKP K KP))))
    refine vc_cond rfl (fun hc => ?_) (fun hc => ?_)
    · have hlk : k < L.length := by simpa using hc
      have g2 := le_eq (show (0 : Int) ≤ k by omega)
      have g3 := lt_eq (show (k : Int) < L.length by omega)
      have hxk : (L.map I64).getD k .top = I64 L[k] := getD_map I64 L k hlk
      have hne := hL2 _ (List.getElem_mem hlk)
      have hne2 : (L[k] == p.1) = false := by simpa using hne
      have hw : IntKind.i64.wrap ((k : Int) - 1) = (k : Int) - 1 := i64_in (by omega) (by omega)
      (repeat (first | refine Stp.s ?_ | refine inBlock_exit' (by decide) ?_ | ((first | refine vc_region fun K KP hK hKP => ?_ | refine Stg.s ?_ | refine guardD_ret0 ?_ | refine exV_intro _ rfl ?_); (try simp only [go_sem, loadL_a]); try ((first | refine hK _ _ ?_ | refine hKP _ _ _ ?_ | refine hKP _ _ (fun _ => ?_)); clear hK hKP K KP))))
      ((repeat first | refine Stp.s ?_ | refine inBlock_exit' (by decide) ?_); refine vc_draw mixed [ ] [0, 1, 2, 3, 4, 5, 6, 7, 8, 9, 10, 11, 12, 13, 14, 15, 16, 17, 18, 19, 20, 21, 22, 23, 24, 25 ] [ 3, 8, 18, 22 ] [] (fun _ => True) (by kernel_rfl) (by kernel_rfl) (by kernel_rfl) trivial fun K KP hK hKP => ?_; simp only [go_sem, loadL_a, g0, g1, g2, g3, hx, hxk, hcs, hne2, hw, Int.toNat_natCast, List.length_map]; try (refine hK _ _ ?_; clear hK hKP K KP))
      ((try simp only [go_sem, loadL_a, g0, g1, g2, g3, hx, hxk, hcs, hne2, hw, Int.toNat_natCast, List.length_map]); (try ((first | refine hK _ _ ?_ | refine hKP _ _ _ ?_ | refine hKP _ _ (fun _ => ?_)); clear hK hKP K KP)); repeat (first | refine Stp.s ?_ | refine inBlock_exit' (by decide) ?_ | ((first | refine vc_region fun K KP hK hKP => ?_ | refine Stg.s ?_ | refine guardD_ret0 ?_ | refine exV_intro _ rfl ?_); (try simp only [go_sem, loadL_a, g0, g1, g2, g3, hx, hxk, hcs, hne2, hw, Int.toNat_natCast, List.length_map]); try ((first | refine hK _ _ ?_ | refine hKP _ _ _ ?_ | refine hKP _ _ (fun _ => ?_)); clear hK hKP K KP))))
      refine guardD_q0 (x := .ro [I64 (L.getD (k - 1) 0)]) (fun h => ?_) ?_
      · have hk0 : 0 < k := by simp at h; omega
        refine ⟨by omega, by omega, ?_⟩
        rw [show ((k : Int) - 1).toNat = k - 1 by omega, getD_map I64 L (k - 1) (by omega), List.getD_eq_getElem?_getD, List.getElem?_eq_getElem (by omega)]; rfl
      ((try simp only [go_sem, loadL_a, g0, g1, g2, g3, hx, hxk, hcs, hne2, hw, Int.toNat_natCast, List.length_map]); (try ((first | refine hK _ _ ?_ | refine hKP _ _ _ ?_ | refine hKP _ _ (fun _ => ?_)); clear hK hKP K KP)); repeat (first | refine Stp.s ?_ | refine inBlock_exit' (by decide) ?_ | ((first | refine vc_region fun K KP hK hKP => ?_ | refine Stg.s ?_ | refine guardD_ret0 ?_ | refine exV_intro _ rfl ?_); (try simp only [go_sem, loadL_a, g0, g1, g2, g3, hx, hxk, hcs, hne2, hw, Int.toNat_natCast, List.length_map]); try ((first | refine hK _ _ ?_ | refine hKP _ _ _ ?_ | refine hKP _ _ (fun _ => ?_)); clear hK hKP K KP))))
      have hfin : (decide (0 < (k : Int)) && decide (L[k] ≤ L.getD (k - 1) 0)) = false := by
        rcases Nat.eq_zero_or_pos k with rfl | hk0
        · rfl
        · have := List.pairwise_iff_getElem.1 hL1 (k - 1) k (by omega) hlk (by omega)
          rw [List.getD_eq_getElem?_getD, List.getElem?_eq_getElem (by omega)]
          simp only [Option.getD_some]
          rw [Bool.and_eq_false_iff]; right; rw [decide_eq_false_iff_not]; omega
      refine vc_cond rfl (fun hq => ?_) (fun _ => ?_)
      · exfalso
        rw [hfin] at hq; cases hq
      · (repeat (first | refine Stp.s ?_ | refine inBlock_exit' (by decide) ?_ | ((first | refine vc_region fun K KP hK hKP => ?_ | refine Stg.s ?_ | refine guardD_ret0 ?_ | refine exV_intro _ rfl ?_); (try simp only [go_sem, loadL_a, i64_nsucc (show k < 1000000 by omega)]); try ((first | refine hK _ _ ?_ | refine hKP _ _ _ ?_ | refine hKP _ _ (fun _ => ?_)); clear hK hKP K KP))))
        exact ⟨k + 1, _, (by repeat (first | exact LeEnv.nil | refine LeEnv.same ?_ | refine LeEnv.top ?_)), Store.le_refl _, ⟨hlk, rfl⟩, by omega⟩
    · (repeat (first | refine Stp.s ?_ | refine inBlock_exit' (by decide) ?_ | ((first | refine vc_region fun K KP hK hKP => ?_ | refine Stg.s ?_ | refine guardD_ret0 ?_ | refine exV_intro _ rfl ?_); (try simp only [go_sem, loadL_a, i64_nsucc (show i < 1000000 by omega)]); try ((first | refine hK _ _ ?_ | refine hKP _ _ _ ?_ | refine hKP _ _ (fun _ => ?_)); clear hK hKP K KP))))
      exact ⟨i + 1, _, (by repeat (first | exact LeEnv.nil | refine LeEnv.same ?_ | refine LeEnv.top ?_)), Store.le_refl _, ⟨hlt, by omega, rfl⟩, by omega⟩
  · have hi' : cm.length ≤ i ∨ 60 ≤ i := by simp at hc; omega
    have hF := hearN_fair t n (cm.take i)
    have hM := hearN_le t n (cm.take i)
    rw [List.length_take] at hM
    generalize hearN t n (cm.take i) = c at *
    have hbn := hbb (.cells (rlC t n c))
    have hln : σ.le (σ1.set b (.cells (rlC t n c))) := hleb _
    generalize σ1.set b _ = σ2 at *
    have hS := fun l => sumC_le c 780 (fun j => by have := hM j; omega) l
    (repeat (first | refine Stp.s ?_ | refine inBlock_exit' (by decide) ?_ | ((first | refine vc_region fun K KP hK hKP => ?_ | refine Stg.s ?_ | refine guardD_ret0 ?_ | refine exV_intro _ rfl ?_); (try simp only [go_sem, loadL_a]); try ((first | refine hK _ _ ?_ | refine hKP _ _ _ ?_ | refine hKP _ _ (fun _ => ?_)); clear hK hKP K KP))))
    refine vc_loop (loopV (fun (k : Nat) => [t.v, I64 n, .lst 18 (cm.map comeV), .ptr b3 0, .top, .top, BV false, .ptr b 0, I64 0, ints (t.next n), .top, .top, .top, .top, U64 (sumC c ((t.next n).take k)), I64 k, .top, .top, .top, .top, .top, .top, .top, .top, .top, .top, .top, .top, .top, .top, .top, .top, .top, .top, .top, .top, .top, .top, .top, .top, .top, .top, .top, .top, .top, .top, .top, .top, .top, .top, .top, .top, .top, .top, .top, .top, .top, .top, .top, .top, .top, .top, .top, .top, .top, .top, .top, .top, .top, .top, .top, .top, .top, .top, .top, .top, .top, .top, .top, .top, .top, .top, .top, .top, .top, .top, .top, .top, .top, .top, .top, .top, .top, .top, .top, .top, .top, .top, .top, .top, .top, .top, .top, .top, .top, .top, .top, .top, .top, .top, .top, .top, .top, .top, .top, .top, .top, .top, .top, .top, .top, .top, .top, .top, .top, .top, .top, .top, .top, .top, .top, .top, .top, .top, .top, .top, .top, .top, .top, .top]) (fun k τ => k ≤ (t.next n).length ∧ τ = σ2) (fun k _ => (t.next n).length - k) 0 (by repeat (first | exact LeEnv.nil | refine LeEnv.same ?_ | refine LeEnv.top ?_)) ⟨by omega, rfl⟩ ?_)
    rintro k τ ⟨hk, rfl⟩
    (repeat (first | refine Stp.s ?_ | refine inBlock_exit' (by decide) ?_ | ((first | refine vc_region fun K KP hK hKP => ?_ | refine Stg.s ?_ | refine guardD_ret0 ?_ | refine exV_intro _ rfl ?_); (try simp only [go_sem, loadL_a, List.length_map]); try ((first | refine hK _ _ ?_ | refine hKP _ _ _ ?_ | refine hKP _ _ (fun _ => ?_)); clear hK hKP K KP))))
    refine vc_cond rfl (fun hc => ?_) (fun hc => ?_)
    · have hlk : k < (t.next n).length := by simpa using hc
      have g2 := le_eq (show (0 : Int) ≤ k by omega)
      have g3 := lt_eq (show (k : Int) < (t.next n).length by omega)
      have hxk : ((t.next n).map I64).getD k .top = I64 (t.next n)[k] := getD_map I64 _ k hlk
      have hst := sumC_take c (t.next n) k hlk
      have hmem := List.getElem_mem hlk
      have hS1 := hS ((t.next n).take (k + 1))
      rw [List.length_take] at hS1
      generalize (t.next n)[k] = m at *
      (repeat (first | refine Stp.s ?_ | refine inBlock_exit' (by decide) ?_ | ((first | refine vc_region fun K KP hK hKP => ?_ | refine Stg.s ?_ | refine guardD_ret0 ?_ | refine exV_intro _ rfl ?_); (try simp only [go_sem, loadL_a, g2, g3, hxk, Int.toNat_natCast, List.length_map]); try ((first | refine hK _ _ ?_ | refine hKP _ _ _ ?_ | refine hKP _ _ (fun _ => ?_)); clear hK hKP K KP))))
      refine callV_quiet en27 (rcount b _ t hok n c hbn hn0 m) ?_
      rw [if_pos hmem]
      have hwu : IntKind.u64.wrap ((sumC c ((t.next n).take k) : Int) + ((c (m - 1).toNat).1 : Int)) = (sumC c ((t.next n).take (k + 1)) : Int) := by
        have : (c (m - 1).toNat).1 = (c (idx m)).1 := rfl
        rw [this, u64_in (by omega) (by omega), hst]; omega
      ((try simp only [go_sem, loadL_a, hwu, i64_nsucc (show k < 1000000 by omega)]); (try ((first | refine hK _ _ ?_ | refine hKP _ _ _ ?_ | refine hKP _ _ (fun _ => ?_)); clear hK hKP K KP)); repeat (first | refine Stp.s ?_ | refine inBlock_exit' (by decide) ?_ | ((first | refine vc_region fun K KP hK hKP => ?_ | refine Stg.s ?_ | refine guardD_ret0 ?_ | refine exV_intro _ rfl ?_); (try simp only [go_sem, loadL_a, hwu, i64_nsucc (show k < 1000000 by omega)]); try ((first | refine hK _ _ ?_ | refine hKP _ _ _ ?_ | refine hKP _ _ (fun _ => ?_)); clear hK hKP K KP))))
      exact ⟨k + 1, _, (by repeat (first | exact LeEnv.nil | refine LeEnv.same ?_ | refine LeEnv.top ?_)), Store.le_refl _, ⟨hlk, rfl⟩, by omega⟩
    · have hkk : k = (t.next n).length := by simp at hc; omega
      subst hkk
      rw [List.take_length]
      have hS2 := hS (t.next n)
      (repeat (first | refine Stp.s ?_ | refine inBlock_exit' (by decide) ?_ | ((first | refine vc_region fun K KP hK hKP => ?_ | refine Stg.s ?_ | refine guardD_ret0 ?_ | refine exV_intro _ rfl ?_); (try simp only [go_sem, loadL_a]); try ((first | refine hK _ _ ?_ | refine hKP _ _ _ ?_ | refine hKP _ _ (fun _ => ?_)); clear hK hKP K KP))))
      refine vc_loop (loopV (fun (k : Nat) => [t.v, I64 n, .lst 18 (cm.map comeV), .ptr b3 0, .top, .top, BV false, .ptr b 0, I64 0, ints (t.next n), .top, .top, .top, .top, U64 (sumC c (t.next n)), .top, .top, .top, I64 k, .top, .top, .top, .top, .top, .top, .top, .top, .top, .top, .top, .top, .top, .top, .top, .top, .top, .top, .top, .top, .top, .top, .top, .top, .top, .top, .top, .top, .top, .top, .top, .top, .top, .top, .top, .top, .top, .top, .top, .top, .top, .top, .top, .top, .top, .top, .top, .top, .top, .top, .top, .top, .top, .top, .top, .top, .top, .top, .top, .top, .top, .top, .top, .top, .top, .top, .top, .top, .top, .top, .top, .top, .top, .top, .top, .top, .top, .top, .top, .top, .top, .top, .top, .top, .top, .top, .top, .top, .top, .top, .top, .top, .top, .top, .top, .top, .top, .top, .top, .top, .top, .top, .top, .top, .top, .top, .top, .top, .top, .top, .top, .top, .top, .top, .top, .top, .top, .top, .top, .top, .top]) (fun k υ => k ≤ (t.next n).length ∧ υ = τ) (fun k _ => (t.next n).length - k) 0 (by repeat (first | exact LeEnv.nil | refine LeEnv.same ?_ | refine LeEnv.top ?_)) ⟨by omega, rfl⟩ ?_)
      rintro k υ ⟨hk2, rfl⟩
      (repeat (first | refine Stp.s ?_ | refine inBlock_exit' (by decide) ?_ | ((first | refine vc_region fun K KP hK hKP => ?_ | refine Stg.s ?_ | refine guardD_ret0 ?_ | refine exV_intro _ rfl ?_); (try simp only [go_sem, loadL_a, List.length_map]); try ((first | refine hK _ _ ?_ | refine hKP _ _ _ ?_ | refine hKP _ _ (fun _ => ?_)); clear hK hKP K KP))))
      refine vc_cond rfl (fun hc => ?_) (fun hc => ?_)
      · have hlk : k < (t.next n).length := by simpa using hc
        have g2 := le_eq (show (0 : Int) ≤ k by omega)
        have g3 := lt_eq (show (k : Int) < (t.next n).length by omega)
        have hxk : ((t.next n).map I64).getD k .top = I64 (t.next n)[k] := getD_map I64 _ k hlk
        have hmem := List.getElem_mem hlk
        generalize (t.next n)[k] = m at *
        have hfm := hF m hmem
        (repeat (first | refine Stp.s ?_ | refine inBlock_exit' (by decide) ?_ | ((first | refine vc_region fun K KP hK hKP => ?_ | refine Stg.s ?_ | refine guardD_ret0 ?_ | refine exV_intro _ rfl ?_); (try simp only [go_sem, loadL_a, g2, g3, hxk, Int.toNat_natCast, List.length_map]); try ((first | refine hK _ _ ?_ | refine hKP _ _ _ ?_ | refine hKP _ _ (fun _ => ?_)); clear hK hKP K KP))))
        refine callV_quiet en27 (rcount b _ t hok n c hbn hn0 m) ?_
        rw [if_pos hmem, show (c (m - 1).toNat).1 = (c (idx m)).1 from rfl, show (c (m - 1).toNat).2 = (c (idx m)).2 from rfl]
        have hwu : IntKind.u64.wrap ((sumC c (t.next n) : Int) - ((c (idx m)).1 : Int)) = (sumC c (t.next n) : Int) - ((c (idx m)).1 : Int) := u64_in (by omega) (by omega)
        ((try simp only [go_sem, loadL_a, hwu]); (try ((first | refine hK _ _ ?_ | refine hKP _ _ _ ?_ | refine hKP _ _ (fun _ => ?_)); clear hK hKP K KP)); repeat (first | refine Stp.s ?_ | refine inBlock_exit' (by decide) ?_ | ((first | refine vc_region fun K KP hK hKP => ?_ | refine Stg.s ?_ | refine guardD_ret0 ?_ | refine exV_intro _ rfl ?_); (try simp only [go_sem, loadL_a, hwu]); try ((first | refine hK _ _ ?_ | refine hKP _ _ _ ?_ | refine hKP _ _ (fun _ => ?_)); clear hK hKP K KP))))
        refine vc_cond rfl (fun hq => ?_) (fun _ => ?_)
        · exfalso; simp at hq; omega
        · (repeat (first | refine Stp.s ?_ | refine inBlock_exit' (by decide) ?_ | ((first | refine vc_region fun K KP hK hKP => ?_ | refine Stg.s ?_ | refine guardD_ret0 ?_ | refine exV_intro _ rfl ?_); (try simp only [go_sem, loadL_a, i64_nsucc (show k < 1000000 by omega)]); try ((first | refine hK _ _ ?_ | refine hKP _ _ _ ?_ | refine hKP _ _ (fun _ => ?_)); clear hK hKP K KP))))
          exact ⟨k + 1, _, (by repeat (first | exact LeEnv.nil | refine LeEnv.same ?_ | refine LeEnv.top ?_)), Store.le_refl _, ⟨hlk, rfl⟩, by omega⟩
      · (repeat (first | refine Stp.s ?_ | refine inBlock_exit' (by decide) ?_ | ((first | refine vc_region fun K KP hK hKP => ?_ | refine Stg.s ?_ | refine guardD_ret0 ?_ | refine exV_intro _ rfl ?_); (try simp only [go_sem, loadL_a]); try ((first | refine hK _ _ ?_ | refine hKP _ _ _ ?_ | refine hKP _ _ (fun _ => ?_)); clear hK hKP K KP))))
        ((try simp only [go_sem, loadL_a]); first | refine callV_pure (alive20) ?_ | refine guardC_q0 (fun _ => callV_pure (alive20) ⟨rfl, rfl⟩) ?_)
        ((try simp only [go_sem, loadL_a]); (try ((first | refine hK _ _ ?_ | refine hKP _ _ _ ?_ | refine hKP _ _ (fun _ => ?_)); clear hK hKP K KP)); repeat (first | refine Stp.s ?_ | refine inBlock_exit' (by decide) ?_ | ((first | refine vc_region fun K KP hK hKP => ?_ | refine Stg.s ?_ | refine guardD_ret0 ?_ | refine exV_intro _ rfl ?_); (try simp only [go_sem, loadL_a]); try ((first | refine hK _ _ ?_ | refine hKP _ _ _ ?_ | refine hKP _ _ (fun _ => ?_)); clear hK hKP K KP))))
        (simp only [postV, resV, oneOf, List.getD_cons_succ, List.getD_cons_zero, and_true, true_and])
        exact Ends.le rfl hln
theorem relaysums_lifted (os : Os) (started : os.Started) (H : Type) (enc : TypeId × Value → H) :
    ReturnsInHanded {} Try.checked os 4 .any (Rows.relaySumsSpec.pre6 enc Try.prog Try.f4 Rows.relaySumsRow.domain false) (Rows.relaySumsSpec.post enc Try.prog Try.f4 false true false false) := by
  refine law_lift (C := Try.checked) (tb := 4) own_knob started (by kernel_rfl) Try.func4 laid_out
    (ChangeSpec.witness6 (enc := enc) (C := Try.checked) false ⟨#[], #[.agg #[.int .i64 0, .int .i64 0, .int .i64 0, .int .i64 0, .int .i64 0, .int .i64 0, .int .i64 0, .int .i64 0, .int .i64 0, .int .i64 0, .int .i64 0, .int .i64 0, .slice none 0 0], .int .i64 0, .slice none 0 0], []⟩ 8 (by kernel_rfl) (by kernel_rfl) (by kernel_rfl) (by kernel_rfl))
    rfl rfl Try.underlying4 (by kernel_rfl) (fun ds hd => ?_) ?_
  · rcases ds with _ | ⟨a0, ds⟩
    · cases hd
    rcases ds with _ | ⟨a1, ds⟩
    · cases hd
    rcases ds with _ | ⟨a2, ds⟩
    · cases hd
    rcases ds with _ | ⟨b, ds⟩
    · rfl
    · cases hd
  · intro W base args ds ps hval0 hA0
    have hval : ∀ (j : Nat) t v, Try.f4.params[j]? = some t → args[j]? = some v → Value.okWide Try.prog W .any base t v := hval0
    have hA : DataW.TrodAll enc Try.prog W 0 (fun _ => true) true Try.f4.params.toList args.toList ds ps := hA0
    rw [Try.params4] at hA hval
    obtain ⟨v0, v1, v2, d0, d1, d2, p0, p1, p2, rfl, rfl, rfl, h0, h1, h2⟩ := trodAll_three hA
    obtain ⟨vs0, rfl, r0⟩ := arg_agg (.inl ⟨_, Try.underlying25⟩) (hval 0 25 v0 rfl rfl) h0
    obtain ⟨t, ht, l0⟩ := rd_tree r0
    obtain ⟨n, rfl, hn⟩ := arg_int Try.underlying3 (hval 1 3 v1 rfl rfl) h1
    obtain ⟨cm, hcm, l2⟩ := arg_comes (hval 2 42 v2 rfl rfl) h2
    refine ⟨[t.v, I64 n, .lst 18 (cm.map comeV)], LR.cons (VR.mk_agg l0) (LR.cons (.val _) (LR.cons (l2) (LR.nil _))), ?_⟩
    exact ((relaysums_pure t ht n cm hcm.1).2 _).mono fun r σ' q => q.1
theorem relaysums_holds : Rows.RelaySumsSaid :=
  OpenClaim.holds_of_wide 4 Try.f4 rfl rfl rfl rfl rfl rfl rfl ⟨rfl, rfl, rfl, rfl, rfl⟩ rfl rfl rfl rfl rfl (by kernel_rfl) Try.func4 (by kernel_rfl)
    (of_decide_eq_true (by kernel_rfl)) (by unfold Func.isWrapper; first | (rw [if_pos (by decide +kernel)]; kernel_rfl) | (rw [if_neg (by decide +kernel)]; exact ⟨rfl, rfl⟩))
    (fun os started H enc _ => relaysums_lifted os started H enc)
#print axioms relaysums_holds

end Go.Proofs.Ytbgagffpmdlilaa
