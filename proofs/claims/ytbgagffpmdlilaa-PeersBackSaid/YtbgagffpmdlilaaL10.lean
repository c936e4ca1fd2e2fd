/- truglaw21.PeersBack returns true for every input and leaves its arguments as they were: no condition. -/
import Derived.Test.YtbgagffpmdlilaaLb
import Derived.Test.YtbgagffpmdlilaaP13
namespace Go.Proofs.Ytbgagffpmdlilaa
set_option linter.unusedSimpArgs false
set_option linter.unusedVariables false
open Go.Proofs Go.ChangeShapes Go.WideShapes Go.ChangeAt Go.RowKit
attribute [local irreducible] vc vcOps vcDraw vcK vcKP vcDK vcDB HWp HCalls postV Ex.then Ex.inBlock stepD callV appendV guardC guardD exV effV opV loadV storeV indexAddrV indexV sliceV
set_option maxRecDepth 100000
set_option maxHeartbeats 4000000

section
variable {H : Type} {enc : TypeId × Value → H} {W : World}
theorem drop_1 (cs : List Value) (i : Nat) : cs.drop i = (cs.drop i).take 1 ++ cs.drop (i + 1) := by
  conv => lhs; rw [← List.take_append_drop 1 (cs.drop i)]
  rw [List.drop_drop]
theorem rd_op {cs : List Value} (h : Rd enc Try.prog W 67 cs) : ∃ o : O21, True ∧ LR (HeapI W) (opV21 o).cells cs := by
  obtain ⟨h1, h2⟩ := rd_struct Try.underlying67 h
  rw [ce67] at h1
  have f0 : Rd enc Try.prog W 3 ((cs.drop 0).take (Try.prog.cellsOf 3)) := h2 0 _ rfl
  have f1 : Rd enc Try.prog W 3 ((cs.drop 1).take (Try.prog.cellsOf 3)) := h2 1 _ rfl
  have f2 : Rd enc Try.prog W 3 ((cs.drop 2).take (Try.prog.cellsOf 3)) := h2 2 _ rfl
  have f3 : Rd enc Try.prog W 4 ((cs.drop 3).take (Try.prog.cellsOf 4)) := h2 3 _ rfl
  rw [ce3] at f0 f1 f2
  rw [ce4] at f3
  obtain ⟨a, ha, _⟩ := rd_int Try.underlying3 f0
  obtain ⟨b, hb, _⟩ := rd_int Try.underlying3 f1
  obtain ⟨c, hc, _⟩ := rd_int Try.underlying3 f2
  obtain ⟨d, hd⟩ := rd_bool Try.underlying4 f3
  refine ⟨⟨a, b, c, d⟩, trivial, ?_⟩
  have e0 := drop_1 cs 0
  have e1 := drop_1 cs 1
  have e2 := drop_1 cs 2
  have e3 : (cs.drop 3).take 1 = cs.drop 3 := List.take_of_length_le (by rw [List.length_drop]; omega)
  rw [ha, List.drop_zero] at e0
  rw [hb] at e1
  rw [hc] at e2
  rw [e3] at hd
  rw [e0, e1, e2, hd]
  exact LR.cons (.val _) (LR.cons (.val _) (LR.cons (.val _) (LR.cons (.val _) (LR.nil _))))
theorem arg_ops {base : Nat} {v : Value} {d : DataW H} {ps : List MemPlace} (hval : Value.okWide Try.prog W .any base 61 v) (h : DataW.Trod enc Try.prog W 0 (fun _ => true) true 61 v d ps) :
    ∃ l : List O21, ((∀ a ∈ l, True) ∧ l.length ≤ maxLen) ∧ VR (HeapI W) (.lst 4 (l.map opV21)) v :=
  arg_slice opV21 (fun _ => True) Try.underlying61 ce67 (fun _ _ => rfl) (by decide) (fun cs' h' => rd_op h') hval h
end
theorem good_srt {n : Int} {s : Subs} (h : ∀ i, Good21 n (s i)) : ∀ i, Srt (s i).2 := fun i => (h i).pe
theorem peersback_pure (ops more : List O21) : HPure Try.prog 7 [.lst 4 (ops.map opV21), .lst 4 (more.map opV21)] (BV true) := by
  (refine HPure.of en7 fun σ => ?_); (refine HCalls.of_vc Try.func7 rfl ?_; rw [Try.ntmps7, Try.results7]; simp only [List.length_cons, List.length_nil, Nat.reduceAdd, Nat.reduceSub, List.replicate, List.cons_append, List.nil_append])
  (repeat (first | refine Stp.s ?_ | refine inBlock_exit' (by decide) ?_ | ((first | refine vc_region fun K KP hK hKP => ?_ | refine Stg.s ?_ | refine guardD_ret0 ?_ | refine exV_intro _ rfl ?_); (try simp only [go_sem, loadL_a]); try ((first | refine hK _ _ ?_ | refine hKP _ _ _ ?_ | refine hKP _ _ (fun _ => ?_)); clear hK hKP K KP))))
  refine callV_new en28 (pnew_ok 1 (by decide) σ) (fun b hb => ?_)
  have hA := Store.set_same σ b (.cells (peC 1 Sub0))
  have hle : σ.le (σ.set b (.cells (peC 1 Sub0))) := Store.le_set hb (Store.le_refl σ)
  generalize σ.set b _ = σ1 at *
  ((try simp only [go_sem, loadL_a]); (try ((first | refine hK _ _ ?_ | refine hKP _ _ _ ?_ | refine hKP _ _ (fun _ => ?_)); clear hK hKP K KP)); repeat (first | refine Stp.s ?_ | refine inBlock_exit' (by decide) ?_ | ((first | refine vc_region fun K KP hK hKP => ?_ | refine Stg.s ?_ | refine guardD_ret0 ?_ | refine exV_intro _ rfl ?_); (try simp only [go_sem, loadL_a]); try ((first | refine hK _ _ ?_ | refine hKP _ _ _ ?_ | refine hKP _ _ (fun _ => ?_)); clear hK hKP K KP))))
  refine vc_cond rfl (fun hq => by cases hq) (fun _ => ?_)
  (repeat (first | refine Stp.s ?_ | refine inBlock_exit' (by decide) ?_ | ((first | refine vc_region fun K KP hK hKP => ?_ | refine Stg.s ?_ | refine guardD_ret0 ?_ | refine exV_intro _ rfl ?_); (try simp only [go_sem, loadL_a]); try ((first | refine hK _ _ ?_ | refine hKP _ _ _ ?_ | refine hKP _ _ (fun _ => ?_)); clear hK hKP K KP))))
  refine vc_loop (loopV (fun (i : Nat) => [.lst 4 (ops.map opV21), .lst 4 (more.map opV21), .top, .top, BV false, .ptr b 0, I64 0, I64 i, .top, .top, .top, .top, .top, .top, .top, .top, .top, .top, .top, .top, .top, .top, .top, .top, .top, .top, .top, .top, .top, .top, .top, .top, .top, .top, .top, .top, .top, .top, .top, .top, .top, .top, .top, .top, .top, .top, .top, .top, .top, .top, .top, .top, .top, .top, .top, .top, .top, .top, .top, .top, .top, .top, .top, .top, .top, .top, .top, .top, .top, .top, .top, .top, .top, .top, .top, .top, .top, .top, .top, .top, .top, .top, .top, .top, .top, .top, .top, .top, .top, .top, .top, .top, .top, .top, .top, .top, .top, .top, .top, .top, .top, .top, .top, .top, .top]) (fun i τ => i ≤ ops.length ∧ i ≤ 100 ∧ σ.le τ ∧ ∃ s, τ b = some (.cells (peC 1 s)) ∧ (∀ j, Good21 1 (s j))) (fun i _ => 100 - i) 0 (by repeat (first | exact LeEnv.nil | refine LeEnv.same ?_ | refine LeEnv.top ?_)) ⟨by omega, by omega, hle, Sub0, hA, sub0_good 1⟩ ?_)
  rintro i τ ⟨hi, hi60, hl, s, hs, gs⟩
  clear hA hle
  (repeat (first | refine Stp.s ?_ | refine inBlock_exit' (by decide) ?_ | ((first | refine vc_region fun K KP hK hKP => ?_ | refine Stg.s ?_ | refine guardD_ret0 ?_ | refine exV_intro _ rfl ?_); (try simp only [go_sem, loadL_a, List.length_map]); try ((first | refine hK _ _ ?_ | refine hKP _ _ _ ?_ | refine hKP _ _ (fun _ => ?_)); clear hK hKP K KP))))
  refine vc_cond rfl (fun hq => ?_) (fun hq => ?_)
  · have hlt : i < ops.length ∧ i < 100 := by simp at hq; omega
    obtain ⟨hlt, hlt60⟩ := hlt
    have g0 := le_eq (show (0 : Int) ≤ i by omega)
    have g1 := lt_eq (show (i : Int) < ops.length by omega)
    have hx : (ops.map opV21).getD i .top = opV21 ops[i] := getD_map opV21 ops i hlt
    generalize ops[i] = o at *
    have hcs : (opV21 o).cells = [I64 o.k, I64 o.s, I64 o.n, BV o.y] := rfl
    have hdo := do21 b τ 1 s hs (by decide) (good_srt gs) o
    have gs2 := opR_good (o := o) gs
    have hs2 := Store.set_same τ b (.cells (peC 1 (opR 1 s o).2))
    have hl2 := Store.le_over (k := .cells (peC 1 (opR 1 s o).2)) hb hl
    generalize τ.set b (.cells (peC 1 (opR 1 s o).2)) = τ2 at *
    (repeat (first | refine Stp.s ?_ | refine inBlock_exit' (by decide) ?_ | ((first | refine vc_region fun K KP hK hKP => ?_ | refine Stg.s ?_ | refine guardD_ret0 ?_ | refine exV_intro _ rfl ?_); (try simp only [go_sem, loadL_a, g0, g1, hx, hcs, Int.toNat_natCast, List.length_map]); try ((first | refine hK _ _ ?_ | refine hKP _ _ _ ?_ | refine hKP _ _ (fun _ => ?_)); clear hK hKP K KP))))
    refine callV_ends en29 hdo ?_
    ((try simp only [go_sem, loadL_a, i64_nsucc (show i < 1000000 by omega)]); (try ((first | refine hK _ _ ?_ | refine hKP _ _ _ ?_ | refine hKP _ _ (fun _ => ?_)); clear hK hKP K KP)); repeat (first | refine Stp.s ?_ | refine inBlock_exit' (by decide) ?_ | ((first | refine vc_region fun K KP hK hKP => ?_ | refine Stg.s ?_ | refine guardD_ret0 ?_ | refine exV_intro _ rfl ?_); (try simp only [go_sem, loadL_a, i64_nsucc (show i < 1000000 by omega)]); try ((first | refine hK _ _ ?_ | refine hKP _ _ _ ?_ | refine hKP _ _ (fun _ => ?_)); clear hK hKP K KP))))
    exact ⟨i + 1, _, (by repeat (first | exact LeEnv.nil | refine LeEnv.same ?_ | refine LeEnv.top ?_)), Store.le_refl _, ⟨hlt, by omega, hl2, _, hs2, gs2⟩, by omega⟩
  · clear hq hi hi60
    have hinv := good_inv gs
    have hlen : (peB 1 s).length ≤ 1000000 := by
      have := subsB_len (fun i => (hinv.ok.pe i).len) 12
      have l1 := numB_len (1 : Int).toNat
      unfold peB; rw [List.length_append]; omega
    have hlen2 : ∀ p : Prop, ((⟨(peB 1 s).toArray⟩ : ByteArray).size ≤ maxLen ∧ p) = p := fun p => by
      rw [maxLen_i]; exact propext ⟨fun h => h.2, fun h => ⟨by show (peB 1 s).length ≤ _; omega, h⟩⟩
    (repeat (first | refine Stp.s ?_ | refine inBlock_exit' (by decide) ?_ | ((first | refine vc_region fun K KP hK hKP => ?_ | refine Stg.s ?_ | refine guardD_ret0 ?_ | refine exV_intro _ rfl ?_); (try simp only [go_sem, loadL_a]); try ((first | refine hK _ _ ?_ | refine hKP _ _ _ ?_ | refine hKP _ _ (fun _ => ?_)); clear hK hKP K KP))))
    ((try simp only [go_sem, loadL_a]); refine callV_quiet en41 (save21 b τ 1 s (by decide) hinv.ok hs) ?_)
    ((try simp only [go_sem, loadL_a, hlen2]); (try ((first | refine hK _ _ ?_ | refine hKP _ _ _ ?_ | refine hKP _ _ (fun _ => ?_)); clear hK hKP K KP)); repeat (first | refine Stp.s ?_ | refine inBlock_exit' (by decide) ?_ | ((first | refine vc_region fun K KP hK hKP => ?_ | refine Stg.s ?_ | refine guardD_ret0 ?_ | refine exV_intro _ rfl ?_); (try simp only [go_sem, loadL_a, hlen2]); try ((first | refine hK _ _ ?_ | refine hKP _ _ _ ?_ | refine hKP _ _ (fun _ => ?_)); clear hK hKP K KP))))
    refine callV_new en42 (by have := pload (peB 1 s) (by omega) τ; rw [loaded_ok (by decide) hinv] at this; exact this) (fun c hc => ?_)
    have hcb : c ≠ b := fun e => by rw [e, hs] at hc; cases hc
    have hcσ : σ c = none := Store.none_of_le hl hc
    have ht := Store.set_same τ c (.cells (peC 1 s))
    have hs := Store.keep hc hs (.cells (peC 1 s))
    have hl := Store.le_set hc hl (k := .cells (peC 1 s))
    generalize τ.set c _ = τ1 at *
    ((try simp only [go_sem, loadL_a]); (try ((first | refine hK _ _ ?_ | refine hKP _ _ _ ?_ | refine hKP _ _ (fun _ => ?_)); clear hK hKP K KP)); repeat (first | refine Stp.s ?_ | refine inBlock_exit' (by decide) ?_ | ((first | refine vc_region fun K KP hK hKP => ?_ | refine Stg.s ?_ | refine guardD_ret0 ?_ | refine exV_intro _ rfl ?_); (try simp only [go_sem, loadL_a]); try ((first | refine hK _ _ ?_ | refine hKP _ _ _ ?_ | refine hKP _ _ (fun _ => ?_)); clear hK hKP K KP))))
    ((repeat first | refine Stp.s ?_ | refine inBlock_exit' (by decide) ?_); refine vc_draw mixed [ ] [0, 1, 2, 3, 4, 5, 6, 7, 8, 9, 10, 11, 12, 13 ] [ ] [] (fun υ => υ c = some (.cells (peC 1 s))) (by kernel_rfl) (by kernel_rfl) (by kernel_rfl) (ht) fun K KP hK hKP => ?_; simp only [go_sem, loadL_a]; try ((first | refine hK _ _ ?_ | refine hKP _ _ _ ?_ | refine hKP _ _ (fun _ => ?_)); clear hK hKP K KP))
    ((try simp only [go_sem, loadL_a]); (try ((first | refine hK _ _ ?_ | refine hKP _ _ _ ?_ | refine hKP _ _ (fun _ => ?_)); clear hK hKP K KP)); repeat (first | refine Stp.s ?_ | refine inBlock_exit' (by decide) ?_ | ((first | refine vc_region fun K KP hK hKP => ?_ | refine Stg.s ?_ | refine guardD_ret0 ?_ | refine exV_intro _ rfl ?_); (try simp only [go_sem, loadL_a]); try ((first | refine hK _ _ ?_ | refine hKP _ _ _ ?_ | refine hKP _ _ (fun _ => ?_)); clear hK hKP K KP))))
    refine guardD_q0 (fun _ τ hτ => callV_quiet en41 (save21 c τ 1 s (by decide) hinv.ok hτ) ⟨rfl, rfl⟩) ?_
    ((try simp only [go_sem, loadL_a, hlen2]); (try ((first | refine hK _ _ ?_ | refine hKP _ _ _ ?_ | refine hKP _ _ (fun _ => ?_)); clear hK hKP K KP)); repeat (first | refine Stp.s ?_ | refine inBlock_exit' (by decide) ?_ | ((first | refine vc_region fun K KP hK hKP => ?_ | refine Stg.s ?_ | refine guardD_ret0 ?_ | refine exV_intro _ rfl ?_); (try simp only [go_sem, loadL_a, hlen2]); try ((first | refine hK _ _ ?_ | refine hKP _ _ _ ?_ | refine hKP _ _ (fun _ => ?_)); clear hK hKP K KP))))
    refine guardD_q0 (x := .val (.string ⟨(peB 1 s).toArray⟩)) (fun _ _ _ => ⟨peB 1 s, rfl, ⟨_, rfl, Try.underlying5⟩, rfl⟩) ?_
    ((try simp only [go_sem, loadL_a, bin_sne, List.length_map, beq_self_eq_true, Bool.not_true]); (try ((first | refine hK _ _ ?_ | refine hKP _ _ _ ?_ | refine hKP _ _ (fun _ => ?_)); clear hK hKP K KP)); repeat (first | refine Stp.s ?_ | refine inBlock_exit' (by decide) ?_ | ((first | refine vc_region fun K KP hK hKP => ?_ | refine Stg.s ?_ | refine guardD_ret0 ?_ | refine exV_intro _ rfl ?_); (try simp only [go_sem, loadL_a, bin_sne, List.length_map, beq_self_eq_true, Bool.not_true]); try ((first | refine hK _ _ ?_ | refine hKP _ _ _ ?_ | refine hKP _ _ (fun _ => ?_)); clear hK hKP K KP))))
    have hpos := peB_pos 1 s
    have hp0 : (((peB 1 s).length : Int) == 0) = false := by rw [beq_eq_false_iff_ne]; omega
    refine vc_cond rfl (fun hq => ?_) (fun _ => ?_)
    · exact absurd (show (((peB 1 s).length : Int) == 0) = true from hq) (by rw [hp0]; decide)
    (repeat (first | refine Stp.s ?_ | refine inBlock_exit' (by decide) ?_ | ((first | refine vc_region fun K KP hK hKP => ?_ | refine Stg.s ?_ | refine guardD_ret0 ?_ | refine exV_intro _ rfl ?_); (try simp only [go_sem, loadL_a]); try ((first | refine hK _ _ ?_ | refine hKP _ _ _ ?_ | refine hKP _ _ (fun _ => ?_)); clear hK hKP K KP))))
    refine vc_loop (loopV (fun (i : Nat) => [.lst 4 (ops.map opV21), .lst 4 (more.map opV21), .top, .top, BV false, .ptr b 0, I64 0, .top, .lst 1 ((peB 1 s).map byteV), .ptr c 0, I64 i, .top, .top, .top, .top, .top, .top, .top, .top, .top, .top, .top, .top, .top, .top, .top, .top, .top, .top, .top, .top, .top, .top, .top, .top, .top, .top, .top, .top, .top, .top, .top, .top, .top, .top, .top, .top, .top, .top, .top, .top, .top, .top, .top, .top, .top, .top, .top, .top, .top, .top, .top, .top, .top, .top, .top, .top, .top, .top, .top, .top, .top, .top, .top, .top, .top, .top, .top, .top, .top, .top, .top, .top, .top, .top, .top, .top, .top, .top, .top, .top, .top, .top, .top, .top, .top, .top, .top, .top, .top, .top, .top, .top, .top, .top]) (fun i τ => i ≤ more.length ∧ i ≤ 60 ∧ σ.le τ ∧ ∃ u, τ b = some (.cells (peC 1 u)) ∧ τ c = some (.cells (peC 1 u)) ∧ (∀ j, Good21 1 (u j))) (fun i _ => 60 - i) 0 (by repeat (first | exact LeEnv.nil | refine LeEnv.same ?_ | refine LeEnv.top ?_)) ⟨by omega, by omega, hl, s, hs, ht, gs⟩ ?_)
    clear hs ht hl gs hp0
    rintro i τ ⟨hi, hi60, hl, u, hs, ht, gs⟩
    (repeat (first | refine Stp.s ?_ | refine inBlock_exit' (by decide) ?_ | ((first | refine vc_region fun K KP hK hKP => ?_ | refine Stg.s ?_ | refine guardD_ret0 ?_ | refine exV_intro _ rfl ?_); (try simp only [go_sem, loadL_a, List.length_map]); try ((first | refine hK _ _ ?_ | refine hKP _ _ _ ?_ | refine hKP _ _ (fun _ => ?_)); clear hK hKP K KP))))
    refine vc_cond rfl (fun hq => ?_) (fun hq => ?_)
    · have hlt : i < more.length ∧ i < 60 := by simp at hq; omega
      obtain ⟨hlt, hlt60⟩ := hlt
      have g0 := le_eq (show (0 : Int) ≤ i by omega)
      have g1 := lt_eq (show (i : Int) < more.length by omega)
      have hx : (more.map opV21).getD i .top = opV21 more[i] := getD_map opV21 more i hlt
      generalize more[i] = o at *
      have hcs : (opV21 o).cells = [I64 o.k, I64 o.s, I64 o.n, BV o.y] := rfl
      have hdo := do21 b τ 1 u hs (by decide) (good_srt gs) o
      have gs2 := opR_good (o := o) gs
      have hs2 := Store.set_same τ b (.cells (peC 1 (opR 1 u o).2))
      have ht2 := (Store.set_other τ (.cells (peC 1 (opR 1 u o).2)) hcb).trans ht
      have hl2 := Store.le_over (k := .cells (peC 1 (opR 1 u o).2)) hb hl
      generalize τ.set b (.cells (peC 1 (opR 1 u o).2)) = τ2 at *
      have hdo2 := do21 c τ2 1 u ht2 (by decide) (good_srt gs) o
      have ht3 := Store.set_same τ2 c (.cells (peC 1 (opR 1 u o).2))
      have hs3 := (Store.set_other τ2 (.cells (peC 1 (opR 1 u o).2)) (Ne.symm hcb)).trans hs2
      have hl3 := Store.le_over (k := .cells (peC 1 (opR 1 u o).2)) hcσ hl2
      generalize τ2.set c (.cells (peC 1 (opR 1 u o).2)) = τ3 at *
      (repeat (first | refine Stp.s ?_ | refine inBlock_exit' (by decide) ?_ | ((first | refine vc_region fun K KP hK hKP => ?_ | refine Stg.s ?_ | refine guardD_ret0 ?_ | refine exV_intro _ rfl ?_); (try simp only [go_sem, loadL_a]); try ((first | refine hK _ _ ?_ | refine hKP _ _ _ ?_ | refine hKP _ _ (fun _ => ?_)); clear hK hKP K KP))))
      ((repeat first | refine Stp.s ?_ | refine inBlock_exit' (by decide) ?_); refine vc_draw mixed [ 5, 11 ] [0, 1, 2, 3, 4, 6, 7, 8, 9, 10, 5, 11, 12 ] [ ] [] (fun _ => True) (by kernel_rfl) (by kernel_rfl) (by kernel_rfl) (trivial) fun K KP hK hKP => ?_; simp only [go_sem, loadL_a, g0, g1, hx, hcs, Int.toNat_natCast, List.length_map]; try ((first | refine hK _ _ ?_ | refine hKP _ _ _ ?_ | refine hKP _ _ (fun _ => ?_)); clear hK hKP K KP))
      ((try simp only [go_sem, loadL_a, g0, g1, hx, hcs, Int.toNat_natCast, List.length_map]); (try ((first | refine hK _ _ ?_ | refine hKP _ _ _ ?_ | refine hKP _ _ (fun _ => ?_)); clear hK hKP K KP)); repeat (first | refine Stp.s ?_ | refine inBlock_exit' (by decide) ?_ | ((first | refine vc_region fun K KP hK hKP => ?_ | refine Stg.s ?_ | refine guardD_ret0 ?_ | refine exV_intro _ rfl ?_); (try simp only [go_sem, loadL_a, g0, g1, hx, hcs, Int.toNat_natCast, List.length_map]); try ((first | refine hK _ _ ?_ | refine hKP _ _ _ ?_ | refine hKP _ _ (fun _ => ?_)); clear hK hKP K KP))))
      refine callV_ends en29 hdo ?_
      ((try simp only [go_sem, loadL_a, g0, g1, hx, hcs, Int.toNat_natCast, List.length_map]); (try ((first | refine hK _ _ ?_ | refine hKP _ _ _ ?_ | refine hKP _ _ (fun _ => ?_)); clear hK hKP K KP)); repeat (first | refine Stp.s ?_ | refine inBlock_exit' (by decide) ?_ | ((first | refine vc_region fun K KP hK hKP => ?_ | refine Stg.s ?_ | refine guardD_ret0 ?_ | refine exV_intro _ rfl ?_); (try simp only [go_sem, loadL_a, g0, g1, hx, hcs, Int.toNat_natCast, List.length_map]); try ((first | refine hK _ _ ?_ | refine hKP _ _ _ ?_ | refine hKP _ _ (fun _ => ?_)); clear hK hKP K KP))))
      refine callV_ends en29 hdo2 ?_
      ((try simp only [go_sem, loadL_a, bne_self_eq_false]); (try ((first | refine hK _ _ ?_ | refine hKP _ _ _ ?_ | refine hKP _ _ (fun _ => ?_)); clear hK hKP K KP)); repeat (first | refine Stp.s ?_ | refine inBlock_exit' (by decide) ?_ | ((first | refine vc_region fun K KP hK hKP => ?_ | refine Stg.s ?_ | refine guardD_ret0 ?_ | refine exV_intro _ rfl ?_); (try simp only [go_sem, loadL_a, bne_self_eq_false]); try ((first | refine hK _ _ ?_ | refine hKP _ _ _ ?_ | refine hKP _ _ (fun _ => ?_)); clear hK hKP K KP))))
      refine vc_cond rfl (fun hq => by cases hq) (fun _ => ?_)
      (repeat (first | refine Stp.s ?_ | refine inBlock_exit' (by decide) ?_ | ((first | refine vc_region fun K KP hK hKP => ?_ | refine Stg.s ?_ | refine guardD_ret0 ?_ | refine exV_intro _ rfl ?_); (try simp only [go_sem, loadL_a, i64_nsucc (show i < 1000000 by omega)]); try ((first | refine hK _ _ ?_ | refine hKP _ _ _ ?_ | refine hKP _ _ (fun _ => ?_)); clear hK hKP K KP))))
      exact ⟨i + 1, _, (by repeat (first | exact LeEnv.nil | refine LeEnv.same ?_ | refine LeEnv.top ?_)), Store.le_refl _, ⟨hlt, by omega, hl3, _, hs3, ht3, gs2⟩, by omega⟩
    · clear hq hi hi60
      have hinv2 := good_inv gs
      have hlen1 : ((peB 1 s).length - 1 : Nat) ≤ 1000000000 := by omega
      have hw : IntKind.i64.wrap (((peB 1 s).length : Int) - 1) = (((peB 1 s).length - 1 : Nat) : Int) := by rw [i64_in (by omega) (by omega)]; omega
      (repeat (first | refine Stp.s ?_ | refine inBlock_exit' (by decide) ?_ | ((first | refine vc_region fun K KP hK hKP => ?_ | refine Stg.s ?_ | refine guardD_ret0 ?_ | refine exV_intro _ rfl ?_); (try simp only [go_sem, loadL_a]); try ((first | refine hK _ _ ?_ | refine hKP _ _ _ ?_ | refine hKP _ _ (fun _ => ?_)); clear hK hKP K KP))))
      ((try simp only [go_sem, loadL_a]); first | refine callV_pure (alive21) ?_ | refine guardC_q0 (fun _ => callV_pure (alive21) ⟨rfl, rfl⟩) ?_)
      ((try simp only [go_sem, loadL_a]); (try ((first | refine hK _ _ ?_ | refine hKP _ _ _ ?_ | refine hKP _ _ (fun _ => ?_)); clear hK hKP K KP)); repeat (first | refine Stp.s ?_ | refine inBlock_exit' (by decide) ?_ | ((first | refine vc_region fun K KP hK hKP => ?_ | refine Stg.s ?_ | refine guardD_ret0 ?_ | refine exV_intro _ rfl ?_); (try simp only [go_sem, loadL_a]); try ((first | refine hK _ _ ?_ | refine hKP _ _ _ ?_ | refine hKP _ _ (fun _ => ?_)); clear hK hKP K KP))))
      ((try simp only [go_sem, loadL_a]); refine callV_quiet en41 (save21 b τ 1 u (by decide) hinv2.ok hs) ?_)
      ((try simp only [go_sem, loadL_a]); (try ((first | refine hK _ _ ?_ | refine hKP _ _ _ ?_ | refine hKP _ _ (fun _ => ?_)); clear hK hKP K KP)); repeat (first | refine Stp.s ?_ | refine inBlock_exit' (by decide) ?_ | ((first | refine vc_region fun K KP hK hKP => ?_ | refine Stg.s ?_ | refine guardD_ret0 ?_ | refine exV_intro _ rfl ?_); (try simp only [go_sem, loadL_a]); try ((first | refine hK _ _ ?_ | refine hKP _ _ _ ?_ | refine hKP _ _ (fun _ => ?_)); clear hK hKP K KP))))
      ((try simp only [go_sem, loadL_a]); refine callV_quiet en41 (save21 c τ 1 u (by decide) hinv2.ok ht) ?_)
      ((try simp only [go_sem, loadL_a, bin_seq, beq_self_eq_true, hw, List.length_map]); (try ((first | refine hK _ _ ?_ | refine hKP _ _ _ ?_ | refine hKP _ _ (fun _ => ?_)); clear hK hKP K KP)); repeat (first | refine Stp.s ?_ | refine inBlock_exit' (by decide) ?_ | ((first | refine vc_region fun K KP hK hKP => ?_ | refine Stg.s ?_ | refine guardD_ret0 ?_ | refine exV_intro _ rfl ?_); (try simp only [go_sem, loadL_a, bin_seq, beq_self_eq_true, hw, List.length_map]); try ((first | refine hK _ _ ?_ | refine hKP _ _ _ ?_ | refine hKP _ _ (fun _ => ?_)); clear hK hKP K KP))))
      refine ⟨by omega, by omega, by omega, by omega, ?_⟩
      have etk : List.take ((((peB 1 s).length - 1 : Nat) : Int).toNat - (((0 : Nat) : Int)).toNat) (List.drop (((0 : Nat) : Int)).toNat ((peB 1 s).map byteV)) = ((peB 1 s).take ((peB 1 s).length - 1)).map byteV := by
        rw [List.map_take]; rfl
      rw [etk]
      ((try simp only [go_sem, loadL_a]); (try ((first | refine hK _ _ ?_ | refine hKP _ _ _ ?_ | refine hKP _ _ (fun _ => ?_)); clear hK hKP K KP)); repeat (first | refine Stp.s ?_ | refine inBlock_exit' (by decide) ?_ | ((first | refine vc_region fun K KP hK hKP => ?_ | refine Stg.s ?_ | refine guardD_ret0 ?_ | refine exV_intro _ rfl ?_); (try simp only [go_sem, loadL_a]); try ((first | refine hK _ _ ?_ | refine hKP _ _ _ ?_ | refine hKP _ _ (fun _ => ?_)); clear hK hKP K KP))))
      refine callV_ends en42 (by have := pload ((peB 1 s).take ((peB 1 s).length - 1)) (by rw [List.length_take]; omega) τ; rw [loaded_cut (by decide) hinv] at this; exact this) ?_
      ((try simp only [go_sem, loadL_a]); (try ((first | refine hK _ _ ?_ | refine hKP _ _ _ ?_ | refine hKP _ _ (fun _ => ?_)); clear hK hKP K KP)); repeat (first | refine Stp.s ?_ | refine inBlock_exit' (by decide) ?_ | ((first | refine vc_region fun K KP hK hKP => ?_ | refine Stg.s ?_ | refine guardD_ret0 ?_ | refine exV_intro _ rfl ?_); (try simp only [go_sem, loadL_a]); try ((first | refine hK _ _ ?_ | refine hKP _ _ _ ?_ | refine hKP _ _ (fun _ => ?_)); clear hK hKP K KP))))
      intro b3 hb3
      ((try simp only [go_sem, loadL_a]); (try ((first | refine hK _ _ ?_ | refine hKP _ _ _ ?_ | refine hKP _ _ (fun _ => ?_)); clear hK hKP K KP)); repeat (first | refine Stp.s ?_ | refine inBlock_exit' (by decide) ?_ | ((first | refine vc_region fun K KP hK hKP => ?_ | refine Stg.s ?_ | refine guardD_ret0 ?_ | refine exV_intro _ rfl ?_); (try simp only [go_sem, loadL_a]); try ((first | refine hK _ _ ?_ | refine hKP _ _ _ ?_ | refine hKP _ _ (fun _ => ?_)); clear hK hKP K KP))))
      have hB0 : Bld 1 τ (τ.set b3 (.cells [])) (.sl b3 0 0 0) [] 0 := .inr ⟨b3, 0, [], rfl, hb3, rfl, rfl, by simp, Nat.le_refl _, by decide⟩
      refine append_u8 hB0 (Store.le_refl _) (fun KK hk => row_lst KK (by rw [List.length_map, flat_bytes]; exact hk)) (by simp) (fun c hc => by obtain ⟨b, _, rfl⟩ := List.mem_map.1 hc; rfl) (by omega) ?_
      intro y' τ' σ' hB' hle' _
      rw [List.nil_append, Nat.zero_add] at hB'
      obtain ⟨b5, cap5, spare5, rfl, _, _⟩ := hB'.at_ (by omega)
      ((try simp only [go_sem, loadL_a]); (try ((first | refine hK _ _ ?_ | refine hKP _ _ _ ?_ | refine hKP _ _ (fun _ => ?_)); clear hK hKP K KP)); repeat (first | refine Stp.s ?_ | refine inBlock_exit' (by decide) ?_ | ((first | refine vc_region fun K KP hK hKP => ?_ | refine Stg.s ?_ | refine guardD_ret0 ?_ | refine exV_intro _ rfl ?_); (try simp only [go_sem, loadL_a]); try ((first | refine hK _ _ ?_ | refine hKP _ _ _ ?_ | refine hKP _ _ (fun _ => ?_)); clear hK hKP K KP))))
      intro b4 hb4
      ((try simp only [go_sem, loadL_a]); (try ((first | refine hK _ _ ?_ | refine hKP _ _ _ ?_ | refine hKP _ _ (fun _ => ?_)); clear hK hKP K KP)); repeat (first | refine Stp.s ?_ | refine inBlock_exit' (by decide) ?_ | ((first | refine vc_region fun K KP hK hKP => ?_ | refine Stg.s ?_ | refine guardD_ret0 ?_ | refine exV_intro _ rfl ?_); (try simp only [go_sem, loadL_a]); try ((first | refine hK _ _ ?_ | refine hKP _ _ _ ?_ | refine hKP _ _ (fun _ => ?_)); clear hK hKP K KP))))
      refine append_u8 hB' (Store.le_set hb4 hle') (row_lit (Store.set_same _ _ _) rfl rfl) (news := [V.val (.int .u8 0)]) (m := 1) rfl (by simp [V.one]) (by omega) ?_
      intro y'' τ'' σ'' hB'' hle'' _
      have hW : Weakens y'' σ'' (.lst 1 ((peB 1 s ++ [0]).map byteV)) τ := Bld.weakens hB'' hle'' (by simp) (by rw [flat_bytes, List.map_append]; rfl) (bytes_len _)
      obtain ⟨b6, cap6, spare6, rfl, _, _⟩ := hB''.at_ (by omega)
      ((try simp only [go_sem, loadL_a]); (try ((first | refine hK _ _ ?_ | refine hKP _ _ _ ?_ | refine hKP _ _ (fun _ => ?_)); clear hK hKP K KP)); repeat (first | refine Stp.s ?_ | refine inBlock_exit' (by decide) ?_ | ((first | refine vc_region fun K KP hK hKP => ?_ | refine Stg.s ?_ | refine guardD_ret0 ?_ | refine exV_intro _ rfl ?_); (try simp only [go_sem, loadL_a]); try ((first | refine hK _ _ ?_ | refine hKP _ _ _ ?_ | refine hKP _ _ (fun _ => ?_)); clear hK hKP K KP))))
      refine callV_ends en42 (HCalls.arg hW (by have := pload (peB 1 s ++ [0]) (by rw [List.length_append, List.length_singleton]; omega) τ; rw [loaded_more (by decide) hinv] at this; exact this)) ?_
      ((try simp only [go_sem, loadL_a]); (try ((first | refine hK _ _ ?_ | refine hKP _ _ _ ?_ | refine hKP _ _ (fun _ => ?_)); clear hK hKP K KP)); repeat (first | refine Stp.s ?_ | refine inBlock_exit' (by decide) ?_ | ((first | refine vc_region fun K KP hK hKP => ?_ | refine Stg.s ?_ | refine guardD_ret0 ?_ | refine exV_intro _ rfl ?_); (try simp only [go_sem, loadL_a]); try ((first | refine hK _ _ ?_ | refine hKP _ _ _ ?_ | refine hKP _ _ (fun _ => ?_)); clear hK hKP K KP))))
      (simp only [postV, resV, oneOf, List.getD_cons_succ, List.getD_cons_zero, and_true, true_and])
      exact Ends.le rfl hl
theorem peersback_lifted (os : Os) (started : os.Started) (H : Type) (enc : TypeId × Value → H) :
    ReturnsInHanded {} Try.checked os 7 .any (Rows.peersBackSpec.pre6 enc Try.prog Try.f7 Rows.peersBackRow.domain false) (Rows.peersBackSpec.post enc Try.prog Try.f7 false true false false) := by
  refine law_lift (C := Try.checked) (tb := 4) own_knob started (by kernel_rfl) Try.func7 laid_out
    (ChangeSpec.witness6 (enc := enc) (C := Try.checked) false ⟨#[], #[.slice none 0 0, .slice none 0 0], []⟩ 8 (by kernel_rfl) (by kernel_rfl) (by kernel_rfl) (by kernel_rfl))
    rfl rfl Try.underlying4 (by kernel_rfl) (fun ds hd => ?_) ?_
  · rcases ds with _ | ⟨a0, ds⟩
    · cases hd
    rcases ds with _ | ⟨a1, ds⟩
    · cases hd
    rcases ds with _ | ⟨b, ds⟩
    · rfl
    · cases hd
  · intro W base args ds ps hval0 hA0
    have hval : ∀ (j : Nat) t v, Try.f7.params[j]? = some t → args[j]? = some v → Value.okWide Try.prog W .any base t v := hval0
    have hA : DataW.TrodAll enc Try.prog W 0 (fun _ => true) true Try.f7.params.toList args.toList ds ps := hA0
    rw [Try.params7] at hA hval
    obtain ⟨v0, v1, d0, d1, p0, p1, rfl, rfl, rfl, h0, h1⟩ := trodAll_two hA
    obtain ⟨ops, hops, l0⟩ := arg_ops (hval 0 61 v0 rfl rfl) h0
    obtain ⟨more, hmore, l1⟩ := arg_ops (hval 1 61 v1 rfl rfl) h1
    refine ⟨[.lst 4 (ops.map opV21), .lst 4 (more.map opV21)], LR.cons (l0) (LR.cons (l1) (LR.nil _)), ?_⟩
    exact ((peersback_pure ops more).2 _).mono fun r σ' q => q.1
theorem peersback_holds : Rows.PeersBackSaid :=
  OpenClaim.holds_of_wide 7 Try.f7 rfl rfl rfl rfl rfl rfl rfl ⟨rfl, rfl, rfl, rfl, rfl⟩ rfl rfl rfl rfl rfl (by kernel_rfl) Try.func7 (by kernel_rfl)
    (of_decide_eq_true (by kernel_rfl)) (by unfold Func.isWrapper; first | (rw [if_pos (by decide +kernel)]; kernel_rfl) | (rw [if_neg (by decide +kernel)]; exact ⟨rfl, rfl⟩))
    (fun os started H enc _ => peersback_lifted os started H enc)
#print axioms peersback_holds

end Go.Proofs.Ytbgagffpmdlilaa
