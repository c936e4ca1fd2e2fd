import Derived.Test.YtaldikplfcoahaaT7
namespace Go.Proofs.Ytaldikplfcoahaa
set_option linter.unusedSimpArgs false
set_option linter.unusedVariables false
open Go.Proofs
attribute [local irreducible] vc vcOps vcDraw vcK vcKP vcDK vcDB HWp HCalls postV Ex.then Ex.inBlock stepD callV appendV guardC guardD exV effV opV loadV storeV indexAddrV indexV sliceV
set_option maxRecDepth 10000
set_option maxHeartbeats 4000000

theorem next_len (t : Tr) (x : Int) : (t.next x).length ≤ 12 := List.length_filter_le _ _
theorem walk_bor (f : Option Nat) (t : Tr) (ht : t.Ok) (w s : Int) (hs : s ∈ nums) (σ0 σ : Store) (x : V) (hB : Bor f σ0 σ x [I64 s] 1) :
    HCalls Try.prog 34 [t.v, x, I64 w] σ (fun r σ' => ∃ y σ1, r = .ret y ∧ σ0.le σ1 ∧ Bor f σ1 σ' y ((t.wset w s).map I64) (t.wset w s).length) := by
  (refine HCalls.of_vc Try.func34 rfl ?_; rw [Try.ntmps34, Try.results34]; simp only [List.length_cons, List.length_nil, Nat.reduceAdd, Nat.reduceSub, List.replicate, List.cons_append, List.nil_append])
  (repeat (first | refine vc_seq ?_ | refine vc_block ?_ | refine then_normal ?_ | refine vc_ret ?_ | refine vc_skip ?_ | refine vc_exit ?_ | refine then_ret ?_ | refine then_exit ?_ | refine inBlock_normal ?_ | refine inBlock_ret ?_ | refine inBlock_exit ?_ | refine vc_goto ?_ | refine then_goto ?_ | refine inBlock_goto ?_ | refine jump_goto ?_ | refine jump_normal ?_ | refine jump_ret ?_ | refine inBlock_exit' (by decide) ?_ | ((first | refine vc_region fun K KP hK hKP => ?_ | refine guardC_ret0 ?_ | refine guardC_yes0 ?_ | refine guardC_no ?_ | refine guardD_no ?_ | refine effV_true ?_ | refine guardD_ret0 ?_); simp only [go_sem, loadL_a, lenV, indexAddrV, loadV, storeV, sliceV, convertV, V.flag, V.strip]; try (refine hK _ _ ?_; clear hK hKP K KP)) | (refine exV_intro _ rfl ?_; (try simp only [go_sem, loadL_a, lenV, indexAddrV, loadV, storeV, sliceV, convertV, V.flag, V.strip]); try (refine hK _ _ ?_; clear hK hKP K KP))))
  intro b3 hb3
  ((try simp only [go_sem, loadL_a, lenV, indexAddrV, loadV, storeV, sliceV, convertV, V.flag, V.strip]); refine hK _ _ ?_; clear hK hKP K KP; repeat (first | refine vc_seq ?_ | refine vc_block ?_ | refine then_normal ?_ | refine vc_ret ?_ | refine vc_skip ?_ | refine vc_exit ?_ | refine then_ret ?_ | refine then_exit ?_ | refine inBlock_normal ?_ | refine inBlock_ret ?_ | refine inBlock_exit ?_ | refine vc_goto ?_ | refine then_goto ?_ | refine inBlock_goto ?_ | refine jump_goto ?_ | refine jump_normal ?_ | refine jump_ret ?_ | refine inBlock_exit' (by decide) ?_ | ((first | refine vc_region fun K KP hK hKP => ?_ | refine guardC_ret0 ?_ | refine guardC_yes0 ?_ | refine guardC_no ?_ | refine guardD_no ?_ | refine effV_true ?_ | refine guardD_ret0 ?_); simp only [go_sem, loadL_a, lenV, indexAddrV, loadV, storeV, sliceV, convertV, V.flag, V.strip]; try (refine hK _ _ ?_; clear hK hKP K KP)) | (refine exV_intro _ rfl ?_; (try simp only [go_sem, loadL_a, lenV, indexAddrV, loadV, storeV, sliceV, convertV, V.flag, V.strip]); try (refine hK _ _ ?_; clear hK hKP K KP))))
  have hB' := hB.push (kk := .cells (t.kinds.map I64 ++ [t.es])) hb3
  have h30 : σ0 b3 = none := Store.none_of_le hB.base hb3
  have hbase : σ0.le (σ0.set b3 (.cells (t.kinds.map I64 ++ [t.es]))) := Store.le_set h30 (Store.le_refl _)
  have h3 : (σ0.set b3 (.cells (t.kinds.map I64 ++ [t.es]))) b3 = some (.cells (t.kinds.map I64 ++ [t.es])) := Store.set_same _ _ _
  generalize σ0.set b3 (.cells (t.kinds.map I64 ++ [t.es])) = σ1 at hB' hbase h3
  generalize σ.set b3 (.cells (t.kinds.map I64 ++ [t.es])) = σ2 at hB'
  clear hB hb3 h30
  have hS : Seen t w s [s] := ⟨by simp, by simpa using hs, by simp, by simpa using Rch.refl⟩
  refine vc_loop (loopV (fun (a : Nat × V × List Int) => [t.v, a.2.1, I64 w, .ptr b3 0, .top, .top, nilS, I64 a.1, .top, .top, .top, .top, .top, .top, .top, .top, .top, .top, .top, .top, .top, .top, .top, .top, .top, .top, .top, .top, .top, .top, .top, .top, .top, .top, .top, .top, .top, .top, .top, .top, .top, .top, .top, .top])
    (fun a τ => a.1 ≤ a.2.2.length ∧ Seen t w s a.2.2 ∧ Bor f σ1 τ a.2.1 (a.2.2.map I64) a.2.2.length ∧ ∀ j, j < a.1 → ∀ y, t.adj (a.2.2.getD j 0) y = true → y ≠ w → y ∈ a.2.2) (fun a _ => 12 - a.1) (0, x, [s]) (by repeat (first | exact LeEnv.nil | refine LeEnv.same ?_ | refine LeEnv.top ?_)) ⟨by simp, hS, hB', fun j hj => by simp at hj⟩ ?_)
  clear hB' hS x
  rintro ⟨i, x, l⟩ τ ⟨hi, hS, hB, hcl⟩
  simp only at hi hS hB hcl
  have hl12 := hS.len
  obtain ⟨b, cap, spare, rfl, hb, hset⟩ := hB.at_ hS.ne
  have h3' := hB.base _ _ h3
  (repeat (first | refine vc_seq ?_ | refine vc_block ?_ | refine then_normal ?_ | refine vc_ret ?_ | refine vc_skip ?_ | refine vc_exit ?_ | refine then_ret ?_ | refine then_exit ?_ | refine inBlock_normal ?_ | refine inBlock_ret ?_ | refine inBlock_exit ?_ | refine vc_goto ?_ | refine then_goto ?_ | refine inBlock_goto ?_ | refine jump_goto ?_ | refine jump_normal ?_ | refine jump_ret ?_ | refine inBlock_exit' (by decide) ?_ | ((first | refine vc_region fun K KP hK hKP => ?_ | refine guardC_ret0 ?_ | refine guardC_yes0 ?_ | refine guardC_no ?_ | refine guardD_no ?_ | refine effV_true ?_ | refine guardD_ret0 ?_); simp only [go_sem, loadL_a, lenV, indexAddrV, loadV, storeV, sliceV, convertV, V.flag, V.strip]; try (refine hK _ _ ?_; clear hK hKP K KP)) | (refine exV_intro _ rfl ?_; (try simp only [go_sem, loadL_a, lenV, indexAddrV, loadV, storeV, sliceV, convertV, V.flag, V.strip]); try (refine hK _ _ ?_; clear hK hKP K KP))))
  refine vc_cond rfl (fun hc => ?_) (fun hc => ?_)
  · have hlt : i < l.length := by simpa using hc
    have g1 : (0 : Int) ≤ i := by omega
    have g2 : (i : Int) < l.length := by omega
    have r1 := row_get (spare := spare) hlt
    (repeat (first | refine vc_seq ?_ | refine vc_block ?_ | refine then_normal ?_ | refine vc_ret ?_ | refine vc_skip ?_ | refine vc_exit ?_ | refine then_ret ?_ | refine then_exit ?_ | refine inBlock_normal ?_ | refine inBlock_ret ?_ | refine inBlock_exit ?_ | refine vc_goto ?_ | refine then_goto ?_ | refine inBlock_goto ?_ | refine jump_goto ?_ | refine jump_normal ?_ | refine jump_ret ?_ | refine inBlock_exit' (by decide) ?_ | ((first | refine vc_region fun K KP hK hKP => ?_ | refine guardC_ret0 ?_ | refine guardC_yes0 ?_ | refine guardC_no ?_ | refine guardD_no ?_ | refine effV_true ?_ | refine guardD_ret0 ?_); simp only [go_sem, loadL_a, lenV, indexAddrV, loadV, storeV, sliceV, convertV, V.flag, V.strip]; try (refine hK _ _ ?_; clear hK hKP K KP)) | (refine exV_intro _ rfl ?_; (try simp only [go_sem, loadL_a, lenV, indexAddrV, loadV, storeV, sliceV, convertV, V.flag, V.strip]); try (refine hK _ _ ?_; clear hK hKP K KP))))
    refine vc_draw mixed [] [0, 1, 2, 3, 4, 5, 6, 7] [0, 1, 2, 3, 4, 5, 6, 7] (fun _ => True) (by kernel_rfl) (by kernel_rfl) trivial fun K KP hK hKP => ?_
    ((try simp only [go_sem, lenV, indexAddrV, loadV, storeV, sliceV, convertV, V.flag, V.strip, treeLoad t ht, h3', hb, g1, g2, r1, Int.toNat_natCast]); (try (refine hK _ _ ?_; clear hK hKP K KP)); repeat (first | refine vc_seq ?_ | refine vc_block ?_ | refine then_normal ?_ | refine vc_ret ?_ | refine vc_skip ?_ | refine vc_exit ?_ | refine then_ret ?_ | refine then_exit ?_ | refine inBlock_normal ?_ | refine inBlock_ret ?_ | refine inBlock_exit ?_ | refine vc_goto ?_ | refine then_goto ?_ | refine inBlock_goto ?_ | refine jump_goto ?_ | refine jump_normal ?_ | refine jump_ret ?_ | refine inBlock_exit' (by decide) ?_ | ((first | refine vc_region fun K KP hK hKP => ?_ | refine guardC_ret0 ?_ | refine guardC_yes0 ?_ | refine guardC_no ?_ | refine guardD_no ?_ | refine effV_true ?_ | refine guardD_ret0 ?_); simp only [go_sem, lenV, indexAddrV, loadV, storeV, sliceV, convertV, V.flag, V.strip, treeLoad t ht, h3', hb, g1, g2, r1, Int.toNat_natCast]; try (refine hK _ _ ?_; clear hK hKP K KP)) | (refine exV_intro _ rfl ?_; (try simp only [go_sem, lenV, indexAddrV, loadV, storeV, sliceV, convertV, V.flag, V.strip, treeLoad t ht, h3', hb, g1, g2, r1, Int.toNat_natCast]); try (refine hK _ _ ?_; clear hK hKP K KP))))
    ((try simp only [go_sem, loadL_a, lenV, indexAddrV, loadV, storeV, sliceV, convertV, V.flag, V.strip]); refine exV_intro _ (callV_pure (next_pure t ht _) ⟨rfl, rfl⟩) ?_)
    ((try simp only [go_sem, lenV, indexAddrV, loadV, storeV, sliceV, convertV, V.flag, V.strip, List.length_map]); (try (refine hK _ _ ?_; clear hK hKP K KP)); repeat (first | refine vc_seq ?_ | refine vc_block ?_ | refine then_normal ?_ | refine vc_ret ?_ | refine vc_skip ?_ | refine vc_exit ?_ | refine then_ret ?_ | refine then_exit ?_ | refine inBlock_normal ?_ | refine inBlock_ret ?_ | refine inBlock_exit ?_ | refine vc_goto ?_ | refine then_goto ?_ | refine inBlock_goto ?_ | refine jump_goto ?_ | refine jump_normal ?_ | refine jump_ret ?_ | refine inBlock_exit' (by decide) ?_ | ((first | refine vc_region fun K KP hK hKP => ?_ | refine guardC_ret0 ?_ | refine guardC_yes0 ?_ | refine guardC_no ?_ | refine guardD_no ?_ | refine effV_true ?_ | refine guardD_ret0 ?_); simp only [go_sem, lenV, indexAddrV, loadV, storeV, sliceV, convertV, V.flag, V.strip, List.length_map]; try (refine hK _ _ ?_; clear hK hKP K KP)) | (refine exV_intro _ rfl ?_; (try simp only [go_sem, lenV, indexAddrV, loadV, storeV, sliceV, convertV, V.flag, V.strip, List.length_map]); try (refine hK _ _ ?_; clear hK hKP K KP))))
    generalize hv : l.getD i 0 = v
    refine vc_loop (loopV (fun (a : Nat × V × List Int) => [t.v, a.2.1, I64 w, .ptr b3 0, .top, .top, nilS, I64 i, .top, .top, .top, .top, .top, .top, .top, .top, .top, .top, .top, .top, .top, ints (t.next v), I64 (t.next v).length, I64 a.1, .top, .top, .top, .top, .top, .top, .top, .top, .top, .top, .top, .top, .top, .top, .top, .top, .top, .top, .top, .top])
      (fun a τ => a.1 ≤ (t.next v).length ∧ i < a.2.2.length ∧ a.2.2.getD i 0 = v ∧ Seen t w s a.2.2 ∧ Bor f σ1 τ a.2.1 (a.2.2.map I64) a.2.2.length ∧ (∀ j, j < i → ∀ y, t.adj (a.2.2.getD j 0) y = true → y ≠ w → y ∈ a.2.2) ∧ ∀ y ∈ (t.next v).take a.1, y ≠ w → y ∈ a.2.2) (fun a _ => (t.next v).length - a.1) (0, .sl b 0 l.length cap, l) (by repeat (first | exact LeEnv.nil | refine LeEnv.same ?_ | refine LeEnv.top ?_)) ⟨by simp, hlt, hv, hS, hB, hcl, by simp⟩ ?_)
    clear hi hS hcl hl12 hB hb hset h3' hc hlt g2 r1 hv
    rintro ⟨k, x, l⟩ τ ⟨hk, hil, hv, hS, hB, hcl, hdone⟩
    simp only at hk hil hv hS hB hcl hdone
    have hl12 := hS.len
    have hn12 := next_len t v
    obtain ⟨b, cap, spare, rfl, hb, hset⟩ := hB.at_ hS.ne
    have h3' := hB.base _ _ h3
    (repeat (first | refine vc_seq ?_ | refine vc_block ?_ | refine then_normal ?_ | refine vc_ret ?_ | refine vc_skip ?_ | refine vc_exit ?_ | refine then_ret ?_ | refine then_exit ?_ | refine inBlock_normal ?_ | refine inBlock_ret ?_ | refine inBlock_exit ?_ | refine vc_goto ?_ | refine then_goto ?_ | refine inBlock_goto ?_ | refine jump_goto ?_ | refine jump_normal ?_ | refine jump_ret ?_ | refine inBlock_exit' (by decide) ?_ | ((first | refine vc_region fun K KP hK hKP => ?_ | refine guardC_ret0 ?_ | refine guardC_yes0 ?_ | refine guardC_no ?_ | refine guardD_no ?_ | refine effV_true ?_ | refine guardD_ret0 ?_); simp only [go_sem, loadL_a, lenV, indexAddrV, loadV, storeV, sliceV, convertV, V.flag, V.strip]; try (refine hK _ _ ?_; clear hK hKP K KP)) | (refine exV_intro _ rfl ?_; (try simp only [go_sem, loadL_a, lenV, indexAddrV, loadV, storeV, sliceV, convertV, V.flag, V.strip]); try (refine hK _ _ ?_; clear hK hKP K KP))))
    refine vc_cond rfl (fun hc => ?_) (fun hc => ?_)
    · have hlt : k < (t.next v).length := by simpa using hc
      have g1 : (0 : Int) ≤ k := by omega
      have g2 : (k : Int) < (t.next v).length := by omega
      have hx : ((t.next v).map I64).getD k .top = I64 (t.next v)[k] := getD_map I64 _ k hlt
      have hw : IntKind.i64.wrap ((k : Int) + 1) = ((k + 1 : Nat) : Int) := by rw [i64_in (by omega) (by omega)]; omega
      (repeat (first | refine vc_seq ?_ | refine vc_block ?_ | refine then_normal ?_ | refine vc_ret ?_ | refine vc_skip ?_ | refine vc_exit ?_ | refine then_ret ?_ | refine then_exit ?_ | refine inBlock_normal ?_ | refine inBlock_ret ?_ | refine inBlock_exit ?_ | refine vc_goto ?_ | refine then_goto ?_ | refine inBlock_goto ?_ | refine jump_goto ?_ | refine jump_normal ?_ | refine jump_ret ?_ | refine inBlock_exit' (by decide) ?_ | ((first | refine vc_region fun K KP hK hKP => ?_ | refine guardC_ret0 ?_ | refine guardC_yes0 ?_ | refine guardC_no ?_ | refine guardD_no ?_ | refine effV_true ?_ | refine guardD_ret0 ?_); simp only [go_sem, loadL_a, lenV, indexAddrV, loadV, storeV, sliceV, convertV, V.flag, V.strip, g1, g2, hx, List.length_map, Int.toNat_natCast]; try (refine hK _ _ ?_; clear hK hKP K KP)) | (refine exV_intro _ rfl ?_; (try simp only [go_sem, loadL_a, lenV, indexAddrV, loadV, storeV, sliceV, convertV, V.flag, V.strip, g1, g2, hx, List.length_map, Int.toNat_natCast]); try (refine hK _ _ ?_; clear hK hKP K KP))))
      ((try simp only [go_sem, loadL_a, lenV, indexAddrV, loadV, storeV, sliceV, convertV, V.flag, V.strip]); refine guardC_q0 (fun _ => callV_quiet en38 (contains_row _ _ l _ (by omega) _ (IRow.sl hb (by omega))) ⟨rfl, rfl⟩) ?_)
      ((try simp only [go_sem, loadL_a, lenV, indexAddrV, loadV, storeV, sliceV, convertV, V.flag, V.strip, hw]); (try (refine hK _ _ ?_; clear hK hKP K KP)); repeat (first | refine vc_seq ?_ | refine vc_block ?_ | refine then_normal ?_ | refine vc_ret ?_ | refine vc_skip ?_ | refine vc_exit ?_ | refine then_ret ?_ | refine then_exit ?_ | refine inBlock_normal ?_ | refine inBlock_ret ?_ | refine inBlock_exit ?_ | refine vc_goto ?_ | refine then_goto ?_ | refine inBlock_goto ?_ | refine jump_goto ?_ | refine jump_normal ?_ | refine jump_ret ?_ | refine inBlock_exit' (by decide) ?_ | ((first | refine vc_region fun K KP hK hKP => ?_ | refine guardC_ret0 ?_ | refine guardC_yes0 ?_ | refine guardC_no ?_ | refine guardD_no ?_ | refine effV_true ?_ | refine guardD_ret0 ?_); simp only [go_sem, loadL_a, lenV, indexAddrV, loadV, storeV, sliceV, convertV, V.flag, V.strip, hw]; try (refine hK _ _ ?_; clear hK hKP K KP)) | (refine exV_intro _ rfl ?_; (try simp only [go_sem, loadL_a, lenV, indexAddrV, loadV, storeV, sliceV, convertV, V.flag, V.strip, hw]); try (refine hK _ _ ?_; clear hK hKP K KP))))
      refine vc_cond rfl (fun hadd => ?_) (fun hadd => ?_)
      · have hy : t.adj v (t.next v)[k] = true := mem_next.1 (List.getElem_mem hlt)
        have hne : (t.next v)[k] ≠ w := by simp only [Bool.and_eq_true, bne_iff_ne] at hadd; exact hadd.1
        have hnin : (t.next v)[k] ∉ l := fun hin => by
          simp only [Bool.and_eq_true, Bool.not_eq_true', List.any_eq_false] at hadd
          exact hadd.2 _ hin (by simp)
        have hvl : v ∈ l := by rw [← hv, List.getD_eq_getElem?_getD, List.getElem?_eq_getElem hil]; exact List.getElem_mem hil
        have hgd : ∀ j, j < l.length → (l ++ [(t.next v)[k]]).getD j 0 = l.getD j 0 := fun j hj => by simp [List.getD_eq_getElem?_getD, List.getElem?_append_left hj]
        (repeat (first | refine vc_seq ?_ | refine vc_block ?_ | refine then_normal ?_ | refine vc_ret ?_ | refine vc_skip ?_ | refine vc_exit ?_ | refine then_ret ?_ | refine then_exit ?_ | refine inBlock_normal ?_ | refine inBlock_ret ?_ | refine inBlock_exit ?_ | refine vc_goto ?_ | refine then_goto ?_ | refine inBlock_goto ?_ | refine jump_goto ?_ | refine jump_normal ?_ | refine jump_ret ?_ | refine inBlock_exit' (by decide) ?_ | ((first | refine vc_region fun K KP hK hKP => ?_ | refine guardC_ret0 ?_ | refine guardC_yes0 ?_ | refine guardC_no ?_ | refine guardD_no ?_ | refine effV_true ?_ | refine guardD_ret0 ?_); simp only [go_sem, loadL_a, lenV, indexAddrV, loadV, storeV, sliceV, convertV, V.flag, V.strip, hw]; try (refine hK _ _ ?_; clear hK hKP K KP)) | (refine exV_intro _ rfl ?_; (try simp only [go_sem, loadL_a, lenV, indexAddrV, loadV, storeV, sliceV, convertV, V.flag, V.strip, hw]); try (refine hK _ _ ?_; clear hK hKP K KP))))
        intro b8 hb8
        refine append_bor hB (Store.le_set hb8 (Store.le_refl _)) (row_lit (Store.set_same _ _ _) rfl rfl) rfl (by omega) ?_
        intro x' τ' σ' hB' hle'
        ((try simp only [go_sem, loadL_a, lenV, indexAddrV, loadV, storeV, sliceV, convertV, V.flag, V.strip, hw]); refine hK _ _ ?_; clear hK hKP K KP; repeat (first | refine vc_seq ?_ | refine vc_block ?_ | refine then_normal ?_ | refine vc_ret ?_ | refine vc_skip ?_ | refine vc_exit ?_ | refine then_ret ?_ | refine then_exit ?_ | refine inBlock_normal ?_ | refine inBlock_ret ?_ | refine inBlock_exit ?_ | refine vc_goto ?_ | refine then_goto ?_ | refine inBlock_goto ?_ | refine jump_goto ?_ | refine jump_normal ?_ | refine jump_ret ?_ | refine inBlock_exit' (by decide) ?_ | ((first | refine vc_region fun K KP hK hKP => ?_ | refine guardC_ret0 ?_ | refine guardC_yes0 ?_ | refine guardC_no ?_ | refine guardD_no ?_ | refine effV_true ?_ | refine guardD_ret0 ?_); simp only [go_sem, loadL_a, lenV, indexAddrV, loadV, storeV, sliceV, convertV, V.flag, V.strip, hw]; try (refine hK _ _ ?_; clear hK hKP K KP)) | (refine exV_intro _ rfl ?_; (try simp only [go_sem, loadL_a, lenV, indexAddrV, loadV, storeV, sliceV, convertV, V.flag, V.strip, hw]); try (refine hK _ _ ?_; clear hK hKP K KP))))
        refine ⟨(k + 1, x', l ++ [(t.next v)[k]]), τ', ?_, hle', ⟨hlt, by simp; omega, by rw [hgd i hil]; exact hv, hS.add hvl hy hne hnin, (by rw [List.map_append, List.length_append]; exact Or.inl ⟨hB', fun _ => by have := hS.ne; show l.length + 1 ≠ 1; omega⟩ : Bor f σ1 τ' x' ((l ++ [(t.next v)[k]]).map I64) (l ++ [(t.next v)[k]]).length), fun j hj y ha hyw => List.mem_append.2 (.inl (hcl j hj y (by rw [hgd j (by omega)] at ha; exact ha) hyw)), ?_⟩, by show (t.next v).length - (k + 1) < (t.next v).length - k; omega⟩
        · repeat (first | exact LeEnv.nil | refine LeEnv.same ?_ | refine LeEnv.top ?_)
        · intro y hy2 hyw
          have hy2 : y ∈ (t.next v).take (k + 1) := hy2
          rw [List.take_succ_eq_append_getElem hlt] at hy2
          rcases List.mem_append.1 hy2 with q | q
          · exact List.mem_append.2 (.inl (hdone y q hyw))
          · exact List.mem_append.2 (.inr q)
      · (repeat (first | refine vc_seq ?_ | refine vc_block ?_ | refine then_normal ?_ | refine vc_ret ?_ | refine vc_skip ?_ | refine vc_exit ?_ | refine then_ret ?_ | refine then_exit ?_ | refine inBlock_normal ?_ | refine inBlock_ret ?_ | refine inBlock_exit ?_ | refine vc_goto ?_ | refine then_goto ?_ | refine inBlock_goto ?_ | refine jump_goto ?_ | refine jump_normal ?_ | refine jump_ret ?_ | refine inBlock_exit' (by decide) ?_ | ((first | refine vc_region fun K KP hK hKP => ?_ | refine guardC_ret0 ?_ | refine guardC_yes0 ?_ | refine guardC_no ?_ | refine guardD_no ?_ | refine effV_true ?_ | refine guardD_ret0 ?_); simp only [go_sem, loadL_a, lenV, indexAddrV, loadV, storeV, sliceV, convertV, V.flag, V.strip, hw]; try (refine hK _ _ ?_; clear hK hKP K KP)) | (refine exV_intro _ rfl ?_; (try simp only [go_sem, loadL_a, lenV, indexAddrV, loadV, storeV, sliceV, convertV, V.flag, V.strip, hw]); try (refine hK _ _ ?_; clear hK hKP K KP))))
        refine ⟨(k + 1, .sl b 0 l.length cap, l), τ, ?_, Store.le_refl _, ⟨hlt, hil, hv, hS, hB, hcl, ?_⟩, by show (t.next v).length - (k + 1) < (t.next v).length - k; omega⟩
        · repeat (first | exact LeEnv.nil | refine LeEnv.same ?_ | refine LeEnv.top ?_)
        · intro y hy2 hyw
          have hy2 : y ∈ (t.next v).take (k + 1) := hy2
          rw [List.take_succ_eq_append_getElem hlt] at hy2
          rcases List.mem_append.1 hy2 with q | q
          · exact hdone y q hyw
          · have q : y = (t.next v)[k] := by simpa using q
            subst q
            simp only [Bool.and_eq_false_iff, bne_eq_false_iff_eq, Bool.not_eq_false'] at hadd
            rcases hadd with e | e
            · exact absurd e hyw
            · obtain ⟨z, hz, e⟩ := List.any_eq_true.1 e
              rw [beq_iff_eq] at e; rw [e]; exact hz
    · have hkk : k = (t.next v).length := by simp at hc; omega
      rw [hkk, List.take_length] at hdone
      have hw : IntKind.i64.wrap ((i : Int) + 1) = ((i + 1 : Nat) : Int) := by rw [i64_in (by omega) (by omega)]; omega
      (repeat (first | refine vc_seq ?_ | refine vc_block ?_ | refine then_normal ?_ | refine vc_ret ?_ | refine vc_skip ?_ | refine vc_exit ?_ | refine then_ret ?_ | refine then_exit ?_ | refine inBlock_normal ?_ | refine inBlock_ret ?_ | refine inBlock_exit ?_ | refine vc_goto ?_ | refine then_goto ?_ | refine inBlock_goto ?_ | refine jump_goto ?_ | refine jump_normal ?_ | refine jump_ret ?_ | refine inBlock_exit' (by decide) ?_ | ((first | refine vc_region fun K KP hK hKP => ?_ | refine guardC_ret0 ?_ | refine guardC_yes0 ?_ | refine guardC_no ?_ | refine guardD_no ?_ | refine effV_true ?_ | refine guardD_ret0 ?_); simp only [go_sem, loadL_a, lenV, indexAddrV, loadV, storeV, sliceV, convertV, V.flag, V.strip, hw]; try (refine hK _ _ ?_; clear hK hKP K KP)) | (refine exV_intro _ rfl ?_; (try simp only [go_sem, loadL_a, lenV, indexAddrV, loadV, storeV, sliceV, convertV, V.flag, V.strip, hw]); try (refine hK _ _ ?_; clear hK hKP K KP))))
      refine ⟨(i + 1, .sl b 0 l.length cap, l), τ, ?_, Store.le_refl _, ⟨hil, hS, hB, fun j hj y ha hyw => ?_⟩, by show 12 - (i + 1) < 12 - i; omega⟩
      · repeat (first | exact LeEnv.nil | refine LeEnv.same ?_ | refine LeEnv.top ?_)
      · rcases Nat.lt_or_eq_of_le (Nat.le_of_lt_succ hj) with q | q
        · exact hcl j q y ha hyw
        · have ha : t.adj (l.getD j 0) y = true := ha
          rw [q, hv] at ha; exact hdone y (mem_next.2 ha) hyw
  · have hii : i = l.length := by simp at hc; omega
    have hclosed : ∀ x ∈ l, ∀ y, t.adj x y = true → y ≠ w → y ∈ l := fun x hx y ha hyw => by
      obtain ⟨j, hj, e⟩ := List.mem_iff_getElem.1 hx
      exact hcl j (by omega) y (by rw [List.getD_eq_getElem?_getD, List.getElem?_eq_getElem hj]; exact (by rw [e]; exact ha)) hyw
    (repeat (first | refine vc_seq ?_ | refine vc_block ?_ | refine then_normal ?_ | refine vc_ret ?_ | refine vc_skip ?_ | refine vc_exit ?_ | refine then_ret ?_ | refine then_exit ?_ | refine inBlock_normal ?_ | refine inBlock_ret ?_ | refine inBlock_exit ?_ | refine vc_goto ?_ | refine then_goto ?_ | refine inBlock_goto ?_ | refine jump_goto ?_ | refine jump_normal ?_ | refine jump_ret ?_ | refine inBlock_exit' (by decide) ?_ | ((first | refine vc_region fun K KP hK hKP => ?_ | refine guardC_ret0 ?_ | refine guardC_yes0 ?_ | refine guardC_no ?_ | refine guardD_no ?_ | refine effV_true ?_ | refine guardD_ret0 ?_); simp only [go_sem, loadL_a, lenV, indexAddrV, loadV, storeV, sliceV, convertV, V.flag, V.strip]; try (refine hK _ _ ?_; clear hK hKP K KP)) | (refine exV_intro _ rfl ?_; (try simp only [go_sem, loadL_a, lenV, indexAddrV, loadV, storeV, sliceV, convertV, V.flag, V.strip]); try (refine hK _ _ ?_; clear hK hKP K KP))))
    refine callV_of en58 (sort b cap l spare τ hb hl12) (fun x σ' ⟨l', e, hp, hso, es⟩ => ?_) (fun x σ' ⟨l', e, _⟩ => by cases e)
    cases e; rw [es]; clear es
    ((try simp only [go_sem, loadL_a, lenV, indexAddrV, loadV, storeV, sliceV, convertV, V.flag, V.strip]); refine hK _ _ ?_; clear hK hKP K KP; repeat (first | refine vc_seq ?_ | refine vc_block ?_ | refine then_normal ?_ | refine vc_ret ?_ | refine vc_skip ?_ | refine vc_exit ?_ | refine then_ret ?_ | refine then_exit ?_ | refine inBlock_normal ?_ | refine inBlock_ret ?_ | refine inBlock_exit ?_ | refine vc_goto ?_ | refine then_goto ?_ | refine inBlock_goto ?_ | refine jump_goto ?_ | refine jump_normal ?_ | refine jump_ret ?_ | refine inBlock_exit' (by decide) ?_ | ((first | refine vc_region fun K KP hK hKP => ?_ | refine guardC_ret0 ?_ | refine guardC_yes0 ?_ | refine guardC_no ?_ | refine guardD_no ?_ | refine effV_true ?_ | refine guardD_ret0 ?_); simp only [go_sem, loadL_a, lenV, indexAddrV, loadV, storeV, sliceV, convertV, V.flag, V.strip]; try (refine hK _ _ ?_; clear hK hKP K KP)) | (refine exV_intro _ rfl ?_; (try simp only [go_sem, loadL_a, lenV, indexAddrV, loadV, storeV, sliceV, convertV, V.flag, V.strip]); try (refine hK _ _ ?_; clear hK hKP K KP))))
    (simp only [postV, resV, oneOf, List.getD_cons_succ, List.getD_cons_zero, and_true, true_and])
    have hfin := sorted_eq hS hclosed hp hso
    have hbl := hset (l'.map I64) (by simp [hp.length_eq]) (fun e1 => by
      obtain ⟨a, ha⟩ := List.length_eq_one_iff.1 e1
      rw [ha] at hp ⊢; rw [List.perm_singleton.1 hp])
    rw [← hp.length_eq] at hbl ⊢
    rw [← hfin]
    exact ⟨_, σ1, rfl, hbase, hbl⟩
theorem walk_ok (t : Tr) (ht : t.Ok) (w s : Int) (hs : s ∈ nums) (σ0 σ : Store) (x : V) (hB : Bld 1 σ0 σ x [I64 s] 1) :
    HCalls Try.prog 34 [t.v, x, I64 w] σ (Ends (ints (t.wset w s)) σ0) :=
  (walk_bor none t ht w s hs σ0 σ x (.inl ⟨hB, fun h => by cases h⟩)).mono fun r σ' ⟨y, σ1, e, hle, hb⟩ => by
    rcases hb with ⟨hb, _⟩ | ⟨b, _, _, hf, _⟩
    · exact ⟨y, e, Weakens.trans hb.ints (Weakens.le hle)⟩
    · cases hf
/-- From a slice of length and room 1 that belongs to another. -/
theorem walk_cut (t : Tr) (ht : t.Ok) (w s : Int) (hs : s ∈ nums) (σ : Store) (b : Nat) (spare : List V) (hb : σ b = some (.cells (I64 s :: spare))) :
    HQuiet Try.prog 34 [t.v, .sl b 0 1 1, I64 w] σ (if (t.wset w s).length = 1 then .sl b 0 1 1 else ints (t.wset w s)) :=
  HQuiet.of ((walk_bor (some b) t ht w s hs σ σ _ (.inr ⟨b, I64 s, spare, rfl, rfl, rfl, rfl, hb, rfl⟩)).mono fun r σ' ⟨y, σ1, e, hle, hbo⟩ => by
    rcases hbo with ⟨hbo, h1⟩ | ⟨b', _, _, hf, hy, h1, _, _, hσ⟩
    · rw [if_neg (h1 rfl)]
      exact ⟨y, e, Weakens.trans hbo.ints (Weakens.le hle)⟩
    · rw [if_pos h1]
      cases hf
      subst hy hσ
      exact ⟨_, e, Weakens.le hle⟩)
end Go.Proofs.Ytaldikplfcoahaa
