import Derived.Test.YtbgagffpmdlilaaTA
namespace Go.Proofs.Ytbgagffpmdlilaa
set_option linter.unusedSimpArgs false
set_option linter.unusedVariables false
open Go.Proofs
attribute [local irreducible] vc vcOps vcDraw vcK vcKP vcDK vcDB HWp HCalls postV Ex.then Ex.inBlock stepD callV appendV guardC guardD exV effV opV loadV storeV indexAddrV indexV sliceV
set_option maxRecDepth 10000
set_option maxHeartbeats 2000000

/-- To which one comes without coming to w. -/
inductive Rch (t : Tr) (w s : Int) : Int → Prop
  | refl : Rch t w s s
  | step {x y : Int} (h : Rch t w s x) (ha : t.adj x y = true) (hw : y ≠ w) : Rch t w s y
open Classical in
noncomputable def Tr.wset (t : Tr) (w s : Int) : List Int := nums.filter fun x => decide (Rch t w s x)

theorem mem_nums {x : Int} : x ∈ nums ↔ 1 ≤ x ∧ x ≤ 12 := by
  simp only [nums, List.mem_cons, List.not_mem_nil, or_false]; omega
theorem there_nums {t : Tr} {x : Int} (h : t.there x = true) : x ∈ nums := by
  rw [mem_nums]
  unfold Tr.there Tr.kind at h
  split at h
  · assumption
  · simp [isKd] at h
theorem adj_nums {t : Tr} {x y : Int} (h : t.adj x y = true) : y ∈ nums := by
  unfold Tr.adj at h
  simp only [Bool.and_eq_true] at h
  exact there_nums h.1.1.2
theorem mem_next {t : Tr} {x y : Int} : y ∈ t.next x ↔ t.adj x y = true := by
  unfold Tr.next
  rw [List.mem_filter]
  exact ⟨fun h => h.2, fun h => ⟨adj_nums h, h⟩⟩

theorem nodup_le : ∀ (l m : List Int), l.Nodup → (∀ x ∈ l, x ∈ m) → l.length ≤ m.length
  | [], _, _, _ => by simp
  | a :: l, m, h, hs => by
    have ha := hs a (List.mem_cons_self ..)
    have h2 := List.nodup_cons.1 h
    have := nodup_le l (m.erase a) h2.2 fun x hx => (List.mem_erase_of_ne (fun e => h2.1 (by rw [← e]; exact hx))).2 (hs x (List.mem_cons_of_mem _ hx))
    rw [List.length_erase_of_mem ha] at this
    have := List.length_pos_of_mem ha
    simp only [List.length_cons]; omega
/-- What is so of the nodes seen. -/
structure Seen (t : Tr) (w s : Int) (l : List Int) : Prop where
  nd : l.Nodup
  sub : ∀ x ∈ l, x ∈ nums
  has : s ∈ l
  rch : ∀ x ∈ l, Rch t w s x
theorem Seen.len {t : Tr} {w s : Int} {l : List Int} (h : Seen t w s l) : l.length ≤ 12 := nodup_le _ _ h.nd h.sub
theorem Seen.ne {t : Tr} {w s : Int} {l : List Int} (h : Seen t w s l) : l.length ≠ 0 := fun e => by
  rw [List.eq_nil_of_length_eq_zero e] at h; exact absurd h.has (by simp)
theorem Seen.add {t : Tr} {w s x y : Int} {l : List Int} (h : Seen t w s l) (hx : x ∈ l) (ha : t.adj x y = true) (hw : y ≠ w) (hn : y ∉ l) : Seen t w s (l ++ [y]) where
  nd := by rw [List.nodup_append]; exact ⟨h.nd, by simp, fun a ha' b hb e => by simp at hb; rw [hb] at e; rw [e] at ha'; exact hn ha'⟩
  sub z hz := by
    rcases List.mem_append.1 hz with q | q
    · exact h.sub z q
    · simp at q; subst q; exact adj_nums ha
  has := List.mem_append.2 (.inl h.has)
  rch z hz := by
    rcases List.mem_append.1 hz with q | q
    · exact h.rch z q
    · simp at q; subst q; exact .step (h.rch x hx) ha hw
/-- Sorted, they are the set. -/
theorem sorted_eq {t : Tr} {w s : Int} {l l' : List Int} (h : Seen t w s l) (hc : ∀ x ∈ l, ∀ y, t.adj x y = true → y ≠ w → y ∈ l) (hp : l'.Perm l) (hs : ∀ p q, p < q → q < l.length → l'.getD p 0 ≤ l'.getD q 0) : l' = t.wset w s := by
  have hm : ∀ x, x ∈ l ↔ Rch t w s x := fun x => ⟨h.rch x, fun hr => by
    induction hr with
    | refl => exact h.has
    | step _ ha hw ih => exact hc _ ih _ ha hw⟩
  have hl := hp.length_eq
  have hs' : l'.Pairwise (· ≤ ·) := by
    rw [List.pairwise_iff_getElem]
    intro i j hi hj hij
    have := hs i j hij (by omega)
    simpa [List.getD_eq_getElem?_getD, hi, hj] using this
  have hn : (t.wset w s).Pairwise (· ≤ ·) := by
    unfold Tr.wset
    exact List.Pairwise.filter _ (by decide)
  have hpw : l'.Perm (t.wset w s) := by
    have hnd : (t.wset w s).Nodup := List.Pairwise.filter _ (show nums.Pairwise (· ≠ ·) by decide)
    rw [List.perm_ext_iff_of_nodup (hp.nodup_iff.2 h.nd) hnd]
    intro x
    rw [hp.mem_iff, hm]
    unfold Tr.wset
    rw [List.mem_filter]
    simp only [decide_eq_true_eq]
    exact ⟨fun q => ⟨h.sub x ((hm x).2 q), q⟩, fun q => q.2⟩
  exact hpw.eq_of_pairwise (fun a b _ _ h1 h2 => Int.le_antisymm h1 h2) hs' hn
end Go.Proofs.Ytbgagffpmdlilaa

namespace Go.Proofs.Ytbgagffpmdlilaa
set_option linter.unusedSimpArgs false
set_option linter.unusedVariables false
open Go.Proofs
attribute [local irreducible] vc vcOps vcDraw vcK vcKP vcDK vcDB HWp HCalls postV Ex.then Ex.inBlock stepD callV appendV guardC guardD exV effV opV loadV storeV indexAddrV indexV sliceV
set_option maxRecDepth 10000
set_option maxHeartbeats 4000000

theorem next_len (t : Tr) (x : Int) : (t.next x).length ≤ 12 := List.length_filter_le _ _
theorem walk_bor (f : Option Nat) (t : Tr) (ht : t.Ok) (w s : Int) (hs : s ∈ nums) (σ0 σ : Store) (x : V) (hB : Bor f σ0 σ x [I64 s] 1) :
    HCalls Try.prog 94 [t.v, x, I64 w] σ (fun r σ' => ∃ y σ1, r = .ret y ∧ σ0.le σ1 ∧ Bor f σ1 σ' y ((t.wset w s).map I64) (t.wset w s).length) := by
  (refine HCalls.of_vc Try.func94 rfl ?_; rw [Try.ntmps94, Try.results94]; simp only [List.length_cons, List.length_nil, Nat.reduceAdd, Nat.reduceSub, List.replicate, List.cons_append, List.nil_append])
  (repeat (first | refine Stp.s ?_ | refine inBlock_exit' (by decide) ?_ | ((first | refine vc_region fun K KP hK hKP => ?_ | refine Stg.s ?_ | refine guardD_ret0 ?_ | refine exV_intro _ rfl ?_); (try simp only [go_sem, loadL_a]); try ((first | refine hK _ _ ?_ | refine hKP _ _ _ ?_ | refine hKP _ _ (fun _ => ?_)); clear hK hKP K KP))))
  intro b3 hb3
  ((try simp only [go_sem, loadL_a]); refine hK _ _ ?_; clear hK hKP K KP; repeat (first | refine Stp.s ?_ | refine inBlock_exit' (by decide) ?_ | ((first | refine vc_region fun K KP hK hKP => ?_ | refine Stg.s ?_ | refine guardD_ret0 ?_ | refine exV_intro _ rfl ?_); (try simp only [go_sem, loadL_a]); try ((first | refine hK _ _ ?_ | refine hKP _ _ _ ?_ | refine hKP _ _ (fun _ => ?_)); clear hK hKP K KP))))
  have hB' := hB.push (kk := .cells (t.kinds.map I64 ++ [t.es])) hb3
  have h30 : σ0 b3 = none := Store.none_of_le hB.base hb3
  have hbase : σ0.le (σ0.set b3 (.cells (t.kinds.map I64 ++ [t.es]))) := Store.le_set h30 (Store.le_refl _)
  have h3 : (σ0.set b3 (.cells (t.kinds.map I64 ++ [t.es]))) b3 = some (.cells (t.kinds.map I64 ++ [t.es])) := Store.set_same _ _ _
  generalize σ0.set b3 (.cells (t.kinds.map I64 ++ [t.es])) = σ1 at hB' hbase h3
  generalize σ.set b3 (.cells (t.kinds.map I64 ++ [t.es])) = σ2 at hB'
  clear hB hb3 h30
  have hS : Seen t w s [s] := ⟨by simp, by simpa using hs, by simp, by simpa using Rch.refl⟩
  refine vc_loop (loopV (fun (a : Nat × V × List Int) => [t.v, a.2.1, I64 w, .ptr b3 0, .top, .top, nilS, I64 a.1, .top, .top, .top, .top, .top, .top, .top, .top, .top, .top, .top, .top, .top, .top, .top, .top, .top, .top, .top, .top, .top, .top, .top, .top, .top, .top, .top, .top, .top, .top, .top, .top, .top, .top, .top, .top])
    (fun a τ => a.1 ≤ a.2.2.length ∧ Seen t w s a.2.2 ∧ Bor f σ1 τ a.2.1 (a.2.2.map I64) a.2.2.length ∧ ∀ j, j < a.1 → ∀ y, t.adj (a.2.2.getD j 0) y = true → y ≠ w → y ∈ a.2.2) (fun a _ => 12 - a.1) (0, x, [s]) (by repeat (first | exact LeEnv.nil | refine LeEnv.same ?_ | refine LeEnv.top ?_)) ⟨by simp, hS, hB', fun j hj => by simp at hj⟩ ?_)
  clear hB' hS x
  rintro ⟨i, x, l⟩ τ ⟨hi, hS, hB, hcl⟩
  simp only at hi hS hB hcl
  have hl12 := hS.len
  obtain ⟨b, cap, spare, rfl, hb, hset⟩ := hB.at_ hS.ne
  have h3' := hB.base _ _ h3
  (repeat (first | refine Stp.s ?_ | refine inBlock_exit' (by decide) ?_ | ((first | refine vc_region fun K KP hK hKP => ?_ | refine Stg.s ?_ | refine guardD_ret0 ?_ | refine exV_intro _ rfl ?_); (try simp only [go_sem, loadL_a]); try ((first | refine hK _ _ ?_ | refine hKP _ _ _ ?_ | refine hKP _ _ (fun _ => ?_)); clear hK hKP K KP))))
  refine vc_cond rfl (fun hc => ?_) (fun hc => ?_)
  · have hlt : i < l.length := by simpa using hc
    have g1 : (0 : Int) ≤ i := by omega
    have g2 : (i : Int) < l.length := by omega
    have r1 := row_get (spare := spare) hlt
    (repeat (first | refine Stp.s ?_ | refine inBlock_exit' (by decide) ?_ | ((first | refine vc_region fun K KP hK hKP => ?_ | refine Stg.s ?_ | refine guardD_ret0 ?_ | refine exV_intro _ rfl ?_); (try simp only [go_sem, loadL_a]); try ((first | refine hK _ _ ?_ | refine hKP _ _ _ ?_ | refine hKP _ _ (fun _ => ?_)); clear hK hKP K KP))))
    refine vc_draw mixed [] [0, 1, 2, 3, 4, 5, 6, 7] [0, 1, 2, 3, 4, 5, 6, 7] [] (fun _ => True) (by kernel_rfl) (by kernel_rfl) (by kernel_rfl) trivial fun K KP hK hKP => ?_
    ((try simp only [go_sem, treeLoad t ht, h3', hb, g1, g2, r1, Int.toNat_natCast]); (try ((first | refine hK _ _ ?_ | refine hKP _ _ _ ?_ | refine hKP _ _ (fun _ => ?_)); clear hK hKP K KP)); repeat (first | refine Stp.s ?_ | refine inBlock_exit' (by decide) ?_ | ((first | refine vc_region fun K KP hK hKP => ?_ | refine Stg.s ?_ | refine guardD_ret0 ?_ | refine exV_intro _ rfl ?_); (try simp only [go_sem, treeLoad t ht, h3', hb, g1, g2, r1, Int.toNat_natCast]); try ((first | refine hK _ _ ?_ | refine hKP _ _ _ ?_ | refine hKP _ _ (fun _ => ?_)); clear hK hKP K KP))))
    ((try simp only [go_sem, loadL_a]); first | refine exV_intro _ (callV_pure (next_pure t ht _) ⟨rfl, rfl⟩) ?_ | refine exV_intro _ (fun _ => callV_pure (next_pure t ht _) ⟨rfl, rfl⟩) ?_)
    ((try simp only [go_sem, List.length_map]); (try ((first | refine hK _ _ ?_ | refine hKP _ _ _ ?_ | refine hKP _ _ (fun _ => ?_)); clear hK hKP K KP)); repeat (first | refine Stp.s ?_ | refine inBlock_exit' (by decide) ?_ | ((first | refine vc_region fun K KP hK hKP => ?_ | refine Stg.s ?_ | refine guardD_ret0 ?_ | refine exV_intro _ rfl ?_); (try simp only [go_sem, List.length_map]); try ((first | refine hK _ _ ?_ | refine hKP _ _ _ ?_ | refine hKP _ _ (fun _ => ?_)); clear hK hKP K KP))))
    generalize hv : l.getD i 0 = v
    refine vc_loop (loopV (fun (a : Nat × V × List Int) => [t.v, a.2.1, I64 w, .ptr b3 0, .top, .top, nilS, I64 i, .top, .top, .top, .top, .top, .top, .top, .top, .top, .top, .top, .top, .top, ints (t.next v), I64 (t.next v).length, I64 a.1, .top, .top, .top, .top, .top, .top, .top, .top, .top, .top, .top, .top, .top, .top, .top, .top, .top, .top, .top, .top])
      (fun a τ => a.1 ≤ (t.next v).length ∧ i < a.2.2.length ∧ a.2.2.getD i 0 = v ∧ Seen t w s a.2.2 ∧ Bor f σ1 τ a.2.1 (a.2.2.map I64) a.2.2.length ∧ (∀ j, j < i → ∀ y, t.adj (a.2.2.getD j 0) y = true → y ≠ w → y ∈ a.2.2) ∧ ∀ y ∈ (t.next v).take a.1, y ≠ w → y ∈ a.2.2) (fun a _ => (t.next v).length - a.1) (0, .sl b 0 l.length cap, l) (by repeat (first | exact LeEnv.nil | refine LeEnv.same ?_ | refine LeEnv.top ?_)) ⟨by simp, hlt, hv, hS, hB, hcl, by simp⟩ ?_)
    clear hi hS hcl hl12 hB hb hset h3' hc hlt g2 r1 hv
    rintro ⟨k, x, l⟩ τ ⟨hk, hil, hv, hS, hB, hcl, hdone⟩
    simp only at hk hil hv hS hB hcl hdone
    have hl12 := hS.len
    have hn12 := next_len t v
    obtain ⟨b, cap, spare, rfl, hb, hset⟩ := hB.at_ hS.ne
    have h3' := hB.base _ _ h3
    (repeat (first | refine Stp.s ?_ | refine inBlock_exit' (by decide) ?_ | ((first | refine vc_region fun K KP hK hKP => ?_ | refine Stg.s ?_ | refine guardD_ret0 ?_ | refine exV_intro _ rfl ?_); (try simp only [go_sem, loadL_a]); try ((first | refine hK _ _ ?_ | refine hKP _ _ _ ?_ | refine hKP _ _ (fun _ => ?_)); clear hK hKP K KP))))
    refine vc_cond rfl (fun hc => ?_) (fun hc => ?_)
    · have hlt : k < (t.next v).length := by simpa using hc
      have g1 : (0 : Int) ≤ k := by omega
      have g2 : (k : Int) < (t.next v).length := by omega
      have hx : ((t.next v).map I64).getD k .top = I64 (t.next v)[k] := getD_map I64 _ k hlt
      have hw : IntKind.i64.wrap ((k : Int) + 1) = ((k + 1 : Nat) : Int) := by rw [i64_in (by omega) (by omega)]; omega
      (repeat (first | refine Stp.s ?_ | refine inBlock_exit' (by decide) ?_ | ((first | refine vc_region fun K KP hK hKP => ?_ | refine Stg.s ?_ | refine guardD_ret0 ?_ | refine exV_intro _ rfl ?_); (try simp only [go_sem, loadL_a, g1, g2, hx, List.length_map, Int.toNat_natCast]); try ((first | refine hK _ _ ?_ | refine hKP _ _ _ ?_ | refine hKP _ _ (fun _ => ?_)); clear hK hKP K KP))))
      ((try simp only [go_sem, loadL_a]); refine guardC_q0 (fun _ => callV_quiet en101 (contains_row _ _ l _ (by omega) _ (IRow.sl hb (by omega))) ⟨rfl, rfl⟩) ?_)
      ((try simp only [go_sem, loadL_a, hw]); (try ((first | refine hK _ _ ?_ | refine hKP _ _ _ ?_ | refine hKP _ _ (fun _ => ?_)); clear hK hKP K KP)); repeat (first | refine Stp.s ?_ | refine inBlock_exit' (by decide) ?_ | ((first | refine vc_region fun K KP hK hKP => ?_ | refine Stg.s ?_ | refine guardD_ret0 ?_ | refine exV_intro _ rfl ?_); (try simp only [go_sem, loadL_a, hw]); try ((first | refine hK _ _ ?_ | refine hKP _ _ _ ?_ | refine hKP _ _ (fun _ => ?_)); clear hK hKP K KP))))
      refine vc_cond rfl (fun hadd => ?_) (fun hadd => ?_)
      · have hy : t.adj v (t.next v)[k] = true := mem_next.1 (List.getElem_mem hlt)
        have hne : (t.next v)[k] ≠ w := by simp only [Bool.and_eq_true, bne_iff_ne] at hadd; exact hadd.1
        have hnin : (t.next v)[k] ∉ l := fun hin => by
          simp only [Bool.and_eq_true, Bool.not_eq_true', List.any_eq_false] at hadd
          exact hadd.2 _ hin (by simp)
        have hvl : v ∈ l := by rw [← hv, List.getD_eq_getElem?_getD, List.getElem?_eq_getElem hil]; exact List.getElem_mem hil
        have hgd : ∀ j, j < l.length → (l ++ [(t.next v)[k]]).getD j 0 = l.getD j 0 := fun j hj => by simp [List.getD_eq_getElem?_getD, List.getElem?_append_left hj]
        (repeat (first | refine Stp.s ?_ | refine inBlock_exit' (by decide) ?_ | ((first | refine vc_region fun K KP hK hKP => ?_ | refine Stg.s ?_ | refine guardD_ret0 ?_ | refine exV_intro _ rfl ?_); (try simp only [go_sem, loadL_a, hw]); try ((first | refine hK _ _ ?_ | refine hKP _ _ _ ?_ | refine hKP _ _ (fun _ => ?_)); clear hK hKP K KP))))
        intro b8 hb8
        refine append_bor hB (Store.le_set hb8 (Store.le_refl _)) (row_lit (Store.set_same _ _ _) rfl rfl) rfl (by omega) ?_
        intro x' τ' σ' hB' hle'
        ((try simp only [go_sem, loadL_a, hw]); refine hK _ _ ?_; clear hK hKP K KP; repeat (first | refine Stp.s ?_ | refine inBlock_exit' (by decide) ?_ | ((first | refine vc_region fun K KP hK hKP => ?_ | refine Stg.s ?_ | refine guardD_ret0 ?_ | refine exV_intro _ rfl ?_); (try simp only [go_sem, loadL_a, hw]); try ((first | refine hK _ _ ?_ | refine hKP _ _ _ ?_ | refine hKP _ _ (fun _ => ?_)); clear hK hKP K KP))))
        refine ⟨(k + 1, x', l ++ [(t.next v)[k]]), τ', ?_, hle', ⟨hlt, by simp; omega, by rw [hgd i hil]; exact hv, hS.add hvl hy hne hnin, (by rw [List.map_append, List.length_append]; exact Or.inl ⟨hB', fun _ => by have := hS.ne; show l.length + 1 ≠ 1; omega⟩ : Bor f σ1 τ' x' ((l ++ [(t.next v)[k]]).map I64) (l ++ [(t.next v)[k]]).length), fun j hj y ha hyw => List.mem_append.2 (.inl (hcl j hj y (by rw [hgd j (by omega)] at ha; exact ha) hyw)), ?_⟩, by show (t.next v).length - (k + 1) < (t.next v).length - k; omega⟩
        · repeat (first | exact LeEnv.nil | refine LeEnv.same ?_ | refine LeEnv.top ?_)
        · intro y hy2 hyw
          have hy2 : y ∈ (t.next v).take (k + 1) := hy2
          rw [List.take_succ_eq_append_getElem hlt] at hy2
          rcases List.mem_append.1 hy2 with q | q
          · exact List.mem_append.2 (.inl (hdone y q hyw))
          · exact List.mem_append.2 (.inr q)
      · (repeat (first | refine Stp.s ?_ | refine inBlock_exit' (by decide) ?_ | ((first | refine vc_region fun K KP hK hKP => ?_ | refine Stg.s ?_ | refine guardD_ret0 ?_ | refine exV_intro _ rfl ?_); (try simp only [go_sem, loadL_a, hw]); try ((first | refine hK _ _ ?_ | refine hKP _ _ _ ?_ | refine hKP _ _ (fun _ => ?_)); clear hK hKP K KP))))
        refine ⟨(k + 1, .sl b 0 l.length cap, l), τ, ?_, Store.le_refl _, ⟨hlt, hil, hv, hS, hB, hcl, ?_⟩, by show (t.next v).length - (k + 1) < (t.next v).length - k; omega⟩
        · repeat (first | exact LeEnv.nil | refine LeEnv.same ?_ | refine LeEnv.top ?_)
        · intro y hy2 hyw
          have hy2 : y ∈ (t.next v).take (k + 1) := hy2
          rw [List.take_succ_eq_append_getElem hlt] at hy2
          rcases List.mem_append.1 hy2 with q | q
          · exact hdone y q hyw
          · have q : y = (t.next v)[k] := by simpa using q
            subst q
            simp only [Bool.and_eq_false_iff, bne_eq_false_iff_eq, Bool.not_eq_false'] at hadd
            rcases hadd with e | e
            · exact absurd e hyw
            · obtain ⟨z, hz, e⟩ := List.any_eq_true.1 e
              rw [beq_iff_eq] at e; rw [e]; exact hz
    · have hkk : k = (t.next v).length := by simp at hc; omega
      rw [hkk, List.take_length] at hdone
      have hw : IntKind.i64.wrap ((i : Int) + 1) = ((i + 1 : Nat) : Int) := by rw [i64_in (by omega) (by omega)]; omega
      (repeat (first | refine Stp.s ?_ | refine inBlock_exit' (by decide) ?_ | ((first | refine vc_region fun K KP hK hKP => ?_ | refine Stg.s ?_ | refine guardD_ret0 ?_ | refine exV_intro _ rfl ?_); (try simp only [go_sem, loadL_a, hw]); try ((first | refine hK _ _ ?_ | refine hKP _ _ _ ?_ | refine hKP _ _ (fun _ => ?_)); clear hK hKP K KP))))
      refine ⟨(i + 1, .sl b 0 l.length cap, l), τ, ?_, Store.le_refl _, ⟨hil, hS, hB, fun j hj y ha hyw => ?_⟩, by show 12 - (i + 1) < 12 - i; omega⟩
      · repeat (first | exact LeEnv.nil | refine LeEnv.same ?_ | refine LeEnv.top ?_)
      · rcases Nat.lt_or_eq_of_le (Nat.le_of_lt_succ hj) with q | q
        · exact hcl j q y ha hyw
        · have ha : t.adj (l.getD j 0) y = true := ha
          rw [q, hv] at ha; exact hdone y (mem_next.2 ha) hyw
  · have hii : i = l.length := by simp at hc; omega
    have hclosed : ∀ x ∈ l, ∀ y, t.adj x y = true → y ≠ w → y ∈ l := fun x hx y ha hyw => by
      obtain ⟨j, hj, e⟩ := List.mem_iff_getElem.1 hx
      exact hcl j (by omega) y (by rw [List.getD_eq_getElem?_getD, List.getElem?_eq_getElem hj]; exact (by rw [e]; exact ha)) hyw
    (repeat (first | refine Stp.s ?_ | refine inBlock_exit' (by decide) ?_ | ((first | refine vc_region fun K KP hK hKP => ?_ | refine Stg.s ?_ | refine guardD_ret0 ?_ | refine exV_intro _ rfl ?_); (try simp only [go_sem, loadL_a]); try ((first | refine hK _ _ ?_ | refine hKP _ _ _ ?_ | refine hKP _ _ (fun _ => ?_)); clear hK hKP K KP))))
    refine callV_of en110 (sort b cap l spare τ hb hl12) (fun x σ' ⟨l', e, hp, hso, es⟩ => ?_) (fun x σ' ⟨l', e, _⟩ => by cases e)
    cases e; rw [es]; clear es
    ((try simp only [go_sem, loadL_a]); refine hK _ _ ?_; clear hK hKP K KP; repeat (first | refine Stp.s ?_ | refine inBlock_exit' (by decide) ?_ | ((first | refine vc_region fun K KP hK hKP => ?_ | refine Stg.s ?_ | refine guardD_ret0 ?_ | refine exV_intro _ rfl ?_); (try simp only [go_sem, loadL_a]); try ((first | refine hK _ _ ?_ | refine hKP _ _ _ ?_ | refine hKP _ _ (fun _ => ?_)); clear hK hKP K KP))))
    (simp only [postV, resV, oneOf, List.getD_cons_succ, List.getD_cons_zero, and_true, true_and])
    have hfin := sorted_eq hS hclosed hp hso
    have hbl := hset (l'.map I64) (by simp [hp.length_eq]) (fun e1 => by
      obtain ⟨a, ha⟩ := List.length_eq_one_iff.1 e1
      rw [ha] at hp ⊢; rw [List.perm_singleton.1 hp])
    rw [← hp.length_eq] at hbl ⊢
    rw [← hfin]
    exact ⟨_, σ1, rfl, hbase, hbl⟩
theorem walk_ok (t : Tr) (ht : t.Ok) (w s : Int) (hs : s ∈ nums) (σ0 σ : Store) (x : V) (hB : Bld 1 σ0 σ x [I64 s] 1) :
    HCalls Try.prog 94 [t.v, x, I64 w] σ (Ends (ints (t.wset w s)) σ0) :=
  (walk_bor none t ht w s hs σ0 σ x (.inl ⟨hB, fun h => by cases h⟩)).mono fun r σ' ⟨y, σ1, e, hle, hb⟩ => by
    rcases hb with ⟨hb, _⟩ | ⟨b, _, _, hf, _⟩
    · exact ⟨y, e, Weakens.trans hb.ints (Weakens.le hle)⟩
    · cases hf
/-- From a slice of length and room 1 that belongs to another. -/
theorem walk_cut (t : Tr) (ht : t.Ok) (w s : Int) (hs : s ∈ nums) (σ : Store) (b : Nat) (spare : List V) (hb : σ b = some (.cells (I64 s :: spare))) :
    HQuiet Try.prog 94 [t.v, .sl b 0 1 1, I64 w] σ (if (t.wset w s).length = 1 then .sl b 0 1 1 else ints (t.wset w s)) :=
  HQuiet.of ((walk_bor (some b) t ht w s hs σ σ _ (.inr ⟨b, I64 s, spare, rfl, rfl, rfl, rfl, hb, rfl⟩)).mono fun r σ' ⟨y, σ1, e, hle, hbo⟩ => by
    rcases hbo with ⟨hbo, h1⟩ | ⟨b', _, _, hf, hy, h1, _, _, hσ⟩
    · rw [if_neg (h1 rfl)]
      exact ⟨y, e, Weakens.trans hbo.ints (Weakens.le hle)⟩
    · rw [if_pos h1]
      cases hf
      subst hy hσ
      exact ⟨_, e, Weakens.le hle⟩)
end Go.Proofs.Ytbgagffpmdlilaa

namespace Go.Proofs.Ytbgagffpmdlilaa
set_option linter.unusedSimpArgs false
set_option linter.unusedVariables false
open Go.Proofs
attribute [local irreducible] vc vcOps vcDraw vcK vcKP vcDK vcDB HWp HCalls postV Ex.then Ex.inBlock stepD callV appendV guardC guardD exV effV opV loadV storeV indexAddrV indexV sliceV
set_option maxRecDepth 10000
set_option maxHeartbeats 4000000

theorem nil_ints {σ0 σ : Store} (h : σ0.le σ) : Weakens nilS σ (ints []) σ0 := Weakens.trans (Weakens.le h) (Bld.ints (l := []) (Bld.nil 1 σ0))
noncomputable def Tr.beyond (t : Tr) (n m : Int) : List Int := if t.adj n m = true then t.wset n m else []
theorem beyond_pure (t : Tr) (ht : t.Ok) (n m : Int) : HPure Try.prog 72 [t.v, I64 n, I64 m] (ints (t.beyond n m)) := by
  (refine HPure.of en72 fun σ => ?_); (refine HCalls.of_vc Try.func72 rfl ?_; rw [Try.ntmps72, Try.results72]; simp only [List.length_cons, List.length_nil, Nat.reduceAdd, Nat.reduceSub, List.replicate, List.cons_append, List.nil_append])
  (repeat (first | refine Stp.s ?_ | refine inBlock_exit' (by decide) ?_ | ((first | refine vc_region fun K KP hK hKP => ?_ | refine Stg.s ?_ | refine guardD_ret0 ?_ | refine exV_intro _ rfl ?_); (try simp only [go_sem, loadL_a]); try ((first | refine hK _ _ ?_ | refine hKP _ _ _ ?_ | refine hKP _ _ (fun _ => ?_)); clear hK hKP K KP))))
  intro b3 hb3
  ((try simp only [go_sem, treeLoad t ht]); refine hK _ _ ?_; clear hK hKP K KP; repeat (first | refine Stp.s ?_ | refine inBlock_exit' (by decide) ?_ | ((first | refine vc_region fun K KP hK hKP => ?_ | refine Stg.s ?_ | refine guardD_ret0 ?_ | refine exV_intro _ rfl ?_); (try simp only [go_sem, treeLoad t ht]); try ((first | refine hK _ _ ?_ | refine hKP _ _ _ ?_ | refine hKP _ _ (fun _ => ?_)); clear hK hKP K KP))))
  have hle3 : σ.le (σ.set b3 (.cells (t.kinds.map I64 ++ [t.es]))) := Store.le_set hb3 (Store.le_refl _)
  ((try simp only [go_sem, loadL_a]); first | refine callV_pure (next_pure t ht _) ?_ | refine guardC_q0 (fun _ => callV_pure (next_pure t ht _) ⟨rfl, rfl⟩) ?_)
  ((try simp only [go_sem, loadL_a]); first | refine callV_pure (contains_int (t.next n) m (by have := next_len t n; omega)) ?_ | refine guardC_q0 (fun _ => callV_pure (contains_int (t.next n) m (by have := next_len t n; omega)) ⟨rfl, rfl⟩) ?_)
  ((try simp only [go_sem, loadL_a]); (try ((first | refine hK _ _ ?_ | refine hKP _ _ _ ?_ | refine hKP _ _ (fun _ => ?_)); clear hK hKP K KP)); repeat (first | refine Stp.s ?_ | refine inBlock_exit' (by decide) ?_ | ((first | refine vc_region fun K KP hK hKP => ?_ | refine Stg.s ?_ | refine guardD_ret0 ?_ | refine exV_intro _ rfl ?_); (try simp only [go_sem, loadL_a]); try ((first | refine hK _ _ ?_ | refine hKP _ _ _ ?_ | refine hKP _ _ (fun _ => ?_)); clear hK hKP K KP))))
  have hany : (t.next n).any (m == ·) = t.adj n m := by
    rw [Bool.eq_iff_iff, List.any_eq_true, ← mem_next]
    exact ⟨fun ⟨y, hy, e⟩ => by rw [beq_iff_eq] at e; rw [e]; exact hy, fun h => ⟨m, h, by simp⟩⟩
  rw [hany]
  refine vc_cond rfl (fun hc => ?_) (fun hc => ?_)
  · (repeat (first | refine Stp.s ?_ | refine inBlock_exit' (by decide) ?_ | ((first | refine vc_region fun K KP hK hKP => ?_ | refine Stg.s ?_ | refine guardD_ret0 ?_ | refine exV_intro _ rfl ?_); (try simp only [go_sem, loadL_a]); try ((first | refine hK _ _ ?_ | refine hKP _ _ _ ?_ | refine hKP _ _ (fun _ => ?_)); clear hK hKP K KP))))
    (simp only [postV, resV, oneOf, List.getD_cons_succ, List.getD_cons_zero, and_true, true_and])
    have : t.beyond n m = [] := by unfold Tr.beyond; rw [if_neg]; simpa using hc
    rw [this]
    exact Ends.mk (nil_ints hle3)
  · have ha : t.adj n m = true := by simpa using hc
    (repeat (first | refine Stp.s ?_ | refine inBlock_exit' (by decide) ?_ | ((first | refine vc_region fun K KP hK hKP => ?_ | refine Stg.s ?_ | refine guardD_ret0 ?_ | refine exV_intro _ rfl ?_); (try simp only [go_sem, treeLoad t ht]); try ((first | refine hK _ _ ?_ | refine hKP _ _ _ ?_ | refine hKP _ _ (fun _ => ?_)); clear hK hKP K KP))))
    intro b8 hb8
    refine callV_ends en94 (walk_ok t ht n m (adj_nums ha) _ _ _ (.inr ⟨b8, 1, [], rfl, hb8, rfl, rfl, by simp, Nat.le_refl _, by decide⟩)) ?_
    ((try simp only [go_sem, loadL_a]); (try ((first | refine hK _ _ ?_ | refine hKP _ _ _ ?_ | refine hKP _ _ (fun _ => ?_)); clear hK hKP K KP)); repeat (first | refine Stp.s ?_ | refine inBlock_exit' (by decide) ?_ | ((first | refine vc_region fun K KP hK hKP => ?_ | refine Stg.s ?_ | refine guardD_ret0 ?_ | refine exV_intro _ rfl ?_); (try simp only [go_sem, loadL_a]); try ((first | refine hK _ _ ?_ | refine hKP _ _ _ ?_ | refine hKP _ _ (fun _ => ?_)); clear hK hKP K KP))))
    (simp only [postV, resV, oneOf, List.getD_cons_succ, List.getD_cons_zero, and_true, true_and])
    have : t.beyond n m = t.wset n m := by unfold Tr.beyond; rw [if_pos ha]
    rw [this]
    exact Ends.le rfl hle3

def Tr.leaf (t : Tr) (n : Int) : Bool := match t.next n with | [x] => t.kind x == 3 | _ => false
theorem leaf_pure (t : Tr) (ht : t.Ok) (n : Int) : HPure Try.prog 92 [t.v, I64 n] (BV (t.leaf n)) := by
  (refine HPure.of en92 fun σ => ?_); (refine HCalls.of_vc Try.func92 rfl ?_; rw [Try.ntmps92, Try.results92]; simp only [List.length_cons, List.length_nil, Nat.reduceAdd, Nat.reduceSub, List.replicate, List.cons_append, List.nil_append])
  (repeat (first | refine Stp.s ?_ | refine inBlock_exit' (by decide) ?_ | ((first | refine vc_region fun K KP hK hKP => ?_ | refine Stg.s ?_ | refine guardD_ret0 ?_ | refine exV_intro _ rfl ?_); (try simp only [go_sem, loadL_a]); try ((first | refine hK _ _ ?_ | refine hKP _ _ _ ?_ | refine hKP _ _ (fun _ => ?_)); clear hK hKP K KP))))
  intro b3 hb3
  ((try simp only [go_sem, treeLoad t ht]); refine hK _ _ ?_; clear hK hKP K KP; repeat (first | refine Stp.s ?_ | refine inBlock_exit' (by decide) ?_ | ((first | refine vc_region fun K KP hK hKP => ?_ | refine Stg.s ?_ | refine guardD_ret0 ?_ | refine exV_intro _ rfl ?_); (try simp only [go_sem, treeLoad t ht]); try ((first | refine hK _ _ ?_ | refine hKP _ _ _ ?_ | refine hKP _ _ (fun _ => ?_)); clear hK hKP K KP))))
  have hle3 : σ.le (σ.set b3 (.cells (t.kinds.map I64 ++ [t.es]))) := Store.le_set hb3 (Store.le_refl _)
  have h3 : (σ.set b3 (.cells (t.kinds.map I64 ++ [t.es]))) b3 = some (.cells (t.kinds.map I64 ++ [t.es])) := Store.set_same _ _ _
  have hlf : t.leaf n = match t.next n with | [x] => t.kind x == 3 | _ => false := rfl
  ((try simp only [go_sem, loadL_a]); first | refine callV_pure (next_pure t ht _) ?_ | refine guardC_q0 (fun _ => callV_pure (next_pure t ht _) ⟨rfl, rfl⟩) ?_)
  rcases hl : t.next n with _ | ⟨y, _ | ⟨z, r⟩⟩
  · rw [hl] at hlf
    have e0 : (((0 : Nat) : Int) == 1) = false := rfl
    ((try simp only [go_sem, loadL_a]); (try ((first | refine hK _ _ ?_ | refine hKP _ _ _ ?_ | refine hKP _ _ (fun _ => ?_)); clear hK hKP K KP)); repeat (first | refine Stp.s ?_ | refine inBlock_exit' (by decide) ?_ | ((first | refine vc_region fun K KP hK hKP => ?_ | refine Stg.s ?_ | refine guardD_ret0 ?_ | refine exV_intro _ rfl ?_); (try simp only [go_sem, loadL_a]); try ((first | refine hK _ _ ?_ | refine hKP _ _ _ ?_ | refine hKP _ _ (fun _ => ?_)); clear hK hKP K KP))))
    ((repeat first | refine Stp.s ?_ | refine inBlock_exit' (by decide) ?_); refine vc_draw mixed [] [0, 1, 2, 3, 4, 5, 6, 7, 8, 9, 10, 11] [0, 1, 2, 3, 4, 5, 6, 7, 8, 9, 10, 11] [] (fun _ => True) (by kernel_rfl) (by kernel_rfl) (by kernel_rfl) trivial fun K KP hK hKP => ?_; simp only [go_sem, loadL_a, e0]; try (refine hK _ _ ?_; clear hK hKP K KP))
    ((try simp only [go_sem, loadL_a, e0]); (try ((first | refine hK _ _ ?_ | refine hKP _ _ _ ?_ | refine hKP _ _ (fun _ => ?_)); clear hK hKP K KP)); repeat (first | refine Stp.s ?_ | refine inBlock_exit' (by decide) ?_ | ((first | refine vc_region fun K KP hK hKP => ?_ | refine Stg.s ?_ | refine guardD_ret0 ?_ | refine exV_intro _ rfl ?_); (try simp only [go_sem, loadL_a, e0]); try ((first | refine hK _ _ ?_ | refine hKP _ _ _ ?_ | refine hKP _ _ (fun _ => ?_)); clear hK hKP K KP))))
    (simp only [postV, resV, oneOf, List.getD_cons_succ, List.getD_cons_zero, and_true, true_and])
    exact Ends.le (by rw [hlf]) hle3
  · rw [hl] at hlf
    have e1 : (((1 : Nat) : Int) == 1) = true := rfl
    have e3 : ((0 : Int) < ((1 : Nat) : Int)) = True := by simp
    have e4 : ((0 : Int) ≤ 0) = True := by simp
    have e5 : ((0 : Int)).toNat = 0 := rfl
    ((try simp only [go_sem, loadL_a]); (try ((first | refine hK _ _ ?_ | refine hKP _ _ _ ?_ | refine hKP _ _ (fun _ => ?_)); clear hK hKP K KP)); repeat (first | refine Stp.s ?_ | refine inBlock_exit' (by decide) ?_ | ((first | refine vc_region fun K KP hK hKP => ?_ | refine Stg.s ?_ | refine guardD_ret0 ?_ | refine exV_intro _ rfl ?_); (try simp only [go_sem, loadL_a]); try ((first | refine hK _ _ ?_ | refine hKP _ _ _ ?_ | refine hKP _ _ (fun _ => ?_)); clear hK hKP K KP))))
    ((repeat first | refine Stp.s ?_ | refine inBlock_exit' (by decide) ?_); refine vc_draw mixed [] [0, 1, 2, 3, 4, 5, 6, 7, 8, 9, 10, 11] [0, 1, 2, 3, 4, 5, 6, 7, 8, 9, 10, 11] [] (fun _ => True) (by kernel_rfl) (by kernel_rfl) (by kernel_rfl) trivial fun K KP hK hKP => ?_; simp only [go_sem, e1, e3, e4, e5, treeLoad t ht, h3]; try (refine hK _ _ ?_; clear hK hKP K KP))
    ((try simp only [go_sem, e1, e3, e4, e5, treeLoad t ht, h3]); (try ((first | refine hK _ _ ?_ | refine hKP _ _ _ ?_ | refine hKP _ _ (fun _ => ?_)); clear hK hKP K KP)); repeat (first | refine Stp.s ?_ | refine inBlock_exit' (by decide) ?_ | ((first | refine vc_region fun K KP hK hKP => ?_ | refine Stg.s ?_ | refine guardD_ret0 ?_ | refine exV_intro _ rfl ?_); (try simp only [go_sem, e1, e3, e4, e5, treeLoad t ht, h3]); try ((first | refine hK _ _ ?_ | refine hKP _ _ _ ?_ | refine hKP _ _ (fun _ => ?_)); clear hK hKP K KP))))
    ((try simp only [go_sem, loadL_a]); first | refine guardD_q0 (fun _ => callV_pure (kind_pure t ht _) ⟨rfl, rfl⟩) ?_ | refine guardD_q0 (fun _ _ => callV_pure (kind_pure t ht _) ⟨rfl, rfl⟩) ?_)
    ((try simp only [go_sem, loadL_a]); (try ((first | refine hK _ _ ?_ | refine hKP _ _ _ ?_ | refine hKP _ _ (fun _ => ?_)); clear hK hKP K KP)); repeat (first | refine Stp.s ?_ | refine inBlock_exit' (by decide) ?_ | ((first | refine vc_region fun K KP hK hKP => ?_ | refine Stg.s ?_ | refine guardD_ret0 ?_ | refine exV_intro _ rfl ?_); (try simp only [go_sem, loadL_a]); try ((first | refine hK _ _ ?_ | refine hKP _ _ _ ?_ | refine hKP _ _ (fun _ => ?_)); clear hK hKP K KP))))
    (simp only [postV, resV, oneOf, List.getD_cons_succ, List.getD_cons_zero, and_true, true_and])
    exact Ends.le (by rw [hlf]) hle3
  · rw [hl] at hlf
    have e0 : (((r.length + 1 + 1 : Nat) : Int) == 1) = false := by
      rw [beq_eq_false_iff_ne]; omega
    ((try simp only [go_sem, loadL_a]); (try ((first | refine hK _ _ ?_ | refine hKP _ _ _ ?_ | refine hKP _ _ (fun _ => ?_)); clear hK hKP K KP)); repeat (first | refine Stp.s ?_ | refine inBlock_exit' (by decide) ?_ | ((first | refine vc_region fun K KP hK hKP => ?_ | refine Stg.s ?_ | refine guardD_ret0 ?_ | refine exV_intro _ rfl ?_); (try simp only [go_sem, loadL_a]); try ((first | refine hK _ _ ?_ | refine hKP _ _ _ ?_ | refine hKP _ _ (fun _ => ?_)); clear hK hKP K KP))))
    ((repeat first | refine Stp.s ?_ | refine inBlock_exit' (by decide) ?_); refine vc_draw mixed [] [0, 1, 2, 3, 4, 5, 6, 7, 8, 9, 10, 11] [0, 1, 2, 3, 4, 5, 6, 7, 8, 9, 10, 11] [] (fun _ => True) (by kernel_rfl) (by kernel_rfl) (by kernel_rfl) trivial fun K KP hK hKP => ?_; simp only [go_sem, loadL_a, e0, List.length_map]; try (refine hK _ _ ?_; clear hK hKP K KP))
    ((try simp only [go_sem, loadL_a, e0, List.length_map]); (try ((first | refine hK _ _ ?_ | refine hKP _ _ _ ?_ | refine hKP _ _ (fun _ => ?_)); clear hK hKP K KP)); repeat (first | refine Stp.s ?_ | refine inBlock_exit' (by decide) ?_ | ((first | refine vc_region fun K KP hK hKP => ?_ | refine Stg.s ?_ | refine guardD_ret0 ?_ | refine exV_intro _ rfl ?_); (try simp only [go_sem, loadL_a, e0, List.length_map]); try ((first | refine hK _ _ ?_ | refine hKP _ _ _ ?_ | refine hKP _ _ (fun _ => ?_)); clear hK hKP K KP))))
    (simp only [postV, resV, oneOf, List.getD_cons_succ, List.getD_cons_zero, and_true, true_and])
    exact Ends.le (by rw [hlf]) hle3

/-- slices.ContainsFunc at numbers, of any row. -/
theorem contF_row (x : V) (pt : Nat → V) (l : List Int) (g : FuncId) (ps qs : List V) (p : Int → Bool) (σ : Store) (hl : l.length ≤ 9223372036854775807) (he : entersB Try.prog g = true) (hr : IRow x pt l σ)
    (hf : ∀ y ∈ l, HQuiet Try.prog g (ps ++ [I64 y] ++ qs) σ (BV (p y))) :
    HQuiet Try.prog 127 [x, .fn (.func g) ps qs] σ (BV (l.any p)) := by
  have key : HQuiet Try.prog 166 [x, .fn (.func g) ps qs] σ (I64 (idxOf (l.findIdx? p))) := by
    refine HQuiet.of ?_; (refine HCalls.of_vc Try.func166 rfl ?_; rw [Try.ntmps166, Try.results166]; simp only [List.length_cons, List.length_nil, Nat.reduceAdd, Nat.reduceSub, List.replicate, List.cons_append, List.nil_append])
    (repeat (first | refine Stp.s ?_ | refine inBlock_exit' (by decide) ?_ | ((first | refine vc_region fun K KP hK hKP => ?_ | refine Stg.s ?_ | refine guardD_ret0 ?_ | refine exV_intro _ rfl ?_); (try simp only [go_sem, loadL_a, hr.len]); try ((first | refine hK _ _ ?_ | refine hKP _ _ _ ?_ | refine hKP _ _ (fun _ => ?_)); clear hK hKP K KP))))
    refine vc_loop (loopV (fun (i : Nat) => [x, .fn (.func g) ps qs, .top, .top, I64 0, .top, x, I64 l.length, I64 i, .top, .top, .top, .top, .top, .top, .top, .top, .top, .top]) (fun i τ => i ≤ l.length ∧ τ = σ ∧ ∀ x ∈ l.take i, p x = false) (fun i _ => l.length - i) 0 (by repeat (first | exact LeEnv.nil | refine LeEnv.same ?_ | refine LeEnv.top ?_)) ⟨Nat.zero_le _, rfl, by simp⟩ ?_)
    rintro i τ ⟨hi, rfl, hno⟩
    (repeat (first | refine Stp.s ?_ | refine inBlock_exit' (by decide) ?_ | ((first | refine vc_region fun K KP hK hKP => ?_ | refine Stg.s ?_ | refine guardD_ret0 ?_ | refine exV_intro _ rfl ?_); (try simp only [go_sem, loadL_a]); try ((first | refine hK _ _ ?_ | refine hKP _ _ _ ?_ | refine hKP _ _ (fun _ => ?_)); clear hK hKP K KP))))
    refine vc_cond rfl (fun hc1 => ?_) (fun hc1 => ?_)
    · have hlt : i < l.length := by simpa using hc1
      have hx : l.getD i 0 = l[i] := by simp [hlt]
      (repeat (first | refine Stp.s ?_ | refine inBlock_exit' (by decide) ?_ | ((first | refine vc_region fun K KP hK hKP => ?_ | refine Stg.s ?_ | refine guardD_ret0 ?_ | refine exV_intro _ rfl ?_); (try simp only [go_sem, loadL_a, hr.ix i hlt, hr.ld i hlt, hx]); try ((first | refine hK _ _ ?_ | refine hKP _ _ _ ?_ | refine hKP _ _ (fun _ => ?_)); clear hK hKP K KP))))
      refine callV_quiet he (hf _ (List.getElem_mem hlt)) ?_
      ((try simp only [go_sem, loadL_a]); (try ((first | refine hK _ _ ?_ | refine hKP _ _ _ ?_ | refine hKP _ _ (fun _ => ?_)); clear hK hKP K KP)); repeat (first | refine Stp.s ?_ | refine inBlock_exit' (by decide) ?_ | ((first | refine vc_region fun K KP hK hKP => ?_ | refine Stg.s ?_ | refine guardD_ret0 ?_ | refine exV_intro _ rfl ?_); (try simp only [go_sem, loadL_a]); try ((first | refine hK _ _ ?_ | refine hKP _ _ _ ?_ | refine hKP _ _ (fun _ => ?_)); clear hK hKP K KP))))
      refine vc_cond rfl (fun hp => ?_) (fun hp => ?_)
      · (repeat (first | refine Stp.s ?_ | refine inBlock_exit' (by decide) ?_ | ((first | refine vc_region fun K KP hK hKP => ?_ | refine Stg.s ?_ | refine guardD_ret0 ?_ | refine exV_intro _ rfl ?_); (try simp only [go_sem, loadL_a]); try ((first | refine hK _ _ ?_ | refine hKP _ _ _ ?_ | refine hKP _ _ (fun _ => ?_)); clear hK hKP K KP))))
        (simp only [postV, resV, oneOf, List.getD_cons_succ, List.getD_cons_zero, and_true, true_and])
        refine Ends.le ?_ (Store.le_refl _)
        have : l.findIdx? p = some i := by
          rw [List.findIdx?_eq_some_iff_getElem]
          exact ⟨hlt, hp, fun j hj => by have := hno l[j] (by rw [List.mem_take_iff_getElem]; exact ⟨j, by omega, rfl⟩); simp [this]⟩
        rw [this]; rfl
      · have hw := i64_succ hlt hl
        (repeat (first | refine Stp.s ?_ | refine inBlock_exit' (by decide) ?_ | ((first | refine vc_region fun K KP hK hKP => ?_ | refine Stg.s ?_ | refine guardD_ret0 ?_ | refine exV_intro _ rfl ?_); (try simp only [go_sem, loadL_a, hw]); try ((first | refine hK _ _ ?_ | refine hKP _ _ _ ?_ | refine hKP _ _ (fun _ => ?_)); clear hK hKP K KP))))
        refine ⟨i + 1, _, (by repeat (first | exact LeEnv.nil | refine LeEnv.same ?_ | refine LeEnv.top ?_)), Store.le_refl _, ⟨by omega, rfl, ?_⟩, by omega⟩
        intro x hx'
        rw [List.take_succ_eq_append_getElem hlt] at hx'
        rcases List.mem_append.1 hx' with h | h
        · exact hno x h
        · simp at h; subst h; exact hp
    · (repeat (first | refine Stp.s ?_ | refine inBlock_exit' (by decide) ?_ | ((first | refine vc_region fun K KP hK hKP => ?_ | refine Stg.s ?_ | refine guardD_ret0 ?_ | refine exV_intro _ rfl ?_); (try simp only [go_sem, loadL_a]); try ((first | refine hK _ _ ?_ | refine hKP _ _ _ ?_ | refine hKP _ _ (fun _ => ?_)); clear hK hKP K KP))))
      (simp only [postV, resV, oneOf, List.getD_cons_succ, List.getD_cons_zero, and_true, true_and])
      refine Ends.le ?_ (Store.le_refl _)
      have hge : l.length ≤ i := by simpa using hc1
      rw [List.take_of_length_le hge] at hno
      have : l.findIdx? p = none := by rw [List.findIdx?_eq_none_iff]; exact hno
      rw [this]; rfl
  refine HQuiet.of ?_; (refine HCalls.of_vc Try.func127 rfl ?_; rw [Try.ntmps127, Try.results127]; simp only [List.length_cons, List.length_nil, Nat.reduceAdd, Nat.reduceSub, List.replicate, List.cons_append, List.nil_append])
  (repeat (first | refine Stp.s ?_ | refine inBlock_exit' (by decide) ?_ | ((first | refine vc_region fun K KP hK hKP => ?_ | refine Stg.s ?_ | refine guardD_ret0 ?_ | refine exV_intro _ rfl ?_); (try simp only [go_sem, loadL_a]); try ((first | refine hK _ _ ?_ | refine hKP _ _ _ ?_ | refine hKP _ _ (fun _ => ?_)); clear hK hKP K KP))))
  ((try simp only [go_sem, loadL_a]); refine callV_quiet en166 (key) ?_)
  ((try simp only [go_sem, loadL_a]); (try ((first | refine hK _ _ ?_ | refine hKP _ _ _ ?_ | refine hKP _ _ (fun _ => ?_)); clear hK hKP K KP)); repeat (first | refine Stp.s ?_ | refine inBlock_exit' (by decide) ?_ | ((first | refine vc_region fun K KP hK hKP => ?_ | refine Stg.s ?_ | refine guardD_ret0 ?_ | refine exV_intro _ rfl ?_); (try simp only [go_sem, loadL_a]); try ((first | refine hK _ _ ?_ | refine hKP _ _ _ ?_ | refine hKP _ _ (fun _ => ?_)); clear hK hKP K KP))))
  (simp only [postV, resV, oneOf, List.getD_cons_succ, List.getD_cons_zero, and_true, true_and])
  exact Ends.le (by rw [any_idx]) (Store.le_refl _)

theorem kinds1 (k : Int) : HPure Try.prog 147 [I64 k] (BV (decide (k < 0) || decide (3 < k))) := by
  (refine HPure.of en147 fun σ => ?_); (refine HCalls.of_vc Try.func147 rfl ?_; rw [Try.ntmps147, Try.results147]; simp only [List.length_cons, List.length_nil, Nat.reduceAdd, Nat.reduceSub, List.replicate, List.cons_append, List.nil_append])
  (repeat (first | refine Stp.s ?_ | refine inBlock_exit' (by decide) ?_ | ((first | refine vc_region fun K KP hK hKP => ?_ | refine Stg.s ?_ | refine guardD_ret0 ?_ | refine exV_intro _ rfl ?_); (try simp only [go_sem, loadL_a]); try ((first | refine hK _ _ ?_ | refine hKP _ _ _ ?_ | refine hKP _ _ (fun _ => ?_)); clear hK hKP K KP))))
  (simp only [postV, resV, oneOf, List.getD_cons_succ, List.getD_cons_zero, and_true, true_and])
  exact Ends.le rfl (Store.le_refl _)
def Tr.kindsOk (t : Tr) : Bool := !t.kinds.any fun k => decide (k < 0) || decide (3 < k)
theorem kinds_pure (t : Tr) (ht : t.Ok) : HPure Try.prog 89 [t.v] (BV t.kindsOk) := by
  (refine HPure.of en89 fun σ => ?_); (refine HCalls.of_vc Try.func89 rfl ?_; rw [Try.ntmps89, Try.results89]; simp only [List.length_cons, List.length_nil, Nat.reduceAdd, Nat.reduceSub, List.replicate, List.cons_append, List.nil_append])
  (repeat (first | refine Stp.s ?_ | refine inBlock_exit' (by decide) ?_ | ((first | refine vc_region fun K KP hK hKP => ?_ | refine Stg.s ?_ | refine guardD_ret0 ?_ | refine exV_intro _ rfl ?_); (try simp only [go_sem, loadL_a]); try ((first | refine hK _ _ ?_ | refine hKP _ _ _ ?_ | refine hKP _ _ (fun _ => ?_)); clear hK hKP K KP))))
  intro b3 hb3
  ((try simp only [go_sem, loadL_a]); refine hK _ _ ?_; clear hK hKP K KP; repeat (first | refine Stp.s ?_ | refine inBlock_exit' (by decide) ?_ | ((first | refine vc_region fun K KP hK hKP => ?_ | refine Stg.s ?_ | refine guardD_ret0 ?_ | refine exV_intro _ rfl ?_); (try simp only [go_sem, loadL_a]); try ((first | refine hK _ _ ?_ | refine hKP _ _ _ ?_ | refine hKP _ _ (fun _ => ?_)); clear hK hKP K KP))))
  have hle3 : σ.le (σ.set b3 (.cells (t.kinds.map I64 ++ [t.es]))) := Store.le_set hb3 (Store.le_refl _)
  have h3 : (σ.set b3 (.cells (t.kinds.map I64 ++ [t.es]))) b3 = some (row t.kinds [t.es]) := Store.set_same _ _ _
  have hrow := IRow.sl (cap := 12) h3 (by rw [ht.k]; decide)
  rw [ht.k] at hrow
  refine ⟨by decide, by decide, by decide, by decide, ?_⟩
  refine callV_quiet en127 (contF_row (.sl b3 0 12 12) _ t.kinds 147 [] [] (fun k => decide (k < 0) || decide (3 < k)) _ (by rw [ht.k]; decide) en147 hrow (fun y _ => (kinds1 y).2 _)) ?_
  ((try simp only [go_sem, loadL_a]); (try ((first | refine hK _ _ ?_ | refine hKP _ _ _ ?_ | refine hKP _ _ (fun _ => ?_)); clear hK hKP K KP)); repeat (first | refine Stp.s ?_ | refine inBlock_exit' (by decide) ?_ | ((first | refine vc_region fun K KP hK hKP => ?_ | refine Stg.s ?_ | refine guardD_ret0 ?_ | refine exV_intro _ rfl ?_); (try simp only [go_sem, loadL_a]); try ((first | refine hK _ _ ?_ | refine hKP _ _ _ ?_ | refine hKP _ _ (fun _ => ?_)); clear hK hKP K KP))))
  (simp only [postV, resV, oneOf, List.getD_cons_succ, List.getD_cons_zero, and_true, true_and])
  exact Ends.le rfl hle3
end Go.Proofs.Ytbgagffpmdlilaa

namespace Go.Proofs.Ytbgagffpmdlilaa
set_option linter.unusedSimpArgs false
set_option linter.unusedVariables false
open Go.Proofs
attribute [local irreducible] vc vcOps vcDraw vcK vcKP vcDK vcDB HWp HCalls postV Ex.then Ex.inBlock stepD callV appendV guardC guardD exV effV opV loadV storeV indexAddrV indexV sliceV
set_option maxRecDepth 10000
set_option maxHeartbeats 4000000

theorem nodes_len (t : Tr) (k : Int) : (t.nodes k).length ≤ 12 := List.length_filter_le _ _
def Tr.homes (t : Tr) (cart : Int) : List Int :=
  if cart < 1 ∨ (t.nodes 1).length = 0 then [] else if (t.nodes 1).length = 1 then t.nodes 1
  else [(t.nodes 1).getD (cart.toNat % (t.nodes 1).length) 0, (t.nodes 1).getD ((cart.toNat % (t.nodes 1).length + 1) % (t.nodes 1).length) 0]
theorem getD_ints (l : List Int) (i : Nat) (h : i < l.length) : (l.map I64).getD i .top = I64 (l.getD i 0) := by simp [h]
theorem homes_pure (t : Tr) (ht : t.Ok) (cart : Int) (hcart : -9223372036854775808 ≤ cart ∧ cart ≤ 9223372036854775807) : HPure Try.prog 73 [t.v, I64 cart] (ints (t.homes cart)) := by
  (refine HPure.of en73 fun σ => ?_); (refine HCalls.of_vc Try.func73 rfl ?_; rw [Try.ntmps73, Try.results73]; simp only [List.length_cons, List.length_nil, Nat.reduceAdd, Nat.reduceSub, List.replicate, List.cons_append, List.nil_append])
  (repeat (first | refine Stp.s ?_ | refine inBlock_exit' (by decide) ?_ | ((first | refine vc_region fun K KP hK hKP => ?_ | refine Stg.s ?_ | refine guardD_ret0 ?_ | refine exV_intro _ rfl ?_); (try simp only [go_sem, loadL_a]); try ((first | refine hK _ _ ?_ | refine hKP _ _ _ ?_ | refine hKP _ _ (fun _ => ?_)); clear hK hKP K KP))))
  intro b3 hb3
  ((try simp only [go_sem, treeLoad t ht]); refine hK _ _ ?_; clear hK hKP K KP; repeat (first | refine Stp.s ?_ | refine inBlock_exit' (by decide) ?_ | ((first | refine vc_region fun K KP hK hKP => ?_ | refine Stg.s ?_ | refine guardD_ret0 ?_ | refine exV_intro _ rfl ?_); (try simp only [go_sem, treeLoad t ht]); try ((first | refine hK _ _ ?_ | refine hKP _ _ _ ?_ | refine hKP _ _ (fun _ => ?_)); clear hK hKP K KP))))
  have hle3 : σ.le (σ.set b3 (.cells (t.kinds.map I64 ++ [t.es]))) := Store.le_set hb3 (Store.le_refl _)
  generalize hσ : (σ.set b3 (.cells (t.kinds.map I64 ++ [t.es]))) = σ1 at *
  ((try simp only [go_sem, loadL_a]); first | refine callV_pure (nodes_pure t ht 1) ?_ | refine guardC_q0 (fun _ => callV_pure (nodes_pure t ht 1) ⟨rfl, rfl⟩) ?_)
  have hh12 := nodes_len t 1
  ((try simp only [go_sem, loadL_a, List.length_map]); (try ((first | refine hK _ _ ?_ | refine hKP _ _ _ ?_ | refine hKP _ _ (fun _ => ?_)); clear hK hKP K KP)); repeat (first | refine Stp.s ?_ | refine inBlock_exit' (by decide) ?_ | ((first | refine vc_region fun K KP hK hKP => ?_ | refine Stg.s ?_ | refine guardD_ret0 ?_ | refine exV_intro _ rfl ?_); (try simp only [go_sem, loadL_a, List.length_map]); try ((first | refine hK _ _ ?_ | refine hKP _ _ _ ?_ | refine hKP _ _ (fun _ => ?_)); clear hK hKP K KP))))
  rcases (by omega : cart < 1 ∨ 1 ≤ cart) with hc1 | hc1
  · have e1 : decide (cart < 1) = true := decide_eq_true hc1
    ((try simp only [go_sem, loadL_a, e1]); (try ((first | refine hK _ _ ?_ | refine hKP _ _ _ ?_ | refine hKP _ _ (fun _ => ?_)); clear hK hKP K KP)); repeat (first | refine Stp.s ?_ | refine inBlock_exit' (by decide) ?_ | ((first | refine vc_region fun K KP hK hKP => ?_ | refine Stg.s ?_ | refine guardD_ret0 ?_ | refine exV_intro _ rfl ?_); (try simp only [go_sem, loadL_a, e1]); try ((first | refine hK _ _ ?_ | refine hKP _ _ _ ?_ | refine hKP _ _ (fun _ => ?_)); clear hK hKP K KP))))
    refine vc_cond rfl (fun _ => ?_) (fun hc => by cases hc)
    (repeat (first | refine Stp.s ?_ | refine inBlock_exit' (by decide) ?_ | ((first | refine vc_region fun K KP hK hKP => ?_ | refine Stg.s ?_ | refine guardD_ret0 ?_ | refine exV_intro _ rfl ?_); (try simp only [go_sem, loadL_a]); try ((first | refine hK _ _ ?_ | refine hKP _ _ _ ?_ | refine hKP _ _ (fun _ => ?_)); clear hK hKP K KP))))
    (simp only [postV, resV, oneOf, List.getD_cons_succ, List.getD_cons_zero, and_true, true_and])
    have : t.homes cart = [] := if_pos (.inl hc1)
    rw [this]; exact Ends.mk (nil_ints hle3)
  · have e1 : decide (cart < 1) = false := decide_eq_false (by omega)
    ((try simp only [go_sem, loadL_a, e1]); (try ((first | refine hK _ _ ?_ | refine hKP _ _ _ ?_ | refine hKP _ _ (fun _ => ?_)); clear hK hKP K KP)); repeat (first | refine Stp.s ?_ | refine inBlock_exit' (by decide) ?_ | ((first | refine vc_region fun K KP hK hKP => ?_ | refine Stg.s ?_ | refine guardD_ret0 ?_ | refine exV_intro _ rfl ?_); (try simp only [go_sem, loadL_a, e1]); try ((first | refine hK _ _ ?_ | refine hKP _ _ _ ?_ | refine hKP _ _ (fun _ => ?_)); clear hK hKP K KP))))
    refine vc_cond rfl (fun hc => ?_) (fun hc => ?_)
    · have h0 : (t.nodes 1).length = 0 := by simpa using hc
      (repeat (first | refine Stp.s ?_ | refine inBlock_exit' (by decide) ?_ | ((first | refine vc_region fun K KP hK hKP => ?_ | refine Stg.s ?_ | refine guardD_ret0 ?_ | refine exV_intro _ rfl ?_); (try simp only [go_sem, loadL_a]); try ((first | refine hK _ _ ?_ | refine hKP _ _ _ ?_ | refine hKP _ _ (fun _ => ?_)); clear hK hKP K KP))))
      (simp only [postV, resV, oneOf, List.getD_cons_succ, List.getD_cons_zero, and_true, true_and])
      have : t.homes cart = [] := if_pos (.inr h0)
      rw [this]; exact Ends.mk (nil_ints hle3)
    · have h0 : (t.nodes 1).length ≠ 0 := by simpa using hc
      have hA : ¬ (cart < 1 ∨ (t.nodes 1).length = 0) := by omega
      (repeat (first | refine Stp.s ?_ | refine inBlock_exit' (by decide) ?_ | ((first | refine vc_region fun K KP hK hKP => ?_ | refine Stg.s ?_ | refine guardD_ret0 ?_ | refine exV_intro _ rfl ?_); (try simp only [go_sem, loadL_a]); try ((first | refine hK _ _ ?_ | refine hKP _ _ _ ?_ | refine hKP _ _ (fun _ => ?_)); clear hK hKP K KP))))
      refine vc_cond rfl (fun hc => ?_) (fun hc => ?_)
      · have h1 : (t.nodes 1).length = 1 := by simp at hc; omega
        (repeat (first | refine Stp.s ?_ | refine inBlock_exit' (by decide) ?_ | ((first | refine vc_region fun K KP hK hKP => ?_ | refine Stg.s ?_ | refine guardD_ret0 ?_ | refine exV_intro _ rfl ?_); (try simp only [go_sem, loadL_a]); try ((first | refine hK _ _ ?_ | refine hKP _ _ _ ?_ | refine hKP _ _ (fun _ => ?_)); clear hK hKP K KP))))
        (simp only [postV, resV, oneOf, List.getD_cons_succ, List.getD_cons_zero, and_true, true_and])
        have : t.homes cart = t.nodes 1 := by unfold Tr.homes; rw [if_neg hA, if_pos h1]
        rw [this]; exact Ends.le rfl hle3
      · have h1 : (t.nodes 1).length ≠ 1 := by simp at hc; omega
        have hres : t.homes cart = [(t.nodes 1).getD (cart.toNat % (t.nodes 1).length) 0, (t.nodes 1).getD ((cart.toNat % (t.nodes 1).length + 1) % (t.nodes 1).length) 0] := by unfold Tr.homes; rw [if_neg hA, if_neg h1]
        generalize hl : t.nodes 1 = l at *
        have hi1 : cart.toNat % l.length < l.length := Nat.mod_lt _ (by omega)
        have hi2 : (cart.toNat % l.length + 1) % l.length < l.length := Nat.mod_lt _ (by omega)
        have m1 : cart.tmod (l.length : Int) = ((cart.toNat % l.length : Nat) : Int) := by
          conv => lhs; rw [show cart = ((cart.toNat : Nat) : Int) by omega]
          rfl
        have m2 : IntKind.i64.wrap (((cart.toNat % l.length : Nat) : Int) + 1) = ((cart.toNat % l.length + 1 : Nat) : Int) := by rw [i64_in (by omega) (by omega)]; omega
        have m3 : ((cart.toNat % l.length + 1 : Nat) : Int).tmod (l.length : Int) = (((cart.toNat % l.length + 1) % l.length : Nat) : Int) := rfl
        generalize cart.toNat % l.length = i at *
        generalize hj : (i + 1) % l.length = j at *
        have g0 : ((l.length : Int) = 0) = False := eq_false (by omega)
        have g1 : ((0 : Int) ≤ (i : Int)) = True := eq_true (by omega)
        have g2 : ((i : Int) < (l.length : Int)) = True := eq_true (by omega)
        have g3 : ((0 : Int) ≤ (j : Int)) = True := eq_true (by omega)
        have g4 : ((j : Int) < (l.length : Int)) = True := eq_true (by omega)
        (repeat (first | refine Stp.s ?_ | refine inBlock_exit' (by decide) ?_ | ((first | refine vc_region fun K KP hK hKP => ?_ | refine Stg.s ?_ | refine guardD_ret0 ?_ | refine exV_intro _ rfl ?_); (try simp only [go_sem, loadL_a]); try ((first | refine hK _ _ ?_ | refine hKP _ _ _ ?_ | refine hKP _ _ (fun _ => ?_)); clear hK hKP K KP))))
        ((repeat first | refine Stp.s ?_ | refine inBlock_exit' (by decide) ?_); refine vc_draw mixed [ 15 ] [0, 1, 2, 3, 4, 5, 6, 7, 8, 9, 10, 11, 12, 13, 14, 15, 16 ] [ 5, 14 ] [] (fun _ => True) (by kernel_rfl) (by kernel_rfl) (by kernel_rfl) trivial fun K KP hK hKP => ?_; simp only [go_sem, loadL_a, m1, m2, m3, g0, g1, g2, g3, g4, Int.toNat_natCast, List.length_map, getD_ints l i hi1, getD_ints l j hi2]; try (refine hK _ _ ?_; clear hK hKP K KP))
        ((try simp only [go_sem, loadL_a, m1, m2, m3, g0, g1, g2, g3, g4, Int.toNat_natCast, List.length_map, getD_ints l i hi1, getD_ints l j hi2]); (try ((first | refine hK _ _ ?_ | refine hKP _ _ _ ?_ | refine hKP _ _ (fun _ => ?_)); clear hK hKP K KP)); repeat (first | refine Stp.s ?_ | refine inBlock_exit' (by decide) ?_ | ((first | refine vc_region fun K KP hK hKP => ?_ | refine Stg.s ?_ | refine guardD_ret0 ?_ | refine exV_intro _ rfl ?_); (try simp only [go_sem, loadL_a, m1, m2, m3, g0, g1, g2, g3, g4, Int.toNat_natCast, List.length_map, getD_ints l i hi1, getD_ints l j hi2]); try ((first | refine hK _ _ ?_ | refine hKP _ _ _ ?_ | refine hKP _ _ (fun _ => ?_)); clear hK hKP K KP))))
        intro b8 hb8
        ((try simp only [go_sem, loadL_a]); refine hK _ _ ?_; clear hK hKP K KP; repeat (first | refine Stp.s ?_ | refine inBlock_exit' (by decide) ?_ | ((first | refine vc_region fun K KP hK hKP => ?_ | refine Stg.s ?_ | refine guardD_ret0 ?_ | refine exV_intro _ rfl ?_); (try simp only [go_sem, loadL_a]); try ((first | refine hK _ _ ?_ | refine hKP _ _ _ ?_ | refine hKP _ _ (fun _ => ?_)); clear hK hKP K KP))))
        (simp only [postV, resV, oneOf, List.getD_cons_succ, List.getD_cons_zero, and_true, true_and])
        rw [hres]
        have hB : Bld 1 σ1 (σ1.set b8 (.cells [I64 (l.getD i 0), I64 (l.getD j 0)])) (.sl b8 0 2 2) ([l.getD i 0, l.getD j 0].map I64) 2 := .inr ⟨b8, 2, [], rfl, hb8, rfl, rfl, by simp, Nat.le_refl _, by decide⟩
        exact Ends.mk (Weakens.trans (Bld.ints hB) (Weakens.le hle3))
end Go.Proofs.Ytbgagffpmdlilaa

namespace Go.Proofs.Ytbgagffpmdlilaa
set_option linter.unusedSimpArgs false
set_option linter.unusedVariables false
open Go.Proofs
attribute [local irreducible] vc vcOps vcDraw vcK vcKP vcDK vcDB HWp HCalls postV Ex.then Ex.inBlock stepD callV appendV guardC guardD exV effV opV loadV storeV indexAddrV indexV sliceV
set_option maxRecDepth 10000
set_option maxHeartbeats 4000000

theorem tz1 (a : Bool) : ((!a) = false → a = true) = True := by cases a <;> simp
theorem tz2 (a b : Bool) : ((!a || !b) = false → (a && b) = true) = True := by cases a <;> cases b <;> simp
theorem tz3 (a b x : Bool) : ((!a || !b || x) = false → (a && b && !x) = true) = True := by cases a <;> cases b <;> cases x <;> simp
theorem tz4 (a b x y : Bool) : ((!a || !b || x || y) = false → (a && b && !x && !y) = true) = True := by cases a <;> cases b <;> cases x <;> cases y <;> simp
theorem edgeLoad (e : Int × Int) (K : V → Prop) : loadL Try.prog 141 [I64 e.1, I64 e.2] 0 K = K (edgeV e) := by
  rw [loadL_a kd141, ce141]; simp
def Tr.bad (t : Tr) (i : Nat) : Bool := let e := t.edges.getD i (0, 0); !t.there e.1 || !t.there e.2 || e.1 == e.2 || (t.edges.take i).any (e == ·) || (t.edges.take i).any ((e.2, e.1) == ·)
def Tr.edgesOk (t : Tr) : Bool := (List.range t.edges.length).all fun i => !t.bad i
theorem edges_pure (t : Tr) (ht : t.Ok) : HPure Try.prog 90 [t.v] (BV t.edgesOk) := by
  (refine HPure.of en90 fun σ => ?_); (refine HCalls.of_vc Try.func90 rfl ?_; rw [Try.ntmps90, Try.results90]; simp only [List.length_cons, List.length_nil, Nat.reduceAdd, Nat.reduceSub, List.replicate, List.cons_append, List.nil_append])
  (repeat (first | refine Stp.s ?_ | refine inBlock_exit' (by decide) ?_ | ((first | refine vc_region fun K KP hK hKP => ?_ | refine Stg.s ?_ | refine guardD_ret0 ?_ | refine exV_intro _ rfl ?_); (try simp only [go_sem, loadL_a]); try ((first | refine hK _ _ ?_ | refine hKP _ _ _ ?_ | refine hKP _ _ (fun _ => ?_)); clear hK hKP K KP))))
  intro b1 hb1
  have hle1 : σ.le (σ.set b1 (.cells (t.kinds.map I64 ++ [t.es]))) := Store.le_set hb1 (Store.le_refl _)
  have h1 : (σ.set b1 (.cells (t.kinds.map I64 ++ [t.es]))) b1 = some (.cells (t.kinds.map I64 ++ [t.es])) := Store.set_same _ _ _
  have hel := ht.e
  have h12 : (t.kinds.map I64 ++ [t.es])[12]? = some (.lst 2 (t.edges.map edgeV)) := treeEs t ht
  ((try simp only [go_sem, loadL_a, h1, h12, List.length_map]); refine hK _ _ ?_; clear hK hKP K KP; repeat (first | refine Stp.s ?_ | refine inBlock_exit' (by decide) ?_ | ((first | refine vc_region fun K KP hK hKP => ?_ | refine Stg.s ?_ | refine guardD_ret0 ?_ | refine exV_intro _ rfl ?_); (try simp only [go_sem, loadL_a, h1, h12, List.length_map]); try ((first | refine hK _ _ ?_ | refine hKP _ _ _ ?_ | refine hKP _ _ (fun _ => ?_)); clear hK hKP K KP))))
  generalize (σ.set b1 (.cells (t.kinds.map I64 ++ [t.es]))) = σ1 at *
  refine vc_loop (loopV (fun (i : Nat) => [t.v, .ptr b1 0, BV false, .top, .top, .top, .lst 2 (t.edges.map edgeV), I64 t.edges.length, I64 i, .top, .top, .top, .top, .top, .top, .top, .top, .top, .top, .top, .top, .top, .top, .top, .top, .top, .top, .top, .top, .top, .top, .top, .top, .top, .top, .top, .top, .top, .top, .top, .top, .top, .top, .top, .top, .top, .top, .top, .top, .top, .top, .top, .top]) (fun i τ => i ≤ t.edges.length ∧ τ = σ1 ∧ ∀ j, j < i → t.bad j = false) (fun i _ => t.edges.length - i) 0 (by repeat (first | exact LeEnv.nil | refine LeEnv.same ?_ | refine LeEnv.top ?_)) ⟨Nat.zero_le _, rfl, by simp⟩ ?_)
  rintro i τ ⟨hi, rfl, hno⟩
  (repeat (first | refine Stp.s ?_ | refine inBlock_exit' (by decide) ?_ | ((first | refine vc_region fun K KP hK hKP => ?_ | refine Stg.s ?_ | refine guardD_ret0 ?_ | refine exV_intro _ rfl ?_); (try simp only [go_sem, loadL_a]); try ((first | refine hK _ _ ?_ | refine hKP _ _ _ ?_ | refine hKP _ _ (fun _ => ?_)); clear hK hKP K KP))))
  refine vc_cond rfl (fun hc => ?_) (fun hc => ?_)
  · have hlt : i < t.edges.length := by simpa using hc
    have g1 : ((0 : Int) ≤ (i : Int)) = True := eq_true (by omega)
    have g2 : ((i : Int) < (t.edges.length : Int)) = True := eq_true (by omega)
    obtain ⟨e, he⟩ : ∃ e, e = t.edges.getD i (0, 0) := ⟨_, rfl⟩
    have hx : (t.edges.map edgeV).getD i .top = edgeV e := by rw [he]; simp [hlt]
    (repeat (first | refine Stp.s ?_ | refine inBlock_exit' (by decide) ?_ | ((first | refine vc_region fun K KP hK hKP => ?_ | refine Stg.s ?_ | refine guardD_ret0 ?_ | refine exV_intro _ rfl ?_); (try simp only [go_sem, g1, g2, hx, List.length_map, Int.toNat_natCast, edgeLoad]); try ((first | refine hK _ _ ?_ | refine hKP _ _ _ ?_ | refine hKP _ _ (fun _ => ?_)); clear hK hKP K KP))))
    intro b4 hb4
    ((try simp only [go_sem, edgeLoad]); refine hK _ _ ?_; clear hK hKP K KP; repeat (first | refine Stp.s ?_ | refine inBlock_exit' (by decide) ?_ | ((first | refine vc_region fun K KP hK hKP => ?_ | refine Stg.s ?_ | refine guardD_ret0 ?_ | refine exV_intro _ rfl ?_); (try simp only [go_sem, edgeLoad]); try ((first | refine hK _ _ ?_ | refine hKP _ _ _ ?_ | refine hKP _ _ (fun _ => ?_)); clear hK hKP K KP))))
    have z0 : ((0 : Int) ≤ ((0 : Nat) : Int)) = True := eq_true (by omega)
    have z1 : (((0 : Nat) : Int) ≤ (i : Int)) = True := eq_true (by omega)
    have k1 := Store.keep hb4 h1 (.cells [I64 e.1, I64 e.2])
    have g3 : ((i : Int) ≤ (t.edges.length : Int)) = True := eq_true (by omega)
    have htk : (t.edges.map edgeV).take i = (t.edges.take i).map edgeV := by rw [List.map_take]
    have hle4 : τ.le (τ.set b4 (.cells [I64 e.1, I64 e.2])) := Store.le_set hb4 (Store.le_refl _)
    have hl2 : (t.edges.take i).length ≤ 9223372036854775807 := by rw [List.length_take]; omega
    ((repeat first | refine Stp.s ?_ | refine inBlock_exit' (by decide) ?_); refine vc_draw mixed [] [0, 1, 2, 3, 4, 5, 6, 7, 8, 9, 10, 11, 12, 13, 14, 15, 16, 17, 18, 19, 20, 21, 22, 23, 24, 25, 26, 27, 28, 29, 30, 31, 32, 33, 34, 35, 36, 37, 38] [0, 1, 2, 3, 4, 5, 6, 7, 8, 9, 10, 11, 12, 13, 14, 15, 16, 17, 18, 19, 20, 21, 22, 23, 24, 25, 26, 27, 28, 29, 30, 31, 32, 33, 34, 35, 36, 37, 38] [] (fun _ => True) (by kernel_rfl) (by kernel_rfl) (by kernel_rfl) trivial fun K KP hK hKP => ?_; simp only [go_sem, treeLoad t ht, k1, edgeLoad, h12, Bool.not_or, Bool.not_not, tz1, tz2, tz3, tz4, z0, z1, Int.le_refl, g1, g3, List.length_map, Int.toNat_natCast, Nat.sub_zero, htk]; try (refine hK _ _ ?_; clear hK hKP K KP))
    ((try simp only [go_sem, treeLoad t ht, k1, edgeLoad, h12, Bool.not_or, Bool.not_not, tz1, tz2, tz3, tz4, z0, z1, Int.le_refl, g1, g3, List.length_map, Int.toNat_natCast, Nat.sub_zero, htk]); (try ((first | refine hK _ _ ?_ | refine hKP _ _ _ ?_ | refine hKP _ _ (fun _ => ?_)); clear hK hKP K KP)); repeat (first | refine Stp.s ?_ | refine inBlock_exit' (by decide) ?_ | ((first | refine vc_region fun K KP hK hKP => ?_ | refine Stg.s ?_ | refine guardD_ret0 ?_ | refine exV_intro _ rfl ?_); (try simp only [go_sem, treeLoad t ht, k1, edgeLoad, h12, Bool.not_or, Bool.not_not, tz1, tz2, tz3, tz4, z0, z1, Int.le_refl, g1, g3, List.length_map, Int.toNat_natCast, Nat.sub_zero, htk]); try ((first | refine hK _ _ ?_ | refine hKP _ _ _ ?_ | refine hKP _ _ (fun _ => ?_)); clear hK hKP K KP))))
    ((try simp only [go_sem, loadL_a]); first | refine exV_intro _ (callV_pure (there_pure t ht _) ⟨rfl, rfl⟩) ?_ | refine exV_intro _ (fun _ => callV_pure (there_pure t ht _) ⟨rfl, rfl⟩) ?_)
    ((try simp only [go_sem, treeLoad t ht, k1, edgeLoad, h12, Bool.not_or, Bool.not_not, tz1, tz2, tz3, tz4, z0, z1, Int.le_refl, g1, g3, List.length_map, Int.toNat_natCast, Nat.sub_zero, htk]); (try ((first | refine hK _ _ ?_ | refine hKP _ _ _ ?_ | refine hKP _ _ (fun _ => ?_)); clear hK hKP K KP)); repeat (first | refine Stp.s ?_ | refine inBlock_exit' (by decide) ?_ | ((first | refine vc_region fun K KP hK hKP => ?_ | refine Stg.s ?_ | refine guardD_ret0 ?_ | refine exV_intro _ rfl ?_); (try simp only [go_sem, treeLoad t ht, k1, edgeLoad, h12, Bool.not_or, Bool.not_not, tz1, tz2, tz3, tz4, z0, z1, Int.le_refl, g1, g3, List.length_map, Int.toNat_natCast, Nat.sub_zero, htk]); try ((first | refine hK _ _ ?_ | refine hKP _ _ _ ?_ | refine hKP _ _ (fun _ => ?_)); clear hK hKP K KP))))
    ((try simp only [go_sem, loadL_a]); first | refine guardD_q0 (fun _ => callV_pure (there_pure t ht _) ⟨rfl, rfl⟩) ?_ | refine guardD_q0 (fun _ _ => callV_pure (there_pure t ht _) ⟨rfl, rfl⟩) ?_)
    ((try simp only [go_sem, treeLoad t ht, k1, edgeLoad, h12, Bool.not_or, Bool.not_not, tz1, tz2, tz3, tz4, z0, z1, Int.le_refl, g1, g3, List.length_map, Int.toNat_natCast, Nat.sub_zero, htk]); (try ((first | refine hK _ _ ?_ | refine hKP _ _ _ ?_ | refine hKP _ _ (fun _ => ?_)); clear hK hKP K KP)); repeat (first | refine Stp.s ?_ | refine inBlock_exit' (by decide) ?_ | ((first | refine vc_region fun K KP hK hKP => ?_ | refine Stg.s ?_ | refine guardD_ret0 ?_ | refine exV_intro _ rfl ?_); (try simp only [go_sem, treeLoad t ht, k1, edgeLoad, h12, Bool.not_or, Bool.not_not, tz1, tz2, tz3, tz4, z0, z1, Int.le_refl, g1, g3, List.length_map, Int.toNat_natCast, Nat.sub_zero, htk]); try ((first | refine hK _ _ ?_ | refine hKP _ _ _ ?_ | refine hKP _ _ (fun _ => ?_)); clear hK hKP K KP))))
    ((try simp only [go_sem, loadL_a]); first | refine guardD_q0 (fun _ => callV_pure (contains_edge (t.edges.take i) e hl2) ⟨rfl, rfl⟩) ?_ | refine guardD_q0 (fun _ _ => callV_pure (contains_edge (t.edges.take i) e hl2) ⟨rfl, rfl⟩) ?_)
    ((try simp only [go_sem, treeLoad t ht, k1, edgeLoad, h12, Bool.not_or, Bool.not_not, tz1, tz2, tz3, tz4, z0, z1, Int.le_refl, g1, g3, List.length_map, Int.toNat_natCast, Nat.sub_zero, htk]); (try ((first | refine hK _ _ ?_ | refine hKP _ _ _ ?_ | refine hKP _ _ (fun _ => ?_)); clear hK hKP K KP)); repeat (first | refine Stp.s ?_ | refine inBlock_exit' (by decide) ?_ | ((first | refine vc_region fun K KP hK hKP => ?_ | refine Stg.s ?_ | refine guardD_ret0 ?_ | refine exV_intro _ rfl ?_); (try simp only [go_sem, treeLoad t ht, k1, edgeLoad, h12, Bool.not_or, Bool.not_not, tz1, tz2, tz3, tz4, z0, z1, Int.le_refl, g1, g3, List.length_map, Int.toNat_natCast, Nat.sub_zero, htk]); try ((first | refine hK _ _ ?_ | refine hKP _ _ _ ?_ | refine hKP _ _ (fun _ => ?_)); clear hK hKP K KP))))
    ((try simp only [go_sem, loadL_a]); first | refine guardD_q0 (fun _ => callV_pure (contains_edge (t.edges.take i) (e.2, e.1) hl2) ⟨rfl, rfl⟩) ?_ | refine guardD_q0 (fun _ _ => callV_pure (contains_edge (t.edges.take i) (e.2, e.1) hl2) ⟨rfl, rfl⟩) ?_)
    ((try simp only [go_sem, treeLoad t ht, k1, edgeLoad, h12, Bool.not_or, Bool.not_not, tz1, tz2, tz3, tz4, z0, z1, Int.le_refl, g1, g3, List.length_map, Int.toNat_natCast, Nat.sub_zero, htk]); (try ((first | refine hK _ _ ?_ | refine hKP _ _ _ ?_ | refine hKP _ _ (fun _ => ?_)); clear hK hKP K KP)); repeat (first | refine Stp.s ?_ | refine inBlock_exit' (by decide) ?_ | ((first | refine vc_region fun K KP hK hKP => ?_ | refine Stg.s ?_ | refine guardD_ret0 ?_ | refine exV_intro _ rfl ?_); (try simp only [go_sem, treeLoad t ht, k1, edgeLoad, h12, Bool.not_or, Bool.not_not, tz1, tz2, tz3, tz4, z0, z1, Int.le_refl, g1, g3, List.length_map, Int.toNat_natCast, Nat.sub_zero, htk]); try ((first | refine hK _ _ ?_ | refine hKP _ _ _ ?_ | refine hKP _ _ (fun _ => ?_)); clear hK hKP K KP))))
    have ebad : (!t.there e.1 || !t.there e.2 || e.1 == e.2 || (t.edges.take i).any (e == ·) || (t.edges.take i).any ((e.2, e.1) == ·)) = t.bad i := by
      unfold Tr.bad; rw [← he]
    refine vc_cond rfl (fun hb => ?_) (fun hb => ?_)
    · have hb' : t.bad i = true := ebad ▸ hb
      (repeat (first | refine Stp.s ?_ | refine inBlock_exit' (by decide) ?_ | ((first | refine vc_region fun K KP hK hKP => ?_ | refine Stg.s ?_ | refine guardD_ret0 ?_ | refine exV_intro _ rfl ?_); (try simp only [go_sem, loadL_a]); try ((first | refine hK _ _ ?_ | refine hKP _ _ _ ?_ | refine hKP _ _ (fun _ => ?_)); clear hK hKP K KP))))
      (simp only [postV, resV, oneOf, List.getD_cons_succ, List.getD_cons_zero, and_true, true_and])
      have : t.edgesOk = false := by
        unfold Tr.edgesOk
        rw [List.all_eq_false]
        exact ⟨i, List.mem_range.2 hlt, by rw [hb']; simp⟩
      rw [this]
      exact Ends.le rfl (Store.le_trans hle1 hle4)
    · have hb' : t.bad i = false := ebad ▸ hb
      have hw : IntKind.i64.wrap ((i : Int) + 1) = ((i + 1 : Nat) : Int) := by rw [i64_in (by omega) (by omega)]; omega
      (repeat (first | refine Stp.s ?_ | refine inBlock_exit' (by decide) ?_ | ((first | refine vc_region fun K KP hK hKP => ?_ | refine Stg.s ?_ | refine guardD_ret0 ?_ | refine exV_intro _ rfl ?_); (try simp only [go_sem, loadL_a, hw]); try ((first | refine hK _ _ ?_ | refine hKP _ _ _ ?_ | refine hKP _ _ (fun _ => ?_)); clear hK hKP K KP))))
      refine ⟨i + 1, τ, ?_, hle4, ⟨hlt, rfl, fun j hj => ?_⟩, by omega⟩
      · repeat (first | exact LeEnv.nil | refine LeEnv.same ?_ | refine LeEnv.top ?_)
      · rcases Nat.lt_or_eq_of_le (Nat.le_of_lt_succ hj) with q | q
        · exact hno j q
        · rw [q]; exact hb'
  · (repeat (first | refine Stp.s ?_ | refine inBlock_exit' (by decide) ?_ | ((first | refine vc_region fun K KP hK hKP => ?_ | refine Stg.s ?_ | refine guardD_ret0 ?_ | refine exV_intro _ rfl ?_); (try simp only [go_sem, loadL_a]); try ((first | refine hK _ _ ?_ | refine hKP _ _ _ ?_ | refine hKP _ _ (fun _ => ?_)); clear hK hKP K KP))))
    (simp only [postV, resV, oneOf, List.getD_cons_succ, List.getD_cons_zero, and_true, true_and])
    have hii : t.edges.length ≤ i := by simpa using hc
    refine Ends.le ?_ hle1
    have : t.edgesOk = true := by
      unfold Tr.edgesOk
      rw [List.all_eq_true]
      intro j hj
      rw [hno j (by have := List.mem_range.1 hj; omega)]; rfl
    rw [this]
end Go.Proofs.Ytbgagffpmdlilaa

namespace Go.Proofs.Ytbgagffpmdlilaa
set_option linter.unusedSimpArgs false
set_option linter.unusedVariables false
open Go.Proofs
attribute [local irreducible] vc vcOps vcDraw vcK vcKP vcDK vcDB HWp HCalls postV Ex.then Ex.inBlock stepD callV appendV guardC guardD exV effV opV loadV storeV indexAddrV indexV sliceV
set_option maxRecDepth 10000
set_option maxHeartbeats 4000000

def Tr.all (t : Tr) : Nat := (nums.filter t.there).length
def Tr.hung (t : Tr) (n : Int) : Bool := !((t.kind n == 1 || t.kind n == 2) && !t.leaf n)
noncomputable def Tr.right (t : Tr) : Bool := t.kindsOk && t.edgesOk && (nums.all t.hung) && (match t.nodes 3 with
  | [] => t.all == 0
  | s :: _ => ((t.edges.length : Int) == (t.all : Int) - 1) && (t.wset 0 s).length == t.all)
theorem beq_int (a b : Nat) : ((a : Int) == (b : Int)) = (a == b) := by
  rw [Bool.eq_iff_iff, beq_iff_eq, beq_iff_eq]; omega
theorem right_pure (t : Tr) (ht : t.Ok) : HPure Try.prog 22 [t.v] (BV t.right) := by
  (refine HPure.of en22 fun σ => ?_); (refine HCalls.of_vc Try.func22 rfl ?_; rw [Try.ntmps22, Try.results22]; simp only [List.length_cons, List.length_nil, Nat.reduceAdd, Nat.reduceSub, List.replicate, List.cons_append, List.nil_append])
  (repeat (first | refine Stp.s ?_ | refine inBlock_exit' (by decide) ?_ | ((first | refine vc_region fun K KP hK hKP => ?_ | refine Stg.s ?_ | refine guardD_ret0 ?_ | refine exV_intro _ rfl ?_); (try simp only [go_sem, loadL_a]); try ((first | refine hK _ _ ?_ | refine hKP _ _ _ ?_ | refine hKP _ _ (fun _ => ?_)); clear hK hKP K KP))))
  intro b1 hb1
  have hle1 : σ.le (σ.set b1 (.cells (t.kinds.map I64 ++ [t.es]))) := Store.le_set hb1 (Store.le_refl _)
  have h1 : (σ.set b1 (.cells (t.kinds.map I64 ++ [t.es]))) b1 = some (.cells (t.kinds.map I64 ++ [t.es])) := Store.set_same _ _ _
  ((try simp only [go_sem, treeLoad t ht]); refine hK _ _ ?_; clear hK hKP K KP; repeat (first | refine Stp.s ?_ | refine inBlock_exit' (by decide) ?_ | ((first | refine vc_region fun K KP hK hKP => ?_ | refine Stg.s ?_ | refine guardD_ret0 ?_ | refine exV_intro _ rfl ?_); (try simp only [go_sem, treeLoad t ht]); try ((first | refine hK _ _ ?_ | refine hKP _ _ _ ?_ | refine hKP _ _ (fun _ => ?_)); clear hK hKP K KP))))
  generalize (σ.set b1 (.cells (t.kinds.map I64 ++ [t.es]))) = σ1 at *
  ((try simp only [go_sem, loadL_a]); first | refine callV_pure (kinds_pure t ht) ?_ | refine guardC_q0 (fun _ => callV_pure (kinds_pure t ht) ⟨rfl, rfl⟩) ?_)
  ((try simp only [go_sem, treeLoad t ht, h1]); (try ((first | refine hK _ _ ?_ | refine hKP _ _ _ ?_ | refine hKP _ _ (fun _ => ?_)); clear hK hKP K KP)); repeat (first | refine Stp.s ?_ | refine inBlock_exit' (by decide) ?_ | ((first | refine vc_region fun K KP hK hKP => ?_ | refine Stg.s ?_ | refine guardD_ret0 ?_ | refine exV_intro _ rfl ?_); (try simp only [go_sem, treeLoad t ht, h1]); try ((first | refine hK _ _ ?_ | refine hKP _ _ _ ?_ | refine hKP _ _ (fun _ => ?_)); clear hK hKP K KP))))
  ((try simp only [go_sem, loadL_a]); first | refine guardC_q0 (fun _ => callV_pure (edges_pure t ht) ⟨rfl, rfl⟩) ?_ | refine callV_pure (edges_pure t ht) ?_)
  ((try simp only [go_sem, treeLoad t ht, h1]); (try ((first | refine hK _ _ ?_ | refine hKP _ _ _ ?_ | refine hKP _ _ (fun _ => ?_)); clear hK hKP K KP)); repeat (first | refine Stp.s ?_ | refine inBlock_exit' (by decide) ?_ | ((first | refine vc_region fun K KP hK hKP => ?_ | refine Stg.s ?_ | refine guardD_ret0 ?_ | refine exV_intro _ rfl ?_); (try simp only [go_sem, treeLoad t ht, h1]); try ((first | refine hK _ _ ?_ | refine hKP _ _ _ ?_ | refine hKP _ _ (fun _ => ?_)); clear hK hKP K KP))))
  refine vc_cond rfl (fun hc => ?_) (fun hc => ?_)
  · (repeat (first | refine Stp.s ?_ | refine inBlock_exit' (by decide) ?_ | ((first | refine vc_region fun K KP hK hKP => ?_ | refine Stg.s ?_ | refine guardD_ret0 ?_ | refine exV_intro _ rfl ?_); (try simp only [go_sem, loadL_a]); try ((first | refine hK _ _ ?_ | refine hKP _ _ _ ?_ | refine hKP _ _ (fun _ => ?_)); clear hK hKP K KP))))
    (simp only [postV, resV, oneOf, List.getD_cons_succ, List.getD_cons_zero, and_true, true_and])
    have : t.right = false := by
      unfold Tr.right
      have hc : (!t.kindsOk || !t.edgesOk) = true := hc
      cases hk : t.kindsOk <;> cases he : t.edgesOk <;> simp_all
    rw [this]; exact Ends.le rfl hle1
  · have hk : t.kindsOk = true := by
      have hc : (!t.kindsOk || !t.edgesOk) = false := hc
      cases hk : t.kindsOk <;> simp_all
    have he : t.edgesOk = true := by
      have hc : (!t.kindsOk || !t.edgesOk) = false := hc
      cases he : t.edgesOk <;> simp_all
    (repeat (first | refine Stp.s ?_ | refine inBlock_exit' (by decide) ?_ | ((first | refine vc_region fun K KP hK hKP => ?_ | refine Stg.s ?_ | refine guardD_ret0 ?_ | refine exV_intro _ rfl ?_); (try simp only [go_sem, loadL_a]); try ((first | refine hK _ _ ?_ | refine hKP _ _ _ ?_ | refine hKP _ _ (fun _ => ?_)); clear hK hKP K KP))))
    refine vc_loop (loopV (fun (i : Nat) => [t.v, .ptr b1 0, BV false, I64 ((nums.take i).filter t.there).length, .top, .top, .top, .top, .top, .top, .top, .top, .top, .top, .top, .top, I64 i, .top, .top, .top, .top, .top, .top, .top, .top, .top, .top, .top, .top, .top, .top, .top, .top, .top, .top, .top, .top, .top, .top, .top, .top, .top, .top, .top, .top, .top, .top, .top, .top, .top, .top, .top, .top, .top, .top, .top, .top, .top, .top, .top, .top, .top, .top, .top]) (fun i τ => i ≤ 12 ∧ τ = σ1 ∧ (nums.take i).all t.hung = true) (fun i _ => 12 - i) 0 (by repeat (first | exact LeEnv.nil | refine LeEnv.same ?_ | refine LeEnv.top ?_)) ⟨Nat.zero_le _, rfl, rfl⟩ ?_)
    rintro i τ ⟨hi, rfl, hall⟩
    (repeat (first | refine Stp.s ?_ | refine inBlock_exit' (by decide) ?_ | ((first | refine vc_region fun K KP hK hKP => ?_ | refine Stg.s ?_ | refine guardD_ret0 ?_ | refine exV_intro _ rfl ?_); (try simp only [go_sem, loadL_a]); try ((first | refine hK _ _ ?_ | refine hKP _ _ _ ?_ | refine hKP _ _ (fun _ => ?_)); clear hK hKP K KP))))
    refine vc_cond rfl (fun hc => ?_) (fun hc => ?_)
    · have hlt : i < 12 := by simp at hc; omega
      have hw : IntKind.i64.wrap ((i : Int) + 1) = (i : Int) + 1 := i64_in (by omega) (by omega)
      have hw2 : IntKind.i64.wrap ((i : Int) + 1) = ((i + 1 : Nat) : Int) := by rw [hw]; omega
      have hfl := nums_fl t.there i
      have hct : ((nums.take (i + 1)).filter t.there).length = ((nums.take i).filter t.there).length + (if t.there ((i : Int) + 1) = true then 1 else 0) := by
        rw [nums_take i hlt, List.filter_append, List.length_append]
        congr 1
        rw [List.filter_cons]; split <;> rfl
      (repeat (first | refine Stp.s ?_ | refine inBlock_exit' (by decide) ?_ | ((first | refine vc_region fun K KP hK hKP => ?_ | refine Stg.s ?_ | refine guardD_ret0 ?_ | refine exV_intro _ rfl ?_); (try simp only [go_sem, hw, treeLoad t ht, h1]); try ((first | refine hK _ _ ?_ | refine hKP _ _ _ ?_ | refine hKP _ _ (fun _ => ?_)); clear hK hKP K KP))))
      ((try simp only [go_sem, loadL_a]); first | refine callV_pure (there_pure t ht _) ?_ | refine guardC_q0 (fun _ => callV_pure (there_pure t ht _) ⟨rfl, rfl⟩) ?_)
      ((try simp only [go_sem, loadL_a]); (try ((first | refine hK _ _ ?_ | refine hKP _ _ _ ?_ | refine hKP _ _ (fun _ => ?_)); clear hK hKP K KP)); repeat (first | refine Stp.s ?_ | refine inBlock_exit' (by decide) ?_ | ((first | refine vc_region fun K KP hK hKP => ?_ | refine Stg.s ?_ | refine guardD_ret0 ?_ | refine exV_intro _ rfl ?_); (try simp only [go_sem, loadL_a]); try ((first | refine hK _ _ ?_ | refine hKP _ _ _ ?_ | refine hKP _ _ (fun _ => ?_)); clear hK hKP K KP))))
      refine vc_cond rfl (fun hth => ?_) (fun hth => ?_)
      · rw [hth, if_pos rfl] at hct
        have hwc : IntKind.i64.wrap ((((nums.take i).filter t.there).length : Int) + 1) = (((nums.take (i + 1)).filter t.there).length : Int) := by rw [i64_in (by omega) (by omega), hct]; omega
        (repeat (first | refine Stp.s ?_ | refine inBlock_exit' (by decide) ?_ | ((first | refine vc_region fun K KP hK hKP => ?_ | refine Stg.s ?_ | refine guardD_ret0 ?_ | refine exV_intro _ rfl ?_); (try simp only [go_sem, hwc, treeLoad t ht, h1]); try ((first | refine hK _ _ ?_ | refine hKP _ _ _ ?_ | refine hKP _ _ (fun _ => ?_)); clear hK hKP K KP))))

        ((try simp only [go_sem, loadL_a]); first | refine callV_pure (kind_pure t ht _) ?_ | refine guardC_q0 (fun _ => callV_pure (kind_pure t ht _) ⟨rfl, rfl⟩) ?_)
        ((try simp only [go_sem, treeLoad t ht, h1]); (try ((first | refine hK _ _ ?_ | refine hKP _ _ _ ?_ | refine hKP _ _ (fun _ => ?_)); clear hK hKP K KP)); repeat (first | refine Stp.s ?_ | refine inBlock_exit' (by decide) ?_ | ((first | refine vc_region fun K KP hK hKP => ?_ | refine Stg.s ?_ | refine guardD_ret0 ?_ | refine exV_intro _ rfl ?_); (try simp only [go_sem, treeLoad t ht, h1]); try ((first | refine hK _ _ ?_ | refine hKP _ _ _ ?_ | refine hKP _ _ (fun _ => ?_)); clear hK hKP K KP))))
        ((try simp only [go_sem, loadL_a]); first | refine guardC_q0 (fun _ => callV_pure (leaf_pure t ht _) ⟨rfl, rfl⟩) ?_ | refine callV_pure (leaf_pure t ht _) ?_)
        ((try simp only [go_sem, treeLoad t ht, h1]); (try ((first | refine hK _ _ ?_ | refine hKP _ _ _ ?_ | refine hKP _ _ (fun _ => ?_)); clear hK hKP K KP)); repeat (first | refine Stp.s ?_ | refine inBlock_exit' (by decide) ?_ | ((first | refine vc_region fun K KP hK hKP => ?_ | refine Stg.s ?_ | refine guardD_ret0 ?_ | refine exV_intro _ rfl ?_); (try simp only [go_sem, treeLoad t ht, h1]); try ((first | refine hK _ _ ?_ | refine hKP _ _ _ ?_ | refine hKP _ _ (fun _ => ?_)); clear hK hKP K KP))))
        refine vc_cond rfl (fun hb => ?_) (fun hb => ?_)
        · have hb' : t.hung ((i : Int) + 1) = false := by unfold Tr.hung; rw [hb]; rfl
          (repeat (first | refine Stp.s ?_ | refine inBlock_exit' (by decide) ?_ | ((first | refine vc_region fun K KP hK hKP => ?_ | refine Stg.s ?_ | refine guardD_ret0 ?_ | refine exV_intro _ rfl ?_); (try simp only [go_sem, loadL_a]); try ((first | refine hK _ _ ?_ | refine hKP _ _ _ ?_ | refine hKP _ _ (fun _ => ?_)); clear hK hKP K KP))))
          (simp only [postV, resV, oneOf, List.getD_cons_succ, List.getD_cons_zero, and_true, true_and])
          have : t.right = false := by
            unfold Tr.right
            have : nums.all t.hung = false := by
              rw [List.all_eq_false]
              exact ⟨(i : Int) + 1, by rw [mem_nums]; omega, by rw [hb']; simp⟩
            rw [this]; simp
          rw [this]; exact Ends.le rfl hle1
        · have hb' : t.hung ((i : Int) + 1) = true := by unfold Tr.hung; rw [hb]; rfl
          (repeat (first | refine Stp.s ?_ | refine inBlock_exit' (by decide) ?_ | ((first | refine vc_region fun K KP hK hKP => ?_ | refine Stg.s ?_ | refine guardD_ret0 ?_ | refine exV_intro _ rfl ?_); (try simp only [go_sem, loadL_a, hw2]); try ((first | refine hK _ _ ?_ | refine hKP _ _ _ ?_ | refine hKP _ _ (fun _ => ?_)); clear hK hKP K KP))))
          refine ⟨i + 1, τ, ?_, Store.le_refl _, ⟨by omega, rfl, ?_⟩, by omega⟩
          · repeat (first | exact LeEnv.nil | refine LeEnv.same ?_ | refine LeEnv.top ?_)
          · rw [nums_take i hlt, List.all_append, hall]; simpa using hb'
      · rw [hth, if_neg (by simp)] at hct
        (repeat (first | refine Stp.s ?_ | refine inBlock_exit' (by decide) ?_ | ((first | refine vc_region fun K KP hK hKP => ?_ | refine Stg.s ?_ | refine guardD_ret0 ?_ | refine exV_intro _ rfl ?_); (try simp only [go_sem, treeLoad t ht, h1]); try ((first | refine hK _ _ ?_ | refine hKP _ _ _ ?_ | refine hKP _ _ (fun _ => ?_)); clear hK hKP K KP))))

        ((try simp only [go_sem, loadL_a]); first | refine callV_pure (kind_pure t ht _) ?_ | refine guardC_q0 (fun _ => callV_pure (kind_pure t ht _) ⟨rfl, rfl⟩) ?_)
        ((try simp only [go_sem, treeLoad t ht, h1]); (try ((first | refine hK _ _ ?_ | refine hKP _ _ _ ?_ | refine hKP _ _ (fun _ => ?_)); clear hK hKP K KP)); repeat (first | refine Stp.s ?_ | refine inBlock_exit' (by decide) ?_ | ((first | refine vc_region fun K KP hK hKP => ?_ | refine Stg.s ?_ | refine guardD_ret0 ?_ | refine exV_intro _ rfl ?_); (try simp only [go_sem, treeLoad t ht, h1]); try ((first | refine hK _ _ ?_ | refine hKP _ _ _ ?_ | refine hKP _ _ (fun _ => ?_)); clear hK hKP K KP))))
        ((try simp only [go_sem, loadL_a]); first | refine guardC_q0 (fun _ => callV_pure (leaf_pure t ht _) ⟨rfl, rfl⟩) ?_ | refine callV_pure (leaf_pure t ht _) ?_)
        ((try simp only [go_sem, treeLoad t ht, h1]); (try ((first | refine hK _ _ ?_ | refine hKP _ _ _ ?_ | refine hKP _ _ (fun _ => ?_)); clear hK hKP K KP)); repeat (first | refine Stp.s ?_ | refine inBlock_exit' (by decide) ?_ | ((first | refine vc_region fun K KP hK hKP => ?_ | refine Stg.s ?_ | refine guardD_ret0 ?_ | refine exV_intro _ rfl ?_); (try simp only [go_sem, treeLoad t ht, h1]); try ((first | refine hK _ _ ?_ | refine hKP _ _ _ ?_ | refine hKP _ _ (fun _ => ?_)); clear hK hKP K KP))))
        refine vc_cond rfl (fun hb => ?_) (fun hb => ?_)
        · have hb' : t.hung ((i : Int) + 1) = false := by unfold Tr.hung; rw [hb]; rfl
          (repeat (first | refine Stp.s ?_ | refine inBlock_exit' (by decide) ?_ | ((first | refine vc_region fun K KP hK hKP => ?_ | refine Stg.s ?_ | refine guardD_ret0 ?_ | refine exV_intro _ rfl ?_); (try simp only [go_sem, loadL_a]); try ((first | refine hK _ _ ?_ | refine hKP _ _ _ ?_ | refine hKP _ _ (fun _ => ?_)); clear hK hKP K KP))))
          (simp only [postV, resV, oneOf, List.getD_cons_succ, List.getD_cons_zero, and_true, true_and])
          have : t.right = false := by
            unfold Tr.right
            have : nums.all t.hung = false := by
              rw [List.all_eq_false]
              exact ⟨(i : Int) + 1, by rw [mem_nums]; omega, by rw [hb']; simp⟩
            rw [this]; simp
          rw [this]; exact Ends.le rfl hle1
        · have hb' : t.hung ((i : Int) + 1) = true := by unfold Tr.hung; rw [hb]; rfl
          (repeat (first | refine Stp.s ?_ | refine inBlock_exit' (by decide) ?_ | ((first | refine vc_region fun K KP hK hKP => ?_ | refine Stg.s ?_ | refine guardD_ret0 ?_ | refine exV_intro _ rfl ?_); (try simp only [go_sem, loadL_a, hw2]); try ((first | refine hK _ _ ?_ | refine hKP _ _ _ ?_ | refine hKP _ _ (fun _ => ?_)); clear hK hKP K KP))))
          refine ⟨i + 1, τ, ?_, Store.le_refl _, ⟨by omega, rfl, ?_⟩, by omega⟩
          · rw [hct, Nat.add_zero]; repeat (first | exact LeEnv.nil | refine LeEnv.same ?_ | refine LeEnv.top ?_)
          · rw [nums_take i hlt, List.all_append, hall]; simpa using hb'
    · have hi12 : i = 12 := by simp at hc; omega
      subst hi12
      have hall12 : nums.all t.hung = true := hall
      have hcnt : ((nums.take 12).filter t.there).length = t.all := rfl
      have hal := nums_fl t.there 12
      rw [hcnt] at hal
      have h12 : (t.kinds.map I64 ++ [t.es])[12]? = some (.lst 2 (t.edges.map edgeV)) := treeEs t ht
      (repeat (first | refine Stp.s ?_ | refine inBlock_exit' (by decide) ?_ | ((first | refine vc_region fun K KP hK hKP => ?_ | refine Stg.s ?_ | refine guardD_ret0 ?_ | refine exV_intro _ rfl ?_); (try simp only [go_sem, treeLoad t ht, h1, hcnt]); try ((first | refine hK _ _ ?_ | refine hKP _ _ _ ?_ | refine hKP _ _ (fun _ => ?_)); clear hK hKP K KP))))
      refine callV_of en93 (nodes_bld t ht 3 τ) (fun x σ2 ⟨x', υ, e, hle, hB⟩ => ?_) (fun x σ2 ⟨x', υ, e, _⟩ => by cases e)
      cases e
      have hlen : ∀ σ K, lenV Try.prog 46 x σ K = K (I64 (t.nodes 3).length) σ := by
        intro σ K
        rcases hB with ⟨rfl, h0, _, _⟩ | ⟨b, cap, spare, rfl, _⟩
        · rw [h0]; unfold lenV; rw [Try.underlying46]
        · unfold lenV; rw [Try.underlying46]
      have hτ2 : τ.le σ2 := Store.le_trans hB.base hle
      have h1' := hτ2 _ _ h1
      have hle2 := Store.le_trans hle1 hτ2
      ((try simp only [go_sem, loadL_a, hlen]); (try ((first | refine hK _ _ ?_ | refine hKP _ _ _ ?_ | refine hKP _ _ (fun _ => ?_)); clear hK hKP K KP)); repeat (first | refine Stp.s ?_ | refine inBlock_exit' (by decide) ?_ | ((first | refine vc_region fun K KP hK hKP => ?_ | refine Stg.s ?_ | refine guardD_ret0 ?_ | refine exV_intro _ rfl ?_); (try simp only [go_sem, loadL_a, hlen]); try ((first | refine hK _ _ ?_ | refine hKP _ _ _ ?_ | refine hKP _ _ (fun _ => ?_)); clear hK hKP K KP))))
      refine vc_cond rfl (fun hn => ?_) (fun hn => ?_)
      · have hnil : t.nodes 3 = [] := List.eq_nil_of_length_eq_zero (by simpa using hn)
        (repeat (first | refine Stp.s ?_ | refine inBlock_exit' (by decide) ?_ | ((first | refine vc_region fun K KP hK hKP => ?_ | refine Stg.s ?_ | refine guardD_ret0 ?_ | refine exV_intro _ rfl ?_); (try simp only [go_sem, loadL_a]); try ((first | refine hK _ _ ?_ | refine hKP _ _ _ ?_ | refine hKP _ _ (fun _ => ?_)); clear hK hKP K KP))))
        have : t.right = (t.all == 0) := by unfold Tr.right; rw [hk, he, hall12, hnil]; rfl
        (simp only [postV, resV, oneOf, List.getD_cons_succ, List.getD_cons_zero, and_true, true_and])
        rw [this]
        exact Ends.le (congrArg BV (beq_int t.all 0)) hle2
      · have hne : (t.nodes 3).length ≠ 0 := by simpa using hn
        obtain ⟨s, r, hsr⟩ := List.exists_cons_of_ne_nil (fun e => hne (by rw [e]; rfl) : t.nodes 3 ≠ [])
        have hsn : s ∈ nums := by
          have : s ∈ t.nodes 3 := by rw [hsr]; simp
          exact (List.mem_filter.1 this).1
        have hright : t.right = (((t.edges.length : Int) == (t.all : Int) - 1) && (t.wset 0 s).length == t.all) := by unfold Tr.right; rw [hk, he, hall12, hsr]; rfl
        obtain ⟨b, cap, spare, rfl, hb, _⟩ := hB.at_ hne
        have hb2 : σ2 b = some (.cells (I64 s :: (r.map I64 ++ spare))) := by rw [hle _ _ hb, hsr]; rfl
        have hw1 : IntKind.i64.wrap ((t.all : Int) - 1) = (t.all : Int) - 1 := i64_in (by omega) (by omega)
        have hcap : (t.nodes 3).length ≤ cap := by
          rcases hB with ⟨h, _⟩ | ⟨_, _, _, h, _, _, _, _, hc, _⟩
          · cases h
          · cases h; exact hc
        have hq := walk_cut t ht 0 s hsn σ2 b _ hb2
        have g1 : ((1 : Int) ≤ (cap : Int)) = True := eq_true (by omega)
        by_cases hone : (t.wset 0 s).length = 1
        · rw [if_pos hone] at hq
          (repeat (first | refine Stp.s ?_ | refine inBlock_exit' (by decide) ?_ | ((first | refine vc_region fun K KP hK hKP => ?_ | refine Stg.s ?_ | refine guardD_ret0 ?_ | refine exV_intro _ rfl ?_); (try simp only [go_sem, loadL_a]); try ((first | refine hK _ _ ?_ | refine hKP _ _ _ ?_ | refine hKP _ _ (fun _ => ?_)); clear hK hKP K KP))))
          ((repeat first | refine Stp.s ?_ | refine inBlock_exit' (by decide) ?_); refine vc_draw mixed [] [0, 1, 2, 3, 4, 5, 6, 7, 8, 9, 10, 11, 12, 13, 14, 15] [0, 1, 2, 3, 4, 5, 6, 7, 8, 9, 10, 11, 12, 13, 14, 15] [] (fun _ => True) (by kernel_rfl) (by kernel_rfl) (by kernel_rfl) trivial fun K KP hK hKP => ?_; simp only [go_sem, treeLoad t ht, h1', h12, List.length_map, hw1, g1]; try (refine hK _ _ ?_; clear hK hKP K KP))
          ((try simp only [go_sem, treeLoad t ht, h1', h12, List.length_map, hw1, g1]); (try ((first | refine hK _ _ ?_ | refine hKP _ _ _ ?_ | refine hKP _ _ (fun _ => ?_)); clear hK hKP K KP)); repeat (first | refine Stp.s ?_ | refine inBlock_exit' (by decide) ?_ | ((first | refine vc_region fun K KP hK hKP => ?_ | refine Stg.s ?_ | refine guardD_ret0 ?_ | refine exV_intro _ rfl ?_); (try simp only [go_sem, treeLoad t ht, h1', h12, List.length_map, hw1, g1]); try ((first | refine hK _ _ ?_ | refine hKP _ _ _ ?_ | refine hKP _ _ (fun _ => ?_)); clear hK hKP K KP))))
          refine guardD_q0 (x := .sl b 0 1 1) (fun _ => ⟨by decide, by decide, by decide, rfl⟩) ?_
          simp only [go_sem, treeLoad t ht, h1', h12, List.length_map, hw1, g1]
          refine guardD_q0 (fun _ => callV_quiet en94 hq ⟨rfl, rfl⟩) ?_
          ((try simp only [go_sem, treeLoad t ht, h1', h12, List.length_map, hw1, g1]); (try ((first | refine hK _ _ ?_ | refine hKP _ _ _ ?_ | refine hKP _ _ (fun _ => ?_)); clear hK hKP K KP)); repeat (first | refine Stp.s ?_ | refine inBlock_exit' (by decide) ?_ | ((first | refine vc_region fun K KP hK hKP => ?_ | refine Stg.s ?_ | refine guardD_ret0 ?_ | refine exV_intro _ rfl ?_); (try simp only [go_sem, treeLoad t ht, h1', h12, List.length_map, hw1, g1]); try ((first | refine hK _ _ ?_ | refine hKP _ _ _ ?_ | refine hKP _ _ (fun _ => ?_)); clear hK hKP K KP))))
          (simp only [postV, resV, oneOf, List.getD_cons_succ, List.getD_cons_zero, and_true, true_and])
          refine Ends.le ?_ hle2
          rw [hright]
          congr 3
          rw [hone, ← beq_int]
        · rw [if_neg hone] at hq
          (repeat (first | refine Stp.s ?_ | refine inBlock_exit' (by decide) ?_ | ((first | refine vc_region fun K KP hK hKP => ?_ | refine Stg.s ?_ | refine guardD_ret0 ?_ | refine exV_intro _ rfl ?_); (try simp only [go_sem, loadL_a]); try ((first | refine hK _ _ ?_ | refine hKP _ _ _ ?_ | refine hKP _ _ (fun _ => ?_)); clear hK hKP K KP))))
          ((repeat first | refine Stp.s ?_ | refine inBlock_exit' (by decide) ?_); refine vc_draw mixed [] [0, 1, 2, 3, 4, 5, 6, 7, 8, 9, 10, 11, 12, 13, 14, 15] [0, 1, 2, 3, 4, 5, 6, 7, 8, 9, 10, 11, 12, 13, 14, 15] [] (fun _ => True) (by kernel_rfl) (by kernel_rfl) (by kernel_rfl) trivial fun K KP hK hKP => ?_; simp only [go_sem, treeLoad t ht, h1', h12, List.length_map, hw1, g1]; try (refine hK _ _ ?_; clear hK hKP K KP))
          ((try simp only [go_sem, treeLoad t ht, h1', h12, List.length_map, hw1, g1]); (try ((first | refine hK _ _ ?_ | refine hKP _ _ _ ?_ | refine hKP _ _ (fun _ => ?_)); clear hK hKP K KP)); repeat (first | refine Stp.s ?_ | refine inBlock_exit' (by decide) ?_ | ((first | refine vc_region fun K KP hK hKP => ?_ | refine Stg.s ?_ | refine guardD_ret0 ?_ | refine exV_intro _ rfl ?_); (try simp only [go_sem, treeLoad t ht, h1', h12, List.length_map, hw1, g1]); try ((first | refine hK _ _ ?_ | refine hKP _ _ _ ?_ | refine hKP _ _ (fun _ => ?_)); clear hK hKP K KP))))
          refine guardD_q0 (x := .sl b 0 1 1) (fun _ => ⟨by decide, by decide, by decide, rfl⟩) ?_
          simp only [go_sem, treeLoad t ht, h1', h12, List.length_map, hw1, g1]
          refine guardD_q0 (fun _ => callV_quiet en94 hq ⟨rfl, rfl⟩) ?_
          ((try simp only [go_sem, treeLoad t ht, h1', h12, List.length_map, hw1, g1]); (try ((first | refine hK _ _ ?_ | refine hKP _ _ _ ?_ | refine hKP _ _ (fun _ => ?_)); clear hK hKP K KP)); repeat (first | refine Stp.s ?_ | refine inBlock_exit' (by decide) ?_ | ((first | refine vc_region fun K KP hK hKP => ?_ | refine Stg.s ?_ | refine guardD_ret0 ?_ | refine exV_intro _ rfl ?_); (try simp only [go_sem, treeLoad t ht, h1', h12, List.length_map, hw1, g1]); try ((first | refine hK _ _ ?_ | refine hKP _ _ _ ?_ | refine hKP _ _ (fun _ => ?_)); clear hK hKP K KP))))
          (simp only [postV, resV, oneOf, List.getD_cons_succ, List.getD_cons_zero, and_true, true_and])
          refine Ends.le ?_ hle2
          rw [hright]
          congr 3
          rw [← beq_int]
end Go.Proofs.Ytbgagffpmdlilaa

