/- A relay hears. -/
import Derived.Test.YtbgagffpmdlilaaK2
namespace Go.Proofs.Ytbgagffpmdlilaa
set_option linter.unusedSimpArgs false
set_option linter.unusedVariables false
open Go.Proofs
attribute [local irreducible] vc vcOps vcDraw vcK vcKP vcDK vcDB HWp HCalls postV Ex.then Ex.inBlock stepD callV appendV guardC guardD exV effV opV loadV storeV indexAddrV indexV sliceV
set_option maxRecDepth 10000
set_option maxHeartbeats 4000000

theorem Weakens.tup_head {xs : List V} {y z : V} {τ σ : Store} (h : Weakens y τ z σ) : Weakens (.tup (y :: xs)) τ (.tup (z :: xs)) σ := fun I w v hs hv => by
  obtain ⟨vs, rfl, hl⟩ := hv.inv_tup
  obtain ⟨u, us, e⟩ : ∃ u us, vs.toList = u :: us := by
    cases e : vs.toList with
    | nil => rw [e] at hl; have := hl.len; simp at this
    | cons u us => exact ⟨u, us, rfl⟩
  rw [e] at hl
  obtain ⟨J, j1, j2, j3⟩ := h I w u hs hl.head
  refine ⟨J, j1, j2, ?_⟩
  have : VR J (.tup (z :: xs)) (.tuple (u :: us).toArray) := VR.mk_tup (LR.cons j3 (hl.tail.mono j1))
  have e2 : (u :: us).toArray = vs := by rw [← e]
  rw [e2] at this
  exact this
def setWents (c : Cnt) (l : List Int) : Cnt := l.foldl (fun c m => setWent c (m - 1).toNat ((c (m - 1).toNat).2 + 1)) c
def hearC (c : Cnt) (fr : Int) (l : List Int) : Cnt := setWents (setCame c (fr - 1).toNat ((c (fr - 1).toNat).1 + 1)) l
theorem setWent_le {c : Cnt} {i : Nat} {M : Nat} (hc : ∀ j, (c j).1 ≤ M ∧ (c j).2 ≤ M) : ∀ j, ((setWent c i ((c i).2 + 1)) j).1 ≤ M + 1 ∧ ((setWent c i ((c i).2 + 1)) j).2 ≤ M + 1 := fun j => by
  have h1 := hc j
  have h2 := hc i
  unfold setWent
  split
  · rename_i e; subst e; simp only; omega
  · omega
theorem setCame_le {c : Cnt} {i : Nat} {M : Nat} (hc : ∀ j, (c j).1 ≤ M ∧ (c j).2 ≤ M) : ∀ j, ((setCame c i ((c i).1 + 1)) j).1 ≤ M + 1 ∧ ((setCame c i ((c i).1 + 1)) j).2 ≤ M + 1 := fun j => by
  have h1 := hc j
  have h2 := hc i
  unfold setCame
  split
  · rename_i e; subst e; simp only; omega
  · omega
theorem setWents_le : ∀ (l : List Int) (c : Cnt) (M : Nat), (∀ j, (c j).1 ≤ M ∧ (c j).2 ≤ M) → ∀ j, ((setWents c l) j).1 ≤ M + l.length ∧ ((setWents c l) j).2 ≤ M + l.length
  | [], c, M, h, j => h j
  | m :: l, c, M, h, j => by
    have := setWents_le l _ (M + 1) (setWent_le (i := (m - 1).toNat) h) j
    rw [List.length_cons, show M + (l.length + 1) = M + 1 + l.length by omega]
    exact this
theorem setWents_snoc (c : Cnt) (l : List Int) (m : Int) : setWents c (l ++ [m]) = setWent (setWents c l) (m - 1).toNat ((setWents c l (m - 1).toNat).2 + 1) := by
  unfold setWents; rw [List.foldl_append]; rfl
noncomputable def rlHear (t : Tr) (n : Int) (c : Cnt) (fr : Int) (l : Lb) : List Int × Int × Cnt :=
  if fr ∈ t.next n then (if l.right = true then (t.toward n fr l.cart, 0, hearC c fr (t.toward n fr l.cart)) else ([], 3, c)) else ([], 11, c)
theorem toward_next {t : Tr} {n fr cart m : Int} (h : m ∈ t.toward n fr cart) : m ∈ t.next n := (List.mem_filter.1 h).1
theorem rhear (b : Nat) (σ : Store) (t : Tr) (ht : t.Ok) (n : Int) (c : Cnt) (h : σ b = some (.cells (rlC t n c))) (hn : 0 < n) (fr : Int) (l : Lb) (hl : l.Ok) (hcart : -9223372036854775808 ≤ l.cart ∧ l.cart ≤ 9223372036854775807) (hM : ∀ j, (c j).1 ≤ 1000000 ∧ (c j).2 ≤ 1000000) :
    HCalls Try.prog 26 [.ptr b 0, I64 fr, l.v] σ (Ends (.tup [ints (rlHear t n c fr l).1, I64 (rlHear t n c fr l).2.1]) (σ.set b (.cells (rlC t n (rlHear t n c fr l).2.2)))) := by
  (refine HCalls.of_vc Try.func26 rfl ?_; rw [Try.ntmps26, Try.results26]; simp only [List.length_cons, List.length_nil, Nat.reduceAdd, Nat.reduceSub, List.replicate, List.cons_append, List.nil_append])
  (repeat (first | refine Stp.s ?_ | refine inBlock_exit' (by decide) ?_ | ((first | refine vc_region fun K KP hK hKP => ?_ | refine Stg.s ?_ | refine guardD_ret0 ?_ | refine exV_intro _ rfl ?_); (try simp only [go_sem, loadL_a, Lb.v]); try ((first | refine hK _ _ ?_ | refine hKP _ _ _ ?_ | refine hKP _ _ (fun _ => ?_)); clear hK hKP K KP))))
  intro b5 hb5
  have h5 := Store.set_same σ b5 (.cells l.cs)
  have hle5 := Store.le_set hb5 (Store.le_refl σ) (k := .cells l.cs)
  have hb := hle5 _ _ h
  have hid : σ.set b (.cells (rlC t n c)) = σ := Store.set_id h
  have hn5 : b ≠ b5 := fun e => by rw [e, hb5] at h; cases h
  have hσ : ∀ k, (σ.set b k).le ((σ.set b5 (.cells l.cs)).set b k) := fun k => Store.le_set_both hle5
  have g5 : ∀ k, ((σ.set b5 (.cells l.cs)).set b k) b5 = some (.cells l.cs) := fun k => by rw [Store.set_other _ _ (Ne.symm hn5)]; exact h5
  generalize σ.set b5 (.cells l.cs) = σ1 at *
  ((try simp only [go_sem, loadL_a]); refine hK _ _ ?_; clear hK hKP K KP; repeat (first | refine Stp.s ?_ | refine inBlock_exit' (by decide) ?_ | ((first | refine vc_region fun K KP hK hKP => ?_ | refine Stg.s ?_ | refine guardD_ret0 ?_ | refine exV_intro _ rfl ?_); (try simp only [go_sem, loadL_a]); try ((first | refine hK _ _ ?_ | refine hKP _ _ _ ?_ | refine hKP _ _ (fun _ => ?_)); clear hK hKP K KP))))
  ((try simp only [go_sem, loadL_a]); refine callV_quiet en100 (rmade b _ t ht n c hb) ?_)
  ((try simp only [go_sem, loadL_a]); (try ((first | refine hK _ _ ?_ | refine hKP _ _ _ ?_ | refine hKP _ _ (fun _ => ?_)); clear hK hKP K KP)); repeat (first | refine Stp.s ?_ | refine inBlock_exit' (by decide) ?_ | ((first | refine vc_region fun K KP hK hKP => ?_ | refine Stg.s ?_ | refine guardD_ret0 ?_ | refine exV_intro _ rfl ?_); (try simp only [go_sem, loadL_a]); try ((first | refine hK _ _ ?_ | refine hKP _ _ _ ?_ | refine hKP _ _ (fun _ => ?_)); clear hK hKP K KP))))
  refine vc_cond rfl (fun hc => ?_) (fun _ => ?_)
  · exfalso; simp at hc; omega
  (repeat (first | refine Stp.s ?_ | refine inBlock_exit' (by decide) ?_ | ((first | refine vc_region fun K KP hK hKP => ?_ | refine Stg.s ?_ | refine guardD_ret0 ?_ | refine exV_intro _ rfl ?_); (try simp only [go_sem, loadL_a]); try ((first | refine hK _ _ ?_ | refine hKP _ _ _ ?_ | refine hKP _ _ (fun _ => ?_)); clear hK hKP K KP))))
  ((try simp only [go_sem, loadL_a]); refine callV_quiet en102 (rnextm b _ t ht n c hb hn) ?_)
  ((try simp only [go_sem, loadL_a]); (try ((first | refine hK _ _ ?_ | refine hKP _ _ _ ?_ | refine hKP _ _ (fun _ => ?_)); clear hK hKP K KP)); repeat (first | refine Stp.s ?_ | refine inBlock_exit' (by decide) ?_ | ((first | refine vc_region fun K KP hK hKP => ?_ | refine Stg.s ?_ | refine guardD_ret0 ?_ | refine exV_intro _ rfl ?_); (try simp only [go_sem, loadL_a]); try ((first | refine hK _ _ ?_ | refine hKP _ _ _ ?_ | refine hKP _ _ (fun _ => ?_)); clear hK hKP K KP))))
  ((try simp only [go_sem, loadL_a]); first | refine callV_pure (contains_int (t.next n) fr (by have := next_len t n; omega)) ?_ | refine guardC_q0 (fun _ => callV_pure (contains_int (t.next n) fr (by have := next_len t n; omega)) ⟨rfl, rfl⟩) ?_)
  rw [any_mem]
  ((try simp only [go_sem, loadL_a]); (try ((first | refine hK _ _ ?_ | refine hKP _ _ _ ?_ | refine hKP _ _ (fun _ => ?_)); clear hK hKP K KP)); repeat (first | refine Stp.s ?_ | refine inBlock_exit' (by decide) ?_ | ((first | refine vc_region fun K KP hK hKP => ?_ | refine Stg.s ?_ | refine guardD_ret0 ?_ | refine exV_intro _ rfl ?_); (try simp only [go_sem, loadL_a]); try ((first | refine hK _ _ ?_ | refine hKP _ _ _ ?_ | refine hKP _ _ (fun _ => ?_)); clear hK hKP K KP))))
  refine vc_cond rfl (fun hc => ?_) (fun hc => ?_)
  · (repeat (first | refine Stp.s ?_ | refine inBlock_exit' (by decide) ?_ | ((first | refine vc_region fun K KP hK hKP => ?_ | refine Stg.s ?_ | refine guardD_ret0 ?_ | refine exV_intro _ rfl ?_); (try simp only [go_sem, loadL_a]); try ((first | refine hK _ _ ?_ | refine hKP _ _ _ ?_ | refine hKP _ _ (fun _ => ?_)); clear hK hKP K KP))))
    (simp only [postV, resV, oneOf, List.getD_cons_succ, List.getD_cons_zero, and_true, true_and])
    unfold rlHear
    rw [if_neg (by simpa using hc)]
    simp only
    rw [hid]
    exact Ends.mk (Weakens.tup_head (nil_ints hle5))
  have hfr : fr ∈ t.next n := by simpa using hc
  have hfb := next_bnd hfr
  (repeat (first | refine Stp.s ?_ | refine inBlock_exit' (by decide) ?_ | ((first | refine vc_region fun K KP hK hKP => ?_ | refine Stg.s ?_ | refine guardD_ret0 ?_ | refine exV_intro _ rfl ?_); (try simp only [go_sem, h5, lbLoad l hl]); try ((first | refine hK _ _ ?_ | refine hKP _ _ _ ?_ | refine hKP _ _ (fun _ => ?_)); clear hK hKP K KP))))
  ((try simp only [go_sem, loadL_a]); first | refine callV_pure (lright_pure l hl) ?_ | refine guardC_q0 (fun _ => callV_pure (lright_pure l hl) ⟨rfl, rfl⟩) ?_)
  ((try simp only [go_sem, loadL_a]); (try ((first | refine hK _ _ ?_ | refine hKP _ _ _ ?_ | refine hKP _ _ (fun _ => ?_)); clear hK hKP K KP)); repeat (first | refine Stp.s ?_ | refine inBlock_exit' (by decide) ?_ | ((first | refine vc_region fun K KP hK hKP => ?_ | refine Stg.s ?_ | refine guardD_ret0 ?_ | refine exV_intro _ rfl ?_); (try simp only [go_sem, loadL_a]); try ((first | refine hK _ _ ?_ | refine hKP _ _ _ ?_ | refine hKP _ _ (fun _ => ?_)); clear hK hKP K KP))))
  refine vc_cond rfl (fun hr => ?_) (fun hr => ?_)
  · (repeat (first | refine Stp.s ?_ | refine inBlock_exit' (by decide) ?_ | ((first | refine vc_region fun K KP hK hKP => ?_ | refine Stg.s ?_ | refine guardD_ret0 ?_ | refine exV_intro _ rfl ?_); (try simp only [go_sem, loadL_a]); try ((first | refine hK _ _ ?_ | refine hKP _ _ _ ?_ | refine hKP _ _ (fun _ => ?_)); clear hK hKP K KP))))
    (simp only [postV, resV, oneOf, List.getD_cons_succ, List.getD_cons_zero, and_true, true_and])
    unfold rlHear
    rw [if_pos hfr, if_neg (by simpa using hr)]
    simp only
    rw [hid]
    exact Ends.mk (Weakens.tup_head (nil_ints hle5))
  have hlr : l.right = true := by simpa using hr
  have hE : rlHear t n c fr l = (t.toward n fr l.cart, 0, hearC c fr (t.toward n fr l.cart)) := by unfold rlHear; rw [if_pos hfr, if_pos hlr]
  rw [hE]
  simp only
  (repeat (first | refine Stp.s ?_ | refine inBlock_exit' (by decide) ?_ | ((first | refine vc_region fun K KP hK hKP => ?_ | refine Stg.s ?_ | refine guardD_ret0 ?_ | refine exV_intro _ rfl ?_); (try simp only [go_sem, loadL_a]); try ((first | refine hK _ _ ?_ | refine hKP _ _ _ ?_ | refine hKP _ _ (fun _ => ?_)); clear hK hKP K KP))))
  ((repeat first | refine Stp.s ?_ | refine inBlock_exit' (by decide) ?_); refine vc_draw mixed [ ] [0, 1, 2, 3, 4, 5, 6, 7, 8, 9, 10, 11, 12 ] [ 3, 7, 10 ] [] (fun _ => True) (by kernel_rfl) (by kernel_rfl) (by kernel_rfl) trivial fun K KP hK hKP => ?_; simp only [go_sem, hb, h5, rlC_node ht, rlC_tree ht, lb3]; try (refine hK _ _ ?_; clear hK hKP K KP))
  ((try simp only [go_sem, hb, h5, rlC_node ht, rlC_tree ht, lb3]); (try ((first | refine hK _ _ ?_ | refine hKP _ _ _ ?_ | refine hKP _ _ (fun _ => ?_)); clear hK hKP K KP)); repeat (first | refine Stp.s ?_ | refine inBlock_exit' (by decide) ?_ | ((first | refine vc_region fun K KP hK hKP => ?_ | refine Stg.s ?_ | refine guardD_ret0 ?_ | refine exV_intro _ rfl ?_); (try simp only [go_sem, hb, h5, rlC_node ht, rlC_tree ht, lb3]); try ((first | refine hK _ _ ?_ | refine hKP _ _ _ ?_ | refine hKP _ _ (fun _ => ?_)); clear hK hKP K KP))))
  ((try simp only [go_sem, loadL_a]); first | refine exV_intro _ (callV_pure (toward_pure t ht n fr l.cart hcart) ⟨rfl, rfl⟩) ?_ | refine exV_intro _ (fun _ => callV_pure (toward_pure t ht n fr l.cart hcart) ⟨rfl, rfl⟩) ?_)
  ((try simp only [go_sem, loadL_a]); (try ((first | refine hK _ _ ?_ | refine hKP _ _ _ ?_ | refine hKP _ _ (fun _ => ?_)); clear hK hKP K KP)); repeat (first | refine Stp.s ?_ | refine inBlock_exit' (by decide) ?_ | ((first | refine vc_region fun K KP hK hKP => ?_ | refine Stg.s ?_ | refine guardD_ret0 ?_ | refine exV_intro _ rfl ?_); (try simp only [go_sem, loadL_a]); try ((first | refine hK _ _ ?_ | refine hKP _ _ _ ?_ | refine hKP _ _ (fun _ => ?_)); clear hK hKP K KP))))
  have hw : IntKind.i64.wrap (fr - 1) = fr - 1 := i64_in (by omega) (by omega)
  have g0 := eq_true (show (0 : Int) ≤ fr - 1 by omega)
  have g1 := eq_true (show fr - 1 < ((12 : Nat) : Int) by omega)
  have hi : (fr - 1).toNat < 12 := by omega
  have hr1 := rlC_came (n := n) (c := c) ht (fr - 1).toNat hi
  have hM1 := hM (fr - 1).toNat
  have hwu : IntKind.u64.wrap (((c (fr - 1).toNat).1 : Int) + 1) = (((c (fr - 1).toNat).1 + 1 : Nat) : Int) := by rw [u64_in (by omega) (by omega)]; omega
  have hst := rlC_setCame (n := n) (c := c) ht (fr - 1).toNat ((c (fr - 1).toNat).1 + 1) hi
  have hln := rlC_len (n := n) (c := c) ht
  have g3 := eq_true (show 14 + (fr - 1).toNat * 2 + 1 ≤ 38 by omega)
  ((repeat first | refine Stp.s ?_ | refine inBlock_exit' (by decide) ?_); refine vc_draw mixed [ 13 ] [0, 1, 2, 3, 4, 5, 6, 7, 8, 9, 10, 11, 12, 13 ] [ 7 ] [] (fun _ => True) (by kernel_rfl) (by kernel_rfl) (by kernel_rfl) trivial fun K KP hK hKP => ?_; simp only [go_sem, loadL_a, hb, hw, g0, g1, hr1, hwu, hst, hln, g3]; try (refine hK _ _ ?_; clear hK hKP K KP))
  ((try simp only [go_sem, loadL_a, hb, hw, g0, g1, hr1, hwu, hst, hln, g3, List.length_map]); (try ((first | refine hK _ _ ?_ | refine hKP _ _ _ ?_ | refine hKP _ _ (fun _ => ?_)); clear hK hKP K KP)); repeat (first | refine Stp.s ?_ | refine inBlock_exit' (by decide) ?_ | ((first | refine vc_region fun K KP hK hKP => ?_ | refine Stg.s ?_ | refine guardD_ret0 ?_ | refine exV_intro _ rfl ?_); (try simp only [go_sem, loadL_a, hb, hw, g0, g1, hr1, hwu, hst, hln, g3, List.length_map]); try ((first | refine hK _ _ ?_ | refine hKP _ _ _ ?_ | refine hKP _ _ (fun _ => ?_)); clear hK hKP K KP))))
  have htl := toward_len t n fr l.cart
  have htb : ∀ m ∈ t.toward n fr l.cart, 1 ≤ m ∧ m ≤ 12 := fun m hm => next_bnd (toward_next hm)
  have hM2 := setCame_le (i := (fr - 1).toNat) hM
  have hgo : hearC c fr (t.toward n fr l.cart) = setWents (setCame c (fr - 1).toNat ((c (fr - 1).toNat).1 + 1)) (t.toward n fr l.cart) := rfl
  rw [hgo]
  generalize t.toward n fr l.cart = L at *
  generalize setCame c (fr - 1).toNat ((c (fr - 1).toNat).1 + 1) = c0 at *
  refine vc_loop (loopV (fun (i : Nat) => [.ptr b 0, I64 fr, .top, .top, .top, .ptr b5 0, nilS, I64 0, ints L, .top, .top, .top, .top, .top, .top, .top, .top, .top, .top, .top, .top, .top, .top, .top, .top, .top, .top, .top, .top, .top, .top, .top, .top, .top, .top, .top, .top, .top, .top, .top, .top, .top, .top, .top, .top, .top, .top, .top, .top, .top, ints L, I64 L.length, I64 i, .top, .top, .top, .top, .top, .top, .top, .top, .top, .top, .top, .top, .top, .top, .top, .top, .top, .top]) (fun i τ => i ≤ L.length ∧ τ = σ1.set b (.cells (rlC t n (setWents c0 (L.take i))))) (fun i _ => L.length - i) 0 (by repeat (first | exact LeEnv.nil | refine LeEnv.same ?_ | refine LeEnv.top ?_)) ⟨Nat.zero_le _, rfl⟩ ?_)
  rintro i τ ⟨hi2, rfl⟩
  (repeat (first | refine Stp.s ?_ | refine inBlock_exit' (by decide) ?_ | ((first | refine vc_region fun K KP hK hKP => ?_ | refine Stg.s ?_ | refine guardD_ret0 ?_ | refine exV_intro _ rfl ?_); (try simp only [go_sem, loadL_a]); try ((first | refine hK _ _ ?_ | refine hKP _ _ _ ?_ | refine hKP _ _ (fun _ => ?_)); clear hK hKP K KP))))
  refine vc_cond rfl (fun hc => ?_) (fun hc => ?_)
  · have hlt : i < L.length := by simpa using hc
    have g4 := le_eq (show (0 : Int) ≤ i by omega)
    have g5' := lt_eq (show (i : Int) < L.length by omega)
    have hx : (L.map I64).getD i .top = I64 L[i] := getD_map I64 L i hlt
    have htk := List.take_succ_eq_append_getElem hlt
    have hbd := htb _ (List.getElem_mem hlt)
    have hM3 := setWents_le (L.take i) c0 _ hM2
    rw [List.length_take] at hM3
    generalize L[i] = m at *
    have hsn := setWents_snoc c0 (L.take i) m
    rw [← htk] at hsn
    generalize setWents c0 (L.take i) = ci at *
    have hw2 : IntKind.i64.wrap (m - 1) = m - 1 := i64_in (by omega) (by omega)
    have g6 := eq_true (show (0 : Int) ≤ m - 1 by omega)
    have g7 := eq_true (show m - 1 < ((12 : Nat) : Int) by omega)
    have hi3 : (m - 1).toNat < 12 := by omega
    have hr2 := rlC_went (n := n) (c := ci) ht (m - 1).toNat hi3
    have hM4 := hM3 (m - 1).toNat
    have hwu2 : IntKind.u64.wrap (((ci (m - 1).toNat).2 : Int) + 1) = (((ci (m - 1).toNat).2 + 1 : Nat) : Int) := by rw [u64_in (by omega) (by omega)]; omega
    have hst2 := rlC_setWent (n := n) (c := ci) ht (m - 1).toNat ((ci (m - 1).toNat).2 + 1) hi3
    have hln2 := rlC_len (n := n) (c := ci) ht
    have g8 := eq_true (show 14 + (m - 1).toNat * 2 + 1 + 1 ≤ 38 by omega)
    have hb2 := fun k => Store.set_same σ1 b k
    (repeat (first | refine Stp.s ?_ | refine inBlock_exit' (by decide) ?_ | ((first | refine vc_region fun K KP hK hKP => ?_ | refine Stg.s ?_ | refine guardD_ret0 ?_ | refine exV_intro _ rfl ?_); (try simp only [go_sem, loadL_a, g4, g5', hx, Int.toNat_natCast, List.length_map]); try ((first | refine hK _ _ ?_ | refine hKP _ _ _ ?_ | refine hKP _ _ (fun _ => ?_)); clear hK hKP K KP))))
    ((repeat first | refine Stp.s ?_ | refine inBlock_exit' (by decide) ?_); refine vc_draw mixed [ 13 ] [0, 1, 2, 3, 4, 5, 6, 7, 8, 9, 10, 11, 12, 13 ] [ 7 ] [] (fun _ => True) (by kernel_rfl) (by kernel_rfl) (by kernel_rfl) trivial fun K KP hK hKP => ?_; simp only [go_sem, loadL_a, hb2, hw2, g6, g7, hr2, hwu2, hst2, hln2, g8]; try (refine hK _ _ ?_; clear hK hKP K KP))
    ((try simp only [go_sem, loadL_a, hb2, hw2, g6, g7, hr2, hwu2, hst2, hln2, g8, i64_nsucc (show i < 1000000 by omega)]); (try ((first | refine hK _ _ ?_ | refine hKP _ _ _ ?_ | refine hKP _ _ (fun _ => ?_)); clear hK hKP K KP)); repeat (first | refine Stp.s ?_ | refine inBlock_exit' (by decide) ?_ | ((first | refine vc_region fun K KP hK hKP => ?_ | refine Stg.s ?_ | refine guardD_ret0 ?_ | refine exV_intro _ rfl ?_); (try simp only [go_sem, loadL_a, hb2, hw2, g6, g7, hr2, hwu2, hst2, hln2, g8, i64_nsucc (show i < 1000000 by omega)]); try ((first | refine hK _ _ ?_ | refine hKP _ _ _ ?_ | refine hKP _ _ (fun _ => ?_)); clear hK hKP K KP))))
    rw [← hsn]
    exact ⟨i + 1, _, (by repeat (first | exact LeEnv.nil | refine LeEnv.same ?_ | refine LeEnv.top ?_)), Store.le_refl _, ⟨hlt, rfl⟩, by omega⟩
  · have hii : i = L.length := by simp at hc; omega
    subst hii
    rw [List.take_length]
    (repeat (first | refine Stp.s ?_ | refine inBlock_exit' (by decide) ?_ | ((first | refine vc_region fun K KP hK hKP => ?_ | refine Stg.s ?_ | refine guardD_ret0 ?_ | refine exV_intro _ rfl ?_); (try simp only [go_sem, loadL_a]); try ((first | refine hK _ _ ?_ | refine hKP _ _ _ ?_ | refine hKP _ _ (fun _ => ?_)); clear hK hKP K KP))))
    (simp only [postV, resV, oneOf, List.getD_cons_succ, List.getD_cons_zero, and_true, true_and])
    exact Ends.mk (Weakens.le (hσ _))
end Go.Proofs.Ytbgagffpmdlilaa
