import Derived.Test.YtbgagffpmdlilaaTB
import Derived.Test.YtbgagffpmdlilaaHC
namespace Go.Proofs.Ytbgagffpmdlilaa
set_option linter.unusedSimpArgs false
set_option linter.unusedVariables false
open Go.Proofs
attribute [local irreducible] vc vcOps vcDraw vcK vcKP vcDK vcDB HWp HCalls postV Ex.then Ex.inBlock stepD callV appendV guardC guardD exV effV opV loadV storeV indexAddrV indexV sliceV
set_option maxRecDepth 10000
set_option maxHeartbeats 4000000

theorem IRow.lst {l : List Int} {σ : Store} : IRow (ints l) (fun i => .ro [I64 (l.getD i 0)]) l σ where
  len K := by skip
              simp only [go_sem, loadL_a, List.length_map]
  ix i hi K := by
    skip
    have g1 : (0 : Int) ≤ i := by omega
    have g2 : (i : Int) < l.length := by omega
    simp only [go_sem, loadL_a, g1, g2, Int.toNat_natCast, List.length_map, getD_ints l i hi]
  ld i hi K := by
    skip
    simp only [go_sem, loadL_a]
theorem wants1 (b : Nat) (l : List Int) (hl : l.length ≤ 12) (h : Int) (σ : Store) (hb : σ b = some (.cells [ints l])) : HQuiet Try.prog 184 [I64 h, .ptr b 0] σ (BV (l.any (h == ·))) := by
  refine HQuiet.of ?_; (refine HCalls.of_vc Try.func184 rfl ?_; rw [Try.ntmps184, Try.results184]; simp only [List.length_cons, List.length_nil, Nat.reduceAdd, Nat.reduceSub, List.replicate, List.cons_append, List.nil_append])
  (repeat (first | refine Stp.s ?_ | refine inBlock_exit' (by decide) ?_ | ((first | refine vc_region fun K KP hK hKP => ?_ | refine Stg.s ?_ | refine guardD_ret0 ?_ | refine exV_intro _ rfl ?_); (try simp only [go_sem, loadL_a, hb]); try ((first | refine hK _ _ ?_ | refine hKP _ _ _ ?_ | refine hKP _ _ (fun _ => ?_)); clear hK hKP K KP))))
  ((try simp only [go_sem, loadL_a]); first | refine callV_pure (contains_int l h (by omega)) ?_ | refine guardC_q0 (fun _ => callV_pure (contains_int l h (by omega)) ⟨rfl, rfl⟩) ?_)
  ((try simp only [go_sem, loadL_a]); (try ((first | refine hK _ _ ?_ | refine hKP _ _ _ ?_ | refine hKP _ _ (fun _ => ?_)); clear hK hKP K KP)); repeat (first | refine Stp.s ?_ | refine inBlock_exit' (by decide) ?_ | ((first | refine vc_region fun K KP hK hKP => ?_ | refine Stg.s ?_ | refine guardD_ret0 ?_ | refine exV_intro _ rfl ?_); (try simp only [go_sem, loadL_a]); try ((first | refine hK _ _ ?_ | refine hKP _ _ _ ?_ | refine hKP _ _ (fun _ => ?_)); clear hK hKP K KP))))
  (simp only [postV, resV, oneOf, List.getD_cons_succ, List.getD_cons_zero, and_true, true_and])
  exact Ends.le rfl (Store.le_refl _)
noncomputable def Tr.wants (t : Tr) (n m cart : Int) : Bool := (t.homes cart).any fun h => (t.beyond n m).any (h == ·)
theorem beyond_len (t : Tr) (n m : Int) : (t.beyond n m).length ≤ 12 := by
  unfold Tr.beyond; split
  · exact List.length_filter_le _ _
  · simp
theorem homes_len (t : Tr) (cart : Int) : (t.homes cart).length ≤ 12 := by
  unfold Tr.homes; split
  · simp
  · split
    · exact nodes_len t 1
    · simp
theorem wants_pure (t : Tr) (ht : t.Ok) (n m cart : Int) (hcart : -9223372036854775808 ≤ cart ∧ cart ≤ 9223372036854775807) : HPure Try.prog 156 [t.v, I64 n, I64 m, I64 cart] (BV (t.wants n m cart)) := by
  (refine HPure.of en156 fun σ => ?_); (refine HCalls.of_vc Try.func156 rfl ?_; rw [Try.ntmps156, Try.results156]; simp only [List.length_cons, List.length_nil, Nat.reduceAdd, Nat.reduceSub, List.replicate, List.cons_append, List.nil_append])
  (repeat (first | refine Stp.s ?_ | refine inBlock_exit' (by decide) ?_ | ((first | refine vc_region fun K KP hK hKP => ?_ | refine Stg.s ?_ | refine guardD_ret0 ?_ | refine exV_intro _ rfl ?_); (try simp only [go_sem, loadL_a]); try ((first | refine hK _ _ ?_ | refine hKP _ _ _ ?_ | refine hKP _ _ (fun _ => ?_)); clear hK hKP K KP))))
  intro b4 hb4
  ((try simp only [go_sem, treeLoad t ht]); refine hK _ _ ?_; clear hK hKP K KP; repeat (first | refine Stp.s ?_ | refine inBlock_exit' (by decide) ?_ | ((first | refine vc_region fun K KP hK hKP => ?_ | refine Stg.s ?_ | refine guardD_ret0 ?_ | refine exV_intro _ rfl ?_); (try simp only [go_sem, treeLoad t ht]); try ((first | refine hK _ _ ?_ | refine hKP _ _ _ ?_ | refine hKP _ _ (fun _ => ?_)); clear hK hKP K KP))))
  have hle4 : σ.le (σ.set b4 (.cells (t.kinds.map I64 ++ [t.es]))) := Store.le_set hb4 (Store.le_refl _)
  have h4 : (σ.set b4 (.cells (t.kinds.map I64 ++ [t.es]))) b4 = some (.cells (t.kinds.map I64 ++ [t.es])) := Store.set_same _ _ _
  generalize (σ.set b4 (.cells (t.kinds.map I64 ++ [t.es]))) = σ1 at *
  ((try simp only [go_sem, loadL_a]); first | refine callV_pure (beyond_pure t ht n m) ?_ | refine guardC_q0 (fun _ => callV_pure (beyond_pure t ht n m) ⟨rfl, rfl⟩) ?_)
  ((try simp only [go_sem, loadL_a]); (try ((first | refine hK _ _ ?_ | refine hKP _ _ _ ?_ | refine hKP _ _ (fun _ => ?_)); clear hK hKP K KP)); repeat (first | refine Stp.s ?_ | refine inBlock_exit' (by decide) ?_ | ((first | refine vc_region fun K KP hK hKP => ?_ | refine Stg.s ?_ | refine guardD_ret0 ?_ | refine exV_intro _ rfl ?_); (try simp only [go_sem, loadL_a]); try ((first | refine hK _ _ ?_ | refine hKP _ _ _ ?_ | refine hKP _ _ (fun _ => ?_)); clear hK hKP K KP))))
  intro b9 hb9
  ((try simp only [go_sem, treeLoad t ht, Store.keep hb9 h4]); (try ((first | refine hK _ _ ?_ | refine hKP _ _ _ ?_ | refine hKP _ _ (fun _ => ?_)); clear hK hKP K KP)); repeat (first | refine Stp.s ?_ | refine inBlock_exit' (by decide) ?_ | ((first | refine vc_region fun K KP hK hKP => ?_ | refine Stg.s ?_ | refine guardD_ret0 ?_ | refine exV_intro _ rfl ?_); (try simp only [go_sem, treeLoad t ht, Store.keep hb9 h4]); try ((first | refine hK _ _ ?_ | refine hKP _ _ _ ?_ | refine hKP _ _ (fun _ => ?_)); clear hK hKP K KP))))
  have k9 : (σ1.set b9 (.cells [ints (t.beyond n m)])) b9 = some (.cells [ints (t.beyond n m)]) := Store.set_same _ _ _
  have hle9 : σ1.le (σ1.set b9 (.cells [ints (t.beyond n m)])) := Store.le_set hb9 (Store.le_refl _)
  refine callV_pure (homes_pure t ht cart hcart) ?_
  simp only [go_sem, loadL_a]
  refine callV_quiet en127 (contF_row (ints (t.homes cart)) _ (t.homes cart) 184 [] [.ptr b9 0] (fun h => (t.beyond n m).any (h == ·)) _ (by have := homes_len t cart; omega) en184 IRow.lst (fun y _ => wants1 b9 (t.beyond n m) (beyond_len t n m) y _ k9)) ?_
  ((try simp only [go_sem, loadL_a]); (try ((first | refine hK _ _ ?_ | refine hKP _ _ _ ?_ | refine hKP _ _ (fun _ => ?_)); clear hK hKP K KP)); repeat (first | refine Stp.s ?_ | refine inBlock_exit' (by decide) ?_ | ((first | refine vc_region fun K KP hK hKP => ?_ | refine Stg.s ?_ | refine guardD_ret0 ?_ | refine exV_intro _ rfl ?_); (try simp only [go_sem, loadL_a]); try ((first | refine hK _ _ ?_ | refine hKP _ _ _ ?_ | refine hKP _ _ (fun _ => ?_)); clear hK hKP K KP))))
  (simp only [postV, resV, oneOf, List.getD_cons_succ, List.getD_cons_zero, and_true, true_and])
  exact Ends.le rfl (Store.le_trans hle4 hle9)

noncomputable def Tr.toward (t : Tr) (n fr cart : Int) : List Int := (t.next n).filter fun m => (m != fr) && t.wants n m cart
theorem toward_pure (t : Tr) (ht : t.Ok) (n fr cart : Int) (hcart : -9223372036854775808 ≤ cart ∧ cart ≤ 9223372036854775807) : HPure Try.prog 104 [t.v, I64 n, I64 fr, I64 cart] (ints (t.toward n fr cart)) := by
  (refine HPure.of en104 fun σ => ?_); (refine HCalls.of_vc Try.func104 rfl ?_; rw [Try.ntmps104, Try.results104]; simp only [List.length_cons, List.length_nil, Nat.reduceAdd, Nat.reduceSub, List.replicate, List.cons_append, List.nil_append])
  (repeat (first | refine Stp.s ?_ | refine inBlock_exit' (by decide) ?_ | ((first | refine vc_region fun K KP hK hKP => ?_ | refine Stg.s ?_ | refine guardD_ret0 ?_ | refine exV_intro _ rfl ?_); (try simp only [go_sem, loadL_a]); try ((first | refine hK _ _ ?_ | refine hKP _ _ _ ?_ | refine hKP _ _ (fun _ => ?_)); clear hK hKP K KP))))
  intro b4 hb4
  ((try simp only [go_sem, treeLoad t ht]); refine hK _ _ ?_; clear hK hKP K KP; repeat (first | refine Stp.s ?_ | refine inBlock_exit' (by decide) ?_ | ((first | refine vc_region fun K KP hK hKP => ?_ | refine Stg.s ?_ | refine guardD_ret0 ?_ | refine exV_intro _ rfl ?_); (try simp only [go_sem, treeLoad t ht]); try ((first | refine hK _ _ ?_ | refine hKP _ _ _ ?_ | refine hKP _ _ (fun _ => ?_)); clear hK hKP K KP))))
  have hle4 : σ.le (σ.set b4 (.cells (t.kinds.map I64 ++ [t.es]))) := Store.le_set hb4 (Store.le_refl _)
  have h4 : (σ.set b4 (.cells (t.kinds.map I64 ++ [t.es]))) b4 = some (.cells (t.kinds.map I64 ++ [t.es])) := Store.set_same _ _ _
  generalize (σ.set b4 (.cells (t.kinds.map I64 ++ [t.es]))) = σ1 at *
  (repeat (first | refine Stp.s ?_ | refine inBlock_exit' (by decide) ?_ | ((first | refine vc_region fun K KP hK hKP => ?_ | refine Stg.s ?_ | refine guardD_ret0 ?_ | refine exV_intro _ rfl ?_); (try simp only [go_sem, treeLoad t ht, h4]); try ((first | refine hK _ _ ?_ | refine hKP _ _ _ ?_ | refine hKP _ _ (fun _ => ?_)); clear hK hKP K KP))))
  ((try simp only [go_sem, loadL_a]); first | refine callV_pure (next_pure t ht n) ?_ | refine guardC_q0 (fun _ => callV_pure (next_pure t ht n) ⟨rfl, rfl⟩) ?_)
  ((try simp only [go_sem, loadL_a, List.length_map]); (try ((first | refine hK _ _ ?_ | refine hKP _ _ _ ?_ | refine hKP _ _ (fun _ => ?_)); clear hK hKP K KP)); repeat (first | refine Stp.s ?_ | refine inBlock_exit' (by decide) ?_ | ((first | refine vc_region fun K KP hK hKP => ?_ | refine Stg.s ?_ | refine guardD_ret0 ?_ | refine exV_intro _ rfl ?_); (try simp only [go_sem, loadL_a, List.length_map]); try ((first | refine hK _ _ ?_ | refine hKP _ _ _ ?_ | refine hKP _ _ (fun _ => ?_)); clear hK hKP K KP))))
  have hn12 := next_len t n
  refine vc_loop (loopV (fun (a : Nat × V) => [t.v, I64 n, I64 fr, I64 cart, .ptr b4 0, .top, .top, .top, nilS, a.2, .top, .top, .top, .top, ints (t.next n), I64 (t.next n).length, I64 a.1, .top, .top, .top, .top, .top, .top, .top, .top, .top, .top, .top, .top, .top, .top, .top, .top, .top, .top, .top])
    (fun a τ => a.1 ≤ (t.next n).length ∧ Bld 1 σ1 τ a.2 ((((t.next n).take a.1).filter fun m => (m != fr) && t.wants n m cart).map I64) (((t.next n).take a.1).filter fun m => (m != fr) && t.wants n m cart).length) (fun a _ => (t.next n).length - a.1) (0, nilS) (by repeat (first | exact LeEnv.nil | refine LeEnv.same ?_ | refine LeEnv.top ?_)) ⟨by omega, Bld.nil 1 σ1⟩ ?_)
  rintro ⟨i, x⟩ τ ⟨hi, hB⟩
  have hle := hB.base
  have h4' := hle _ _ h4
  (repeat (first | refine Stp.s ?_ | refine inBlock_exit' (by decide) ?_ | ((first | refine vc_region fun K KP hK hKP => ?_ | refine Stg.s ?_ | refine guardD_ret0 ?_ | refine exV_intro _ rfl ?_); (try simp only [go_sem, loadL_a]); try ((first | refine hK _ _ ?_ | refine hKP _ _ _ ?_ | refine hKP _ _ (fun _ => ?_)); clear hK hKP K KP))))
  refine vc_cond rfl (fun hc => ?_) (fun hc => ?_)
  · have hlt : i < (t.next n).length := by simpa using hc
    have g1 : (0 : Int) ≤ i := by omega
    have g2 : (i : Int) < (t.next n).length := by omega
    have hw : IntKind.i64.wrap ((i : Int) + 1) = ((i + 1 : Nat) : Int) := by rw [i64_in (by omega) (by omega)]; omega
    have hx : ((t.next n).map I64).getD i .top = I64 (t.next n)[i] := getD_map I64 _ i hlt
    have hfl : ∀ j, (((t.next n).take j).filter fun m => (m != fr) && t.wants n m cart).length ≤ 12 := fun j => Nat.le_trans (List.length_filter_le _ _) (by rw [List.length_take]; omega)
    (repeat (first | refine Stp.s ?_ | refine inBlock_exit' (by decide) ?_ | ((first | refine vc_region fun K KP hK hKP => ?_ | refine Stg.s ?_ | refine guardD_ret0 ?_ | refine exV_intro _ rfl ?_); (try simp only [go_sem, g1, g2, hx, List.length_map, Int.toNat_natCast, treeLoad t ht, h4']); try ((first | refine hK _ _ ?_ | refine hKP _ _ _ ?_ | refine hKP _ _ (fun _ => ?_)); clear hK hKP K KP))))
    ((try simp only [go_sem, loadL_a]); first | refine guardC_q0 (fun _ => callV_pure (wants_pure t ht _ _ _ hcart) ⟨rfl, rfl⟩) ?_ | refine callV_pure (wants_pure t ht _ _ _ hcart) ?_)
    ((try simp only [go_sem, loadL_a]); (try ((first | refine hK _ _ ?_ | refine hKP _ _ _ ?_ | refine hKP _ _ (fun _ => ?_)); clear hK hKP K KP)); repeat (first | refine Stp.s ?_ | refine inBlock_exit' (by decide) ?_ | ((first | refine vc_region fun K KP hK hKP => ?_ | refine Stg.s ?_ | refine guardD_ret0 ?_ | refine exV_intro _ rfl ?_); (try simp only [go_sem, loadL_a]); try ((first | refine hK _ _ ?_ | refine hKP _ _ _ ?_ | refine hKP _ _ (fun _ => ?_)); clear hK hKP K KP))))
    refine vc_cond rfl (fun hadj => ?_) (fun hadj => ?_)
    · (repeat (first | refine Stp.s ?_ | refine inBlock_exit' (by decide) ?_ | ((first | refine vc_region fun K KP hK hKP => ?_ | refine Stg.s ?_ | refine guardD_ret0 ?_ | refine exV_intro _ rfl ?_); (try simp only [go_sem, loadL_a, hw]); try ((first | refine hK _ _ ?_ | refine hKP _ _ _ ?_ | refine hKP _ _ (fun _ => ?_)); clear hK hKP K KP))))
      intro b8 hb8
      refine append_int hB (Store.le_set hb8 (Store.le_refl _)) (row_lit (Store.set_same _ _ _) rfl rfl) (m := 1) rfl (by simp [V.one]) (by have := hfl i; show (List.filter _ ((t.next n).take i)).length + 1 ≤ _; omega) ?_
      intro x' τ' σ' hB' hle' _
      ((try simp only [go_sem, loadL_a, hw]); refine hK _ _ ?_; clear hK hKP K KP; repeat (first | refine Stp.s ?_ | refine inBlock_exit' (by decide) ?_ | ((first | refine vc_region fun K KP hK hKP => ?_ | refine Stg.s ?_ | refine guardD_ret0 ?_ | refine exV_intro _ rfl ?_); (try simp only [go_sem, loadL_a, hw]); try ((first | refine hK _ _ ?_ | refine hKP _ _ _ ?_ | refine hKP _ _ (fun _ => ?_)); clear hK hKP K KP))))
      refine ⟨(i + 1, x'), τ', ?_, hle', ⟨hlt, ?_⟩, by show (t.next n).length - (i + 1) < (t.next n).length - i; omega⟩
      · repeat (first | exact LeEnv.nil | refine LeEnv.same ?_ | refine LeEnv.top ?_)
      · show Bld 1 σ1 τ' x' _ _
        rw [List.take_succ_eq_append_getElem hlt, List.filter_append, List.filter_cons, hadj]
        simpa using hB'
    · (repeat (first | refine Stp.s ?_ | refine inBlock_exit' (by decide) ?_ | ((first | refine vc_region fun K KP hK hKP => ?_ | refine Stg.s ?_ | refine guardD_ret0 ?_ | refine exV_intro _ rfl ?_); (try simp only [go_sem, loadL_a, hw]); try ((first | refine hK _ _ ?_ | refine hKP _ _ _ ?_ | refine hKP _ _ (fun _ => ?_)); clear hK hKP K KP))))
      refine ⟨(i + 1, x), τ, ?_, Store.le_refl _, ⟨hlt, ?_⟩, by show (t.next n).length - (i + 1) < (t.next n).length - i; omega⟩
      · repeat (first | exact LeEnv.nil | refine LeEnv.same ?_ | refine LeEnv.top ?_)
      · show Bld 1 σ1 τ x _ _
        rw [List.take_succ_eq_append_getElem hlt, List.filter_append, List.filter_cons, hadj]
        simpa using hB
  · (repeat (first | refine Stp.s ?_ | refine inBlock_exit' (by decide) ?_ | ((first | refine vc_region fun K KP hK hKP => ?_ | refine Stg.s ?_ | refine guardD_ret0 ?_ | refine exV_intro _ rfl ?_); (try simp only [go_sem, loadL_a]); try ((first | refine hK _ _ ?_ | refine hKP _ _ _ ?_ | refine hKP _ _ (fun _ => ?_)); clear hK hKP K KP))))
    (simp only [postV, resV, oneOf, List.getD_cons_succ, List.getD_cons_zero, and_true, true_and])
    have hii : i = (t.next n).length := by simp at hc hi; omega
    subst hii
    simp only [List.take_length] at hB
    exact Ends.mk (Weakens.trans (Bld.ints hB) (Weakens.le hle4))
end Go.Proofs.Ytbgagffpmdlilaa

namespace Go.Proofs.Ytbgagffpmdlilaa
set_option linter.unusedSimpArgs false
set_option linter.unusedVariables false
open Go.Proofs
attribute [local irreducible] vc vcOps vcDraw vcK vcKP vcDK vcDB HWp HCalls postV Ex.then Ex.inBlock stepD callV appendV guardC guardD exV effV opV loadV storeV indexAddrV indexV sliceV
set_option maxRecDepth 10000
set_option maxHeartbeats 4000000

end Go.Proofs.Ytbgagffpmdlilaa

namespace Go.Proofs.Ytbgagffpmdlilaa
set_option linter.unusedSimpArgs false
set_option linter.unusedVariables false
open Go.Proofs
attribute [local irreducible] vc vcOps vcDraw vcK vcKP vcDK vcDB HWp HCalls postV Ex.then Ex.inBlock stepD callV appendV guardC guardD exV effV opV loadV storeV indexAddrV indexV sliceV
set_option maxRecDepth 10000
set_option maxHeartbeats 4000000
/-- append at elements of type int, k cells each; the slice is one of several. -/
theorem own_int {σ0 τ σ : Store} {x y : V} {cs news : List V} {n m : Nat} {ob : Option Nat} {K : V → Store → Prop} (hb : Own 1 σ0 τ x cs n ob) (hle : τ.le σ) (h0 : σ0.le σ) (hrow : ∀ KK : Nat → List V → Prop, KK m news → rowV 1 y σ KK) (hl : news.length = m * 1) (h1 : ∀ c ∈ news, c.one = true) (hm : n + m ≤ 1000000000)
    (h : ∀ x' ob' σ', Own 1 σ0 σ' x' (cs ++ news) (n + m) ob' → (∀ c l, σ c = some l → some c ≠ ob → σ' c = some l) → (∀ c, ob' = some c → ob = some c ∨ σ c = none) → K x' σ') : appendV Try.prog 46 46 x y σ K := by
  have hby : Try.prog.bytesOf 3 ≤ 1000 := by rw [show Try.prog.bytesOf 3 = 8 from by kernel_rfl]; decide
  refine Own.append Try.underlying46 Try.underlying46 (by exact trivial) in3 ce3 (by decide) zl3 hb hle h0 hrow hl h1 (by rw [maxLen_i]; omega) ?_ h
  exact Nat.le_trans (Nat.mul_le_mul hm hby) (by decide)

end Go.Proofs.Ytbgagffpmdlilaa

namespace Go.Proofs.Ytbgagffpmdlilaa
set_option linter.unusedSimpArgs false
set_option linter.unusedVariables false
open Go.Proofs
attribute [local irreducible] vc vcOps vcDraw vcK vcKP vcDK vcDB HWp HCalls postV Ex.then Ex.inBlock stepD callV appendV guardC guardD exV effV opV loadV storeV indexAddrV indexV sliceV
attribute [local irreducible] Ex.jump
set_option maxRecDepth 10000
set_option maxHeartbeats 4000000

abbrev hopV (e : Int × Int) : V := .agg [I64 e.1, I64 e.2]
def Tr.pass (t : Tr) (right : Int → Int → List Int) (q : List (Int × Int)) (out : List Int) : List (Int × Int) × List Int :=
  match q with
  | [] => ([], out)
  | (n, fr) :: q => (q ++ (right n fr).map (fun m => (m, n)), out ++ right n fr)
/-- The passes, at most f. -/
noncomputable def Tr.bfs (t : Tr) (cart : Int) : Nat → List (Int × Int) → List Int → List Int
  | 0, _, out => out
  | f + 1, q, out => let r := t.pass (fun n fr => t.toward n fr cart) q out
    if 0 < r.1.length ∧ r.2.length < 144 then Tr.bfs t cart f r.1 r.2 else r.2
noncomputable def Tr.reach (t : Tr) (s cart : Int) : List Int := if t.right = true then (t.bfs cart 1000 [(s, 0)] []).take 144 else []

theorem flat_ints : ∀ l : List Int, (l.map I64).flatMap V.cells = l.map I64
  | [] => rfl
  | a :: l => by rw [List.map_cons, List.flatMap_cons, flat_ints l]; rfl
theorem toward_len (t : Tr) (n fr cart : Int) : (t.toward n fr cart).length ≤ 12 := Nat.le_trans (List.length_filter_le _ _) (next_len t n)

/-- What is so at the label. -/
def RInv (t : Tr) (cart : Int) (R : List Int) (σ1 : Store) (a : List (Int × Int) × List Int × V × V × Option Nat × Option Nat) (τ : Store) : Prop :=
  t.right = true ∧ a.1 ≠ [] ∧ a.2.1.length < 144 ∧ Own 2 σ1 τ a.2.2.1 (a.1.flatMap fun e => [I64 e.1, I64 e.2]) a.1.length a.2.2.2.2.1 ∧ Own 1 σ1 τ a.2.2.2.1 (a.2.1.map I64) a.2.1.length a.2.2.2.2.2 ∧ σ1.le τ ∧
    (∀ b, a.2.2.2.2.1 = some b → a.2.2.2.2.2 ≠ some b) ∧ a.1.length ≤ a.2.1.length + 1 ∧ ∃ f, a.1.length + 400 ≤ f + 2 * a.2.1.length ∧ t.bfs cart (f + 1) a.1 a.2.1 = R

end Go.Proofs.Ytbgagffpmdlilaa

