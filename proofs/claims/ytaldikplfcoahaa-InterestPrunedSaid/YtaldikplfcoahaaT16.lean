import Derived.Test.YtaldikplfcoahaaT15
namespace Go.Proofs.Ytaldikplfcoahaa
set_option linter.unusedSimpArgs false
set_option linter.unusedVariables false
open Go.Proofs
attribute [local irreducible] vc vcOps vcDraw vcK vcKP vcDK vcDB HWp HCalls postV Ex.then Ex.inBlock stepD callV appendV guardC guardD exV effV opV loadV storeV indexAddrV indexV sliceV
attribute [local irreducible] Ex.jump
set_option maxRecDepth 10000
set_option maxHeartbeats 4000000

abbrev hopV (e : Int × Int) : V := .agg [I64 e.1, I64 e.2]
def Tr.pass (t : Tr) (right : Int → Int → List Int) (q : List (Int × Int)) (out : List Int) : List (Int × Int) × List Int :=
  match q with
  | [] => ([], out)
  | (n, fr) :: q => (q ++ (right n fr).map (fun m => (m, n)), out ++ right n fr)
/-- The passes, at most f. -/
noncomputable def Tr.bfs (t : Tr) (cart : Int) : Nat → List (Int × Int) → List Int → List Int
  | 0, _, out => out
  | f + 1, q, out => let r := t.pass (fun n fr => t.toward n fr cart) q out
    if 0 < r.1.length ∧ r.2.length < 144 then Tr.bfs t cart f r.1 r.2 else r.2
noncomputable def Tr.reach (t : Tr) (s cart : Int) : List Int := if t.right = true then (t.bfs cart 1000 [(s, 0)] []).take 144 else []

theorem flat_ints : ∀ l : List Int, (l.map I64).flatMap V.cells = l.map I64
  | [] => rfl
  | a :: l => by rw [List.map_cons, List.flatMap_cons, flat_ints l]; rfl
theorem toward_len (t : Tr) (n fr cart : Int) : (t.toward n fr cart).length ≤ 12 := Nat.le_trans (List.length_filter_le _ _) (next_len t n)

/-- What is so at the label. -/
def RInv (t : Tr) (cart : Int) (R : List Int) (σ1 : Store) (a : List (Int × Int) × List Int × V × V × Option Nat × Option Nat) (τ : Store) : Prop :=
  t.right = true ∧ a.1 ≠ [] ∧ a.2.1.length < 144 ∧ Own 2 σ1 τ a.2.2.1 (a.1.flatMap fun e => [I64 e.1, I64 e.2]) a.1.length a.2.2.2.2.1 ∧ Own 1 σ1 τ a.2.2.2.1 (a.2.1.map I64) a.2.1.length a.2.2.2.2.2 ∧ σ1.le τ ∧
    (∀ b, a.2.2.2.2.1 = some b → a.2.2.2.2.2 ≠ some b) ∧ a.1.length ≤ a.2.1.length + 1 ∧ ∃ f, a.1.length + 400 ≤ f + 2 * a.2.1.length ∧ t.bfs cart (f + 1) a.1 a.2.1 = R

theorem reach_pure (t : Tr) (ht : t.Ok) (s cart : Int) (hcart : -9223372036854775808 ≤ cart ∧ cart ≤ 9223372036854775807) : HPure Try.prog 13 [t.v, I64 s, I64 cart] (ints (t.reach s cart)) := by
  (refine HPure.of en13 fun σ => ?_); (refine HCalls.of_vc Try.func13 rfl ?_; rw [Try.ntmps13, Try.results13]; simp only [List.length_cons, List.length_nil, Nat.reduceAdd, Nat.reduceSub, List.replicate, List.cons_append, List.nil_append])
  (repeat (first | refine vc_seq ?_ | refine vc_block ?_ | refine then_normal ?_ | refine vc_ret ?_ | refine vc_skip ?_ | refine vc_exit ?_ | refine then_ret ?_ | refine then_exit ?_ | refine inBlock_normal ?_ | refine inBlock_ret ?_ | refine inBlock_exit ?_ | refine vc_goto ?_ | refine then_goto ?_ | refine inBlock_goto ?_ | refine jump_goto ?_ | refine jump_normal ?_ | refine jump_ret ?_ | refine inBlock_exit' (by decide) ?_ | ((first | refine vc_region fun K KP hK hKP => ?_ | refine guardC_ret0 ?_ | refine guardC_yes0 ?_ | refine guardC_no ?_ | refine guardD_no ?_ | refine effV_true ?_ | refine guardD_ret0 ?_); simp only [go_sem, loadL_a, lenV, indexAddrV, loadV, storeV, sliceV, convertV, V.flag, V.strip]; try (refine hK _ _ ?_; clear hK hKP K KP)) | (refine exV_intro _ rfl ?_; (try simp only [go_sem, loadL_a, lenV, indexAddrV, loadV, storeV, sliceV, convertV, V.flag, V.strip]); try (refine hK _ _ ?_; clear hK hKP K KP))))
  intro b3 hb3
  ((try simp only [go_sem, lenV, indexAddrV, loadV, storeV, sliceV, convertV, V.flag, V.strip, treeLoad t ht]); refine hK _ _ ?_; clear hK hKP K KP; repeat (first | refine vc_seq ?_ | refine vc_block ?_ | refine then_normal ?_ | refine vc_ret ?_ | refine vc_skip ?_ | refine vc_exit ?_ | refine then_ret ?_ | refine then_exit ?_ | refine inBlock_normal ?_ | refine inBlock_ret ?_ | refine inBlock_exit ?_ | refine vc_goto ?_ | refine then_goto ?_ | refine inBlock_goto ?_ | refine jump_goto ?_ | refine jump_normal ?_ | refine jump_ret ?_ | refine inBlock_exit' (by decide) ?_ | ((first | refine vc_region fun K KP hK hKP => ?_ | refine guardC_ret0 ?_ | refine guardC_yes0 ?_ | refine guardC_no ?_ | refine guardD_no ?_ | refine effV_true ?_ | refine guardD_ret0 ?_); simp only [go_sem, lenV, indexAddrV, loadV, storeV, sliceV, convertV, V.flag, V.strip, treeLoad t ht]; try (refine hK _ _ ?_; clear hK hKP K KP)) | (refine exV_intro _ rfl ?_; (try simp only [go_sem, lenV, indexAddrV, loadV, storeV, sliceV, convertV, V.flag, V.strip, treeLoad t ht]); try (refine hK _ _ ?_; clear hK hKP K KP))))
  have hle3 : σ.le (σ.set b3 (.cells (t.kinds.map I64 ++ [t.es]))) := Store.le_set hb3 (Store.le_refl _)
  have h3 : (σ.set b3 (.cells (t.kinds.map I64 ++ [t.es]))) b3 = some (.cells (t.kinds.map I64 ++ [t.es])) := Store.set_same _ _ _
  generalize (σ.set b3 (.cells (t.kinds.map I64 ++ [t.es]))) = σ1 at *
  refine vc_scope (HWp.scope2 (α := List (Int × Int) × List Int × V × V × Option Nat × Option Nat) 0 (fun a => [t.v, I64 s, I64 cart, .ptr b3 0, .top, .top, nilS, a.2.2.2.1, a.2.2.1, .top, .top, .top, .top, .top, .top, .top, .top, .top, .top, .top, .top, .top, .top, .top, .top, .top, .top, .top, .top, .top, .top, .top, .top, .top, .top, .top, .top, .top, .top, .top, .top, .top, .top, .top, .top, .top, .top, .top, .top, .top, .top, .top, .top, .top, .top, .top, .top, .top, .top, .top]) (RInv t cart (t.bfs cart 1000 [(s, 0)] []) σ1) (fun a _ => a.1.length + 400 - 2 * a.2.1.length) rfl (fun a τ ha => ?_) (fun hpass => HWp.seq (vc_ok _ _ _ _ ?_)))
  · refine vc_ok _ _ _ _ ?_
    obtain ⟨q, out, xq, xo, oq, oo⟩ := a
    obtain ⟨hright, hq0, hout, hOq, hOo, hle, hne, hql, f, hf, hR⟩ := ha
    simp only at hq0 hout hOq hOo hle hne hql hf hR
    obtain ⟨⟨hn, hfr⟩, q, rfl⟩ : ∃ h t, q = h :: t := by cases q with | nil => exact absurd rfl hq0 | cons h t => exact ⟨h, t, rfl⟩
    obtain ⟨bq, cap, pre, spare, rfl, rfl, hbq0, hbq, hlq, hsq, hnc, hcm⟩ : ∃ b cap pre spare, oq = some b ∧ xq = .sl b pre.length ((hn, hfr) :: q).length cap ∧ σ1 b = none ∧ τ b = some (.cells (pre ++ (((hn, hfr) :: q).flatMap fun e => [I64 e.1, I64 e.2]) ++ spare)) ∧ (((hn, hfr) :: q).flatMap fun e => [I64 e.1, I64 e.2]).length = ((hn, hfr) :: q).length * 2 ∧ (cap - ((hn, hfr) :: q).length) * 2 ≤ spare.length ∧ ((hn, hfr) :: q).length ≤ cap ∧ cap ≤ maxLen := by
      rcases hOq with ⟨_, h, _⟩ | h
      · cases h
      · exact h
    have hd2 : ∀ zs : List V, List.take 2 (List.drop (pre.length + Int.toNat 0 * 2) (pre ++ (I64 hn :: I64 hfr :: zs) ++ spare)) = [I64 hn, I64 hfr] := fun zs => by
      rw [show pre.length + Int.toNat 0 * 2 = pre.length by simp, List.append_assoc, List.drop_left]; rfl
    have hl2 : ∀ zs : List V, (pre.length + Int.toNat 0 * 2 + 2 ≤ (pre ++ (I64 hn :: I64 hfr :: zs) ++ spare).length) = True := fun zs => by simp
    have hp2 : ((0 : Int) < ((q.length + 1 : Nat) : Int)) = True := by simp
    rw [List.flatMap_cons, List.cons_append, List.cons_append, List.nil_append] at hbq hlq hOq
    (repeat (first | refine vc_seq ?_ | refine vc_block ?_ | refine then_normal ?_ | refine vc_ret ?_ | refine vc_skip ?_ | refine vc_exit ?_ | refine then_ret ?_ | refine then_exit ?_ | refine inBlock_normal ?_ | refine inBlock_ret ?_ | refine inBlock_exit ?_ | refine vc_goto ?_ | refine then_goto ?_ | refine inBlock_goto ?_ | refine jump_goto ?_ | refine jump_normal ?_ | refine jump_ret ?_ | refine inBlock_exit' (by decide) ?_ | ((first | refine vc_region fun K KP hK hKP => ?_ | refine guardC_ret0 ?_ | refine guardC_yes0 ?_ | refine guardC_no ?_ | refine guardD_no ?_ | refine effV_true ?_ | refine guardD_ret0 ?_); simp only [go_sem, loadL_a, lenV, indexAddrV, loadV, storeV, sliceV, convertV, V.flag, V.strip, hbq, hd2, hl2, hp2, Int.le_refl]; try (refine hK _ _ ?_; clear hK hKP K KP)) | (refine exV_intro _ rfl ?_; (try simp only [go_sem, loadL_a, lenV, indexAddrV, loadV, storeV, sliceV, convertV, V.flag, V.strip, hbq, hd2, hl2, hp2, Int.le_refl]); try (refine hK _ _ ?_; clear hK hKP K KP))))
    intro b9 hb9
    have ho1 : Int.toNat 1 = 1 := rfl
    have hcap : ((q.length + 1 : Nat) : Int) ≤ (cap : Int) := by have := hnc; simp only [List.length_cons] at this; omega
    have hp3 : ((1 : Int) ≤ ((q.length + 1 : Nat) : Int)) = True := by simp; omega
    have hp4 : ((0 : Int) ≤ 1) = True := by simp
    have hOq9 : Own 2 σ1 (τ.set b9 (.cells [I64 hn, I64 hfr])) (V.sl bq (if cap = 1 then pre.length else pre.length + 1 * 2) q.length (cap - 1)) (q.flatMap fun e => [I64 e.fst, I64 e.snd]) q.length (some bq) :=
      (hOq.keep (fun b l _ h => Store.keep hb9 h _)).tail (c := [I64 hn, I64 hfr]) rfl (by simp)
    have hOo9 : Own 1 σ1 (τ.set b9 (.cells [I64 hn, I64 hfr])) xo (out.map I64) out.length oo := hOo.keep (fun b l _ h => Store.keep hb9 h _)
    have hle9 : σ1.le (τ.set b9 (.cells [I64 hn, I64 hfr])) := Store.le_set hb9 hle
    have h93 := hle9 _ _ h3
    have h99 : (τ.set b9 (.cells [I64 hn, I64 hfr])) b9 = some (.cells [I64 hn, I64 hfr]) := Store.set_same _ _ _
    have hb9q : b9 ≠ bq := fun e => by rw [e, hbq] at hb9; cases hb9
    have hb9o : oo ≠ some b9 := fun e => by
      subst e
      rcases hOo with ⟨_, _, _, h⟩ | ⟨b, _, _, _, h, _, _, h4, _⟩
      · cases h
      · cases h; rw [hb9] at h4; cases h4
    have hb90 : σ1 b9 = none := Store.none_of_le hle hb9
    generalize τ.set b9 (.cells [I64 hn, I64 hfr]) = τ9 at *
    have hne' := hne
    ((try simp only [go_sem, loadL_a, lenV, indexAddrV, loadV, storeV, sliceV, convertV, V.flag, V.strip]); refine hK _ _ ?_; clear hK hKP K KP; repeat (first | refine vc_seq ?_ | refine vc_block ?_ | refine then_normal ?_ | refine vc_ret ?_ | refine vc_skip ?_ | refine vc_exit ?_ | refine then_ret ?_ | refine then_exit ?_ | refine inBlock_normal ?_ | refine inBlock_ret ?_ | refine inBlock_exit ?_ | refine vc_goto ?_ | refine then_goto ?_ | refine inBlock_goto ?_ | refine jump_goto ?_ | refine jump_normal ?_ | refine jump_ret ?_ | refine inBlock_exit' (by decide) ?_ | ((first | refine vc_region fun K KP hK hKP => ?_ | refine guardC_ret0 ?_ | refine guardC_yes0 ?_ | refine guardC_no ?_ | refine guardD_no ?_ | refine effV_true ?_ | refine guardD_ret0 ?_); simp only [go_sem, loadL_a, lenV, indexAddrV, loadV, storeV, sliceV, convertV, V.flag, V.strip]; try (refine hK _ _ ?_; clear hK hKP K KP)) | (refine exV_intro _ rfl ?_; (try simp only [go_sem, loadL_a, lenV, indexAddrV, loadV, storeV, sliceV, convertV, V.flag, V.strip]); try (refine hK _ _ ?_; clear hK hKP K KP))))
    simp only [Int.toNat_natCast, ho1, Nat.add_sub_cancel]
    generalize V.sl bq (if cap = 1 then pre.length else pre.length + 1 * 2) q.length (cap - 1) = xq at *
    ((try simp only [go_sem, lenV, indexAddrV, loadV, storeV, sliceV, convertV, V.flag, V.strip, hcap, hp3, hp4, Int.le_refl, treeLoad t ht, h93, h99]); (try (refine hK _ _ ?_; clear hK hKP K KP)); repeat (first | refine vc_seq ?_ | refine vc_block ?_ | refine then_normal ?_ | refine vc_ret ?_ | refine vc_skip ?_ | refine vc_exit ?_ | refine then_ret ?_ | refine then_exit ?_ | refine inBlock_normal ?_ | refine inBlock_ret ?_ | refine inBlock_exit ?_ | refine vc_goto ?_ | refine then_goto ?_ | refine inBlock_goto ?_ | refine jump_goto ?_ | refine jump_normal ?_ | refine jump_ret ?_ | refine inBlock_exit' (by decide) ?_ | ((first | refine vc_region fun K KP hK hKP => ?_ | refine guardC_ret0 ?_ | refine guardC_yes0 ?_ | refine guardC_no ?_ | refine guardD_no ?_ | refine effV_true ?_ | refine guardD_ret0 ?_); simp only [go_sem, lenV, indexAddrV, loadV, storeV, sliceV, convertV, V.flag, V.strip, hcap, hp3, hp4, Int.le_refl, treeLoad t ht, h93, h99]; try (refine hK _ _ ?_; clear hK hKP K KP)) | (refine exV_intro _ rfl ?_; (try simp only [go_sem, lenV, indexAddrV, loadV, storeV, sliceV, convertV, V.flag, V.strip, hcap, hp3, hp4, Int.le_refl, treeLoad t ht, h93, h99]); try (refine hK _ _ ?_; clear hK hKP K KP))))
    ((try simp only [go_sem, loadL_a, lenV, indexAddrV, loadV, storeV, sliceV, convertV, V.flag, V.strip]); refine callV_pure (toward_pure t ht hn hfr cart hcart) ?_)
    ((try simp only [go_sem, loadL_a, lenV, indexAddrV, loadV, storeV, sliceV, convertV, V.flag, V.strip, List.length_map]); (try (refine hK _ _ ?_; clear hK hKP K KP)); repeat (first | refine vc_seq ?_ | refine vc_block ?_ | refine then_normal ?_ | refine vc_ret ?_ | refine vc_skip ?_ | refine vc_exit ?_ | refine then_ret ?_ | refine then_exit ?_ | refine inBlock_normal ?_ | refine inBlock_ret ?_ | refine inBlock_exit ?_ | refine vc_goto ?_ | refine then_goto ?_ | refine inBlock_goto ?_ | refine jump_goto ?_ | refine jump_normal ?_ | refine jump_ret ?_ | refine inBlock_exit' (by decide) ?_ | ((first | refine vc_region fun K KP hK hKP => ?_ | refine guardC_ret0 ?_ | refine guardC_yes0 ?_ | refine guardC_no ?_ | refine guardD_no ?_ | refine effV_true ?_ | refine guardD_ret0 ?_); simp only [go_sem, loadL_a, lenV, indexAddrV, loadV, storeV, sliceV, convertV, V.flag, V.strip, List.length_map]; try (refine hK _ _ ?_; clear hK hKP K KP)) | (refine exV_intro _ rfl ?_; (try simp only [go_sem, loadL_a, lenV, indexAddrV, loadV, storeV, sliceV, convertV, V.flag, V.strip, List.length_map]); try (refine hK _ _ ?_; clear hK hKP K KP))))
    clear hsq hnc hcm hbq hlq hOq hOo hne hle h3 hd2 hl2 hp2 hcap hp3 hp4
    have hl12 := toward_len t hn hfr cart
    generalize hlt : t.toward hn hfr cart = l at *
    refine vc_loop (loopV (fun (a : Nat × V × V × Option Nat × Option Nat) => [t.v, I64 s, I64 cart, .ptr b3 0, .top, .top, nilS, a.2.2.1, a.2.1, .ptr b9 0, .top, .top, .top, .top, .top, .top, .top, .top, .top, .top, .top, .top, .top, .top, .top, .top, .top, .top, .top, ints l, I64 l.length, I64 a.1, .top, .top, .top, .top, .top, .top, .top, .top, .top, .top, .top, .top, .top, .top, .top, .top, .top, .top, .top, .top, .top, .top, .top, .top, .top, .top, .top, .top])
      (fun a τ => a.1 ≤ l.length ∧ Own 2 σ1 τ a.2.1 ((q ++ (l.take a.1).map (fun m => (m, hn))).flatMap fun e => [I64 e.1, I64 e.2]) (q.length + a.1) a.2.2.2.1 ∧ Own 1 σ1 τ a.2.2.1 ((out ++ l.take a.1).map I64) (out.length + a.1) a.2.2.2.2 ∧ σ1.le τ ∧ τ b9 = some (.cells [I64 hn, I64 hfr]) ∧ a.2.2.2.1 ≠ some b9 ∧ a.2.2.2.2 ≠ some b9 ∧ (∀ b, a.2.2.2.1 = some b → a.2.2.2.2 ≠ some b)) (fun a _ => l.length - a.1) (0, xq, xo, some bq, oo) (by repeat (first | exact LeEnv.nil | refine LeEnv.same ?_ | refine LeEnv.top ?_)) ⟨by omega, by simpa using hOq9, by simpa using hOo9, hle9, h99, fun e => hb9q (by cases e; rfl), hb9o, hne'⟩ ?_)
    have hql' : q.length ≤ out.length := by simpa using hql
    rintro ⟨i, xq, xo, oq, oo⟩ τ ⟨hi, hOq, hOo, hle, h99, hqb, hob, hne⟩
    simp only at hi hOq hOo hqb hob hne
    (repeat (first | refine vc_seq ?_ | refine vc_block ?_ | refine then_normal ?_ | refine vc_ret ?_ | refine vc_skip ?_ | refine vc_exit ?_ | refine then_ret ?_ | refine then_exit ?_ | refine inBlock_normal ?_ | refine inBlock_ret ?_ | refine inBlock_exit ?_ | refine vc_goto ?_ | refine then_goto ?_ | refine inBlock_goto ?_ | refine jump_goto ?_ | refine jump_normal ?_ | refine jump_ret ?_ | refine inBlock_exit' (by decide) ?_ | ((first | refine vc_region fun K KP hK hKP => ?_ | refine guardC_ret0 ?_ | refine guardC_yes0 ?_ | refine guardC_no ?_ | refine guardD_no ?_ | refine effV_true ?_ | refine guardD_ret0 ?_); simp only [go_sem, loadL_a, lenV, indexAddrV, loadV, storeV, sliceV, convertV, V.flag, V.strip]; try (refine hK _ _ ?_; clear hK hKP K KP)) | (refine exV_intro _ rfl ?_; (try simp only [go_sem, loadL_a, lenV, indexAddrV, loadV, storeV, sliceV, convertV, V.flag, V.strip]); try (refine hK _ _ ?_; clear hK hKP K KP))))
    refine vc_cond rfl (fun hc => ?_) (fun hc => ?_)
    · have hlt' : i < l.length := by simpa using hc
      have g1 : (0 : Int) ≤ i := by omega
      have g2 : (i : Int) < l.length := by omega
      have hw : IntKind.i64.wrap ((i : Int) + 1) = ((i + 1 : Nat) : Int) := by rw [i64_in (by omega) (by omega)]; omega
      have hx : (l.map I64).getD i .top = I64 l[i] := getD_map I64 _ i hlt'
      (repeat (first | refine vc_seq ?_ | refine vc_block ?_ | refine then_normal ?_ | refine vc_ret ?_ | refine vc_skip ?_ | refine vc_exit ?_ | refine then_ret ?_ | refine then_exit ?_ | refine inBlock_normal ?_ | refine inBlock_ret ?_ | refine inBlock_exit ?_ | refine vc_goto ?_ | refine then_goto ?_ | refine inBlock_goto ?_ | refine jump_goto ?_ | refine jump_normal ?_ | refine jump_ret ?_ | refine inBlock_exit' (by decide) ?_ | ((first | refine vc_region fun K KP hK hKP => ?_ | refine guardC_ret0 ?_ | refine guardC_yes0 ?_ | refine guardC_no ?_ | refine guardD_no ?_ | refine effV_true ?_ | refine guardD_ret0 ?_); simp only [go_sem, loadL_a, lenV, indexAddrV, loadV, storeV, sliceV, convertV, V.flag, V.strip, g1, g2, hx, List.length_map, Int.toNat_natCast]; try (refine hK _ _ ?_; clear hK hKP K KP)) | (refine exV_intro _ rfl ?_; (try simp only [go_sem, loadL_a, lenV, indexAddrV, loadV, storeV, sliceV, convertV, V.flag, V.strip, g1, g2, hx, List.length_map, Int.toNat_natCast]); try (refine hK _ _ ?_; clear hK hKP K KP))))
      intro b10 hb10
      refine own_int hOo (Store.le_set hb10 (Store.le_refl _)) (Store.le_set hb10 hle) (row_lit (Store.set_same _ _ _) rfl rfl) (m := 1) rfl (by simp [V.one]) (by omega) ?_
      intro xo' oo' σ' hOo' hk1 hk2
      have hOq' : Own 2 σ1 σ' xq ((q ++ (l.take i).map (fun m => (m, hn))).flatMap fun e => [I64 e.1, I64 e.2]) (q.length + i) oq := hOq.keep fun b k e h => hk1 b k (Store.keep hb10 h _) (fun q => hne b e q.symm)
      have h99' : σ' b9 = some (.cells [I64 hn, I64 hfr]) := hk1 _ _ (Store.keep hb10 h99 _) (fun q => hob q.symm)
      have hle' : σ1.le σ' := fun c k e => hk1 _ _ (Store.keep hb10 (hle _ _ e) _) (fun q => by rw [← q] at hOo; exact hOo.base_ne e)
      have hob' : oo' ≠ some b9 := fun q => by
        rcases hk2 _ q with h | h
        · exact hob h
        · rw [Store.keep hb10 h99 _] at h; cases h
      have hne' : ∀ b, oq = some b → oo' ≠ some b := fun b e q => by
        rcases hk2 _ q with h | h
        · exact hne b e h
        · rcases hOq with ⟨_, _, _, z⟩ | ⟨b', _, _, _, z, _, _, z4, _⟩
          · rw [z] at e; cases e
          · rw [z] at e; cases e; rw [Store.keep hb10 z4 _] at h; cases h
      clear hOo hOq hk1 hk2 h99 hle hob hne
      ((try simp only [go_sem, loadL_a, lenV, indexAddrV, loadV, storeV, sliceV, convertV, V.flag, V.strip, h99']); refine hK _ _ ?_; clear hK hKP K KP; repeat (first | refine vc_seq ?_ | refine vc_block ?_ | refine then_normal ?_ | refine vc_ret ?_ | refine vc_skip ?_ | refine vc_exit ?_ | refine then_ret ?_ | refine then_exit ?_ | refine inBlock_normal ?_ | refine inBlock_ret ?_ | refine inBlock_exit ?_ | refine vc_goto ?_ | refine then_goto ?_ | refine inBlock_goto ?_ | refine jump_goto ?_ | refine jump_normal ?_ | refine jump_ret ?_ | refine inBlock_exit' (by decide) ?_ | ((first | refine vc_region fun K KP hK hKP => ?_ | refine guardC_ret0 ?_ | refine guardC_yes0 ?_ | refine guardC_no ?_ | refine guardD_no ?_ | refine effV_true ?_ | refine guardD_ret0 ?_); simp only [go_sem, loadL_a, lenV, indexAddrV, loadV, storeV, sliceV, convertV, V.flag, V.strip, h99']; try (refine hK _ _ ?_; clear hK hKP K KP)) | (refine exV_intro _ rfl ?_; (try simp only [go_sem, loadL_a, lenV, indexAddrV, loadV, storeV, sliceV, convertV, V.flag, V.strip, h99']); try (refine hK _ _ ?_; clear hK hKP K KP))))
      intro b11 hb11
      refine own_hop hOq' (Store.le_set hb11 (Store.le_refl _)) (Store.le_set hb11 hle') (row_lit (Store.set_same _ _ _) rfl rfl) (m := 1) rfl (by simp [V.one]) (by omega) ?_
      intro xq' oq' σ'' hOq2 hk1 hk2
      ((try simp only [go_sem, loadL_a, lenV, indexAddrV, loadV, storeV, sliceV, convertV, V.flag, V.strip, hw]); refine hK _ _ ?_; clear hK hKP K KP; repeat (first | refine vc_seq ?_ | refine vc_block ?_ | refine then_normal ?_ | refine vc_ret ?_ | refine vc_skip ?_ | refine vc_exit ?_ | refine then_ret ?_ | refine then_exit ?_ | refine inBlock_normal ?_ | refine inBlock_ret ?_ | refine inBlock_exit ?_ | refine vc_goto ?_ | refine then_goto ?_ | refine inBlock_goto ?_ | refine jump_goto ?_ | refine jump_normal ?_ | refine jump_ret ?_ | refine inBlock_exit' (by decide) ?_ | ((first | refine vc_region fun K KP hK hKP => ?_ | refine guardC_ret0 ?_ | refine guardC_yes0 ?_ | refine guardC_no ?_ | refine guardD_no ?_ | refine effV_true ?_ | refine guardD_ret0 ?_); simp only [go_sem, loadL_a, lenV, indexAddrV, loadV, storeV, sliceV, convertV, V.flag, V.strip, hw]; try (refine hK _ _ ?_; clear hK hKP K KP)) | (refine exV_intro _ rfl ?_; (try simp only [go_sem, loadL_a, lenV, indexAddrV, loadV, storeV, sliceV, convertV, V.flag, V.strip, hw]); try (refine hK _ _ ?_; clear hK hKP K KP))))
      refine ⟨(i + 1, xq', xo', oq', oo'), σ'', ?_, Store.le_refl _, ⟨hlt', ?_, ?_, ?_, ?_, ?_, hob', ?_⟩, Nat.sub_lt_sub_left hlt' (Nat.lt_succ_self i)⟩
      · repeat (first | exact LeEnv.nil | refine LeEnv.same ?_ | refine LeEnv.top ?_)
      · show Own 2 σ1 σ'' xq' _ _ _
        rw [List.take_succ_eq_append_getElem hlt', List.map_append, ← List.append_assoc, List.flatMap_append]
        simp only [List.map_cons, List.map_nil, List.flatMap_cons, List.flatMap_nil, List.append_nil]
        exact hOq2
      · show Own 1 σ1 σ'' xo' _ _ _
        rw [List.take_succ_eq_append_getElem hlt', ← List.append_assoc, List.map_append]
        exact hOo'.keep (σ := σ'') fun b k e h => hk1 b k (Store.keep hb11 h _) (fun q => hne' b q.symm e)
      · exact fun c k e => hk1 _ _ (Store.keep hb11 (hle' _ _ e) _) (fun q => by rw [← q] at hOq'; exact hOq'.base_ne e)
      · exact hk1 _ _ (Store.keep hb11 h99' _) (fun q => hqb q.symm)
      · intro q
        rcases hk2 _ q with h | h
        · exact hqb h
        · rw [Store.keep hb11 h99' _] at h; cases h
      · intro b e q
        rcases hk2 _ e with h | h
        · exact hne' b h q
        · rcases hOo' with ⟨_, _, _, z⟩ | ⟨b', _, _, _, z, _, _, z4, _⟩
          · have q' : oo' = some b := q
            rw [z] at q'; cases q'
          · have q' : oo' = some b := q
            rw [z] at q'; cases q'; rw [Store.keep hb11 z4 _] at h; cases h
    · have hii : i = l.length := by simp at hc hi; omega
      subst hii
      rw [List.take_length] at hOq hOo
      have hfl := hOo.flag
      have hmin : (if (144 : Int) < ((out.length + l.length : Nat) : Int) then (144 : Int) else ((out.length + l.length : Nat) : Int)) = ((min (out.length + l.length) 144 : Nat) : Int) := by split <;> omega
      obtain ⟨xr, hOr, hxr⟩ := hOo.upto Try.underlying29 in3 ce3 (m := min (out.length + l.length) 144) (by omega)
      (repeat (first | refine vc_seq ?_ | refine vc_block ?_ | refine then_normal ?_ | refine vc_ret ?_ | refine vc_skip ?_ | refine vc_exit ?_ | refine then_ret ?_ | refine then_exit ?_ | refine inBlock_normal ?_ | refine inBlock_ret ?_ | refine inBlock_exit ?_ | refine vc_goto ?_ | refine then_goto ?_ | refine inBlock_goto ?_ | refine jump_goto ?_ | refine jump_normal ?_ | refine jump_ret ?_ | refine inBlock_exit' (by decide) ?_ | ((first | refine vc_region fun K KP hK hKP => ?_ | refine guardC_ret0 ?_ | refine guardC_yes0 ?_ | refine guardC_no ?_ | refine guardD_no ?_ | refine effV_true ?_ | refine guardD_ret0 ?_); simp only [go_sem, loadL_a, indexAddrV, loadV, storeV, sliceV, convertV, flag_val, flag_cnd, strip_val, strip_cnd, hfl.1, hfl.2, hOo.lenV Try.underlying29, hOq.lenV Try.underlying56]; try (refine hK _ _ ?_; clear hK hKP K KP)) | (refine exV_intro _ rfl ?_; (try simp only [go_sem, loadL_a, indexAddrV, loadV, storeV, sliceV, convertV, flag_val, flag_cnd, strip_val, strip_cnd, hfl.1, hfl.2, hOo.lenV Try.underlying29, hOq.lenV Try.underlying56]); try (refine hK _ _ ?_; clear hK hKP K KP))))
      have hpass : t.pass (fun n fr => t.toward n fr cart) ((hn, hfr) :: q) out = (q ++ l.map (fun m => (m, hn)), out ++ l) := by unfold Tr.pass; rw [← hlt]
      have hstep : t.bfs cart (f + 1) ((hn, hfr) :: q) out = if 0 < (q ++ l.map (fun m => (m, hn))).length ∧ (out ++ l).length < 144 then t.bfs cart f (q ++ l.map (fun m => (m, hn))) (out ++ l) else out ++ l := by
        rw [Tr.bfs]; simp only [hpass]
      rw [hR] at hstep
      have hf0 : ∃ f', f = f' + 1 := ⟨f - 1, by simp only [List.length_cons] at hf; omega⟩
      obtain ⟨f, rfl⟩ := hf0
      refine vc_cond rfl (fun hc2 => ?_) (fun hc2 => ?_)
      · (repeat (first | refine vc_seq ?_ | refine vc_block ?_ | refine then_normal ?_ | refine vc_ret ?_ | refine vc_skip ?_ | refine vc_exit ?_ | refine then_ret ?_ | refine then_exit ?_ | refine inBlock_normal ?_ | refine inBlock_ret ?_ | refine inBlock_exit ?_ | refine vc_goto ?_ | refine then_goto ?_ | refine inBlock_goto ?_ | refine jump_goto ?_ | refine jump_normal ?_ | refine jump_ret ?_ | refine inBlock_exit' (by decide) ?_ | ((first | refine vc_region fun K KP hK hKP => ?_ | refine guardC_ret0 ?_ | refine guardC_yes0 ?_ | refine guardC_no ?_ | refine guardD_no ?_ | refine effV_true ?_ | refine guardD_ret0 ?_); simp only [go_sem, loadL_a, lenV, indexAddrV, loadV, storeV, sliceV, convertV, V.flag, V.strip]; try (refine hK _ _ ?_; clear hK hKP K KP)) | (refine exV_intro _ rfl ?_; (try simp only [go_sem, loadL_a, lenV, indexAddrV, loadV, storeV, sliceV, convertV, V.flag, V.strip]); try (refine hK _ _ ?_; clear hK hKP K KP))))
        have hc3 : (0 < (q ++ l.map (fun m => (m, hn))).length ∧ (out ++ l).length < 144) := by
          simp at hc2 ⊢; omega
        rw [if_pos hc3] at hstep
        have hl1 : (q ++ l.map (fun m => (m, hn))).length = q.length + l.length := by simp
        have hl2 : (out ++ l).length = out.length + l.length := by simp
        refine ⟨(q ++ l.map (fun m => (m, hn)), out ++ l, xq, xo, oq, oo), τ, ?_, Store.le_refl _, ⟨hright, ?_, hc3.2, ?_, ?_, hle, hne, ?_, f, ?_, hstep.symm⟩, ?_⟩
        · repeat (first | exact LeEnv.nil | refine LeEnv.same ?_ | refine LeEnv.top ?_)
        · intro e; have e' : q ++ l.map (fun m => (m, hn)) = [] := e; have := hc3.1; rw [e'] at this; simp at this
        · show Own 2 σ1 τ xq _ _ _; rw [hl1]; exact hOq
        · show Own 1 σ1 τ xo _ _ _; rw [hl2]; exact hOo
        · show (q ++ l.map (fun m => (m, hn))).length ≤ (out ++ l).length + 1; rw [hl1, hl2]; simp at hql; omega
        · show (q ++ l.map (fun m => (m, hn))).length + 400 ≤ f + 2 * (out ++ l).length; rw [hl1, hl2]; simp at hf; omega
        · show (q ++ l.map (fun m => (m, hn))).length + 400 - 2 * (out ++ l).length < ((hn, hfr) :: q).length + 400 - 2 * out.length; rw [hl1, hl2, List.length_cons]; omega
      · (repeat (first | refine vc_seq ?_ | refine vc_block ?_ | refine then_normal ?_ | refine vc_ret ?_ | refine vc_skip ?_ | refine vc_exit ?_ | refine then_ret ?_ | refine then_exit ?_ | refine inBlock_normal ?_ | refine inBlock_ret ?_ | refine inBlock_exit ?_ | refine vc_goto ?_ | refine then_goto ?_ | refine inBlock_goto ?_ | refine jump_goto ?_ | refine jump_normal ?_ | refine jump_ret ?_ | refine inBlock_exit' (by decide) ?_ | ((first | refine vc_region fun K KP hK hKP => ?_ | refine guardC_ret0 ?_ | refine guardC_yes0 ?_ | refine guardC_no ?_ | refine guardD_no ?_ | refine effV_true ?_ | refine guardD_ret0 ?_); simp only [go_sem, loadL_a, indexAddrV, loadV, storeV, convertV, V.flag, V.strip, hmin, hOo.lenV Try.underlying29]; try (refine hK _ _ ?_; clear hK hKP K KP)) | (refine exV_intro _ rfl ?_; (try simp only [go_sem, loadL_a, indexAddrV, loadV, storeV, convertV, V.flag, V.strip, hmin, hOo.lenV Try.underlying29]); try (refine hK _ _ ?_; clear hK hKP K KP))))
        refine hxr _ _ ?_
        ((try simp only [go_sem, loadL_a, lenV, indexAddrV, loadV, storeV, sliceV, convertV, V.flag, V.strip]); (try (refine hK _ _ ?_; clear hK hKP K KP)); repeat (first | refine vc_seq ?_ | refine vc_block ?_ | refine then_normal ?_ | refine vc_ret ?_ | refine vc_skip ?_ | refine vc_exit ?_ | refine then_ret ?_ | refine then_exit ?_ | refine inBlock_normal ?_ | refine inBlock_ret ?_ | refine inBlock_exit ?_ | refine vc_goto ?_ | refine then_goto ?_ | refine inBlock_goto ?_ | refine jump_goto ?_ | refine jump_normal ?_ | refine jump_ret ?_ | refine inBlock_exit' (by decide) ?_ | ((first | refine vc_region fun K KP hK hKP => ?_ | refine guardC_ret0 ?_ | refine guardC_yes0 ?_ | refine guardC_no ?_ | refine guardD_no ?_ | refine effV_true ?_ | refine guardD_ret0 ?_); simp only [go_sem, loadL_a, lenV, indexAddrV, loadV, storeV, sliceV, convertV, V.flag, V.strip]; try (refine hK _ _ ?_; clear hK hKP K KP)) | (refine exV_intro _ rfl ?_; (try simp only [go_sem, loadL_a, lenV, indexAddrV, loadV, storeV, sliceV, convertV, V.flag, V.strip]); try (refine hK _ _ ?_; clear hK hKP K KP))))
        (simp only [postV, resV, oneOf, List.getD_cons_succ, List.getD_cons_zero, and_true, true_and])
        have hc3 : ¬(0 < (q ++ l.map (fun m => (m, hn))).length ∧ (out ++ l).length < 144) := by
          simp at hc2 ⊢; omega
        rw [if_neg hc3] at hstep
        have hres : t.reach s cart = (out ++ l).take 144 := by unfold Tr.reach; rw [if_pos hright, hstep]
        rw [hres]
        refine Ends.mk (Weakens.trans (Own.weakens hOr (Store.le_refl _) hle (by simp; omega) ?_ (by intro x hx; obtain ⟨a, _, rfl⟩ := List.mem_map.1 hx; rfl)) (Weakens.le hle3))
        rw [Nat.mul_one, ← List.map_take, show min (out.length + l.length) 144 = min 144 (out ++ l).length by simp; omega, ← List.take_eq_take_min]
        exact (flat_ints _).symm
  · (repeat (first | refine vc_seq ?_ | refine vc_block ?_ | refine then_normal ?_ | refine vc_ret ?_ | refine vc_skip ?_ | refine vc_exit ?_ | refine then_ret ?_ | refine then_exit ?_ | refine inBlock_normal ?_ | refine inBlock_ret ?_ | refine inBlock_exit ?_ | refine vc_goto ?_ | refine then_goto ?_ | refine inBlock_goto ?_ | refine jump_goto ?_ | refine jump_normal ?_ | refine jump_ret ?_ | refine inBlock_exit' (by decide) ?_ | ((first | refine vc_region fun K KP hK hKP => ?_ | refine guardC_ret0 ?_ | refine guardC_yes0 ?_ | refine guardC_no ?_ | refine guardD_no ?_ | refine effV_true ?_ | refine guardD_ret0 ?_); simp only [go_sem, lenV, indexAddrV, loadV, storeV, sliceV, convertV, V.flag, V.strip, treeLoad t ht, h3]; try (refine hK _ _ ?_; clear hK hKP K KP)) | (refine exV_intro _ rfl ?_; (try simp only [go_sem, lenV, indexAddrV, loadV, storeV, sliceV, convertV, V.flag, V.strip, treeLoad t ht, h3]); try (refine hK _ _ ?_; clear hK hKP K KP))))
    ((try simp only [go_sem, loadL_a, lenV, indexAddrV, loadV, storeV, sliceV, convertV, V.flag, V.strip]); refine callV_pure (right_pure t ht) ?_)
    ((try simp only [go_sem, loadL_a, lenV, indexAddrV, loadV, storeV, sliceV, convertV, V.flag, V.strip]); (try (refine hK _ _ ?_; clear hK hKP K KP)); repeat (first | refine vc_seq ?_ | refine vc_block ?_ | refine then_normal ?_ | refine vc_ret ?_ | refine vc_skip ?_ | refine vc_exit ?_ | refine then_ret ?_ | refine then_exit ?_ | refine inBlock_normal ?_ | refine inBlock_ret ?_ | refine inBlock_exit ?_ | refine vc_goto ?_ | refine then_goto ?_ | refine inBlock_goto ?_ | refine jump_goto ?_ | refine jump_normal ?_ | refine jump_ret ?_ | refine inBlock_exit' (by decide) ?_ | ((first | refine vc_region fun K KP hK hKP => ?_ | refine guardC_ret0 ?_ | refine guardC_yes0 ?_ | refine guardC_no ?_ | refine guardD_no ?_ | refine effV_true ?_ | refine guardD_ret0 ?_); simp only [go_sem, loadL_a, lenV, indexAddrV, loadV, storeV, sliceV, convertV, V.flag, V.strip]; try (refine hK _ _ ?_; clear hK hKP K KP)) | (refine exV_intro _ rfl ?_; (try simp only [go_sem, loadL_a, lenV, indexAddrV, loadV, storeV, sliceV, convertV, V.flag, V.strip]); try (refine hK _ _ ?_; clear hK hKP K KP))))
    refine vc_cond rfl (fun hc => ?_) (fun hc => ?_)
    · (repeat (first | refine vc_seq ?_ | refine vc_block ?_ | refine then_normal ?_ | refine vc_ret ?_ | refine vc_skip ?_ | refine vc_exit ?_ | refine then_ret ?_ | refine then_exit ?_ | refine inBlock_normal ?_ | refine inBlock_ret ?_ | refine inBlock_exit ?_ | refine vc_goto ?_ | refine then_goto ?_ | refine inBlock_goto ?_ | refine jump_goto ?_ | refine jump_normal ?_ | refine jump_ret ?_ | refine inBlock_exit' (by decide) ?_ | ((first | refine vc_region fun K KP hK hKP => ?_ | refine guardC_ret0 ?_ | refine guardC_yes0 ?_ | refine guardC_no ?_ | refine guardD_no ?_ | refine effV_true ?_ | refine guardD_ret0 ?_); simp only [go_sem, loadL_a, lenV, indexAddrV, loadV, storeV, sliceV, convertV, V.flag, V.strip]; try (refine hK _ _ ?_; clear hK hKP K KP)) | (refine exV_intro _ rfl ?_; (try simp only [go_sem, loadL_a, lenV, indexAddrV, loadV, storeV, sliceV, convertV, V.flag, V.strip]); try (refine hK _ _ ?_; clear hK hKP K KP))))
      (simp only [postV, resV, oneOf, List.getD_cons_succ, List.getD_cons_zero, and_true, true_and])
      have : t.reach s cart = [] := by unfold Tr.reach; rw [if_neg]; intro e; rw [e] at hc; cases hc
      rw [this]
      exact Ends.mk (nil_ints hle3)
    · (repeat (first | refine vc_seq ?_ | refine vc_block ?_ | refine then_normal ?_ | refine vc_ret ?_ | refine vc_skip ?_ | refine vc_exit ?_ | refine then_ret ?_ | refine then_exit ?_ | refine inBlock_normal ?_ | refine inBlock_ret ?_ | refine inBlock_exit ?_ | refine vc_goto ?_ | refine then_goto ?_ | refine inBlock_goto ?_ | refine jump_goto ?_ | refine jump_normal ?_ | refine jump_ret ?_ | refine inBlock_exit' (by decide) ?_ | ((first | refine vc_region fun K KP hK hKP => ?_ | refine guardC_ret0 ?_ | refine guardC_yes0 ?_ | refine guardC_no ?_ | refine guardD_no ?_ | refine effV_true ?_ | refine guardD_ret0 ?_); simp only [go_sem, loadL_a, lenV, indexAddrV, loadV, storeV, sliceV, convertV, V.flag, V.strip]; try (refine hK _ _ ?_; clear hK hKP K KP)) | (refine exV_intro _ rfl ?_; (try simp only [go_sem, loadL_a, lenV, indexAddrV, loadV, storeV, sliceV, convertV, V.flag, V.strip]); try (refine hK _ _ ?_; clear hK hKP K KP))))
      refine HWp.seq (vc_ok _ _ _ _ ?_)
      (repeat (first | refine vc_seq ?_ | refine vc_block ?_ | refine then_normal ?_ | refine vc_ret ?_ | refine vc_skip ?_ | refine vc_exit ?_ | refine then_ret ?_ | refine then_exit ?_ | refine inBlock_normal ?_ | refine inBlock_ret ?_ | refine inBlock_exit ?_ | refine vc_goto ?_ | refine then_goto ?_ | refine inBlock_goto ?_ | refine jump_goto ?_ | refine jump_normal ?_ | refine jump_ret ?_ | refine inBlock_exit' (by decide) ?_ | ((first | refine vc_region fun K KP hK hKP => ?_ | refine guardC_ret0 ?_ | refine guardC_yes0 ?_ | refine guardC_no ?_ | refine guardD_no ?_ | refine effV_true ?_ | refine guardD_ret0 ?_); simp only [go_sem, loadL_a, lenV, indexAddrV, loadV, storeV, sliceV, convertV, V.flag, V.strip]; try (refine hK _ _ ?_; clear hK hKP K KP)) | (refine exV_intro _ rfl ?_; (try simp only [go_sem, loadL_a, lenV, indexAddrV, loadV, storeV, sliceV, convertV, V.flag, V.strip]); try (refine hK _ _ ?_; clear hK hKP K KP))))
      refine HWp.seq (vc_ok _ _ _ _ ?_)
      (repeat (first | refine vc_seq ?_ | refine vc_block ?_ | refine then_normal ?_ | refine vc_ret ?_ | refine vc_skip ?_ | refine vc_exit ?_ | refine then_ret ?_ | refine then_exit ?_ | refine inBlock_normal ?_ | refine inBlock_ret ?_ | refine inBlock_exit ?_ | refine vc_goto ?_ | refine then_goto ?_ | refine inBlock_goto ?_ | refine jump_goto ?_ | refine jump_normal ?_ | refine jump_ret ?_ | refine inBlock_exit' (by decide) ?_ | ((first | refine vc_region fun K KP hK hKP => ?_ | refine guardC_ret0 ?_ | refine guardC_yes0 ?_ | refine guardC_no ?_ | refine guardD_no ?_ | refine effV_true ?_ | refine guardD_ret0 ?_); simp only [go_sem, loadL_a, lenV, indexAddrV, loadV, storeV, sliceV, convertV, V.flag, V.strip]; try (refine hK _ _ ?_; clear hK hKP K KP)) | (refine exV_intro _ rfl ?_; (try simp only [go_sem, loadL_a, lenV, indexAddrV, loadV, storeV, sliceV, convertV, V.flag, V.strip]); try (refine hK _ _ ?_; clear hK hKP K KP))))
      intro b8 hb8
      ((try simp only [go_sem, loadL_a, lenV, indexAddrV, loadV, storeV, sliceV, convertV, V.flag, V.strip]); refine hK _ _ ?_; clear hK hKP K KP; repeat (first | refine vc_seq ?_ | refine vc_block ?_ | refine then_normal ?_ | refine vc_ret ?_ | refine vc_skip ?_ | refine vc_exit ?_ | refine then_ret ?_ | refine then_exit ?_ | refine inBlock_normal ?_ | refine inBlock_ret ?_ | refine inBlock_exit ?_ | refine vc_goto ?_ | refine then_goto ?_ | refine inBlock_goto ?_ | refine jump_goto ?_ | refine jump_normal ?_ | refine jump_ret ?_ | refine inBlock_exit' (by decide) ?_ | ((first | refine vc_region fun K KP hK hKP => ?_ | refine guardC_ret0 ?_ | refine guardC_yes0 ?_ | refine guardC_no ?_ | refine guardD_no ?_ | refine effV_true ?_ | refine guardD_ret0 ?_); simp only [go_sem, loadL_a, lenV, indexAddrV, loadV, storeV, sliceV, convertV, V.flag, V.strip]; try (refine hK _ _ ?_; clear hK hKP K KP)) | (refine exV_intro _ rfl ?_; (try simp only [go_sem, loadL_a, lenV, indexAddrV, loadV, storeV, sliceV, convertV, V.flag, V.strip]); try (refine hK _ _ ?_; clear hK hKP K KP))))
      refine HWp.seq (vc_ok _ _ _ _ (vc_label (then_normal ?_)))
      refine hpass ([(s, 0)], [], .sl b8 0 1 1, nilS, some b8, none) (σ1.set b8 (.cells [I64 s, I64 0])) _ _ ⟨by simpa using hc, by simp, by simp, .inr ⟨b8, 1, [], [], rfl, rfl, hb8, Store.set_same _ _ _, by simp, by simp, Nat.le_refl _, by decide⟩, .inl ⟨rfl, rfl, rfl, rfl⟩, Store.le_set hb8 (Store.le_refl _), (fun b h q => (by cases q)), Nat.le_refl _, 999, (by show 1 + 400 ≤ 999 + 2 * 0; decide), rfl⟩ ?_ (Store.le_refl _)
      repeat (first | exact LeEnv.nil | refine LeEnv.same ?_ | refine LeEnv.top ?_)
end Go.Proofs.Ytaldikplfcoahaa
