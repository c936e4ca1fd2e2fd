/- The document's trees: which may be. -/
import Derived.Test.YtbgagffpmdlilaaR7
namespace Go.Proofs.Ytbgagffpmdlilaa
set_option linter.unusedSimpArgs false
set_option linter.unusedVariables false
open Go.Proofs
attribute [local irreducible] vc vcOps vcDraw vcK vcKP vcDK vcDB HWp HCalls postV Ex.then Ex.inBlock stepD callV appendV guardC guardD exV effV opV loadV storeV indexAddrV indexV sliceV
set_option maxRecDepth 10000
set_option maxHeartbeats 4000000

def dupE (e f : Int × Int) : Bool := (e.1 == f.1 && e.2 == f.2) || (e.1 == f.2 && e.2 == f.1)
def Tr.eokK (t : Tr) (i k : Nat) : Bool := let e := t.edges.getD i (0, 0); t.adj e.1 e.2 && !((t.edges.take k).any (dupE e))
def Tr.eok (t : Tr) (i : Nat) : Bool := t.eokK i i
def Tr.rokN (t : Tr) (i : Nat) : Bool := nums.all t.fit && (List.range i).all t.eok
def Tr.rok (t : Tr) : Bool := t.rokN t.edges.length
def Tr.tok (t : Tr) (a b : Int) : Bool := !t.there a || (!t.there b || t.table 0 a.toNat b.toNat)
def Tr.rright (t : Tr) : Bool := t.rok && (if t.all = 0 then t.edges.length == 0 else (nums.all fun a => nums.all fun b => t.tok a b) && ((t.edges.length : Int) == (t.all : Int) - 1) && decide (0 < (t.nodes 3).length))
theorem rightv_t {t : Tr} (h : t.rok = false) : t.rright = false := by unfold Tr.rright; rw [h]; rfl
theorem rokN_succ (t : Tr) (i : Nat) : t.rokN (i + 1) = (t.rokN i && t.eok i) := by
  unfold Tr.rokN; rw [List.range_succ, List.all_append, Bool.and_assoc]; simp

theorem rright_pure (t : Tr) (ht : t.Ok) : HPure Try.prog 14 [t.v] (BV t.rright) := by
  (refine HPure.of en14 fun σ => ?_); (refine HCalls.of_vc Try.func14 rfl ?_; rw [Try.ntmps14, Try.results14]; simp only [List.length_cons, List.length_nil, Nat.reduceAdd, Nat.reduceSub, List.replicate, List.cons_append, List.nil_append])
  (repeat (first | refine Stp.s ?_ | refine inBlock_exit' (by decide) ?_ | ((first | refine vc_region fun K KP hK hKP => ?_ | refine Stg.s ?_ | refine guardD_ret0 ?_ | refine exV_intro _ rfl ?_); (try simp only [go_sem, loadL_a]); try ((first | refine hK _ _ ?_ | refine hKP _ _ _ ?_ | refine hKP _ _ (fun _ => ?_)); clear hK hKP K KP))))
  intro b1 hb1
  have hle1 : σ.le (σ.set b1 (.cells (t.kinds.map I64 ++ [t.es]))) := Store.le_set hb1 (Store.le_refl σ)
  have h1 : (σ.set b1 (.cells (t.kinds.map I64 ++ [t.es]))) b1 = some (.cells (t.kinds.map I64 ++ [t.es])) := Store.set_same _ _ _
  generalize σ.set b1 _ = σ1 at *
  clear hb1
  have hel := ht.e
  have hes : (t.kinds.map I64 ++ [t.es])[12]? = some (.lst 2 (t.edges.map edgeV)) := treeEs t ht
  ((try simp only [go_sem, rtreeLoad t ht, h1]); refine hK _ _ ?_; clear hK hKP K KP; repeat (first | refine Stp.s ?_ | refine inBlock_exit' (by decide) ?_ | ((first | refine vc_region fun K KP hK hKP => ?_ | refine Stg.s ?_ | refine guardD_ret0 ?_ | refine exV_intro _ rfl ?_); (try simp only [go_sem, rtreeLoad t ht, h1]); try ((first | refine hK _ _ ?_ | refine hKP _ _ _ ?_ | refine hKP _ _ (fun _ => ?_)); clear hK hKP K KP))))
  ((try simp only [go_sem, loadL_a]); first | refine callV_pure (rleaves_pure t ht) ?_ | refine guardC_q0 (fun _ => callV_pure (rleaves_pure t ht) ⟨rfl, rfl⟩) ?_)
  obtain ⟨al, hlv, hal⟩ : ∃ al : Int, t.lvs = .tup [I64 al, BV (nums.all t.fit)] ∧ (nums.all t.fit = true → al = t.all) := by
    unfold Tr.lvs
    by_cases h : nums.all t.fit = true
    · rw [if_pos h, h]; exact ⟨_, rfl, fun _ => rfl⟩
    · rw [if_neg h, Bool.eq_false_iff.2 h]; exact ⟨_, rfl, fun q => by cases q⟩
  rw [hlv]
  have hrok0 : nums.all t.fit = t.rokN 0 := by unfold Tr.rokN; simp
  have hrt : t.rok = true → nums.all t.fit = true := fun h => by unfold Tr.rok Tr.rokN at h; simp only [Bool.and_eq_true] at h; exact h.1
  ((try simp only [go_sem, rtreeLoad t ht, h1]); (try ((first | refine hK _ _ ?_ | refine hKP _ _ _ ?_ | refine hKP _ _ (fun _ => ?_)); clear hK hKP K KP)); repeat (first | refine Stp.s ?_ | refine inBlock_exit' (by decide) ?_ | ((first | refine vc_region fun K KP hK hKP => ?_ | refine Stg.s ?_ | refine guardD_ret0 ?_ | refine exV_intro _ rfl ?_); (try simp only [go_sem, rtreeLoad t ht, h1]); try ((first | refine hK _ _ ?_ | refine hKP _ _ _ ?_ | refine hKP _ _ (fun _ => ?_)); clear hK hKP K KP))))
  refine vc_loop (loopV (fun (i : Nat) => [t.v, .ptr b1 0, BV false, I64 al, BV (t.rokN i), I64 i, .top, .top, .top, .top, .top, .top, .top, .top, .top, .top, .top, .top, .top, .top, .top, .top, .top, .top, .top, .top, .top, .top, .top, .top, .top, .top, .top, .top, .top, .top, .top, .top, .top, .top, .top, .top, .top, .top, .top, .top, .top, .top, .top, .top, .top, .top, .top, .top, .top, .top, .top, .top, .top, .top, .top, .top, .top, .top, .top, .top, .top, .top, .top, .top, .top, .top, .top, .top, .top, .top, .top, .top, .top, .top, .top, .top, .top, .top, .top, .top, .top, .top, .top, .top, .top, .top, .top, .top, .top, .top, .top, .top, .top, .top, .top, .top, .top, .top, .top, .top, .top, .top, .top, .top, .top, .top, .top, .top, .top, .top, .top, .top, .top, .top, .top, .top, .top, .top, .top, .top, .top]) (fun i τ => i ≤ t.edges.length ∧ σ1.le τ) (fun i _ => t.edges.length - i) 0 ?_ ⟨Nat.zero_le _, Store.le_refl _⟩ ?_)
  · rw [hrok0]; exact (by repeat (first | exact LeEnv.nil | refine LeEnv.same ?_ | refine LeEnv.top ?_))
  rintro i τ ⟨hi, hle⟩
  (repeat (first | refine Stp.s ?_ | refine inBlock_exit' (by decide) ?_ | ((first | refine vc_region fun K KP hK hKP => ?_ | refine Stg.s ?_ | refine guardD_ret0 ?_ | refine exV_intro _ rfl ?_); (try simp only [go_sem, hle _ _ h1, hes, List.length_map]); try ((first | refine hK _ _ ?_ | refine hKP _ _ _ ?_ | refine hKP _ _ (fun _ => ?_)); clear hK hKP K KP))))
  refine vc_cond rfl (fun hc => ?_) (fun hc => ?_)
  · have hlt : i < t.edges.length := by simpa using hc
    have g0 := le_eq (show (0 : Int) ≤ i by omega)
    have g1 := lt_eq (show (i : Int) < t.edges.length by omega)
    have hx : (t.edges.map edgeV).getD i .top = edgeV t.edges[i] := getD_map edgeV t.edges i hlt
    have hxe : t.edges.getD i (0, 0) = t.edges[i] := by simp [hlt]
    have he0 : t.eokK i 0 = t.adj t.edges[i].1 t.edges[i].2 := by unfold Tr.eokK; rw [hxe]; simp
    have hes1 : ∀ k (hk : k < t.edges.length), t.eokK i (k + 1) = (t.eokK i k && !dupE t.edges[i] t.edges[k]) := fun k hk => by
      unfold Tr.eokK; rw [hxe]
      show (t.adj t.edges[i].1 t.edges[i].2 && !(t.edges.take (k + 1)).any (dupE t.edges[i])) = (t.adj t.edges[i].1 t.edges[i].2 && !(t.edges.take k).any (dupE t.edges[i]) && _)
      rw [List.take_succ_eq_append_getElem hk, List.any_append]
      cases t.adj t.edges[i].1 t.edges[i].2 <;> cases (t.edges.take k).any (dupE t.edges[i]) <;> simp
    have hemono : ∀ k, k ≤ i → t.eokK i k = false → t.eokK i i = false := fun k hk h => by
      obtain ⟨d, rfl⟩ := Nat.exists_eq_add_of_le hk
      unfold Tr.eokK at h ⊢
      cases hb : t.adj (t.edges.getD (k + d) (0, 0)).1 (t.edges.getD (k + d) (0, 0)).2 with
      | false => simp only [hb]; rfl
      | true =>
        simp only [hb, Bool.true_and, Bool.not_eq_false'] at h ⊢
        obtain ⟨x, hx, hx2⟩ := List.any_eq_true.1 h
        exact List.any_eq_true.2 ⟨x, (List.take_sublist_take_left (by omega)).subset hx, hx2⟩
    have hsu := rokN_succ t i
    unfold Tr.eok at hsu
    generalize t.edges[i] = e at *
    generalize t.rokN i = o at *
    (repeat (first | refine Stp.s ?_ | refine inBlock_exit' (by decide) ?_ | ((first | refine vc_region fun K KP hK hKP => ?_ | refine Stg.s ?_ | refine guardD_ret0 ?_ | refine exV_intro _ rfl ?_); (try simp only [go_sem, hle _ _ h1, hes, g0, g1, hx, Int.toNat_natCast, List.length_map, redgeLoad]); try ((first | refine hK _ _ ?_ | refine hKP _ _ _ ?_ | refine hKP _ _ (fun _ => ?_)); clear hK hKP K KP))))
    intro b6 hb6
    have k6 := Store.set_same τ b6 (.cells [I64 e.1, I64 e.2])
    have hle6 : σ1.le (τ.set b6 (.cells [I64 e.1, I64 e.2])) := Store.le_set hb6 hle
    have hτ6 : τ.le (τ.set b6 (.cells [I64 e.1, I64 e.2])) := Store.le_set hb6 (Store.le_refl _)
    generalize τ.set b6 _ = τ6 at *
    ((try simp only [go_sem, k6, hle6 _ _ h1, rtreeLoad t ht]); refine hK _ _ ?_; clear hK hKP K KP; repeat (first | refine Stp.s ?_ | refine inBlock_exit' (by decide) ?_ | ((first | refine vc_region fun K KP hK hKP => ?_ | refine Stg.s ?_ | refine guardD_ret0 ?_ | refine exV_intro _ rfl ?_); (try simp only [go_sem, k6, hle6 _ _ h1, rtreeLoad t ht]); try ((first | refine hK _ _ ?_ | refine hKP _ _ _ ?_ | refine hKP _ _ (fun _ => ?_)); clear hK hKP K KP))))
    ((try simp only [go_sem, loadL_a]); first | refine guardC_q0 (fun _ => callV_pure (redged_pure t ht e.1 e.2) ⟨rfl, rfl⟩) ?_ | refine callV_pure (redged_pure t ht e.1 e.2) ?_)
    rw [← he0]
    ((try simp only [go_sem, k6, hle6 _ _ h1, rtreeLoad t ht]); (try ((first | refine hK _ _ ?_ | refine hKP _ _ _ ?_ | refine hKP _ _ (fun _ => ?_)); clear hK hKP K KP)); repeat (first | refine Stp.s ?_ | refine inBlock_exit' (by decide) ?_ | ((first | refine vc_region fun K KP hK hKP => ?_ | refine Stg.s ?_ | refine guardD_ret0 ?_ | refine exV_intro _ rfl ?_); (try simp only [go_sem, k6, hle6 _ _ h1, rtreeLoad t ht]); try ((first | refine hK _ _ ?_ | refine hKP _ _ _ ?_ | refine hKP _ _ (fun _ => ?_)); clear hK hKP K KP))))
    refine vc_loop (loopV (fun (k : Nat) => [t.v, .ptr b1 0, BV false, I64 al, BV (o && t.eokK i k), I64 i, .ptr b6 0, I64 k, .top, .top, .top, .top, .top, .top, .top, .top, .top, .top, .top, .top, .top, .top, .top, .top, .top, .top, .top, .top, .top, .top, .top, .top, .top, .top, .top, .top, .top, .top, .top, .top, .top, .top, .top, .top, .top, .top, .top, .top, .top, .top, .top, .top, .top, .top, .top, .top, .top, .top, .top, .top, .top, .top, .top, .top, .top, .top, .top, .top, .top, .top, .top, .top, .top, .top, .top, .top, .top, .top, .top, .top, .top, .top, .top, .top, .top, .top, .top, .top, .top, .top, .top, .top, .top, .top, .top, .top, .top, .top, .top, .top, .top, .top, .top, .top, .top, .top, .top, .top, .top, .top, .top, .top, .top, .top, .top, .top, .top, .top, .top, .top, .top, .top, .top, .top, .top, .top, .top]) (fun k υ => k ≤ i ∧ τ6.le υ) (fun k _ => i - k) 0 (by repeat (first | exact LeEnv.nil | refine LeEnv.same ?_ | refine LeEnv.top ?_)) ⟨Nat.zero_le _, Store.le_refl _⟩ ?_)
    rintro k υ ⟨hk, hleu⟩
    (repeat (first | refine Stp.s ?_ | refine inBlock_exit' (by decide) ?_ | ((first | refine vc_region fun K KP hK hKP => ?_ | refine Stg.s ?_ | refine guardD_ret0 ?_ | refine exV_intro _ rfl ?_); (try simp only [go_sem, loadL_a]); try ((first | refine hK _ _ ?_ | refine hKP _ _ _ ?_ | refine hKP _ _ (fun _ => ?_)); clear hK hKP K KP))))
    refine vc_cond rfl (fun hc => ?_) (fun hc => ?_)
    · have hki : k < i := by simp at hc; omega
      have hok : (o && t.eokK i k) = true := by simp only [Bool.and_eq_true] at hc ⊢; exact hc.2
      have hkl : k < t.edges.length := by omega
      have g2 := le_eq (show (0 : Int) ≤ k by omega)
      have g3 := lt_eq (show (k : Int) < t.edges.length by omega)
      have hx2 : (t.edges.map edgeV).getD k .top = edgeV t.edges[k] := getD_map edgeV t.edges k hkl
      have hes2 := hes1 k hkl
      generalize t.edges[k] = f at *
      (repeat (first | refine Stp.s ?_ | refine inBlock_exit' (by decide) ?_ | ((first | refine vc_region fun K KP hK hKP => ?_ | refine Stg.s ?_ | refine guardD_ret0 ?_ | refine exV_intro _ rfl ?_); (try simp only [go_sem, hleu _ _ (hle6 _ _ h1), hes, g2, g3, hx2, Int.toNat_natCast, List.length_map, redgeLoad]); try ((first | refine hK _ _ ?_ | refine hKP _ _ _ ?_ | refine hKP _ _ (fun _ => ?_)); clear hK hKP K KP))))
      intro b8 hb8
      have k8 := Store.set_same υ b8 (.cells [I64 f.1, I64 f.2])
      have hle8 : υ.le (υ.set b8 (.cells [I64 f.1, I64 f.2])) := Store.le_set hb8 (Store.le_refl _)
      generalize υ.set b8 _ = υ8 at *
      ((try simp only [go_sem, loadL_a, k8, hle8 _ _ (hleu _ _ k6)]); refine hK _ _ ?_; clear hK hKP K KP; repeat (first | refine Stp.s ?_ | refine inBlock_exit' (by decide) ?_ | ((first | refine vc_region fun K KP hK hKP => ?_ | refine Stg.s ?_ | refine guardD_ret0 ?_ | refine exV_intro _ rfl ?_); (try simp only [go_sem, loadL_a, k8, hle8 _ _ (hleu _ _ k6)]); try ((first | refine hK _ _ ?_ | refine hKP _ _ _ ?_ | refine hKP _ _ (fun _ => ?_)); clear hK hKP K KP))))
      refine guardC_q0 (x := BV (e.1 == f.2 && e.2 == f.1)) (fun hc => ⟨fun h => by rw [hc, h]; rfl, rfl, rfl⟩) ?_
      ((try simp only [go_sem, loadL_a, k8, i64_nsucc (show k < 1000000 by omega)]); (try ((first | refine hK _ _ ?_ | refine hKP _ _ _ ?_ | refine hKP _ _ (fun _ => ?_)); clear hK hKP K KP)); repeat (first | refine Stp.s ?_ | refine inBlock_exit' (by decide) ?_ | ((first | refine vc_region fun K KP hK hKP => ?_ | refine Stg.s ?_ | refine guardD_ret0 ?_ | refine exV_intro _ rfl ?_); (try simp only [go_sem, loadL_a, k8, i64_nsucc (show k < 1000000 by omega)]); try ((first | refine hK _ _ ?_ | refine hKP _ _ _ ?_ | refine hKP _ _ (fun _ => ?_)); clear hK hKP K KP))))
      have hv : (!(e.1 == f.1 && e.2 == f.2 || e.1 == f.2 && e.2 == f.1)) = (o && t.eokK i (k + 1)) := by
        rw [hes2, ← Bool.and_assoc, hok]; rfl
      rw [hv]
      exact ⟨k + 1, υ8, (by repeat (first | exact LeEnv.nil | refine LeEnv.same ?_ | refine LeEnv.top ?_)), Store.le_refl _, ⟨hki, Store.le_trans hleu hle8⟩, by omega⟩
    · have hv : (o && t.eokK i k) = t.rokN (i + 1) := by
        rw [hsu]
        cases ho : o with
        | false => rfl
        | true =>
          cases hv : t.eokK i k with
          | false => rw [hemono k hk hv]
          | true =>
            have : k = i := by rw [ho, hv] at hc; simp at hc; omega
            subst this; rw [hv]
      rw [hv]
      (repeat (first | refine Stp.s ?_ | refine inBlock_exit' (by decide) ?_ | ((first | refine vc_region fun K KP hK hKP => ?_ | refine Stg.s ?_ | refine guardD_ret0 ?_ | refine exV_intro _ rfl ?_); (try simp only [go_sem, loadL_a, i64_nsucc (show i < 1000000 by omega)]); try ((first | refine hK _ _ ?_ | refine hKP _ _ _ ?_ | refine hKP _ _ (fun _ => ?_)); clear hK hKP K KP))))
      exact ⟨i + 1, υ, (by repeat (first | exact LeEnv.nil | refine LeEnv.same ?_ | refine LeEnv.top ?_)), Store.le_refl _, ⟨hlt, Store.le_trans hle (Store.le_trans hτ6 hleu)⟩, by omega⟩
  · have hii : i = t.edges.length := by simp at hc; omega
    subst hii
    have hrk : t.rokN t.edges.length = t.rok := rfl
    rw [hrk]
    generalize hrr : t.rok = o at *
    have h1' := hle _ _ h1
    have hleτ := Store.le_trans hle1 hle
    (repeat (first | refine Stp.s ?_ | refine inBlock_exit' (by decide) ?_ | ((first | refine vc_region fun K KP hK hKP => ?_ | refine Stg.s ?_ | refine guardD_ret0 ?_ | refine exV_intro _ rfl ?_); (try simp only [go_sem, h1', hes, List.length_map]); try ((first | refine hK _ _ ?_ | refine hKP _ _ _ ?_ | refine hKP _ _ (fun _ => ?_)); clear hK hKP K KP))))
    refine vc_cond rfl (fun hc => ?_) (fun hc => ?_)
    · (repeat (first | refine Stp.s ?_ | refine inBlock_exit' (by decide) ?_ | ((first | refine vc_region fun K KP hK hKP => ?_ | refine Stg.s ?_ | refine guardD_ret0 ?_ | refine exV_intro _ rfl ?_); (try simp only [go_sem, h1', hes, List.length_map]); try ((first | refine hK _ _ ?_ | refine hKP _ _ _ ?_ | refine hKP _ _ (fun _ => ?_)); clear hK hKP K KP))))
      (simp only [postV, resV, oneOf, List.getD_cons_succ, List.getD_cons_zero, and_true, true_and])
      refine Ends.le (congrArg BV ?_) hleτ
      unfold Tr.rright
      rw [hrr]
      cases o with
      | false => rfl
      | true =>
        have ha : t.all = 0 := by
          have := hal (hrt rfl)
          rw [this] at hc; simp at hc; omega
        rw [if_pos ha]
        simp only [Bool.true_and]
        exact beq_int _ 0
    · have ho : o = true := by cases o with | true => rfl | false => simp at hc
      subst ho
      have hal2 := hal (hrt rfl)
      subst hal2
      have hne : ¬t.all = 0 := by simp at hc; omega
      (repeat (first | refine Stp.s ?_ | refine inBlock_exit' (by decide) ?_ | ((first | refine vc_region fun K KP hK hKP => ?_ | refine Stg.s ?_ | refine guardD_ret0 ?_ | refine exV_intro _ rfl ?_); (try simp only [go_sem, rtreeLoad t ht, h1']); try ((first | refine hK _ _ ?_ | refine hKP _ _ _ ?_ | refine hKP _ _ (fun _ => ?_)); clear hK hKP K KP))))
      ((try simp only [go_sem, loadL_a]); first | refine callV_pure (rreach_pure t ht 0) ?_ | refine guardC_q0 (fun _ => callV_pure (rreach_pure t ht 0) ⟨rfl, rfl⟩) ?_)
      ((try simp only [go_sem, rtreeLoad t ht, h1', grid_zero, gridM_len, setL_grid]); (try ((first | refine hK _ _ ?_ | refine hKP _ _ _ ?_ | refine hKP _ _ (fun _ => ?_)); clear hK hKP K KP)); repeat (first | refine Stp.s ?_ | refine inBlock_exit' (by decide) ?_ | ((first | refine vc_region fun K KP hK hKP => ?_ | refine Stg.s ?_ | refine guardD_ret0 ?_ | refine exV_intro _ rfl ?_); (try simp only [go_sem, rtreeLoad t ht, h1', grid_zero, gridM_len, setL_grid]); try ((first | refine hK _ _ ?_ | refine hKP _ _ _ ?_ | refine hKP _ _ (fun _ => ?_)); clear hK hKP K KP))))
      intro b9 hb9
      refine ⟨gridM_one _, ?_⟩
      have h9 := Store.set_same τ b9 (.cells (gridM (t.table 0)))
      have hle9 : τ.le (τ.set b9 (.cells (gridM (t.table 0)))) := Store.le_set hb9 (Store.le_refl _)
      have hleτ9 := Store.le_trans hleτ hle9
      have h19 := hle9 _ _ h1'
      generalize τ.set b9 _ = τ9 at *
      ((try simp only [go_sem, loadL_a]); refine hK _ _ ?_; clear hK hKP K KP; repeat (first | refine Stp.s ?_ | refine inBlock_exit' (by decide) ?_ | ((first | refine vc_region fun K KP hK hKP => ?_ | refine Stg.s ?_ | refine guardD_ret0 ?_ | refine exV_intro _ rfl ?_); (try simp only [go_sem, loadL_a]); try ((first | refine hK _ _ ?_ | refine hKP _ _ _ ?_ | refine hKP _ _ (fun _ => ?_)); clear hK hKP K KP))))
      refine vc_loop (loopV (fun (a : Nat) => [t.v, .ptr b1 0, BV false, I64 t.all, BV ((nums.take a).all fun a => nums.all fun b => t.tok a b), .top, .top, .top, .top, .ptr b9 0, I64 ((a : Int) + 1), .top, .top, .top, .top, .top, .top, .top, .top, .top, .top, .top, .top, .top, .top, .top, .top, .top, .top, .top, .top, .top, .top, .top, .top, .top, .top, .top, .top, .top, .top, .top, .top, .top, .top, .top, .top, .top, .top, .top, .top, .top, .top, .top, .top, .top, .top, .top, .top, .top, .top, .top, .top, .top, .top, .top, .top, .top, .top, .top, .top, .top, .top, .top, .top, .top, .top, .top, .top, .top, .top, .top, .top, .top, .top, .top, .top, .top, .top, .top, .top, .top, .top, .top, .top, .top, .top, .top, .top, .top, .top, .top, .top, .top, .top, .top, .top, .top, .top, .top, .top, .top, .top, .top, .top, .top, .top, .top, .top, .top, .top, .top, .top, .top, .top, .top, .top]) (fun a υ => a ≤ 12 ∧ υ = τ9) (fun a _ => 12 - a) 0 (by repeat (first | exact LeEnv.nil | refine LeEnv.same ?_ | refine LeEnv.top ?_)) ⟨by omega, rfl⟩ ?_)
      rintro a υ ⟨ha, rfl⟩
      (repeat (first | refine Stp.s ?_ | refine inBlock_exit' (by decide) ?_ | ((first | refine vc_region fun K KP hK hKP => ?_ | refine Stg.s ?_ | refine guardD_ret0 ?_ | refine exV_intro _ rfl ?_); (try simp only [go_sem, loadL_a]); try ((first | refine hK _ _ ?_ | refine hKP _ _ _ ?_ | refine hKP _ _ (fun _ => ?_)); clear hK hKP K KP))))
      refine vc_cond rfl (fun hc => ?_) (fun hc => ?_)
      · have hlt : a < 12 := by simp at hc; omega
        have htk := nums_take a hlt
        have hwa : IntKind.i64.wrap ((a : Int) + 1 + 1) = ((a + 1 : Nat) : Int) + 1 := by rw [i64_in (by omega) (by omega)]; omega
        have ga0 := eq_true (show (0 : Int) ≤ (a : Int) + 1 by omega)
        have ga1 := eq_true (show (a : Int) + 1 < ((13 : Nat) : Int) by omega)
        have ea : ((a : Int) + 1).toNat = a + 1 := by omega
        have hsu : ((nums.take (a + 1)).all fun a => nums.all fun b => t.tok a b) = (((nums.take a).all fun a => nums.all fun b => t.tok a b) && (nums.take 12).all (t.tok ((a : Int) + 1))) := by
          rw [htk, List.all_append]; simp [nums]
        generalize ((nums.take a).all fun a => nums.all fun b => t.tok a b) = o at *
        (repeat (first | refine Stp.s ?_ | refine inBlock_exit' (by decide) ?_ | ((first | refine vc_region fun K KP hK hKP => ?_ | refine Stg.s ?_ | refine guardD_ret0 ?_ | refine exV_intro _ rfl ?_); (try simp only [go_sem, loadL_a]); try ((first | refine hK _ _ ?_ | refine hKP _ _ _ ?_ | refine hKP _ _ (fun _ => ?_)); clear hK hKP K KP))))
        refine vc_loop (loopV (fun (b : Nat) => [t.v, .ptr b1 0, BV false, I64 t.all, BV (o && (nums.take b).all (t.tok ((a : Int) + 1))), .top, .top, .top, .top, .ptr b9 0, I64 ((a : Int) + 1), I64 ((b : Int) + 1), .top, .top, .top, .top, .top, .top, .top, .top, .top, .top, .top, .top, .top, .top, .top, .top, .top, .top, .top, .top, .top, .top, .top, .top, .top, .top, .top, .top, .top, .top, .top, .top, .top, .top, .top, .top, .top, .top, .top, .top, .top, .top, .top, .top, .top, .top, .top, .top, .top, .top, .top, .top, .top, .top, .top, .top, .top, .top, .top, .top, .top, .top, .top, .top, .top, .top, .top, .top, .top, .top, .top, .top, .top, .top, .top, .top, .top, .top, .top, .top, .top, .top, .top, .top, .top, .top, .top, .top, .top, .top, .top, .top, .top, .top, .top, .top, .top, .top, .top, .top, .top, .top, .top, .top, .top, .top, .top, .top, .top, .top, .top, .top, .top, .top, .top]) (fun b τ => b ≤ 12 ∧ τ = υ) (fun b _ => 12 - b) 0 (by rw [List.take_zero, List.all_nil, Bool.and_true]; exact (by repeat (first | exact LeEnv.nil | refine LeEnv.same ?_ | refine LeEnv.top ?_))) ⟨by omega, rfl⟩ ?_)
        rintro b υ ⟨hb, rfl⟩
        (repeat (first | refine Stp.s ?_ | refine inBlock_exit' (by decide) ?_ | ((first | refine vc_region fun K KP hK hKP => ?_ | refine Stg.s ?_ | refine guardD_ret0 ?_ | refine exV_intro _ rfl ?_); (try simp only [go_sem, loadL_a]); try ((first | refine hK _ _ ?_ | refine hKP _ _ _ ?_ | refine hKP _ _ (fun _ => ?_)); clear hK hKP K KP))))
        refine vc_cond rfl (fun hc => ?_) (fun hc => ?_)
        · have hlb : b < 12 := by simp at hc; omega
          have htb := nums_take b hlb
          have hwb : IntKind.i64.wrap ((b : Int) + 1 + 1) = ((b + 1 : Nat) : Int) + 1 := by rw [i64_in (by omega) (by omega)]; omega
          have gb0 := eq_true (show (0 : Int) ≤ (b : Int) + 1 by omega)
          have gb1 := eq_true (show (b : Int) + 1 < ((13 : Nat) : Int) by omega)
          have eb : ((b : Int) + 1).toNat = b + 1 := by omega
          have r1 := gridM_get (t.table 0) (show a + 1 < 13 by omega) (show b + 1 < 13 by omega)
          have hsb : (o && (nums.take (b + 1)).all (t.tok ((a : Int) + 1))) = ((o && (nums.take b).all (t.tok ((a : Int) + 1))) && (!t.there ((a : Int) + 1) || (!t.there ((b : Int) + 1) || t.table 0 (a + 1) (b + 1)))) := by
            rw [htb, List.all_append, Bool.and_assoc]
            simp [Tr.tok, ea, eb]
          generalize (o && (nums.take b).all (t.tok ((a : Int) + 1))) = p at *
          (repeat (first | refine Stp.s ?_ | refine inBlock_exit' (by decide) ?_ | ((first | refine vc_region fun K KP hK hKP => ?_ | refine Stg.s ?_ | refine guardD_ret0 ?_ | refine exV_intro _ rfl ?_); (try simp only [go_sem, rtreeLoad t ht, h19]); try ((first | refine hK _ _ ?_ | refine hKP _ _ _ ?_ | refine hKP _ _ (fun _ => ?_)); clear hK hKP K KP))))
          ((try simp only [go_sem, loadL_a]); first | refine guardC_q0 (fun _ => callV_pure (rthere_pure t ht _) ⟨rfl, rfl⟩) ?_ | refine callV_pure (rthere_pure t ht _) ?_)
          ((try simp only [go_sem, rtreeLoad t ht, h19]); (try ((first | refine hK _ _ ?_ | refine hKP _ _ _ ?_ | refine hKP _ _ (fun _ => ?_)); clear hK hKP K KP)); repeat (first | refine Stp.s ?_ | refine inBlock_exit' (by decide) ?_ | ((first | refine vc_region fun K KP hK hKP => ?_ | refine Stg.s ?_ | refine guardD_ret0 ?_ | refine exV_intro _ rfl ?_); (try simp only [go_sem, rtreeLoad t ht, h19]); try ((first | refine hK _ _ ?_ | refine hKP _ _ _ ?_ | refine hKP _ _ (fun _ => ?_)); clear hK hKP K KP))))
          ((try simp only [go_sem, loadL_a]); first | refine guardC_q0 (fun _ => callV_pure (rthere_pure t ht _) ⟨rfl, rfl⟩) ?_ | refine callV_pure (rthere_pure t ht _) ?_)
          ((try simp only [go_sem, rtreeLoad t ht, h19]); (try ((first | refine hK _ _ ?_ | refine hKP _ _ _ ?_ | refine hKP _ _ (fun _ => ?_)); clear hK hKP K KP)); repeat (first | refine Stp.s ?_ | refine inBlock_exit' (by decide) ?_ | ((first | refine vc_region fun K KP hK hKP => ?_ | refine Stg.s ?_ | refine guardD_ret0 ?_ | refine exV_intro _ rfl ?_); (try simp only [go_sem, rtreeLoad t ht, h19]); try ((first | refine hK _ _ ?_ | refine hKP _ _ _ ?_ | refine hKP _ _ (fun _ => ?_)); clear hK hKP K KP))))
          refine guardC_q0 (x := BV (!t.there ((a : Int) + 1) || !t.there ((b : Int) + 1))) (fun hc => ⟨fun h => by rw [hc, h]; rfl, rfl, rfl⟩) ?_
          ((try simp only [go_sem, loadL_a, h9, gridM_len, ga0, ga1, gb0, gb1, ea, eb, r1]); (try ((first | refine hK _ _ ?_ | refine hKP _ _ _ ?_ | refine hKP _ _ (fun _ => ?_)); clear hK hKP K KP)); repeat (first | refine Stp.s ?_ | refine inBlock_exit' (by decide) ?_ | ((first | refine vc_region fun K KP hK hKP => ?_ | refine Stg.s ?_ | refine guardD_ret0 ?_ | refine exV_intro _ rfl ?_); (try simp only [go_sem, loadL_a, h9, gridM_len, ga0, ga1, gb0, gb1, ea, eb, r1]); try ((first | refine hK _ _ ?_ | refine hKP _ _ _ ?_ | refine hKP _ _ (fun _ => ?_)); clear hK hKP K KP))))
          refine guardC_q0 (x := BV (!t.there ((a : Int) + 1) || !t.there ((b : Int) + 1) || t.table 0 (a + 1) (b + 1))) (fun hc => ⟨fun h => by rw [hc, h]; rfl, rfl, rfl⟩) ?_
          ((try simp only [go_sem, loadL_a, hwb]); (try ((first | refine hK _ _ ?_ | refine hKP _ _ _ ?_ | refine hKP _ _ (fun _ => ?_)); clear hK hKP K KP)); repeat (first | refine Stp.s ?_ | refine inBlock_exit' (by decide) ?_ | ((first | refine vc_region fun K KP hK hKP => ?_ | refine Stg.s ?_ | refine guardD_ret0 ?_ | refine exV_intro _ rfl ?_); (try simp only [go_sem, loadL_a, hwb]); try ((first | refine hK _ _ ?_ | refine hKP _ _ _ ?_ | refine hKP _ _ (fun _ => ?_)); clear hK hKP K KP))))
          rw [Bool.or_assoc, ← hsb]
          exact ⟨b + 1, υ, (by repeat (first | exact LeEnv.nil | refine LeEnv.same ?_ | refine LeEnv.top ?_)), Store.le_refl _, ⟨hlb, rfl⟩, by omega⟩
        · have hb12 : b = 12 := by simp at hc; omega
          subst hb12
          rw [← hsu]
          (repeat (first | refine Stp.s ?_ | refine inBlock_exit' (by decide) ?_ | ((first | refine vc_region fun K KP hK hKP => ?_ | refine Stg.s ?_ | refine guardD_ret0 ?_ | refine exV_intro _ rfl ?_); (try simp only [go_sem, loadL_a, hwa]); try ((first | refine hK _ _ ?_ | refine hKP _ _ _ ?_ | refine hKP _ _ (fun _ => ?_)); clear hK hKP K KP))))
          exact ⟨a + 1, υ, (by repeat (first | exact LeEnv.nil | refine LeEnv.same ?_ | refine LeEnv.top ?_)), Store.le_refl _, ⟨hlt, rfl⟩, by omega⟩
      · have ha12 : a = 12 := by simp at hc; omega
        subst ha12
        have hnt : nums.take 12 = nums := rfl
        rw [hnt]
        have hal := nums_fl t.there 12
        have hal2 : t.all ≤ 12 := hal
        have hw1 : IntKind.i64.wrap ((t.all : Int) - 1) = (t.all : Int) - 1 := i64_in (by omega) (by omega)
        (repeat (first | refine Stp.s ?_ | refine inBlock_exit' (by decide) ?_ | ((first | refine vc_region fun K KP hK hKP => ?_ | refine Stg.s ?_ | refine guardD_ret0 ?_ | refine exV_intro _ rfl ?_); (try simp only [go_sem, rtreeLoad t ht, h19, hes, hw1, List.length_map]); try ((first | refine hK _ _ ?_ | refine hKP _ _ _ ?_ | refine hKP _ _ (fun _ => ?_)); clear hK hKP K KP))))
        ((try simp only [go_sem, loadL_a]); first | refine guardC_q0 (fun _ => callV_pure (rnodes_pure t ht 3) ⟨rfl, rfl⟩) ?_ | refine callV_pure (rnodes_pure t ht 3) ?_)
        ((try simp only [go_sem, rtreeLoad t ht, h19, hes, List.length_map]); (try ((first | refine hK _ _ ?_ | refine hKP _ _ _ ?_ | refine hKP _ _ (fun _ => ?_)); clear hK hKP K KP)); repeat (first | refine Stp.s ?_ | refine inBlock_exit' (by decide) ?_ | ((first | refine vc_region fun K KP hK hKP => ?_ | refine Stg.s ?_ | refine guardD_ret0 ?_ | refine exV_intro _ rfl ?_); (try simp only [go_sem, rtreeLoad t ht, h19, hes, List.length_map]); try ((first | refine hK _ _ ?_ | refine hKP _ _ _ ?_ | refine hKP _ _ (fun _ => ?_)); clear hK hKP K KP))))
        (simp only [postV, resV, oneOf, List.getD_cons_succ, List.getD_cons_zero, and_true, true_and])
        refine Ends.le (congrArg BV ?_) hleτ9
        unfold Tr.rright
        rw [hrr, if_neg hne]
        have hd : decide ((0 : Int) < ((t.nodes 3).length : Int)) = decide (0 < (t.nodes 3).length) := by
          rw [Bool.eq_iff_iff, decide_eq_true_eq, decide_eq_true_eq]; omega
        rw [hd, Bool.true_and]
end Go.Proofs.Ytbgagffpmdlilaa
