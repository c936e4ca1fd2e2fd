/- An index as bytes. -/
import Derived.Test.YtociliegljoldaaGreatI6
namespace Go.Proofs.YtociliegljoldaaGreat
set_option linter.unusedSimpArgs false
set_option linter.unusedVariables false
open Go.Proofs
attribute [local irreducible] vc vcOps vcDraw vcK vcKP vcDK vcDB HWp HCalls postV Ex.then Ex.inBlock stepD callV appendV guardC guardD exV effV opV loadV storeV indexAddrV indexV sliceV
set_option maxRecDepth 10000
set_option maxHeartbeats 4000000

/-- How many numbers of a vector are told. -/
def trimN (v : List Nat) : Nat → Nat
  | 0 => 0
  | n + 1 => if v.getD n 0 = 0 then trimN v n else n + 1
theorem trimN_le (v : List Nat) : ∀ n, trimN v n ≤ n
  | 0 => Nat.le_refl _
  | n + 1 => by unfold trimN; split; exact Nat.le_succ_of_le (trimN_le v n); exact Nat.le_refl _
def vecB (v : List Nat) : List UInt8 := numB (trimN v 12) ++ (v.take (trimN v 12)).flatMap numB
theorem vecB_len (v : List Nat) (hv : v.length = 12) : (vecB v).length ≤ 143 := by
  have h1 := numB_len (trimN v 12)
  have h2 := flat_len numB 11 numB_len (v.take (trimN v 12))
  rw [List.length_take] at h2
  have := trimN_le v 12
  unfold vecB; rw [List.length_append]; omega
theorem vec_wr (v : List Nat) (hv : v.length = 12) (hb : ∀ x ∈ v, x < 4294967296) : WrC 144 [vecV v] (vecB v) := by
  refine ⟨en144, fun σ w bs ob hw hl => ?_⟩
  (refine HCalls.of_vc Tryz.func144 rfl ?_; rw [Tryz.ntmps144, Tryz.results144]; simp only [List.length_cons, List.length_nil, Nat.reduceAdd, Nat.reduceSub, List.replicate, List.cons_append, List.nil_append])
  (repeat (first | refine Stp.s ?_ | refine inBlock_exit' (by decide) ?_ | ((first | refine vc_region fun K KP hK hKP => ?_ | refine Stg.s ?_ | refine guardD_ret0 ?_ | refine exV_intro _ rfl ?_); (try simp only [go_sem, loadL_a, vecV]); try ((first | refine hK _ _ ?_ | refine hKP _ _ _ ?_ | refine hKP _ _ (fun _ => ?_)); clear hK hKP K KP))))
  intro b3 hb3
  have hle3 : σ.le (σ.set b3 (.cells (v.map U32))) := Store.le_set hb3 (Store.le_refl _)
  have h3 : Off (σ.set b3 (.cells (v.map U32))) w ob b3 (.cells (v.map U32)) := Off.new hw hb3
  have hw1 := hw.le hle3
  have hs0 := WStep.base hle3 (WStep.refl (w := w) (o := ob))
  generalize σ.set b3 _ = σ1 at *
  ((try simp only [go_sem, loadL_a]); (try ((first | refine hK _ _ ?_ | refine hKP _ _ _ ?_ | refine hKP _ _ (fun _ => ?_)); clear hK hKP K KP)); repeat (first | refine Stp.s ?_ | refine inBlock_exit' (by decide) ?_ | ((first | refine vc_region fun K KP hK hKP => ?_ | refine Stg.s ?_ | refine guardD_ret0 ?_ | refine exV_intro _ rfl ?_); (try simp only [go_sem, loadL_a]); try ((first | refine hK _ _ ?_ | refine hKP _ _ _ ?_ | refine hKP _ _ (fun _ => ?_)); clear hK hKP K KP))))
  refine vc_loop (loopV (fun (n : Nat) => [.ptr w 0, .top, .top, .ptr b3 0, .val (.pointer none), I64 n, .top, .top, .top, .top, .top, .top, .top, .top, .top, .top, .top, .top, .top, .top, .top, .top, .top, .top, .top, .top, .top, .top, .top, .top, .top, .top, .top, .top, .top, .top]) (fun n τ => n ≤ 12 ∧ trimN v n = trimN v 12 ∧ τ = σ1) (fun n _ => n) 12 (by repeat (first | exact LeEnv.nil | refine LeEnv.same ?_ | refine LeEnv.top ?_)) ⟨Nat.le_refl _, rfl, rfl⟩ ?_)
  rintro n τ ⟨hn, ht, rfl⟩
  have hend : (n = 0 ∨ v.getD (n - 1) 0 ≠ 0) → n = trimN v 12 := fun q => by
    rw [← ht]
    cases n with
    | zero => rfl
    | succ n => unfold trimN; rw [if_neg (show ¬ v.getD n 0 = 0 from q.resolve_left (by omega))]
  have rest : n = trimN v 12 → True := fun _ => trivial
  refine vc_seq ?_
  refine vc_join (fun j (stop : Bool) => [.ptr w 0, j 1, j 2, .ptr b3 0, .val (.pointer none), I64 n, j 6, j 7, j 8, j 9, j 10, j 11, j 12, j 13, j 14, j 15, BV (!stop), j 17, j 18, j 19, j 20, j 21, j 22, j 23, j 24, j 25, j 26, j 27, j 28, j 29, j 30, j 31, j 32, j 33, j 34, j 35]) (fun stop τ' => τ' = τ ∧ (stop = true → n = trimN v 12) ∧ (stop = false → ∃ k, n = k + 1 ∧ v.getD k 0 = 0)) (fun j stop τ' hinv => ?_) (fun rest hrest => ?_)
  rotate_left
  · cases n with
    | zero =>
      have hd : decide ((0 : Int) < ((0 : Nat) : Int)) = false := rfl
      (repeat (first | refine Stp.s ?_ | refine inBlock_exit' (by decide) ?_ | ((first | refine vc_region fun K KP hK hKP => ?_ | refine Stg.s ?_ | refine guardD_ret0 ?_ | refine exV_intro _ rfl ?_); (try simp only [go_sem, loadL_a, hd]); try ((first | refine hK _ _ ?_ | refine hKP _ _ _ ?_ | refine hKP _ _ (fun _ => ?_)); clear hK hKP K KP))))
      exact hrest true _ _ ⟨rfl, fun _ => hend (.inl rfl), fun h => by cases h⟩ rfl
    | succ k =>
      have hd : decide ((0 : Int) < ((k + 1 : Nat) : Int)) = true := decide_eq_true (by omega)
      have wk := i64_dn (show k ≤ 10000000 by omega)
      have g0 := eq_true (show (0 : Int) ≤ (k : Int) by omega)
      have g1 := eq_true (show (k : Int) < ((12 : Nat) : Int) by omega)
      have r1 := u32_at v hv k (by omega)
      by_cases e0 : v.getD k 0 = 0
      · have hv0 : (((v.getD k 0 : Nat) : Int) == 0) = true := by rw [e0]; rfl
        (repeat (first | refine Stp.s ?_ | refine inBlock_exit' (by decide) ?_ | ((first | refine vc_region fun K KP hK hKP => ?_ | refine Stg.s ?_ | refine guardD_ret0 ?_ | refine exV_intro _ rfl ?_); (try simp only [go_sem, loadL_a, hd, wk, g0, g1, h3.1, r1, Int.toNat_natCast, hv0]); try ((first | refine hK _ _ ?_ | refine hKP _ _ _ ?_ | refine hKP _ _ (fun _ => ?_)); clear hK hKP K KP))))
        exact hrest false _ _ ⟨rfl, (fun h => by cases h), fun _ => ⟨k, rfl, e0⟩⟩ rfl
      · have hv0 : (((v.getD k 0 : Nat) : Int) == 0) = false := by rw [beq_eq_false_iff_ne]; omega
        (repeat (first | refine Stp.s ?_ | refine inBlock_exit' (by decide) ?_ | ((first | refine vc_region fun K KP hK hKP => ?_ | refine Stg.s ?_ | refine guardD_ret0 ?_ | refine exV_intro _ rfl ?_); (try simp only [go_sem, loadL_a, hd, wk, g0, g1, h3.1, r1, Int.toNat_natCast, hv0]); try ((first | refine hK _ _ ?_ | refine hKP _ _ _ ?_ | refine hKP _ _ (fun _ => ?_)); clear hK hKP K KP))))
        exact hrest true _ _ ⟨rfl, fun _ => hend (.inr (by rw [Nat.add_sub_cancel]; exact e0)), fun h => by cases h⟩ rfl
  obtain ⟨rfl, hst, hgo⟩ := hinv
  cases stop with
  | false =>
    obtain ⟨k, rfl, e0⟩ := hgo rfl
    refine vc_cond rfl (fun _ => ?_) (fun hq => by cases hq)
    (repeat (first | refine Stp.s ?_ | refine inBlock_exit' (by decide) ?_ | ((first | refine vc_region fun K KP hK hKP => ?_ | refine Stg.s ?_ | refine guardD_ret0 ?_ | refine exV_intro _ rfl ?_); (try simp only [go_sem, loadL_a, i64_dn (show k ≤ 10000000 by omega)]); try ((first | refine hK _ _ ?_ | refine hKP _ _ _ ?_ | refine hKP _ _ (fun _ => ?_)); clear hK hKP K KP))))
    refine ⟨k, _, (by repeat (first | exact LeEnv.nil | refine LeEnv.same ?_ | refine LeEnv.top ?_)), Store.le_refl _, ⟨by omega, ?_, rfl⟩, Nat.lt_succ_self k⟩
    rw [← ht]
    conv => rhs; unfold trimN
    rw [if_pos e0]
  | true =>
    have hn12 := hst rfl
    clear hst hgo hend rest ht
    refine vc_cond rfl (fun hq => by cases hq) (fun _ => ?_)
    have wu : IntKind.u64.wrap (n : Int) = ((n : Nat) : Int) := u64_in (by omega) (by omega)
    have hvl := vecB_len v hv
    have hnl := numB_len n
    have hvB : vecB v = numB n ++ (v.take n).flatMap numB := by unfold vecB; rw [← hn12]
    (repeat (first | refine Stp.s ?_ | refine inBlock_exit' (by decide) ?_ | ((first | refine vc_region fun K KP hK hKP => ?_ | refine Stg.s ?_ | refine guardD_ret0 ?_ | refine exV_intro _ rfl ?_); (try simp only [go_sem, loadL_a, wu]); try ((first | refine hK _ _ ?_ | refine hKP _ _ _ ?_ | refine hKP _ _ (fun _ => ?_)); clear hK hKP K KP))))
    refine callV_wr (num_wr n (by omega)) hw1 (by rw [hvB, List.length_append] at hl; omega) (fun ob1 σ1 hw2 hs2 => ?_)
    have h32 := h3.step hs2
    have z0 : (0 : Int) ≤ 0 := by decide
    have z1 := eq_true (show (0 : Int) ≤ (n : Int) by omega)
    have z2 := eq_true (show (n : Int) ≤ ((12 : Nat) : Int) by omega)
    ((try simp only [go_sem, loadL_a, z1, z2, Int.toNat_natCast]); (try ((first | refine hK _ _ ?_ | refine hKP _ _ _ ?_ | refine hKP _ _ (fun _ => ?_)); clear hK hKP K KP)); repeat (first | refine Stp.s ?_ | refine inBlock_exit' (by decide) ?_ | ((first | refine vc_region fun K KP hK hKP => ?_ | refine Stg.s ?_ | refine guardD_ret0 ?_ | refine exV_intro _ rfl ?_); (try simp only [go_sem, loadL_a, z1, z2, Int.toNat_natCast]); try ((first | refine hK _ _ ?_ | refine hKP _ _ _ ?_ | refine hKP _ _ (fun _ => ?_)); clear hK hKP K KP))))
    refine ⟨by omega, by omega, by omega, ?_⟩
    rw [Nat.sub_zero]
    ((try simp only [go_sem, loadL_a]); (try ((first | refine hK _ _ ?_ | refine hKP _ _ _ ?_ | refine hKP _ _ (fun _ => ?_)); clear hK hKP K KP)); repeat (first | refine Stp.s ?_ | refine inBlock_exit' (by decide) ?_ | ((first | refine vc_region fun K KP hK hKP => ?_ | refine Stg.s ?_ | refine guardD_ret0 ?_ | refine exV_intro _ rfl ?_); (try simp only [go_sem, loadL_a]); try ((first | refine hK _ _ ?_ | refine hKP _ _ _ ?_ | refine hKP _ _ (fun _ => ?_)); clear hK hKP K KP))))
    refine vc_loop (loopV (fun (a : Nat × Option Nat) => [.ptr w 0, .top, .top, .ptr b3 0, .top, .top, .top, .top, .top, .top, .top, .top, .top, .top, .top, .top, .top, .top, .top, .top, .top, .top, .top, .top, .sl b3 0 n 12, I64 n, I64 a.1, .top, .top, .top, .top, .top, .top, .top, .top, .top]) (fun a τ => a.1 ≤ n ∧ Wr τ w (bs ++ numB n ++ (v.take a.1).flatMap numB) a.2 ∧ WStep σ τ w ob a.2 ∧ Off τ w a.2 b3 (.cells (v.map U32))) (fun a _ => n - a.1) (0, ob1) (by repeat (first | exact LeEnv.nil | refine LeEnv.same ?_ | refine LeEnv.top ?_)) ⟨Nat.zero_le _, by rw [List.take_zero, List.flatMap_nil, List.append_nil]; exact hw2, hs0.trans hs2, h32⟩ ?_)
    clear hw2 hs2 hs0 h32 hw1 hw h3
    rintro ⟨i, o⟩ τ ⟨hi, hw, hs, h3⟩
    simp only at hi hw hs h3
    (repeat (first | refine Stp.s ?_ | refine inBlock_exit' (by decide) ?_ | ((first | refine vc_region fun K KP hK hKP => ?_ | refine Stg.s ?_ | refine guardD_ret0 ?_ | refine exV_intro _ rfl ?_); (try simp only [go_sem, loadL_a]); try ((first | refine hK _ _ ?_ | refine hKP _ _ _ ?_ | refine hKP _ _ (fun _ => ?_)); clear hK hKP K KP))))
    refine vc_cond rfl (fun hq => ?_) (fun hq => ?_)
    · have hlt : i < n := by simpa using hq
      have g0 := eq_true (show (0 : Int) ≤ (i : Int) by omega)
      have g1 := eq_true (show (i : Int) < (n : Int) by omega)
      have r1 := u32_at v hv i (by omega)
      have htk := List.take_succ_eq_append_getElem (show i < v.length by omega)
      have hvi : v.getD i 0 = v[i] := by rw [List.getD_eq_getElem?_getD, List.getElem?_eq_getElem (by omega)]; rfl
      have hbi := hb _ (List.getElem_mem (show i < v.length by omega))
      rw [hvi] at r1
      generalize v[i] = y at *
      have wy : IntKind.u64.wrap (y : Int) = ((y : Nat) : Int) := u64_in (by omega) (by omega)
      have hfl := flat_len numB 11 numB_len (v.take i)
      rw [List.length_take] at hfl
      have hyl := numB_len y
      have hsp : ((v.take n).flatMap numB).length = ((v.take i).flatMap numB).length + (numB y).length + (((v.take n).drop (i + 1)).flatMap numB).length := by
        conv => lhs; rw [← List.take_append_drop (i + 1) (v.take n), List.take_take, Nat.min_eq_left hlt, htk, List.flatMap_append, List.flatMap_append]
        simp only [List.length_append, List.flatMap_cons, List.flatMap_nil, List.append_nil]
      (repeat (first | refine Stp.s ?_ | refine inBlock_exit' (by decide) ?_ | ((first | refine vc_region fun K KP hK hKP => ?_ | refine Stg.s ?_ | refine guardD_ret0 ?_ | refine exV_intro _ rfl ?_); (try simp only [go_sem, loadL_a, g0, g1, h3.1, r1, wy, Int.toNat_natCast]); try ((first | refine hK _ _ ?_ | refine hKP _ _ _ ?_ | refine hKP _ _ (fun _ => ?_)); clear hK hKP K KP))))
      refine callV_wr (num_wr y (by omega)) hw (by rw [List.length_append, List.length_append]; rw [hvB, List.length_append] at hl; omega) (fun ob5 σ5 hw5 hs5 => ?_)
      ((try simp only [go_sem, loadL_a, i64_up (show i ≤ 10000000 by omega)]); (try ((first | refine hK _ _ ?_ | refine hKP _ _ _ ?_ | refine hKP _ _ (fun _ => ?_)); clear hK hKP K KP)); repeat (first | refine Stp.s ?_ | refine inBlock_exit' (by decide) ?_ | ((first | refine vc_region fun K KP hK hKP => ?_ | refine Stg.s ?_ | refine guardD_ret0 ?_ | refine exV_intro _ rfl ?_); (try simp only [go_sem, loadL_a, i64_up (show i ≤ 10000000 by omega)]); try ((first | refine hK _ _ ?_ | refine hKP _ _ _ ?_ | refine hKP _ _ (fun _ => ?_)); clear hK hKP K KP))))
      refine ⟨(i + 1, ob5), σ5, (by repeat (first | exact LeEnv.nil | refine LeEnv.same ?_ | refine LeEnv.top ?_)), Store.le_refl _, ⟨hlt, ?_, hs.trans hs5, h3.step hs5⟩, by show n - (i + 1) < n - i; omega⟩
      show Wr σ5 w (bs ++ numB n ++ (v.take (i + 1)).flatMap numB) ob5
      rw [htk, List.flatMap_append, ← List.append_assoc]
      simpa using hw5
    · have hin : i = n := by simp at hq; omega
      subst hin
      (repeat (first | refine Stp.s ?_ | refine inBlock_exit' (by decide) ?_ | ((first | refine vc_region fun K KP hK hKP => ?_ | refine Stg.s ?_ | refine guardD_ret0 ?_ | refine exV_intro _ rfl ?_); (try simp only [go_sem, loadL_a]); try ((first | refine hK _ _ ?_ | refine hKP _ _ _ ?_ | refine hKP _ _ (fun _ => ?_)); clear hK hKP K KP))))
      (simp only [postV, resV, oneOf, List.getD_cons_succ, List.getD_cons_zero, and_true, true_and])
      refine ⟨o, ?_, hs⟩
      rw [hvB, ← List.append_assoc]; exact hw
def labB (l : Lb) : List UInt8 := numB l.time ++ natB l.node ++ numB l.n ++ natB l.cart ++ natB l.seller ++ vecB l.deps
theorem labB_len (l : Lb) (hl : l.Ok) : (labB l).length ≤ 198 := by
  have a1 := numB_len l.time
  have a2 := natB_len l.node
  have a3 := numB_len l.n
  have a4 := natB_len l.cart
  have a5 := natB_len l.seller
  have a6 := vecB_len l.deps hl.d
  unfold labB; simp only [List.length_append]; omega
theorem lab_put (l : LbI) (σ : Store) (w : Nat) (bs : List UInt8) (ob : Option Nat) (hw : Wr σ w bs ob) (hl : bs.length ≤ 1000000) :
    HCalls Tryz.prog 112 [.ptr w 0, labV l] σ fun r σ' => r = .ret unitV ∧ ∃ ob', Wr σ' w (bs ++ labB l.1) ob' ∧ WStep σ σ' w ob ob' := by
  (refine HCalls.of_vc Tryz.func112 rfl ?_; rw [Tryz.ntmps112, Tryz.results112]; simp only [List.length_cons, List.length_nil, Nat.reduceAdd, Nat.reduceSub, List.replicate, List.cons_append, List.nil_append])
  (repeat (first | refine Stp.s ?_ | refine inBlock_exit' (by decide) ?_ | ((first | refine vc_region fun K KP hK hKP => ?_ | refine Stg.s ?_ | refine guardD_ret0 ?_ | refine exV_intro _ rfl ?_); (try simp only [go_sem, loadL_a, labV, Lb.v]); try ((first | refine hK _ _ ?_ | refine hKP _ _ _ ?_ | refine hKP _ _ (fun _ => ?_)); clear hK hKP K KP))))
  intro b3 hb3
  have hle3 : σ.le (σ.set b3 (.cells l.1.cs)) := Store.le_set hb3 (Store.le_refl _)
  have h3 : Off (σ.set b3 (.cells l.1.cs)) w ob b3 (.cells l.1.cs) := Off.new hw hb3
  have hw1 := hw.le hle3
  have hs0 := WStep.base hle3 (WStep.refl (w := w) (o := ob))
  generalize σ.set b3 _ = σ1 at *
  obtain ⟨⟨t, nd, nn, ca, se, dp⟩, ⟨ok, hn⟩, hc, ht, hnd, hse, hd⟩ := l
  simp only at hn hc ht hnd hse hd ok hw1 h3
  have e1 := natN hnd
  have e2 := natN hc
  have e3 := natN hse
  have wn : IntKind.u64.wrap (nn : Int) = ((nn : Nat) : Int) := u64_in (by omega) (by omega)
  have a1 := numB_len t
  have a2 := natB_len nd
  have a3 := numB_len nn
  have a4 := natB_len ca
  have a5 := natB_len se
  have a6 := vecB_len dp ok
  have ld := lbLoadD ⟨t, nd, nn, ca, se, dp⟩ ⟨ok, hn⟩
  have q0 := lb0 ⟨t, nd, nn, ca, se, dp⟩
  have q1 := lb1 ⟨t, nd, nn, ca, se, dp⟩
  have q2 := lb2 ⟨t, nd, nn, ca, se, dp⟩
  have q3 := lb3 ⟨t, nd, nn, ca, se, dp⟩
  have q4 := lb4 ⟨t, nd, nn, ca, se, dp⟩
  simp only at q0 q1 q2 q3 q4 ld
  unfold natB at a2 a4 a5
  ((try simp only [go_sem, loadL_a]); (try ((first | refine hK _ _ ?_ | refine hKP _ _ _ ?_ | refine hKP _ _ (fun _ => ?_)); clear hK hKP K KP)); repeat (first | refine Stp.s ?_ | refine inBlock_exit' (by decide) ?_ | ((first | refine vc_region fun K KP hK hKP => ?_ | refine Stg.s ?_ | refine guardD_ret0 ?_ | refine exV_intro _ rfl ?_); (try simp only [go_sem, loadL_a]); try ((first | refine hK _ _ ?_ | refine hKP _ _ _ ?_ | refine hKP _ _ (fun _ => ?_)); clear hK hKP K KP))))
  ((repeat first | refine Stp.s ?_ | refine inBlock_exit' (by decide) ?_); refine vc_draw mixed [ 3, 8, 12, 17, 22, 25 ] [0, 4, 5, 6, 7, 9, 10, 11, 13, 14, 15, 16, 18, 19, 20, 21, 23, 24, 1, 2, 3, 8, 12, 17, 22, 25 ] [ ] [] (fun υ => υ b3 = some (.cells (Lb.cs ⟨t, nd, nn, ca, se, dp⟩))) (by kernel_rfl) (by kernel_rfl) (by kernel_rfl) (h3.1) fun K KP hK hKP => ?_; simp only [go_sem]; try ((first | refine hK _ _ ?_ | refine hKP _ _ _ ?_ | refine hKP _ _ (fun _ => ?_)); clear hK hKP K KP))
  refine exV_intro (.ptr w 0) (fun _ _ => rfl) ?_
  ((try simp only [go_sem, e1, e2, e3, wn]); (try ((first | refine hK _ _ ?_ | refine hKP _ _ _ ?_ | refine hKP _ _ (fun _ => ?_)); clear hK hKP K KP)); repeat (first | refine Stp.s ?_ | refine inBlock_exit' (by decide) ?_ | ((first | refine vc_region fun K KP hK hKP => ?_ | refine Stg.s ?_ | refine guardD_ret0 ?_ | refine exV_intro _ rfl ?_); (try simp only [go_sem, e1, e2, e3, wn]); try ((first | refine hK _ _ ?_ | refine hKP _ _ _ ?_ | refine hKP _ _ (fun _ => ?_)); clear hK hKP K KP))))
  refine exV_intro (I64 nd) (fun υ hυ => by rw [hυ]; rfl) ?_
  ((try simp only [go_sem, e1, e2, e3, wn]); (try ((first | refine hK _ _ ?_ | refine hKP _ _ _ ?_ | refine hKP _ _ (fun _ => ?_)); clear hK hKP K KP)); repeat (first | refine Stp.s ?_ | refine inBlock_exit' (by decide) ?_ | ((first | refine vc_region fun K KP hK hKP => ?_ | refine Stg.s ?_ | refine guardD_ret0 ?_ | refine exV_intro _ rfl ?_); (try simp only [go_sem, e1, e2, e3, wn]); try ((first | refine hK _ _ ?_ | refine hKP _ _ _ ?_ | refine hKP _ _ (fun _ => ?_)); clear hK hKP K KP))))
  refine exV_intro (U32 nn) (fun υ hυ => by rw [hυ]; rfl) ?_
  ((try simp only [go_sem, e1, e2, e3, wn]); (try ((first | refine hK _ _ ?_ | refine hKP _ _ _ ?_ | refine hKP _ _ (fun _ => ?_)); clear hK hKP K KP)); repeat (first | refine Stp.s ?_ | refine inBlock_exit' (by decide) ?_ | ((first | refine vc_region fun K KP hK hKP => ?_ | refine Stg.s ?_ | refine guardD_ret0 ?_ | refine exV_intro _ rfl ?_); (try simp only [go_sem, e1, e2, e3, wn]); try ((first | refine hK _ _ ?_ | refine hKP _ _ _ ?_ | refine hKP _ _ (fun _ => ?_)); clear hK hKP K KP))))
  refine exV_intro (I64 ca) (fun υ hυ => by rw [hυ]; rfl) ?_
  ((try simp only [go_sem, e1, e2, e3, wn]); (try ((first | refine hK _ _ ?_ | refine hKP _ _ _ ?_ | refine hKP _ _ (fun _ => ?_)); clear hK hKP K KP)); repeat (first | refine Stp.s ?_ | refine inBlock_exit' (by decide) ?_ | ((first | refine vc_region fun K KP hK hKP => ?_ | refine Stg.s ?_ | refine guardD_ret0 ?_ | refine exV_intro _ rfl ?_); (try simp only [go_sem, e1, e2, e3, wn]); try ((first | refine hK _ _ ?_ | refine hKP _ _ _ ?_ | refine hKP _ _ (fun _ => ?_)); clear hK hKP K KP))))
  refine exV_intro (I64 se) (fun υ hυ => by rw [hυ]; rfl) ?_
  ((try simp only [go_sem, e1, e2, e3, wn]); (try ((first | refine hK _ _ ?_ | refine hKP _ _ _ ?_ | refine hKP _ _ (fun _ => ?_)); clear hK hKP K KP)); repeat (first | refine Stp.s ?_ | refine inBlock_exit' (by decide) ?_ | ((first | refine vc_region fun K KP hK hKP => ?_ | refine Stg.s ?_ | refine guardD_ret0 ?_ | refine exV_intro _ rfl ?_); (try simp only [go_sem, e1, e2, e3, wn]); try ((first | refine hK _ _ ?_ | refine hKP _ _ _ ?_ | refine hKP _ _ (fun _ => ?_)); clear hK hKP K KP))))
  refine exV_intro (vecV dp) (fun υ hυ => by rw [hυ]; exact (ld _).mpr rfl) ?_
  ((try simp only [go_sem, e1, e2, e3, wn]); (try ((first | refine hK _ _ ?_ | refine hKP _ _ _ ?_ | refine hKP _ _ (fun _ => ?_)); clear hK hKP K KP)); repeat (first | refine Stp.s ?_ | refine inBlock_exit' (by decide) ?_ | ((first | refine vc_region fun K KP hK hKP => ?_ | refine Stg.s ?_ | refine guardD_ret0 ?_ | refine exV_intro _ rfl ?_); (try simp only [go_sem, e1, e2, e3, wn]); try ((first | refine hK _ _ ?_ | refine hKP _ _ _ ?_ | refine hKP _ _ (fun _ => ?_)); clear hK hKP K KP))))
  refine exV_intro (U64 t) (fun υ hυ => by rw [hυ]; rfl) ?_
  ((try simp only [go_sem, e1, e2, e3, wn]); (try ((first | refine hK _ _ ?_ | refine hKP _ _ _ ?_ | refine hKP _ _ (fun _ => ?_)); clear hK hKP K KP)); repeat (first | refine Stp.s ?_ | refine inBlock_exit' (by decide) ?_ | ((first | refine vc_region fun K KP hK hKP => ?_ | refine Stg.s ?_ | refine guardD_ret0 ?_ | refine exV_intro _ rfl ?_); (try simp only [go_sem, e1, e2, e3, wn]); try ((first | refine hK _ _ ?_ | refine hKP _ _ _ ?_ | refine hKP _ _ (fun _ => ?_)); clear hK hKP K KP))))
  refine effV_intro (callV_wr (num_wr t (by omega)) hw1 (by omega) (fun o1 σ2 hw2 hs2 => ?_))
  have p2 := h3.step hs2
  refine ⟨p2.1, ?_⟩
  ((try simp only [go_sem, loadL_a]); (try ((first | refine hK _ _ ?_ | refine hKP _ _ _ ?_ | refine hKP _ _ (fun _ => ?_)); clear hK hKP K KP)); repeat (first | refine Stp.s ?_ | refine inBlock_exit' (by decide) ?_ | ((first | refine vc_region fun K KP hK hKP => ?_ | refine Stg.s ?_ | refine guardD_ret0 ?_ | refine exV_intro _ rfl ?_); (try simp only [go_sem, loadL_a]); try ((first | refine hK _ _ ?_ | refine hKP _ _ _ ?_ | refine hKP _ _ (fun _ => ?_)); clear hK hKP K KP))))
  refine effV_intro (callV_wr (num_wr _ (by omega)) hw2 (by simp only [List.length_append]; omega) (fun o2 σ3 hw3 hs3 => ?_))
  have p3 := p2.step hs3
  refine ⟨p3.1, ?_⟩
  ((try simp only [go_sem, loadL_a]); (try ((first | refine hK _ _ ?_ | refine hKP _ _ _ ?_ | refine hKP _ _ (fun _ => ?_)); clear hK hKP K KP)); repeat (first | refine Stp.s ?_ | refine inBlock_exit' (by decide) ?_ | ((first | refine vc_region fun K KP hK hKP => ?_ | refine Stg.s ?_ | refine guardD_ret0 ?_ | refine exV_intro _ rfl ?_); (try simp only [go_sem, loadL_a]); try ((first | refine hK _ _ ?_ | refine hKP _ _ _ ?_ | refine hKP _ _ (fun _ => ?_)); clear hK hKP K KP))))
  refine effV_intro (callV_wr (num_wr nn (by omega)) hw3 (by simp only [List.length_append]; omega) (fun o3 σ4 hw4 hs4 => ?_))
  have p4 := p3.step hs4
  refine ⟨p4.1, ?_⟩
  ((try simp only [go_sem, loadL_a]); (try ((first | refine hK _ _ ?_ | refine hKP _ _ _ ?_ | refine hKP _ _ (fun _ => ?_)); clear hK hKP K KP)); repeat (first | refine Stp.s ?_ | refine inBlock_exit' (by decide) ?_ | ((first | refine vc_region fun K KP hK hKP => ?_ | refine Stg.s ?_ | refine guardD_ret0 ?_ | refine exV_intro _ rfl ?_); (try simp only [go_sem, loadL_a]); try ((first | refine hK _ _ ?_ | refine hKP _ _ _ ?_ | refine hKP _ _ (fun _ => ?_)); clear hK hKP K KP))))
  refine effV_intro (callV_wr (num_wr _ (by omega)) hw4 (by simp only [List.length_append]; omega) (fun o4 σ5 hw5 hs5 => ?_))
  have p5 := p4.step hs5
  refine ⟨p5.1, ?_⟩
  ((try simp only [go_sem, loadL_a]); (try ((first | refine hK _ _ ?_ | refine hKP _ _ _ ?_ | refine hKP _ _ (fun _ => ?_)); clear hK hKP K KP)); repeat (first | refine Stp.s ?_ | refine inBlock_exit' (by decide) ?_ | ((first | refine vc_region fun K KP hK hKP => ?_ | refine Stg.s ?_ | refine guardD_ret0 ?_ | refine exV_intro _ rfl ?_); (try simp only [go_sem, loadL_a]); try ((first | refine hK _ _ ?_ | refine hKP _ _ _ ?_ | refine hKP _ _ (fun _ => ?_)); clear hK hKP K KP))))
  refine effV_intro (callV_wr (num_wr _ (by omega)) hw5 (by simp only [List.length_append]; omega) (fun o5 σ6 hw6 hs6 => ?_))
  have p6 := p5.step hs6
  refine ⟨p6.1, ?_⟩
  ((try simp only [go_sem, loadL_a]); (try ((first | refine hK _ _ ?_ | refine hKP _ _ _ ?_ | refine hKP _ _ (fun _ => ?_)); clear hK hKP K KP)); repeat (first | refine Stp.s ?_ | refine inBlock_exit' (by decide) ?_ | ((first | refine vc_region fun K KP hK hKP => ?_ | refine Stg.s ?_ | refine guardD_ret0 ?_ | refine exV_intro _ rfl ?_); (try simp only [go_sem, loadL_a]); try ((first | refine hK _ _ ?_ | refine hKP _ _ _ ?_ | refine hKP _ _ (fun _ => ?_)); clear hK hKP K KP))))
  refine effV_intro (callV_wr (vec_wr dp ok hd) hw6 (by simp only [List.length_append]; omega) (fun o6 σ7 hw7 hs7 => ?_))
  have p7 := p6.step hs7
  refine ⟨p7.1, ?_⟩
  ((try simp only [go_sem, loadL_a]); (try ((first | refine hK _ _ ?_ | refine hKP _ _ _ ?_ | refine hKP _ _ (fun _ => ?_)); clear hK hKP K KP)); repeat (first | refine Stp.s ?_ | refine inBlock_exit' (by decide) ?_ | ((first | refine vc_region fun K KP hK hKP => ?_ | refine Stg.s ?_ | refine guardD_ret0 ?_ | refine exV_intro _ rfl ?_); (try simp only [go_sem, loadL_a]); try ((first | refine hK _ _ ?_ | refine hKP _ _ _ ?_ | refine hKP _ _ (fun _ => ?_)); clear hK hKP K KP))))
  (simp only [postV, resV, oneOf, List.getD_cons_succ, List.getD_cons_zero, and_true, true_and])
  refine ⟨o6, ?_, (((((hs0.trans hs2).trans hs3).trans hs4).trans hs5).trans hs6).trans hs7⟩
  unfold labB natB
  simpa only [List.append_assoc] using hw7
end Go.Proofs.YtociliegljoldaaGreat
