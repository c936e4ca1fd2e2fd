/- Subscriptions: as bytes. -/
import Derived.Test.YtbgagffpmdlilaaP6
namespace Go.Proofs.Ytbgagffpmdlilaa
set_option linter.unusedSimpArgs false
set_option linter.unusedVariables false
open Go.Proofs
attribute [local irreducible] vc vcOps vcDraw vcK vcKP vcDK vcDB HWp HCalls postV Ex.then Ex.inBlock stepD callV appendV guardC guardD exV effV opV loadV storeV indexAddrV indexV sliceV
set_option maxRecDepth 10000
set_option maxHeartbeats 4000000

def subB (p : Int × List Int) : List UInt8 := numB p.1.toNat ++ numB p.2.length ++ p.2.flatMap fun y => numB y.toNat
def subsB (s : Subs) (i : Nat) : List UInt8 := (List.range i).flatMap fun i => subB (s i)
def peB (n : Int) (s : Subs) : List UInt8 := numB n.toNat ++ subsB s 12
structure SOk (s : Subs) : Prop where
  st : ∀ i, 0 ≤ (s i).1 ∧ (s i).1 ≤ 3
  pe : ∀ i, Srt (s i).2
theorem subB_len {p : Int × List Int} (h : p.2.length ≤ 12) : (subB p).length ≤ 154 := by
  have a1 := numB_len p.1.toNat
  have a2 := numB_len p.2.length
  have a3 := flat_len (fun y : Int => numB y.toNat) 11 (fun y => numB_len _) p.2
  unfold subB
  simp only [List.length_append]; omega
theorem subsB_len {s : Subs} (h : ∀ i, (s i).2.length ≤ 12) (i : Nat) : (subsB s i).length ≤ 154 * i := by
  have := flat_len (fun i => subB (s i)) 154 (fun i => subB_len (h i)) (List.range i)
  rw [List.length_range] at this; exact this
theorem suT_el (s : Subs) (i : Nat) (h : i < 12) : ((suT s).drop (i * 2)).take 2 = [I64 (s i).1, ints (s i).2] := by
  refine List.ext_getElem? fun k => ?_
  match k with
  | 0 => rw [List.getElem?_take, List.getElem?_drop, if_pos (by omega), Nat.add_zero, suT_at _ _ (by omega), suV_0]; rfl
  | 1 => rw [List.getElem?_take, List.getElem?_drop, if_pos (by omega), suT_at _ _ (by omega), suV_1]; rfl
  | k + 2 => rw [List.getElem?_take, if_neg (by omega)]; rfl
theorem pPut (b : Nat) (σ : Store) (n : Int) (s : Subs) (hn : 0 < n ∧ n ≤ 12) (hs : SOk s) (w : Nat) (bs : List UInt8) (ob : Option Nat) (hw : Wr σ w bs ob) (h : Off σ w ob b (.cells (peC n s))) (hl : bs.length ≤ 1000000) :
    HCalls Try.prog 115 [.ptr b 0, .ptr w 0] σ fun r σ' => r = .ret unitV ∧ ∃ ob', Wr σ' w (bs ++ peB n s) ob' ∧ WStep σ σ' w ob ob' := by
  have hlen := fun i => (hs.pe i).len
  (refine HCalls.of_vc Try.func115 rfl ?_; rw [Try.ntmps115, Try.results115]; simp only [List.length_cons, List.length_nil, Nat.reduceAdd, Nat.reduceSub, List.replicate, List.cons_append, List.nil_append])
  (repeat (first | refine Stp.s ?_ | refine inBlock_exit' (by decide) ?_ | ((first | refine vc_region fun K KP hK hKP => ?_ | refine Stg.s ?_ | refine guardD_ret0 ?_ | refine exV_intro _ rfl ?_); (try simp only [go_sem, loadL_a]); try ((first | refine hK _ _ ?_ | refine hKP _ _ _ ?_ | refine hKP _ _ (fun _ => ?_)); clear hK hKP K KP))))
  ((try simp only [go_sem, loadL_a]); refine callV_quiet en111 (pmade b σ n s h.1) ?_)
  ((try simp only [go_sem, loadL_a]); (try ((first | refine hK _ _ ?_ | refine hKP _ _ _ ?_ | refine hKP _ _ (fun _ => ?_)); clear hK hKP K KP)); repeat (first | refine Stp.s ?_ | refine inBlock_exit' (by decide) ?_ | ((first | refine vc_region fun K KP hK hKP => ?_ | refine Stg.s ?_ | refine guardD_ret0 ?_ | refine exV_intro _ rfl ?_); (try simp only [go_sem, loadL_a]); try ((first | refine hK _ _ ?_ | refine hKP _ _ _ ?_ | refine hKP _ _ (fun _ => ?_)); clear hK hKP K KP))))
  refine vc_cond rfl (fun hc => ?_) (fun _ => ?_)
  · exfalso; simp at hc; omega
  have h0 : (peC n s)[0]? = some (I64 n) := rfl
  have hwn : IntKind.u64.wrap n = ((n.toNat : Nat) : Int) := by rw [u64_in (by omega) (by omega)]; omega
  (repeat (first | refine Stp.s ?_ | refine inBlock_exit' (by decide) ?_ | ((first | refine vc_region fun K KP hK hKP => ?_ | refine Stg.s ?_ | refine guardD_ret0 ?_ | refine exV_intro _ rfl ?_); (try simp only [go_sem, loadL_a, h.1, h0, hwn]); try ((first | refine hK _ _ ?_ | refine hKP _ _ _ ?_ | refine hKP _ _ (fun _ => ?_)); clear hK hKP K KP))))
  have hl1 := numB_len n.toNat
  refine callV_wr (num_wr _ (by omega)) hw (by omega) (fun ob1 σ1 hw1 hs1 => ?_)
  have h1 := h.step hs1
  have hld : (List.take 24 (List.drop 1 (peC n s))) = suT s := by
    unfold peC; rw [List.drop_succ_cons, List.drop_zero, List.take_of_length_le (by rw [suT_len]; exact Nat.le_refl _)]
  ((try simp only [go_sem, loadL_a, h1.1, hld, peC_len]); (try ((first | refine hK _ _ ?_ | refine hKP _ _ _ ?_ | refine hKP _ _ (fun _ => ?_)); clear hK hKP K KP)); repeat (first | refine Stp.s ?_ | refine inBlock_exit' (by decide) ?_ | ((first | refine vc_region fun K KP hK hKP => ?_ | refine Stg.s ?_ | refine guardD_ret0 ?_ | refine exV_intro _ rfl ?_); (try simp only [go_sem, loadL_a, h1.1, hld, peC_len]); try ((first | refine hK _ _ ?_ | refine hKP _ _ _ ?_ | refine hKP _ _ (fun _ => ?_)); clear hK hKP K KP))))
  refine vc_loop (loopV (fun (a : Nat × Option Nat) => [.ptr b 0, .ptr w 0, .top, .top, .top, .top, .top, .top, .top, .top, .top, .top, .top, .top, .top, .top, .top, .top, .top, .top, .top, .agg (suT s), I64 a.1, .top, .top, .top, .top, .top, .top, .top, .top, .top, .top, .top, .top, .top, .top, .top, .top, .top, .top, .top, .top, .top, .top, .top, .top, .top]) (fun a τ => a.1 ≤ 12 ∧ Wr τ w (bs ++ (numB n.toNat ++ subsB s a.1)) a.2 ∧ WStep σ τ w ob a.2 ∧ Off τ w a.2 b (.cells (peC n s))) (fun a _ => 12 - a.1) (0, ob1) (by repeat (first | exact LeEnv.nil | refine LeEnv.same ?_ | refine LeEnv.top ?_)) ⟨by omega, by simpa [subsB] using hw1, hs1, h1⟩ ?_)
  clear hw h hw1 hs1 h1
  rintro ⟨i, ob1⟩ τ ⟨hi, hw, hs1, h⟩
  simp only at hi hw hs1 h
  (repeat (first | refine Stp.s ?_ | refine inBlock_exit' (by decide) ?_ | ((first | refine vc_region fun K KP hK hKP => ?_ | refine Stg.s ?_ | refine guardD_ret0 ?_ | refine exV_intro _ rfl ?_); (try simp only [go_sem, loadL_a]); try ((first | refine hK _ _ ?_ | refine hKP _ _ _ ?_ | refine hKP _ _ (fun _ => ?_)); clear hK hKP K KP))))
  refine vc_cond rfl (fun hc => ?_) (fun hc => ?_)
  · have hlt : i < 12 := by simp at hc; omega
    have hel := suT_el s i hlt
    have g0 := eq_true (show (0 : Int) ≤ (i : Int) by omega)
    have g1 := eq_true (show (i : Int) < ((12 : Nat) : Int) by omega)
    have hsl := hlen i
    have hst := hs.st i
    have hsu : subsB s (i + 1) = subsB s i ++ subB (s i) := by unfold subsB; rw [List.range_succ, List.flatMap_append]; simp
    have hbl := subsB_len hlen i
    (repeat (first | refine Stp.s ?_ | refine inBlock_exit' (by decide) ?_ | ((first | refine vc_region fun K KP hK hKP => ?_ | refine Stg.s ?_ | refine guardD_ret0 ?_ | refine exV_intro _ rfl ?_); (try simp only [go_sem, loadL_a, indexV_arr, g0, g1, hel, suT_len, Int.toNat_natCast]); try ((first | refine hK _ _ ?_ | refine hKP _ _ _ ?_ | refine hKP _ _ (fun _ => ?_)); clear hK hKP K KP))))
    refine ⟨by omega, fun c hc => ?_⟩
    have hw5 := hw.le (Store.le_set hc (Store.le_refl τ) (k := .cells [I64 (s i).1, ints (s i).2]))
    have h5 : Off (τ.set c (.cells [I64 (s i).1, ints (s i).2])) w ob1 c (.cells [I64 (s i).1, ints (s i).2]) := Off.new hw hc
    have hb5 := h.set (l := .cells [I64 (s i).1, ints (s i).2]) hc
    have hs5 := WStep.base (Store.le_set hc (Store.le_refl τ) (k := .cells [I64 (s i).1, ints (s i).2])) (WStep.refl (w := w) (o := ob1))
    have hB : subB (s i) = numB (s i).1.toNat ++ numB (s i).2.length ++ (s i).2.flatMap fun y => numB y.toNat := rfl
    have hsrt := (hs.pe i).b
    generalize (s i).1 = u at *
    generalize (s i).2 = L at *
    generalize τ.set c _ = τ5 at *
    have hwu : IntKind.u64.wrap u = ((u.toNat : Nat) : Int) := by rw [u64_in (by omega) (by omega)]; omega
    have hwl : IntKind.u64.wrap (L.length : Int) = (L.length : Int) := u64_in (by omega) (by omega)
    have l1 := numB_len u.toNat
    have l2 := numB_len L.length
    ((try simp only [go_sem, loadL_a]); refine hK _ _ ?_; clear hK hKP K KP; repeat (first | refine Stp.s ?_ | refine inBlock_exit' (by decide) ?_ | ((first | refine vc_region fun K KP hK hKP => ?_ | refine Stg.s ?_ | refine guardD_ret0 ?_ | refine exV_intro _ rfl ?_); (try simp only [go_sem, loadL_a]); try ((first | refine hK _ _ ?_ | refine hKP _ _ _ ?_ | refine hKP _ _ (fun _ => ?_)); clear hK hKP K KP))))
    ((repeat first | refine Stp.s ?_ | refine inBlock_exit' (by decide) ?_); refine vc_draw mixed [ 4, 9 ] [0, 1, 2, 3, 5, 6, 7, 8, 4, 9 ] [ 2 ] [9] (fun υ => υ c = some (.cells [I64 u, ints L])) (by kernel_rfl) (by kernel_rfl) (by kernel_rfl) (h5.1) fun K KP hK hKP => ?_; simp only [go_sem, loadL_a, h5.1, hwu, List.length_map]; try ((first | refine hK _ _ ?_ | refine hKP _ _ _ ?_ | refine hKP _ _ (fun _ => ?_)); clear hK hKP K KP))
    ((try simp only [go_sem, loadL_a, h5.1, hwu, List.length_map]); (try ((first | refine hK _ _ ?_ | refine hKP _ _ _ ?_ | refine hKP _ _ (fun _ => ?_)); clear hK hKP K KP)); repeat (first | refine Stp.s ?_ | refine inBlock_exit' (by decide) ?_ | ((first | refine vc_region fun K KP hK hKP => ?_ | refine Stg.s ?_ | refine guardD_ret0 ?_ | refine exV_intro _ rfl ?_); (try simp only [go_sem, loadL_a, h5.1, hwu, List.length_map]); try ((first | refine hK _ _ ?_ | refine hKP _ _ _ ?_ | refine hKP _ _ (fun _ => ?_)); clear hK hKP K KP))))
    refine exV_intro (ints L) (fun υ hυ => by rw [hυ]; rfl) ?_
    ((try simp only [go_sem, loadL_a, hwl, List.length_map]); (try ((first | refine hK _ _ ?_ | refine hKP _ _ _ ?_ | refine hKP _ _ (fun _ => ?_)); clear hK hKP K KP)); repeat (first | refine Stp.s ?_ | refine inBlock_exit' (by decide) ?_ | ((first | refine vc_region fun K KP hK hKP => ?_ | refine Stg.s ?_ | refine guardD_ret0 ?_ | refine exV_intro _ rfl ?_); (try simp only [go_sem, loadL_a, hwl, List.length_map]); try ((first | refine hK _ _ ?_ | refine hKP _ _ _ ?_ | refine hKP _ _ (fun _ => ?_)); clear hK hKP K KP))))
    have hpl : (bs ++ (numB n.toNat ++ subsB s i)).length ≤ 1000000 + 11 + 154 * 12 := by rw [List.length_append, List.length_append]; omega
    refine effV_intro (callV_wr (num_wr _ (by omega)) hw5 (by omega) (fun ob3 σ3 hw8 hs8 => ⟨(h5.step hs8).1, ?_⟩))
    ((try simp only [go_sem, loadL_a]); (try ((first | refine hK _ _ ?_ | refine hKP _ _ _ ?_ | refine hKP _ _ (fun _ => ?_)); clear hK hKP K KP)); repeat (first | refine Stp.s ?_ | refine inBlock_exit' (by decide) ?_ | ((first | refine vc_region fun K KP hK hKP => ?_ | refine Stg.s ?_ | refine guardD_ret0 ?_ | refine exV_intro _ rfl ?_); (try simp only [go_sem, loadL_a]); try ((first | refine hK _ _ ?_ | refine hKP _ _ _ ?_ | refine hKP _ _ (fun _ => ?_)); clear hK hKP K KP))))
    refine callV_wr (num_wr _ (by omega)) hw8 (by rw [List.length_append]; omega) (fun ob4 σ4 hw9 hs9 => ?_)
    have h9 := (h5.step hs8).step hs9
    have hb9 := (hb5.step hs8).step hs9
    have hs9' := hs1.trans (hs5.trans (hs8.trans hs9))
    ((try simp only [go_sem, loadL_a, h9.1, List.length_map]); (try ((first | refine hK _ _ ?_ | refine hKP _ _ _ ?_ | refine hKP _ _ (fun _ => ?_)); clear hK hKP K KP)); repeat (first | refine Stp.s ?_ | refine inBlock_exit' (by decide) ?_ | ((first | refine vc_region fun K KP hK hKP => ?_ | refine Stg.s ?_ | refine guardD_ret0 ?_ | refine exV_intro _ rfl ?_); (try simp only [go_sem, loadL_a, h9.1, List.length_map]); try ((first | refine hK _ _ ?_ | refine hKP _ _ _ ?_ | refine hKP _ _ (fun _ => ?_)); clear hK hKP K KP))))
    refine vc_loop (loopV (fun (a : Nat × Option Nat) => [.ptr b 0, .ptr w 0, .top, .top, .top, .ptr c 0, .top, .top, .top, .top, .top, .top, .top, .top, .top, .top, .top, .top, .top, .top, .top, .agg (suT s), I64 i, .top, .top, .top, .top, .top, .top, .top, .top, .top, .top, .top, .top, .top, ints L, I64 L.length, I64 a.1, .top, .top, .top, .top, .top, .top, .top, .top, .top]) (fun a υ => a.1 ≤ L.length ∧ Wr υ w (bs ++ (numB n.toNat ++ subsB s i) ++ numB u.toNat ++ numB L.length ++ (L.take a.1).flatMap fun y => numB y.toNat) a.2 ∧ WStep σ υ w ob a.2 ∧ Off υ w a.2 b (.cells (peC n s))) (fun a _ => L.length - a.1) (0, ob4) (by repeat (first | exact LeEnv.nil | refine LeEnv.same ?_ | refine LeEnv.top ?_)) ⟨by omega, by simpa using hw9, hs9', hb9⟩ ?_)
    clear hw hw5 h5 hb5 hs5 hw8 hs8 hw9 hs9 h9 hb9 hs9' hs1 h
    rintro ⟨k, obk⟩ υ ⟨hk, hw, hs1, h⟩
    simp only at hk hw hs1 h
    (repeat (first | refine Stp.s ?_ | refine inBlock_exit' (by decide) ?_ | ((first | refine vc_region fun K KP hK hKP => ?_ | refine Stg.s ?_ | refine guardD_ret0 ?_ | refine exV_intro _ rfl ?_); (try simp only [go_sem, loadL_a]); try ((first | refine hK _ _ ?_ | refine hKP _ _ _ ?_ | refine hKP _ _ (fun _ => ?_)); clear hK hKP K KP))))
    refine vc_cond rfl (fun hc => ?_) (fun hc => ?_)
    · have hlk : k < L.length := by simpa using hc
      have g2 := le_eq (show (0 : Int) ≤ k by omega)
      have g3 := lt_eq (show (k : Int) < L.length by omega)
      have hxk : (L.map I64).getD k .top = I64 L[k] := getD_map I64 L k hlk
      have htk := List.take_succ_eq_append_getElem hlk
      have hyb := hsrt _ (List.getElem_mem hlk)
      have hfl := flat_len (fun y : Int => numB y.toNat) 11 (fun y => numB_len _) (L.take k)
      rw [List.length_take] at hfl
      generalize L[k] = y at *
      have hwy : IntKind.u64.wrap y = ((y.toNat : Nat) : Int) := by rw [u64_in (by omega) (by omega)]; omega
      have l3 := numB_len y.toNat
      (repeat (first | refine Stp.s ?_ | refine inBlock_exit' (by decide) ?_ | ((first | refine vc_region fun K KP hK hKP => ?_ | refine Stg.s ?_ | refine guardD_ret0 ?_ | refine exV_intro _ rfl ?_); (try simp only [go_sem, loadL_a, g2, g3, hxk, hwy, Int.toNat_natCast, List.length_map]); try ((first | refine hK _ _ ?_ | refine hKP _ _ _ ?_ | refine hKP _ _ (fun _ => ?_)); clear hK hKP K KP))))
      refine callV_wr (num_wr _ (by omega)) hw (by rw [List.length_append, List.length_append, List.length_append]; omega) (fun ob5 σ5 hw5 hs5 => ?_)
      ((try simp only [go_sem, loadL_a, i64_nsucc (show k < 1000000 by omega)]); (try ((first | refine hK _ _ ?_ | refine hKP _ _ _ ?_ | refine hKP _ _ (fun _ => ?_)); clear hK hKP K KP)); repeat (first | refine Stp.s ?_ | refine inBlock_exit' (by decide) ?_ | ((first | refine vc_region fun K KP hK hKP => ?_ | refine Stg.s ?_ | refine guardD_ret0 ?_ | refine exV_intro _ rfl ?_); (try simp only [go_sem, loadL_a, i64_nsucc (show k < 1000000 by omega)]); try ((first | refine hK _ _ ?_ | refine hKP _ _ _ ?_ | refine hKP _ _ (fun _ => ?_)); clear hK hKP K KP))))
      refine ⟨(k + 1, ob5), σ5, (by repeat (first | exact LeEnv.nil | refine LeEnv.same ?_ | refine LeEnv.top ?_)), Store.le_refl _, ⟨hlk, ?_, hs1.trans hs5, h.step hs5⟩, by show L.length - (k + 1) < L.length - k; omega⟩
      show Wr σ5 w (bs ++ (numB n.toNat ++ subsB s i) ++ numB u.toNat ++ numB L.length ++ (L.take (k + 1)).flatMap fun y => numB y.toNat) ob5
      rw [htk, List.flatMap_append, ← List.append_assoc]
      simpa using hw5
    · have hkk : k = L.length := by simp at hc; omega
      subst hkk
      rw [List.take_length] at hw
      (repeat (first | refine Stp.s ?_ | refine inBlock_exit' (by decide) ?_ | ((first | refine vc_region fun K KP hK hKP => ?_ | refine Stg.s ?_ | refine guardD_ret0 ?_ | refine exV_intro _ rfl ?_); (try simp only [go_sem, loadL_a, i64_nsucc (show i < 1000000 by omega)]); try ((first | refine hK _ _ ?_ | refine hKP _ _ _ ?_ | refine hKP _ _ (fun _ => ?_)); clear hK hKP K KP))))
      refine ⟨(i + 1, obk), υ, (by repeat (first | exact LeEnv.nil | refine LeEnv.same ?_ | refine LeEnv.top ?_)), Store.le_refl _, ⟨hlt, ?_, hs1, h⟩, by show 12 - (i + 1) < 12 - i; omega⟩
      show Wr υ w (bs ++ (numB n.toNat ++ subsB s (i + 1))) obk
      rw [hsu, hB]
      simpa [List.append_assoc] using hw
  · have hi12 : i = 12 := by simp at hc; omega
    subst hi12
    (repeat (first | refine Stp.s ?_ | refine inBlock_exit' (by decide) ?_ | ((first | refine vc_region fun K KP hK hKP => ?_ | refine Stg.s ?_ | refine guardD_ret0 ?_ | refine exV_intro _ rfl ?_); (try simp only [go_sem, loadL_a]); try ((first | refine hK _ _ ?_ | refine hKP _ _ _ ?_ | refine hKP _ _ (fun _ => ?_)); clear hK hKP K KP))))
    (simp only [postV, resV, oneOf, List.getD_cons_succ, List.getD_cons_zero, and_true, true_and])
    exact ⟨ob1, hw, hs1⟩
theorem save21 (b : Nat) (σ : Store) (n : Int) (s : Subs) (hn : 0 < n ∧ n ≤ 12) (hs : SOk s) (h : σ b = some (.cells (peC n s))) : HQuiet Try.prog 41 [.ptr b 0] σ (.val (.string ⟨(peB n s).toArray⟩)) := by
  refine HQuiet.of ?_; (refine HCalls.of_vc Try.func41 rfl ?_; rw [Try.ntmps41, Try.results41]; simp only [List.length_cons, List.length_nil, Nat.reduceAdd, Nat.reduceSub, List.replicate, List.cons_append, List.nil_append])
  (repeat (first | refine Stp.s ?_ | refine inBlock_exit' (by decide) ?_ | ((first | refine vc_region fun K KP hK hKP => ?_ | refine Stg.s ?_ | refine guardD_ret0 ?_ | refine exV_intro _ rfl ?_); (try simp only [go_sem, loadL_a]); try ((first | refine hK _ _ ?_ | refine hKP _ _ _ ?_ | refine hKP _ _ (fun _ => ?_)); clear hK hKP K KP))))
  refine callV_of en81 (new_call σ) (fun x σ' q => ?_) (fun x σ' q => ?_)
  · obtain ⟨w, e, hw0, rfl⟩ := q
    cases e
    have hwr : Wr (σ.set w (.cells [nilS])) w [] none := Wr.new
    have h1' := Store.keep hw0 h (.cells [nilS])
    have hle2 : σ.le (σ.set w (.cells [nilS])) := Store.le_set hw0 (Store.le_refl _)
    have hbw : b ≠ w := fun e => by rw [e, hw0] at h; cases h
    ((try simp only [go_sem, loadL_a]); (try ((first | refine hK _ _ ?_ | refine hKP _ _ _ ?_ | refine hKP _ _ (fun _ => ?_)); clear hK hKP K KP)); repeat (first | refine Stp.s ?_ | refine inBlock_exit' (by decide) ?_ | ((first | refine vc_region fun K KP hK hKP => ?_ | refine Stg.s ?_ | refine guardD_ret0 ?_ | refine exV_intro _ rfl ?_); (try simp only [go_sem, loadL_a]); try ((first | refine hK _ _ ?_ | refine hKP _ _ _ ?_ | refine hKP _ _ (fun _ => ?_)); clear hK hKP K KP))))
    refine callV_of en115 (pPut b _ n s hn hs w [] none hwr ⟨h1', hbw, by simp⟩ (by simp)) (fun x σ' q => ?_) (fun x σ' q => ?_)
    · obtain ⟨e, ob', hw', hs'⟩ := q
      cases e
      rw [List.nil_append] at hw'
      have hlen : (peB n s).length ≤ 1000000000 := by
        have := subsB_len (fun i => (hs.pe i).len) 12
        have l1 := numB_len n.toNat
        unfold peB; rw [List.length_append]; omega
      ((try simp only [go_sem, loadL_a]); (try ((first | refine hK _ _ ?_ | refine hKP _ _ _ ?_ | refine hKP _ _ (fun _ => ?_)); clear hK hKP K KP)); repeat (first | refine Stp.s ?_ | refine inBlock_exit' (by decide) ?_ | ((first | refine vc_region fun K KP hK hKP => ?_ | refine Stg.s ?_ | refine guardD_ret0 ?_ | refine exV_intro _ rfl ?_); (try simp only [go_sem, loadL_a]); try ((first | refine hK _ _ ?_ | refine hKP _ _ _ ?_ | refine hKP _ _ (fun _ => ?_)); clear hK hKP K KP))))
      refine callV_quiet en83 (bytes_call hw' hlen) ?_
      ((try simp only [go_sem, loadL_a]); (try ((first | refine hK _ _ ?_ | refine hKP _ _ _ ?_ | refine hKP _ _ (fun _ => ?_)); clear hK hKP K KP)); repeat (first | refine Stp.s ?_ | refine inBlock_exit' (by decide) ?_ | ((first | refine vc_region fun K KP hK hKP => ?_ | refine Stg.s ?_ | refine guardD_ret0 ?_ | refine exV_intro _ rfl ?_); (try simp only [go_sem, loadL_a]); try ((first | refine hK _ _ ?_ | refine hKP _ _ _ ?_ | refine hKP _ _ (fun _ => ?_)); clear hK hKP K KP))))
      refine ⟨peB n s, rfl, ⟨_, rfl, Try.underlying5⟩, ?_⟩
      ((try simp only [go_sem, loadL_a]); (try ((first | refine hK _ _ ?_ | refine hKP _ _ _ ?_ | refine hKP _ _ (fun _ => ?_)); clear hK hKP K KP)); repeat (first | refine Stp.s ?_ | refine inBlock_exit' (by decide) ?_ | ((first | refine vc_region fun K KP hK hKP => ?_ | refine Stg.s ?_ | refine guardD_ret0 ?_ | refine exV_intro _ rfl ?_); (try simp only [go_sem, loadL_a]); try ((first | refine hK _ _ ?_ | refine hKP _ _ _ ?_ | refine hKP _ _ (fun _ => ?_)); clear hK hKP K KP))))
      (simp only [postV, resV, oneOf, List.getD_cons_succ, List.getD_cons_zero, and_true, true_and])
      refine Ends.le rfl fun c l hc => ?_
      exact hs'.keep c l (hle2 c l hc) (fun e => by rw [e, hw0] at hc; cases hc) (by simp)
    · exact absurd q.1 (by simp)
  · obtain ⟨w, e, _⟩ := q; cases e
end Go.Proofs.Ytbgagffpmdlilaa
