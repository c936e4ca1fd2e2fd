/- The document's subscriptions: their bytes. -/
import Derived.Test.YtbgagffpmdlilaaE5
import Derived.Test.YtbgagffpmdlilaaR6
namespace Go.Proofs.Ytbgagffpmdlilaa
set_option linter.unusedSimpArgs false
set_option linter.unusedVariables false
open Go.Proofs
attribute [local irreducible] vc vcOps vcDraw vcK vcKP vcDK vcDB HWp HCalls postV Ex.then Ex.inBlock stepD callV appendV guardC guardD exV effV opV loadV storeV indexAddrV indexV sliceV
set_option maxRecDepth 10000
set_option maxHeartbeats 4000000

section
variable (b : Nat) (σ : Store) (n : Int) (s : Subs) (h : σ b = some (.cells (reC n s))) (hn : 0 < n ∧ n ≤ 12) (hg : ∀ i, Good21 n (s i))
include h hn hg
theorem ePut : HQuiet Try.prog 46 [.ptr b 0] σ (.lst 1 ((peB n s).map byteV)) := by
  refine HQuiet.of ?_; (refine HCalls.of_vc Try.func46 rfl ?_; rw [Try.ntmps46, Try.results46]; simp only [List.length_cons, List.length_nil, Nat.reduceAdd, Nat.reduceSub, List.replicate, List.cons_append, List.nil_append])
  have h0 : (reC n s)[0]? = some (I64 n) := rfl
  have hwn : IntKind.u64.wrap n = ((n.toNat : Nat) : Int) := by rw [u64_in (by omega) (by omega)]; omega
  (repeat (first | refine Stp.s ?_ | refine inBlock_exit' (by decide) ?_ | ((first | refine vc_region fun K KP hK hKP => ?_ | refine Stg.s ?_ | refine guardD_ret0 ?_ | refine exV_intro _ rfl ?_); (try simp only [go_sem, loadL_a, h, h0, hwn]); try ((first | refine hK _ _ ?_ | refine hKP _ _ _ ?_ | refine hKP _ _ (fun _ => ?_)); clear hK hKP K KP))))
  refine callV_of en88 (rnum_bld n.toNat (by omega) σ) (fun y σ1 q => ?_) (fun y σ1 q => by obtain ⟨_, _, e, _⟩ := q; cases e)
  obtain ⟨y, υ, e, hle1, hB⟩ := q
  cases e
  ((try simp only [go_sem, loadL_a]); (try ((first | refine hK _ _ ?_ | refine hKP _ _ _ ?_ | refine hKP _ _ (fun _ => ?_)); clear hK hKP K KP)); repeat (first | refine Stp.s ?_ | refine inBlock_exit' (by decide) ?_ | ((first | refine vc_region fun K KP hK hKP => ?_ | refine Stg.s ?_ | refine guardD_ret0 ?_ | refine exV_intro _ rfl ?_); (try simp only [go_sem, loadL_a]); try ((first | refine hK _ _ ?_ | refine hKP _ _ _ ?_ | refine hKP _ _ (fun _ => ?_)); clear hK hKP K KP))))
  have hsl : ∀ i, (subsB s i).length ≤ 154 * i := subsB_len fun i => (hg i).pe.len
  have hnl := numB_len n.toNat
  refine vc_loop (loopV (fun (a : Nat × V) => [.ptr b 0, .top, nilS, a.2, I64 ((a.1 + 1 : Nat) : Int), .top, .top, .top, .top, .top, .top, .top, .top, .top, .top, .top, .top, .top, .top, .top, .top, .top, .top, .top, .top, .top, .top, .top, .top, .top, .top, .top, .top, .top, .top, .top, .top, .top, .top, .top, .top, .top, .top, .top, .top, .top, .top, .top, .top, .top]) (fun a τ => a.1 ≤ 12 ∧ ∃ υ, υ.le τ ∧ Bld 1 σ υ a.2 ((numB n.toNat ++ subsB s a.1).map byteV) (numB n.toNat ++ subsB s a.1).length) (fun a _ => 12 - a.1) (0, y) (by repeat (first | exact LeEnv.nil | refine LeEnv.same ?_ | refine LeEnv.top ?_)) ⟨by show 0 ≤ 12; omega, υ, hle1, by simpa [subsB] using hB⟩ ?_)
  clear hB hle1
  rintro ⟨i, z⟩ τ ⟨hi, υ2, hle2, hB⟩
  simp only at hi hB
  have h1 := hle2 _ _ (hB.base _ _ h)
  have hli := hsl i
  have hBl : (numB n.toNat ++ subsB s i).length ≤ 2000 := by rw [List.length_append]; omega
  (repeat (first | refine Stp.s ?_ | refine inBlock_exit' (by decide) ?_ | ((first | refine vc_region fun K KP hK hKP => ?_ | refine Stg.s ?_ | refine guardD_ret0 ?_ | refine exV_intro _ rfl ?_); (try simp only [go_sem, loadL_a]); try ((first | refine hK _ _ ?_ | refine hKP _ _ _ ?_ | refine hKP _ _ (fun _ => ?_)); clear hK hKP K KP))))
  refine vc_cond rfl (fun hq => ?_) (fun hq => ?_)
  · have hi12 : i < 12 := by simp at hq; omega
    have hst := reC_st n s i hi12
    have hsr := (hg i).pe
    have hs0 := (hg i).st
    have hpi : peOf s ((i + 1 : Nat) : Int) = (s i).2 := by
      unfold peOf; rw [if_pos (nodeB_iff.2 (by omega))]; rw [show (((i + 1 : Nat) : Int) - 1).toNat = i by omega]
    have g0 := eq_true (show (0 : Int) ≤ ((i + 1 : Nat) : Int) by omega)
    have g1 := eq_true (show ((i + 1 : Nat) : Int) < ((13 : Nat) : Int) by omega)
    have hw8 : IntKind.u8.wrap (s i).1 = (((s i).1.toNat : Nat) : Int) := by rw [u8_in (by omega) (by omega)]; omega
    have hwl : IntKind.u64.wrap ((s i).2.length : Int) = (((s i).2.length : Nat) : Int) := u64_in (by omega) (by have := hsr.len; omega)
    (repeat (first | refine Stp.s ?_ | refine inBlock_exit' (by decide) ?_ | ((first | refine vc_region fun K KP hK hKP => ?_ | refine Stg.s ?_ | refine guardD_ret0 ?_ | refine exV_intro _ rfl ?_); (try simp only [go_sem, loadL_a]); try ((first | refine hK _ _ ?_ | refine hKP _ _ _ ?_ | refine hKP _ _ (fun _ => ?_)); clear hK hKP K KP))))
    ((try simp only [go_sem, loadL_a]); refine callV_quiet en44 (eOf b τ n s h1 hg _) ?_)
    rw [hpi]
    obtain ⟨b2, cap, spare, rfl, hb2, hset⟩ := hB.at_ (by have : 0 < (numB n.toNat).length := (by unfold numB; simp); rw [List.length_append]; omega)
    ((try simp only [go_sem, loadL_a, h1, hst, g0, g1, hw8, hwl, Int.toNat_natCast, List.length_map]); (try ((first | refine hK _ _ ?_ | refine hKP _ _ _ ?_ | refine hKP _ _ (fun _ => ?_)); clear hK hKP K KP)); repeat (first | refine Stp.s ?_ | refine inBlock_exit' (by decide) ?_ | ((first | refine vc_region fun K KP hK hKP => ?_ | refine Stg.s ?_ | refine guardD_ret0 ?_ | refine exV_intro _ rfl ?_); (try simp only [go_sem, loadL_a, h1, hst, g0, g1, hw8, hwl, Int.toNat_natCast, List.length_map]); try ((first | refine hK _ _ ?_ | refine hKP _ _ _ ?_ | refine hKP _ _ (fun _ => ?_)); clear hK hKP K KP))))
    intro b8 hb8
    refine append_u8 hB (Store.le_set hb8 hle2) (row_lit (Store.set_same _ _ _) rfl rfl) (news := [V.val (.int .u8 (((s i).1.toNat : Nat) : Int))]) (m := 1) rfl (by simp [V.one]) (by omega) ?_
    intro y' τ' σ' hB' hle' _
    obtain ⟨b3, cap3, spare3, rfl, _, _⟩ := hB'.at_ (by omega)
    ((try simp only [go_sem, loadL_a, hwl, List.length_map]); (try ((first | refine hK _ _ ?_ | refine hKP _ _ _ ?_ | refine hKP _ _ (fun _ => ?_)); clear hK hKP K KP)); repeat (first | refine Stp.s ?_ | refine inBlock_exit' (by decide) ?_ | ((first | refine vc_region fun K KP hK hKP => ?_ | refine Stg.s ?_ | refine guardD_ret0 ?_ | refine exV_intro _ rfl ?_); (try simp only [go_sem, loadL_a, hwl, List.length_map]); try ((first | refine hK _ _ ?_ | refine hKP _ _ _ ?_ | refine hKP _ _ (fun _ => ?_)); clear hK hKP K KP))))
    ((try simp only [go_sem, loadL_a]); first | refine callV_pure (rnum_pure (s i).2.length (by have := hsr.len; omega)) ?_ | refine guardC_q0 (fun _ => callV_pure (rnum_pure (s i).2.length (by have := hsr.len; omega)) ⟨rfl, rfl⟩) ?_)
    ((try simp only [go_sem, loadL_a]); (try ((first | refine hK _ _ ?_ | refine hKP _ _ _ ?_ | refine hKP _ _ (fun _ => ?_)); clear hK hKP K KP)); repeat (first | refine Stp.s ?_ | refine inBlock_exit' (by decide) ?_ | ((first | refine vc_region fun K KP hK hKP => ?_ | refine Stg.s ?_ | refine guardD_ret0 ?_ | refine exV_intro _ rfl ?_); (try simp only [go_sem, loadL_a]); try ((first | refine hK _ _ ?_ | refine hKP _ _ _ ?_ | refine hKP _ _ (fun _ => ?_)); clear hK hKP K KP))))
    have hnl2 := numB_len (s i).2.length
    refine append_u8 hB' hle' (fun KK hk => row_lst KK (by rw [List.length_map, flat_bytes]; exact hk)) (by simp) (fun c hc => by obtain ⟨b, _, rfl⟩ := List.mem_map.1 hc; rfl) (by omega) ?_
    intro y2 τ2 σ2 hB2 hle3 _
    ((try simp only [go_sem, loadL_a]); (try ((first | refine hK _ _ ?_ | refine hKP _ _ _ ?_ | refine hKP _ _ (fun _ => ?_)); clear hK hKP K KP)); repeat (first | refine Stp.s ?_ | refine inBlock_exit' (by decide) ?_ | ((first | refine vc_region fun K KP hK hKP => ?_ | refine Stg.s ?_ | refine guardD_ret0 ?_ | refine exV_intro _ rfl ?_); (try simp only [go_sem, loadL_a]); try ((first | refine hK _ _ ?_ | refine hKP _ _ _ ?_ | refine hKP _ _ (fun _ => ?_)); clear hK hKP K KP))))
    have hb1 := byte_of (n := (s i).1.toNat) (by omega)
    have e1 : [byteV (UInt8.ofNat (s i).1.toNat)] = (numB (s i).1.toNat).map byteV := by
      have : (s i).1.toNat = 0 ∨ (s i).1.toNat = 1 ∨ (s i).1.toNat = 2 ∨ (s i).1.toNat = 3 := by omega
      rcases this with e | e | e | e <;> rw [e] <;> rfl
    rw [hb1, e1, ← List.map_append, ← List.map_append] at hB2
    generalize hL : (s i).2 = L at *
    have hnum : ∀ k, (hk : k < L.length) → numB (L[k]).toNat = [UInt8.ofNat (L[k]).toNat] := fun k hk => by
      have := hsr.b _ (List.getElem_mem hk)
      generalize L[k] = a at *
      have : a.toNat < 128 := by omega
      unfold numB
      rw [show a.toNat / 128 = 0 by omega, hiN_zero, show a.toNat % 128 = a.toNat by omega]; rfl
    have hLl := hsr.len
    generalize hC : (numB n.toNat ++ subsB s i) ++ numB (s i).1.toNat ++ numB L.length = C at *
    have hCl : C.length = (numB n.toNat ++ subsB s i).length + 1 + (numB L.length).length := by
      have := congrArg List.length e1
      simp at this
      rw [← hC, List.length_append, List.length_append, ← this]
    rw [← hCl] at hB2
    refine vc_loop (loopV (fun (a : Nat × V) => [.ptr b 0, .top, nilS, a.2, I64 ((i + 1 : Nat) : Int), ints L, I64 a.1, .top, .top, .top, .top, .top, .top, .top, .top, .top, .top, .top, .top, .top, .top, .top, .top, .top, .top, .top, .top, .top, .top, .top, .top, .top, .top, .top, .top, .top, .top, .top, .top, .top, .top, .top, .top, .top, .top, .top, .top, .top, .top, .top]) (fun a τ => a.1 ≤ L.length ∧ ∃ υ, υ.le τ ∧ Bld 1 σ υ a.2 ((C ++ (L.take a.1).flatMap fun y => numB y.toNat).map byteV) (C ++ (L.take a.1).flatMap fun y => numB y.toNat).length) (fun a _ => L.length - a.1) (0, y2) (by repeat (first | exact LeEnv.nil | refine LeEnv.same ?_ | refine LeEnv.top ?_)) ⟨by show 0 ≤ _; omega, τ2, hle3, by simpa using hB2⟩ ?_)
    clear hB hb2 hset hB' hB2 hle' hle3
    rintro ⟨k, z2⟩ τ3 ⟨hk, υ3, hle3, hB⟩
    simp only at hk hB
    have hsub : subsB s (i + 1) = subsB s i ++ subB (s i) := by unfold subsB; rw [List.range_succ, List.flatMap_append]; simp
    have hCs : (C ++ L.flatMap fun y => numB y.toNat) = numB n.toNat ++ subsB s (i + 1) := by
      rw [hsub]; unfold subB; rw [hL, ← hC]; simp only [List.append_assoc]
    have hCl2 : C.length ≤ 2100 := by have := numB_len L.length; omega
    (repeat (first | refine Stp.s ?_ | refine inBlock_exit' (by decide) ?_ | ((first | refine vc_region fun K KP hK hKP => ?_ | refine Stg.s ?_ | refine guardD_ret0 ?_ | refine exV_intro _ rfl ?_); (try simp only [go_sem, loadL_a, List.length_map]); try ((first | refine hK _ _ ?_ | refine hKP _ _ _ ?_ | refine hKP _ _ (fun _ => ?_)); clear hK hKP K KP))))
    refine vc_cond rfl (fun hq2 => ?_) (fun hq2 => ?_)
    · have hlk : k < L.length := by simpa using hq2
      have g2 := le_eq (show (0 : Int) ≤ k by omega)
      have g3 := lt_eq (show (k : Int) < L.length by omega)
      have hxk : (L.map I64).getD k .top = I64 L[k] := getD_map I64 L k hlk
      have htk := List.take_succ_eq_append_getElem hlk
      have hnk := hnum k hlk
      have hbk := hsr.b _ (List.getElem_mem hlk)
      have hfl := flat_len (fun y : Int => numB y.toNat) 11 (fun y => numB_len _) (L.take k)
      rw [List.length_take] at hfl
      generalize L[k] = a at *
      have hw8 : IntKind.u8.wrap a = ((a.toNat : Nat) : Int) := by rw [u8_in (by omega) (by omega)]; omega
      have hba := byte_of (n := a.toNat) (by omega)
      have hCpos : 0 < C.length := by omega
      obtain ⟨b9, cap9, sp9, rfl, _, _⟩ := hB.at_ (by rw [List.length_append]; omega)
      (repeat (first | refine Stp.s ?_ | refine inBlock_exit' (by decide) ?_ | ((first | refine vc_region fun K KP hK hKP => ?_ | refine Stg.s ?_ | refine guardD_ret0 ?_ | refine exV_intro _ rfl ?_); (try simp only [go_sem, loadL_a, g2, g3, hxk, hw8, Int.toNat_natCast, List.length_map]); try ((first | refine hK _ _ ?_ | refine hKP _ _ _ ?_ | refine hKP _ _ (fun _ => ?_)); clear hK hKP K KP))))
      intro b10 hb10
      refine append_u8 hB (Store.le_set hb10 hle3) (row_lit (Store.set_same _ _ _) rfl rfl) (news := [V.val (.int .u8 ((a.toNat : Nat) : Int))]) (m := 1) rfl (by simp [V.one]) (by rw [List.length_append]; omega) ?_
      intro y4 τ4 σ4 hB4 hle4 _
      ((try simp only [go_sem, loadL_a, i64_nsucc (show k < 1000000 by omega)]); refine hK _ _ ?_; clear hK hKP K KP; repeat (first | refine Stp.s ?_ | refine inBlock_exit' (by decide) ?_ | ((first | refine vc_region fun K KP hK hKP => ?_ | refine Stg.s ?_ | refine guardD_ret0 ?_ | refine exV_intro _ rfl ?_); (try simp only [go_sem, loadL_a, i64_nsucc (show k < 1000000 by omega)]); try ((first | refine hK _ _ ?_ | refine hKP _ _ _ ?_ | refine hKP _ _ (fun _ => ?_)); clear hK hKP K KP))))
      refine ⟨(k + 1, y4), σ4, (by repeat (first | exact LeEnv.nil | refine LeEnv.same ?_ | refine LeEnv.top ?_)), Store.le_refl _, ⟨hlk, τ4, hle4, ?_⟩, by show L.length - (k + 1) < L.length - k; omega⟩
      show Bld 1 σ τ4 y4 _ _
      have e4 : (C ++ (L.take (k + 1)).flatMap fun y => numB y.toNat) = (C ++ (L.take k).flatMap fun y => numB y.toNat) ++ [UInt8.ofNat a.toNat] := by
        rw [htk, List.flatMap_append, List.flatMap_cons, List.flatMap_nil, List.append_nil, hnk, List.append_assoc]
      rw [e4, List.map_append, List.length_append (bs := [_])]
      rw [hba] at hB4
      exact hB4
    · have hk2 : k = L.length := by simp at hq2; omega
      subst hk2
      rw [List.take_length, hCs] at hB
      (repeat (first | refine Stp.s ?_ | refine inBlock_exit' (by decide) ?_ | ((first | refine vc_region fun K KP hK hKP => ?_ | refine Stg.s ?_ | refine guardD_ret0 ?_ | refine exV_intro _ rfl ?_); (try simp only [go_sem, loadL_a, i64_nsucc (show i + 1 < 1000000 by omega)]); try ((first | refine hK _ _ ?_ | refine hKP _ _ _ ?_ | refine hKP _ _ (fun _ => ?_)); clear hK hKP K KP))))
      exact ⟨(i + 1, z2), τ3, (by repeat (first | exact LeEnv.nil | refine LeEnv.same ?_ | refine LeEnv.top ?_)), Store.le_refl _, ⟨by show i + 1 ≤ 12; omega, υ3, hle3, hB⟩, by show 12 - (i + 1) < 12 - i; omega⟩
  · have hi12 : i = 12 := by simp at hq; omega
    subst hi12
    (repeat (first | refine Stp.s ?_ | refine inBlock_exit' (by decide) ?_ | ((first | refine vc_region fun K KP hK hKP => ?_ | refine Stg.s ?_ | refine guardD_ret0 ?_ | refine exV_intro _ rfl ?_); (try simp only [go_sem, loadL_a]); try ((first | refine hK _ _ ?_ | refine hKP _ _ _ ?_ | refine hKP _ _ (fun _ => ?_)); clear hK hKP K KP))))
    (simp only [postV, resV, oneOf, List.getD_cons_succ, List.getD_cons_zero, and_true, true_and])
    refine Ends.mk (Bld.weakens hB hle2 (by unfold peB; simp) ?_ (bytes_len _))
    rw [flat_bytes]; rfl
end
end Go.Proofs.Ytbgagffpmdlilaa
