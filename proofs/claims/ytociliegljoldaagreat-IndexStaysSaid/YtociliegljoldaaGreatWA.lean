import Derived.Test.YtociliegljoldaaGreatTC
import Derived.Test.YtociliegljoldaaGreatTA
/- Readers of bytes: what their calls do. -/
namespace Go.Proofs.YtociliegljoldaaGreat
set_option linter.unusedSimpArgs false
set_option linter.unusedVariables false
open Go.Proofs
attribute [local irreducible] vc vcOps vcDraw vcK vcKP vcDK vcDB HWp HCalls postV Ex.then Ex.inBlock stepD callV appendV guardC guardD exV effV opV loadV storeV indexAddrV indexV sliceV
set_option maxRecDepth 10000
set_option maxHeartbeats 4000000

def flt (e : Int) : V := .ifc 273 (.agg [I64 e])
def rdr (bs : List UInt8) : Blk := .cells [.lst 1 (bs.map byteV), BV true]
abbrev unitV : V := oneOf []
abbrev U64 (n : Nat) : V := .val (.int .u64 n)

/-- A call on a reader: it parses. -/
def RdC (f : FuncId) (args : List V) (p : List UInt8 → Except (Int × List UInt8) (V × List UInt8)) : Prop :=
  entersB Tryz.prog f = true ∧ ∀ (σ : Store) (br : Nat) (bs : List UInt8), σ br = some (rdr bs) → bs.length ≤ 1000000000 →
    HCalls Tryz.prog f (.ptr br 0 :: args) σ fun r σ' => match p bs with
      | .ok (v, rest) => r = .ret v ∧ σ' = σ.set br (rdr rest)
      | .error (e, rest) => r = .pan (flt e) ∧ σ' = σ.set br (rdr rest)

theorem must_call (b : Bool) (σ : Store) : HCalls Tryz.prog 195 [BV b] σ fun r σ' => r = (if b = true then .ret unitV else .pan (flt 3)) ∧ σ' = σ := by
  (refine HCalls.of_vc Tryz.func195 rfl ?_; rw [Tryz.ntmps195, Tryz.results195]; simp only [List.length_cons, List.length_nil, Nat.reduceAdd, Nat.reduceSub, List.replicate, List.cons_append, List.nil_append])
  (repeat (first | refine Stp.s ?_ | refine inBlock_exit' (by decide) ?_ | ((first | refine vc_region fun K KP hK hKP => ?_ | refine Stg.s ?_ | refine guardD_ret0 ?_ | refine exV_intro _ rfl ?_); (try simp only [go_sem, loadL_a]); try ((first | refine hK _ _ ?_ | refine hKP _ _ _ ?_ | refine hKP _ _ (fun _ => ?_)); clear hK hKP K KP))))
  refine vc_cond rfl (fun hc => ?_) (fun hc => ?_)
  · have hb : b = false := by simpa using hc
    subst hb
    (repeat (first | refine Stp.s ?_ | refine inBlock_exit' (by decide) ?_ | ((first | refine vc_region fun K KP hK hKP => ?_ | refine Stg.s ?_ | refine guardD_ret0 ?_ | refine exV_intro _ rfl ?_); (try simp only [go_sem, loadL_a]); try ((first | refine hK _ _ ?_ | refine hKP _ _ _ ?_ | refine hKP _ _ (fun _ => ?_)); clear hK hKP K KP))))
    (simp only [postV, resV, oneOf, List.getD_cons_succ, List.getD_cons_zero, and_true, true_and])
    exact rfl
  · have hb : b = true := by simpa using hc
    subst hb
    (repeat (first | refine Stp.s ?_ | refine inBlock_exit' (by decide) ?_ | ((first | refine vc_region fun K KP hK hKP => ?_ | refine Stg.s ?_ | refine guardD_ret0 ?_ | refine exV_intro _ rfl ?_); (try simp only [go_sem, loadL_a]); try ((first | refine hK _ _ ?_ | refine hKP _ _ _ ?_ | refine hKP _ _ (fun _ => ?_)); clear hK hKP K KP))))
    (simp only [postV, resV, oneOf, List.getD_cons_succ, List.getD_cons_zero, and_true, true_and])
    exact rfl
theorem callV_must {b : Bool} {σ : Store} {K KP : V → Store → Prop} (h : b = true → K unitV σ) (k : b = false → KP (flt 3) σ) : callV Tryz.prog (.fn (.func 195) [] []) [BV b] σ K KP := by
  refine callV_of en195 (must_call b σ) (fun x σ' ⟨e, f⟩ => ?_) (fun x σ' ⟨e, f⟩ => ?_)
  · subst f
    cases b
    · cases e
    · cases e; exact h rfl
  · subst f
    cases b
    · cases e; exact k rfl
    · cases e
theorem made_call (br : Nat) (bs : List UInt8) (σ : Store) (hb : σ br = some (rdr bs)) : HQuiet Tryz.prog 194 [.ptr br 0] σ (BV true) := by
  refine HQuiet.of ?_; (refine HCalls.of_vc Tryz.func194 rfl ?_; rw [Tryz.ntmps194, Tryz.results194]; simp only [List.length_cons, List.length_nil, Nat.reduceAdd, Nat.reduceSub, List.replicate, List.cons_append, List.nil_append])
  (repeat (first | refine Stp.s ?_ | refine inBlock_exit' (by decide) ?_ | ((first | refine vc_region fun K KP hK hKP => ?_ | refine Stg.s ?_ | refine guardD_ret0 ?_ | refine exV_intro _ rfl ?_); (try simp only [go_sem, loadL_a, hb, rdr]); try ((first | refine hK _ _ ?_ | refine hKP _ _ _ ?_ | refine hKP _ _ (fun _ => ?_)); clear hK hKP K KP))))
  (simp only [postV, resV, oneOf, List.getD_cons_succ, List.getD_cons_zero, and_true, true_and])
  exact Ends.le rfl (Store.le_refl _)
def pTake (n : Nat) (bs : List UInt8) : Except (Int × List UInt8) (V × List UInt8) := if bs.length < n then .error (8, bs) else .ok (.lst 1 ((bs.take n).map byteV), bs.drop n)
theorem take_call (n : Nat) (hn : n ≤ 1000000000) : RdC 245 [I64 n] (pTake n) := by
  refine ⟨en245, fun σ br bs hb hl => ?_⟩
  (refine HCalls.of_vc Tryz.func245 rfl ?_; rw [Tryz.ntmps245, Tryz.results245]; simp only [List.length_cons, List.length_nil, Nat.reduceAdd, Nat.reduceSub, List.replicate, List.cons_append, List.nil_append])
  (repeat (first | refine Stp.s ?_ | refine inBlock_exit' (by decide) ?_ | ((first | refine vc_region fun K KP hK hKP => ?_ | refine Stg.s ?_ | refine guardD_ret0 ?_ | refine exV_intro _ rfl ?_); (try simp only [go_sem, loadL_a, hb, rdr, List.length_map]); try ((first | refine hK _ _ ?_ | refine hKP _ _ _ ?_ | refine hKP _ _ (fun _ => ?_)); clear hK hKP K KP))))
  refine vc_cond rfl (fun hc => ?_) (fun hc => ?_)
  · have hlt : bs.length < n := by simpa using hc
    (repeat (first | refine Stp.s ?_ | refine inBlock_exit' (by decide) ?_ | ((first | refine vc_region fun K KP hK hKP => ?_ | refine Stg.s ?_ | refine guardD_ret0 ?_ | refine exV_intro _ rfl ?_); (try simp only [go_sem, loadL_a]); try ((first | refine hK _ _ ?_ | refine hKP _ _ _ ?_ | refine hKP _ _ (fun _ => ?_)); clear hK hKP K KP))))
    (simp only [postV, resV, oneOf, List.getD_cons_succ, List.getD_cons_zero, and_true, true_and])
    unfold pTake
    rw [if_pos hlt]
    exact ⟨rfl, (Store.set_id hb).symm⟩
  · have hge : n ≤ bs.length := by simpa using hc
    have n0 := eq_true (show ((0 : Int) ≤ ((0 : Nat) : Int)) by omega)
    have n1 := eq_true (show (((0 : Nat) : Int) ≤ (n : Int)) by omega)
    have n2 := eq_true (show ((n : Int) ≤ (bs.length : Int)) by omega)
    have n3 := eq_true (show ((0 : Int) ≤ (n : Int)) by omega)
    have mtk : (bs.map byteV).take n = (bs.take n).map byteV := by rw [List.map_take]
    have mdr : ((bs.map byteV).drop n).take (bs.length - n) = (bs.drop n).map byteV := by rw [List.take_of_length_le (by simp), List.map_drop]
    (repeat (first | refine Stp.s ?_ | refine inBlock_exit' (by decide) ?_ | ((first | refine vc_region fun K KP hK hKP => ?_ | refine Stg.s ?_ | refine guardD_ret0 ?_ | refine exV_intro _ rfl ?_); (try simp only [go_sem, loadL_a, hb, rdr, List.length_map, n0, n1, n2, n3, mtk, mdr, Int.le_refl, Int.toNat_natCast, List.drop_zero, Nat.sub_zero]); try ((first | refine hK _ _ ?_ | refine hKP _ _ _ ?_ | refine hKP _ _ (fun _ => ?_)); clear hK hKP K KP))))
    (simp only [postV, resV, oneOf, List.getD_cons_succ, List.getD_cons_zero, and_true, true_and])
    unfold pTake
    rw [if_neg (by omega)]
    exact ⟨rfl, rfl⟩
theorem callV_rd {f : FuncId} {args : List V} {p : List UInt8 → Except (Int × List UInt8) (V × List UInt8)} {σ : Store} {br : Nat} {cs : List UInt8} {K KP : V → Store → Prop} (h : RdC f args p) (hb : σ br = some (rdr cs)) (hl : cs.length ≤ 1000000000)
    (ok : ∀ v rest, p cs = .ok (v, rest) → K v (σ.set br (rdr rest))) (er : ∀ e rest, p cs = .error (e, rest) → KP (flt e) (σ.set br (rdr rest))) : callV Tryz.prog (.fn (.func f) [] []) (.ptr br 0 :: args) σ K KP := by
  refine callV_of h.1 (by simpa using h.2 σ br cs hb hl) (fun x σ' q => ?_) (fun x σ' q => ?_)
  · cases hp : p cs with
    | ok a => obtain ⟨v, rest⟩ := a; rw [hp] at q; obtain ⟨e, rfl⟩ := q; cases e; exact ok _ _ hp
    | error a => obtain ⟨e, rest⟩ := a; rw [hp] at q; cases q.1
  · cases hp : p cs with
    | ok a => obtain ⟨v, rest⟩ := a; rw [hp] at q; cases q.1
    | error a => obtain ⟨e, rest⟩ := a; rw [hp] at q; obtain ⟨e', rfl⟩ := q; cases e'; exact er _ _ hp
theorem or_low {n c : Nat} (hn : n < 144115188075855872) : IntKind.u64.wrap (orI .u64 ((n * 128 : Nat) : Int) ((c % 128 : Nat) : Int)) = ((n * 128 + c % 128 : Nat) : Int) := by
  have h0 : (2 : Nat) ^ IntKind.u64.bits = 18446744073709551616 := by decide
  rw [orI_nat (by omega) (by omega)]
  have h3 : n * 128 ||| c % 128 = n * 128 + c % 128 := by
    have := Nat.two_pow_add_eq_or_of_lt (i := 7) (b := c % 128) (by omega) n
    rw [show (2 : Nat) ^ 7 = 128 from rfl, Nat.mul_comm 128 n] at this
    exact this.symm
  rw [h3, u64_in (by omega) (by omega)]
/-- The number at the front. -/
def pNum (bs : List UInt8) : Except (Int × List UInt8) (V × List UInt8) := match decN bs with
  | .ok (n, r) => .ok (U64 n, r)
  | .error e => .error e
theorem num_call : RdC 196 [] pNum := by
  refine ⟨en196, fun σ br bs hb hl => ?_⟩
  (refine HCalls.of_vc Tryz.func196 rfl ?_; rw [Tryz.ntmps196, Tryz.results196]; simp only [List.length_cons, List.length_nil, Nat.reduceAdd, Nat.reduceSub, List.replicate, List.cons_append, List.nil_append])
  (repeat (first | refine Stp.s ?_ | refine inBlock_exit' (by decide) ?_ | ((first | refine vc_region fun K KP hK hKP => ?_ | refine Stg.s ?_ | refine guardD_ret0 ?_ | refine exV_intro _ rfl ?_); (try simp only [go_sem, loadL_a]); try ((first | refine hK _ _ ?_ | refine hKP _ _ _ ?_ | refine hKP _ _ (fun _ => ?_)); clear hK hKP K KP))))
  ((try simp only [go_sem, loadL_a]); refine callV_quiet en194 (made_call br bs _ hb) ?_)
  ((try simp only [go_sem, loadL_a]); (try ((first | refine hK _ _ ?_ | refine hKP _ _ _ ?_ | refine hKP _ _ (fun _ => ?_)); clear hK hKP K KP)); repeat (first | refine Stp.s ?_ | refine inBlock_exit' (by decide) ?_ | ((first | refine vc_region fun K KP hK hKP => ?_ | refine Stg.s ?_ | refine guardD_ret0 ?_ | refine exV_intro _ rfl ?_); (try simp only [go_sem, loadL_a]); try ((first | refine hK _ _ ?_ | refine hKP _ _ _ ?_ | refine hKP _ _ (fun _ => ?_)); clear hK hKP K KP))))
  refine vc_cond rfl (fun hc => absurd hc (by decide)) (fun _ => ?_)
  (repeat (first | refine Stp.s ?_ | refine inBlock_exit' (by decide) ?_ | ((first | refine vc_region fun K KP hK hKP => ?_ | refine Stg.s ?_ | refine guardD_ret0 ?_ | refine exV_intro _ rfl ?_); (try simp only [go_sem, loadL_a]); try ((first | refine hK _ _ ?_ | refine hKP _ _ _ ?_ | refine hKP _ _ (fun _ => ?_)); clear hK hKP K KP))))
  refine vc_loop (loopV (fun (a : Bool × Nat × List UInt8) => [.ptr br 0, .top, .top, U64 a.2.1, BV a.1, .top, .top, .top, .top, .top, .top, .top, .top, .top, .top, .top, .top, .top, .top, .top, .top, .top, .top, .top, .top, .top, .top, .top, .top, .top, .top, .top, .top]) (fun a τ => a.2.2.length ≤ bs.length ∧ a.2.1 < 18446744073709551616 ∧ τ = σ.set br (rdr a.2.2) ∧ decF a.1 a.2.1 a.2.2 = decN bs) (fun a _ => a.2.2.length) (true, 0, bs) (by repeat (first | exact LeEnv.nil | refine LeEnv.same ?_ | refine LeEnv.top ?_)) ⟨Nat.le_refl _, (by show (0 : Nat) < 18446744073709551616; decide), (Store.set_id hb).symm, rfl⟩ ?_)
  rintro ⟨first, n, cs⟩ τ ⟨hcl, hn, rfl, hdec⟩
  simp only at hcl hn hdec ⊢
  (repeat (first | refine Stp.s ?_ | refine inBlock_exit' (by decide) ?_ | ((first | refine vc_region fun K KP hK hKP => ?_ | refine Stg.s ?_ | refine guardD_ret0 ?_ | refine exV_intro _ rfl ?_); (try simp only [go_sem, loadL_a]); try ((first | refine hK _ _ ?_ | refine hKP _ _ _ ?_ | refine hKP _ _ (fun _ => ?_)); clear hK hKP K KP))))
  have hset : ∀ r, (σ.set br (rdr cs)).set br (rdr r) = σ.set br (rdr r) := fun r => Store.set_set _ _ _ _
  refine callV_rd (take_call 1 (by decide)) (Store.set_same _ _ _) (by omega) (fun v rest hp => ?_) (fun e rest hp => ?_)
  · cases cs with
    | nil => simp [pTake] at hp
    | cons c cs =>
      simp [pTake] at hp
      obtain ⟨rfl, rfl⟩ := hp
      have hc8 : c.toNat < 256 := c.toNat_lt
      have q0 := eq_true (show ((0 : Int) < ((1 : Nat) : Int)) by omega)
      rw [hset]
      rw [decF] at hdec
      ((try simp only [go_sem, loadL_a, q0, Int.le_refl, byteV, List.map_cons, List.map_nil]); (try ((first | refine hK _ _ ?_ | refine hKP _ _ _ ?_ | refine hKP _ _ (fun _ => ?_)); clear hK hKP K KP)); repeat (first | refine Stp.s ?_ | refine inBlock_exit' (by decide) ?_ | ((first | refine vc_region fun K KP hK hKP => ?_ | refine Stg.s ?_ | refine guardD_ret0 ?_ | refine exV_intro _ rfl ?_); (try simp only [go_sem, loadL_a, q0, Int.le_refl, byteV, List.map_cons, List.map_nil]); try ((first | refine hK _ _ ?_ | refine hKP _ _ _ ?_ | refine hKP _ _ (fun _ => ?_)); clear hK hKP K KP))))
      refine callV_must (fun hm => ?_) (fun hm => ?_)
      · have hm' : ¬ (first && c.toNat == 128) = true := by
          intro e
          simp only [Bool.and_eq_true, beq_iff_eq] at e
          rw [e.1, e.2] at hm; exact absurd hm (by decide)
        rw [if_neg hm'] at hdec
        have s0 := eq_true (show ((0 : Int) ≤ 57) by omega)
        have s1 : ((n : Int).fdiv (2 ^ min (Int.toNat 57) 64) == 0) = decide (n < 144115188075855872) := by
          rw [show (2 : Int) ^ min (Int.toNat 57) 64 = 144115188075855872 from by decide, Int.fdiv_eq_ediv_of_nonneg _ (by omega), Bool.eq_iff_iff, beq_iff_eq, decide_eq_true_eq]
          omega
        ((try simp only [go_sem, loadL_a, s0, s1]); (try ((first | refine hK _ _ ?_ | refine hKP _ _ _ ?_ | refine hKP _ _ (fun _ => ?_)); clear hK hKP K KP)); repeat (first | refine Stp.s ?_ | refine inBlock_exit' (by decide) ?_ | ((first | refine vc_region fun K KP hK hKP => ?_ | refine Stg.s ?_ | refine guardD_ret0 ?_ | refine exV_intro _ rfl ?_); (try simp only [go_sem, loadL_a, s0, s1]); try ((first | refine hK _ _ ?_ | refine hKP _ _ _ ?_ | refine hKP _ _ (fun _ => ?_)); clear hK hKP K KP))))
        refine callV_must (fun hm2 => ?_) (fun hm2 => ?_)
        · have hn2 : n < 144115188075855872 := by simpa using hm2
          rw [if_neg (by omega)] at hdec
          have s2 := eq_true (show ((0 : Int) ≤ 7) by omega)
          have s3 := eq_true (show ¬((128 : Int) = 0) by omega)
          have e1 : IntKind.u64.wrap ((n : Int) * 2 ^ min (Int.toNat 7) 64) = ((n * 128 : Nat) : Int) := by
            rw [show (2 : Int) ^ min (Int.toNat 7) 64 = 128 from by decide, u64_in (by omega) (by omega)]; omega
          have e2 : IntKind.u64.wrap ((c.toNat : Int).tmod 128) = ((c.toNat % 128 : Nat) : Int) := by
            rw [Int.tmod_eq_emod_of_nonneg (by omega), u64_in (by omega) (by omega)]; omega
          ((try simp only [go_sem, loadL_a, s2, s3, e1, e2, or_low hn2]); (try ((first | refine hK _ _ ?_ | refine hKP _ _ _ ?_ | refine hKP _ _ (fun _ => ?_)); clear hK hKP K KP)); repeat (first | refine Stp.s ?_ | refine inBlock_exit' (by decide) ?_ | ((first | refine vc_region fun K KP hK hKP => ?_ | refine Stg.s ?_ | refine guardD_ret0 ?_ | refine exV_intro _ rfl ?_); (try simp only [go_sem, loadL_a, s2, s3, e1, e2, or_low hn2]); try ((first | refine hK _ _ ?_ | refine hKP _ _ _ ?_ | refine hKP _ _ (fun _ => ?_)); clear hK hKP K KP))))
          refine vc_cond rfl (fun hm3 => ?_) (fun hm3 => ?_)
          · have hc3 : c.toNat < 128 := by simp at hm3; omega
            rw [if_pos hc3] at hdec
            (repeat (first | refine Stp.s ?_ | refine inBlock_exit' (by decide) ?_ | ((first | refine vc_region fun K KP hK hKP => ?_ | refine Stg.s ?_ | refine guardD_ret0 ?_ | refine exV_intro _ rfl ?_); (try simp only [go_sem, loadL_a]); try ((first | refine hK _ _ ?_ | refine hKP _ _ _ ?_ | refine hKP _ _ (fun _ => ?_)); clear hK hKP K KP))))
            (simp only [postV, resV, oneOf, List.getD_cons_succ, List.getD_cons_zero, and_true, true_and])
            unfold pNum
            rw [← hdec]
            exact ⟨rfl, rfl⟩
          · have hc3 : ¬ c.toNat < 128 := by simp at hm3; omega
            rw [if_neg hc3] at hdec
            (repeat (first | refine Stp.s ?_ | refine inBlock_exit' (by decide) ?_ | ((first | refine vc_region fun K KP hK hKP => ?_ | refine Stg.s ?_ | refine guardD_ret0 ?_ | refine exV_intro _ rfl ?_); (try simp only [go_sem, loadL_a]); try ((first | refine hK _ _ ?_ | refine hKP _ _ _ ?_ | refine hKP _ _ (fun _ => ?_)); clear hK hKP K KP))))
            refine ⟨(false, n * 128 + c.toNat % 128, cs), _, (by repeat (first | exact LeEnv.nil | refine LeEnv.same ?_ | refine LeEnv.top ?_)), Store.le_refl _, ⟨?_, ?_, rfl, hdec⟩, ?_⟩
            · simp at hcl; show cs.length ≤ bs.length; omega
            · show n * 128 + c.toNat % 128 < 18446744073709551616; omega
            · show cs.length < (c :: cs).length; simp
        · have hn2 : ¬ n < 144115188075855872 := by simpa using hm2
          rw [if_pos (by omega)] at hdec
          ((try simp only [go_sem, loadL_a]); (try ((first | refine hK _ _ ?_ | refine hKP _ _ _ ?_ | refine hKP _ _ (fun _ => ?_)); clear hK hKP K KP)); repeat (first | refine Stp.s ?_ | refine inBlock_exit' (by decide) ?_ | ((first | refine vc_region fun K KP hK hKP => ?_ | refine Stg.s ?_ | refine guardD_ret0 ?_ | refine exV_intro _ rfl ?_); (try simp only [go_sem, loadL_a]); try ((first | refine hK _ _ ?_ | refine hKP _ _ _ ?_ | refine hKP _ _ (fun _ => ?_)); clear hK hKP K KP))))
          (simp only [postV, resV, oneOf, List.getD_cons_succ, List.getD_cons_zero, and_true, true_and])
          unfold pNum
          rw [← hdec]
          exact ⟨rfl, rfl⟩
      · have hm' : (first && c.toNat == 128) = true := by
          cases first with
          | false => exact absurd hm (by simp)
          | true => simp at hm ⊢; omega
        rw [if_pos hm'] at hdec
        ((try simp only [go_sem, loadL_a]); (try ((first | refine hK _ _ ?_ | refine hKP _ _ _ ?_ | refine hKP _ _ (fun _ => ?_)); clear hK hKP K KP)); repeat (first | refine Stp.s ?_ | refine inBlock_exit' (by decide) ?_ | ((first | refine vc_region fun K KP hK hKP => ?_ | refine Stg.s ?_ | refine guardD_ret0 ?_ | refine exV_intro _ rfl ?_); (try simp only [go_sem, loadL_a]); try ((first | refine hK _ _ ?_ | refine hKP _ _ _ ?_ | refine hKP _ _ (fun _ => ?_)); clear hK hKP K KP))))
        (simp only [postV, resV, oneOf, List.getD_cons_succ, List.getD_cons_zero, and_true, true_and])
        unfold pNum
        rw [← hdec]
        exact ⟨rfl, rfl⟩
  · cases cs with
    | nil =>
      simp [pTake] at hp
      obtain ⟨rfl, rfl⟩ := hp
      rw [hset]
      ((try simp only [go_sem, loadL_a]); (try ((first | refine hK _ _ ?_ | refine hKP _ _ _ ?_ | refine hKP _ _ (fun _ => ?_)); clear hK hKP K KP)); repeat (first | refine Stp.s ?_ | refine inBlock_exit' (by decide) ?_ | ((first | refine vc_region fun K KP hK hKP => ?_ | refine Stg.s ?_ | refine guardD_ret0 ?_ | refine exV_intro _ rfl ?_); (try simp only [go_sem, loadL_a]); try ((first | refine hK _ _ ?_ | refine hKP _ _ _ ?_ | refine hKP _ _ (fun _ => ?_)); clear hK hKP K KP))))
      (simp only [postV, resV, oneOf, List.getD_cons_succ, List.getD_cons_zero, and_true, true_and])
      rw [decF] at hdec
      unfold pNum
      rw [← hdec]
      exact ⟨rfl, rfl⟩
    | cons c cs => simp [pTake] at hp
theorem Must_call (b : Bool) : RdC 152 [BV b] (fun bs => if b = true then .ok (unitV, bs) else .error (3, bs)) := by
  refine ⟨en152, fun σ br bs hb hl => ?_⟩
  (refine HCalls.of_vc Tryz.func152 rfl ?_; rw [Tryz.ntmps152, Tryz.results152]; simp only [List.length_cons, List.length_nil, Nat.reduceAdd, Nat.reduceSub, List.replicate, List.cons_append, List.nil_append])
  (repeat (first | refine Stp.s ?_ | refine inBlock_exit' (by decide) ?_ | ((first | refine vc_region fun K KP hK hKP => ?_ | refine Stg.s ?_ | refine guardD_ret0 ?_ | refine exV_intro _ rfl ?_); (try simp only [go_sem, loadL_a]); try ((first | refine hK _ _ ?_ | refine hKP _ _ _ ?_ | refine hKP _ _ (fun _ => ?_)); clear hK hKP K KP))))
  ((try simp only [go_sem, loadL_a]); refine callV_quiet en194 (made_call br bs _ hb) ?_)
  ((try simp only [go_sem, loadL_a]); (try ((first | refine hK _ _ ?_ | refine hKP _ _ _ ?_ | refine hKP _ _ (fun _ => ?_)); clear hK hKP K KP)); repeat (first | refine Stp.s ?_ | refine inBlock_exit' (by decide) ?_ | ((first | refine vc_region fun K KP hK hKP => ?_ | refine Stg.s ?_ | refine guardD_ret0 ?_ | refine exV_intro _ rfl ?_); (try simp only [go_sem, loadL_a]); try ((first | refine hK _ _ ?_ | refine hKP _ _ _ ?_ | refine hKP _ _ (fun _ => ?_)); clear hK hKP K KP))))
  refine vc_cond rfl (fun _ => ?_) (fun hc => absurd hc (by decide))
  (repeat (first | refine Stp.s ?_ | refine inBlock_exit' (by decide) ?_ | ((first | refine vc_region fun K KP hK hKP => ?_ | refine Stg.s ?_ | refine guardD_ret0 ?_ | refine exV_intro _ rfl ?_); (try simp only [go_sem, loadL_a]); try ((first | refine hK _ _ ?_ | refine hKP _ _ _ ?_ | refine hKP _ _ (fun _ => ?_)); clear hK hKP K KP))))
  refine callV_must (fun hm => ?_) (fun hm => ?_)
  · ((try simp only [go_sem, loadL_a]); (try ((first | refine hK _ _ ?_ | refine hKP _ _ _ ?_ | refine hKP _ _ (fun _ => ?_)); clear hK hKP K KP)); repeat (first | refine Stp.s ?_ | refine inBlock_exit' (by decide) ?_ | ((first | refine vc_region fun K KP hK hKP => ?_ | refine Stg.s ?_ | refine guardD_ret0 ?_ | refine exV_intro _ rfl ?_); (try simp only [go_sem, loadL_a]); try ((first | refine hK _ _ ?_ | refine hKP _ _ _ ?_ | refine hKP _ _ (fun _ => ?_)); clear hK hKP K KP))))
    (simp only [postV, resV, oneOf, List.getD_cons_succ, List.getD_cons_zero, and_true, true_and])
    subst hm
    exact ⟨rfl, (Store.set_id hb).symm⟩
  · ((try simp only [go_sem, loadL_a]); (try ((first | refine hK _ _ ?_ | refine hKP _ _ _ ?_ | refine hKP _ _ (fun _ => ?_)); clear hK hKP K KP)); repeat (first | refine Stp.s ?_ | refine inBlock_exit' (by decide) ?_ | ((first | refine vc_region fun K KP hK hKP => ?_ | refine Stg.s ?_ | refine guardD_ret0 ?_ | refine exV_intro _ rfl ?_); (try simp only [go_sem, loadL_a]); try ((first | refine hK _ _ ?_ | refine hKP _ _ _ ?_ | refine hKP _ _ (fun _ => ?_)); clear hK hKP K KP))))
    (simp only [postV, resV, oneOf, List.getD_cons_succ, List.getD_cons_zero, and_true, true_and])
    subst hm
    exact ⟨rfl, (Store.set_id hb).symm⟩
/-- A number of at most m. -/
def pSmall (m : Nat) (bs : List UInt8) : Except (Int × List UInt8) (V × List UInt8) := match decN bs with
  | .ok (n, r) => if n ≤ m then .ok (I64 n, r) else .error (3, r)
  | .error e => .error e
theorem small_call (m : Nat) (hm : m ≤ 9223372036854775807) : RdC 153 [I64 m] (pSmall m) := by
  refine ⟨en153, fun σ br bs hb hl => ?_⟩
  (refine HCalls.of_vc Tryz.func153 rfl ?_; rw [Tryz.ntmps153, Tryz.results153]; simp only [List.length_cons, List.length_nil, Nat.reduceAdd, Nat.reduceSub, List.replicate, List.cons_append, List.nil_append])
  (repeat (first | refine Stp.s ?_ | refine inBlock_exit' (by decide) ?_ | ((first | refine vc_region fun K KP hK hKP => ?_ | refine Stg.s ?_ | refine guardD_ret0 ?_ | refine exV_intro _ rfl ?_); (try simp only [go_sem, loadL_a]); try ((first | refine hK _ _ ?_ | refine hKP _ _ _ ?_ | refine hKP _ _ (fun _ => ?_)); clear hK hKP K KP))))
  ((try simp only [go_sem, loadL_a]); refine callV_quiet en194 (made_call br bs _ hb) ?_)
  ((try simp only [go_sem, loadL_a]); (try ((first | refine hK _ _ ?_ | refine hKP _ _ _ ?_ | refine hKP _ _ (fun _ => ?_)); clear hK hKP K KP)); repeat (first | refine Stp.s ?_ | refine inBlock_exit' (by decide) ?_ | ((first | refine vc_region fun K KP hK hKP => ?_ | refine Stg.s ?_ | refine guardD_ret0 ?_ | refine exV_intro _ rfl ?_); (try simp only [go_sem, loadL_a]); try ((first | refine hK _ _ ?_ | refine hKP _ _ _ ?_ | refine hKP _ _ (fun _ => ?_)); clear hK hKP K KP))))
  refine vc_cond rfl (fun hc => absurd hc (by decide)) (fun _ => ?_)
  (repeat (first | refine Stp.s ?_ | refine inBlock_exit' (by decide) ?_ | ((first | refine vc_region fun K KP hK hKP => ?_ | refine Stg.s ?_ | refine guardD_ret0 ?_ | refine exV_intro _ rfl ?_); (try simp only [go_sem, loadL_a]); try ((first | refine hK _ _ ?_ | refine hKP _ _ _ ?_ | refine hKP _ _ (fun _ => ?_)); clear hK hKP K KP))))
  refine callV_rd num_call hb hl (fun v rest hp => ?_) (fun e rest hp => ?_)
  · unfold pNum at hp
    cases hd : decN bs with
    | error e => rw [hd] at hp; cases hp
    | ok a =>
      obtain ⟨n, r⟩ := a
      rw [hd] at hp
      simp only [Except.ok.injEq, Prod.mk.injEq] at hp
      obtain ⟨rfl, rfl⟩ := hp
      have hn := (num_of_dec hd).1
      have m0 : decide ((0 : Int) ≤ (m : Int)) = true := decide_eq_true (by omega)
      have m1 : (if (0 : Int) > (m : Int) then (0 : Int) else (m : Int)) = (m : Int) := if_neg (by omega)
      have m2 : IntKind.u64.wrap (m : Int) = (m : Int) := u64_in (by omega) (by omega)
      ((try simp only [go_sem, loadL_a, m0, m1, m2]); (try ((first | refine hK _ _ ?_ | refine hKP _ _ _ ?_ | refine hKP _ _ (fun _ => ?_)); clear hK hKP K KP)); repeat (first | refine Stp.s ?_ | refine inBlock_exit' (by decide) ?_ | ((first | refine vc_region fun K KP hK hKP => ?_ | refine Stg.s ?_ | refine guardD_ret0 ?_ | refine exV_intro _ rfl ?_); (try simp only [go_sem, loadL_a, m0, m1, m2]); try ((first | refine hK _ _ ?_ | refine hKP _ _ _ ?_ | refine hKP _ _ (fun _ => ?_)); clear hK hKP K KP))))
      refine callV_must (fun hm2 => ?_) (fun hm2 => ?_)
      · have hnm : n ≤ m := by simp at hm2; omega
        have m3 : IntKind.i64.wrap (n : Int) = (n : Int) := i64_in (by omega) (by omega)
        ((try simp only [go_sem, loadL_a, m3]); (try ((first | refine hK _ _ ?_ | refine hKP _ _ _ ?_ | refine hKP _ _ (fun _ => ?_)); clear hK hKP K KP)); repeat (first | refine Stp.s ?_ | refine inBlock_exit' (by decide) ?_ | ((first | refine vc_region fun K KP hK hKP => ?_ | refine Stg.s ?_ | refine guardD_ret0 ?_ | refine exV_intro _ rfl ?_); (try simp only [go_sem, loadL_a, m3]); try ((first | refine hK _ _ ?_ | refine hKP _ _ _ ?_ | refine hKP _ _ (fun _ => ?_)); clear hK hKP K KP))))
        (simp only [postV, resV, oneOf, List.getD_cons_succ, List.getD_cons_zero, and_true, true_and])
        unfold pSmall
        simp [hd, if_pos hnm]
      · have hnm : ¬ n ≤ m := by simp at hm2; omega
        ((try simp only [go_sem, loadL_a]); (try ((first | refine hK _ _ ?_ | refine hKP _ _ _ ?_ | refine hKP _ _ (fun _ => ?_)); clear hK hKP K KP)); repeat (first | refine Stp.s ?_ | refine inBlock_exit' (by decide) ?_ | ((first | refine vc_region fun K KP hK hKP => ?_ | refine Stg.s ?_ | refine guardD_ret0 ?_ | refine exV_intro _ rfl ?_); (try simp only [go_sem, loadL_a]); try ((first | refine hK _ _ ?_ | refine hKP _ _ _ ?_ | refine hKP _ _ (fun _ => ?_)); clear hK hKP K KP))))
        (simp only [postV, resV, oneOf, List.getD_cons_succ, List.getD_cons_zero, and_true, true_and])
        unfold pSmall
        simp [hd, if_neg hnm]
  · unfold pNum at hp
    cases hd : decN bs with
    | ok a => rw [hd] at hp; cases hp
    | error a =>
      rw [hd] at hp
      cases hp
      ((try simp only [go_sem, loadL_a]); (try ((first | refine hK _ _ ?_ | refine hKP _ _ _ ?_ | refine hKP _ _ (fun _ => ?_)); clear hK hKP K KP)); repeat (first | refine Stp.s ?_ | refine inBlock_exit' (by decide) ?_ | ((first | refine vc_region fun K KP hK hKP => ?_ | refine Stg.s ?_ | refine guardD_ret0 ?_ | refine exV_intro _ rfl ?_); (try simp only [go_sem, loadL_a]); try ((first | refine hK _ _ ?_ | refine hKP _ _ _ ?_ | refine hKP _ _ (fun _ => ?_)); clear hK hKP K KP))))
      (simp only [postV, resV, oneOf, List.getD_cons_succ, List.getD_cons_zero, and_true, true_and])
      unfold pSmall
      rw [hd]
      exact ⟨rfl, rfl⟩
end Go.Proofs.YtociliegljoldaaGreat

/- Writers of bytes: what their calls do. -/
namespace Go.Proofs.YtociliegljoldaaGreat
set_option linter.unusedSimpArgs false
set_option linter.unusedVariables false
open Go.Proofs
attribute [local irreducible] vc vcOps vcDraw vcK vcKP vcDK vcDB HWp HCalls postV Ex.then Ex.inBlock stepD callV appendV guardC guardD exV effV opV loadV storeV indexAddrV indexV sliceV
set_option maxRecDepth 10000
set_option maxHeartbeats 4000000

abbrev rowB (l : List UInt8) (spare : List V) : Blk := .cells (l.map byteV ++ spare)
theorem rowB_get {l : List UInt8} {spare : List V} {i : Nat} (h : i < l.length) : (l.map byteV ++ spare)[i]? = some (byteV (l.getD i 0)) := by
  rw [List.getElem?_append_left (by simpa using h), List.getElem?_map, List.getElem?_eq_getElem h, List.getD_eq_getElem?_getD, List.getElem?_eq_getElem h]; rfl
theorem rowB_set {l : List UInt8} {spare : List V} {i : Nat} {v : UInt8} (h : i < l.length) : (l.map byteV ++ spare).set i (byteV v) = (l.set i v).map byteV ++ spare := by
  rw [List.set_append_left _ _ (by simpa using h), List.map_set]
theorem getD_setB (m : List UInt8) (k p : Nat) (v : UInt8) (h : k < m.length) : (m.set k v).getD p 0 = if p = k then v else m.getD p 0 := by
  simp only [List.getD_eq_getElem?_getD, List.getElem?_set]
  by_cases e : p = k
  · subst e; simp [h]
  · rw [if_neg (Ne.symm e), if_neg e]
theorem byteV_one (b : UInt8) : (byteV b).one = true := rfl
theorem byteV_cells (b : UInt8) : (byteV b).cells = [byteV b] := rfl
theorem reverse_call (b cap : Nat) (l : List UInt8) (spare : List V) (σ : Store) (hb : σ b = some (rowB l spare)) (hn : l.length ≤ 1000000) :
    HCalls Tryz.prog 170 [.sl b 0 l.length cap] σ (fun r σ' => r = .ret unitV ∧ σ' = σ.set b (rowB l.reverse spare)) := by
  (refine HCalls.of_vc Tryz.func170 rfl ?_; rw [Tryz.ntmps170, Tryz.results170]; simp only [List.length_cons, List.length_nil, Nat.reduceAdd, Nat.reduceSub, List.replicate, List.cons_append, List.nil_append])
  have w0 : IntKind.i64.wrap ((l.length : Int) - 1) = (l.length : Int) - 1 := i64_in (by omega) (by omega)
  (repeat (first | refine Stp.s ?_ | refine inBlock_exit' (by decide) ?_ | ((first | refine vc_region fun K KP hK hKP => ?_ | refine Stg.s ?_ | refine guardD_ret0 ?_ | refine exV_intro _ rfl ?_); (try simp only [go_sem, loadL_a, w0]); try ((first | refine hK _ _ ?_ | refine hKP _ _ _ ?_ | refine hKP _ _ (fun _ => ?_)); clear hK hKP K KP))))
  refine vc_loop (loopV (fun (a : Nat × List UInt8) => [.sl b 0 l.length cap, .top, I64 a.1, I64 ((l.length : Int) - 1 - a.1), .top, .top, .top, .top, .top, .top, .top, .top, .top, .top, .top, .top, .top, .top, .top, .top, .top, .top, .top, .top, .top, .top, .top, .top]) (fun a τ => 2 * a.1 ≤ l.length + 1 ∧ a.2.length = l.length ∧ (∀ p, p < l.length → a.2.getD p 0 = if p < a.1 ∨ l.length ≤ p + a.1 then l.getD (l.length - 1 - p) 0 else l.getD p 0) ∧ τ = σ.set b (rowB a.2 spare)) (fun a _ => l.length + 1 - 2 * a.1) (0, l) ?_ ⟨by omega, rfl, fun p hp => by rw [if_neg (by omega)], (Store.set_id hb).symm⟩ ?_)
  · rw [show (l.length : Int) - 1 - (0 : Nat) = (l.length : Int) - 1 by omega]
    exact (by repeat (first | exact LeEnv.nil | refine LeEnv.same ?_ | refine LeEnv.top ?_))
  rintro ⟨i, m⟩ τ ⟨hi, hml, hm, rfl⟩
  simp only at hi hml hm
  (repeat (first | refine Stp.s ?_ | refine inBlock_exit' (by decide) ?_ | ((first | refine vc_region fun K KP hK hKP => ?_ | refine Stg.s ?_ | refine guardD_ret0 ?_ | refine exV_intro _ rfl ?_); (try simp only [go_sem, loadL_a]); try ((first | refine hK _ _ ?_ | refine hKP _ _ _ ?_ | refine hKP _ _ (fun _ => ?_)); clear hK hKP K KP))))
  refine vc_cond rfl (fun hc => ?_) (fun hc => ?_)
  · have hlt : 2 * i + 1 < l.length := by simp at hc; omega
    obtain ⟨j, hj⟩ : ∃ j : Nat, j = l.length - 1 - i := ⟨_, rfl⟩
    have ej : (l.length : Int) - 1 - (i : Int) = (j : Int) := by omega
    rw [ej]
    have g0 := eq_true (show (0 : Int) ≤ (i : Int) by omega)
    have g1 := eq_true (show (i : Int) < l.length by omega)
    have g2 := eq_true (show (0 : Int) ≤ (j : Int) by omega)
    have g3 := eq_true (show (j : Int) < l.length by omega)
    have r1 := rowB_get (spare := spare) (show i < m.length by omega)
    have r2 := rowB_get (spare := spare) (show j < m.length by omega)
    (repeat (first | refine Stp.s ?_ | refine inBlock_exit' (by decide) ?_ | ((first | refine vc_region fun K KP hK hKP => ?_ | refine Stg.s ?_ | refine guardD_ret0 ?_ | refine exV_intro _ rfl ?_); (try simp only [go_sem, loadL_a]); try ((first | refine hK _ _ ?_ | refine hKP _ _ _ ?_ | refine hKP _ _ (fun _ => ?_)); clear hK hKP K KP))))
    ((repeat first | refine Stp.s ?_ | refine inBlock_exit' (by decide) ?_); refine vc_draw mixed [ 13, 15 ] [0, 1, 2, 3, 4, 5, 6, 7, 8, 9, 10, 11, 12, 13, 14, 15 ] [ 7, 11 ] [] (fun _ => True) (by kernel_rfl) (by kernel_rfl) (by kernel_rfl) trivial fun K KP hK hKP => ?_; simp only [go_sem, loadL_a, g0, g1, g2, g3, Int.toNat_natCast, r1, r2, byteV_one, byteV_cells]; try (refine hK _ _ ?_; clear hK hKP K KP))
    ((try simp only [go_sem, loadL_a, g0, g1, g2, g3, Int.toNat_natCast, r1, r2, byteV_one, byteV_cells]); (try ((first | refine hK _ _ ?_ | refine hKP _ _ _ ?_ | refine hKP _ _ (fun _ => ?_)); clear hK hKP K KP)); repeat (first | refine Stp.s ?_ | refine inBlock_exit' (by decide) ?_ | ((first | refine vc_region fun K KP hK hKP => ?_ | refine Stg.s ?_ | refine guardD_ret0 ?_ | refine exV_intro _ rfl ?_); (try simp only [go_sem, loadL_a, g0, g1, g2, g3, Int.toNat_natCast, r1, r2, byteV_one, byteV_cells]); try ((first | refine hK _ _ ?_ | refine hKP _ _ _ ?_ | refine hKP _ _ (fun _ => ?_)); clear hK hKP K KP))))
    have hsw : ((m.map byteV ++ spare).set i (byteV (m.getD j 0))).set j (byteV (m.getD i 0)) = ((m.set i (m.getD j 0)).set j (m.getD i 0)).map byteV ++ spare := by
      rw [rowB_set (by omega), rowB_set (by simp; omega)]
    refine ⟨rfl, rfl, by simp; omega, effV_true ⟨rfl, rfl, by simp; omega, ?_⟩⟩
    have w1 : IntKind.i64.wrap ((i : Int) + 1) = ((i + 1 : Nat) : Int) := by rw [i64_in (by omega) (by omega)]; omega
    have w2 : IntKind.i64.wrap ((j : Int) - 1) = (l.length : Int) - 1 - ((i + 1 : Nat) : Int) := by rw [i64_in (by omega) (by omega)]; omega
    ((try simp only [go_sem, loadL_a, hsw, w1, w2]); (try ((first | refine hK _ _ ?_ | refine hKP _ _ _ ?_ | refine hKP _ _ (fun _ => ?_)); clear hK hKP K KP)); repeat (first | refine Stp.s ?_ | refine inBlock_exit' (by decide) ?_ | ((first | refine vc_region fun K KP hK hKP => ?_ | refine Stg.s ?_ | refine guardD_ret0 ?_ | refine exV_intro _ rfl ?_); (try simp only [go_sem, loadL_a, hsw, w1, w2]); try ((first | refine hK _ _ ?_ | refine hKP _ _ _ ?_ | refine hKP _ _ (fun _ => ?_)); clear hK hKP K KP))))
    refine ⟨(i + 1, (m.set i (m.getD j 0)).set j (m.getD i 0)), _, (by repeat (first | exact LeEnv.nil | refine LeEnv.same ?_ | refine LeEnv.top ?_)), Store.le_refl _, ⟨by show 2 * (i + 1) ≤ l.length + 1; omega, by simpa using hml, fun p hp => ?_, rfl⟩, by show l.length + 1 - 2 * (i + 1) < l.length + 1 - 2 * i; omega⟩
    show ((m.set i (m.getD j 0)).set j (m.getD i 0)).getD p 0 = if p < i + 1 ∨ l.length ≤ p + (i + 1) then l.getD (l.length - 1 - p) 0 else l.getD p 0
    rw [getD_setB _ _ _ _ (by simp; omega), getD_setB _ _ _ _ (by omega), hm i (by omega), hm j (by omega), hm p hp]
    by_cases hpj : p = j
    · subst hpj
      rw [if_pos rfl, if_neg (by omega), if_pos (by omega)]
      congr 1; omega
    · rw [if_neg hpj]
      by_cases hpi : p = i
      · subst hpi
        rw [if_pos rfl, if_neg (by omega), if_pos (by omega)]
        congr 1
      · rw [if_neg hpi]
        by_cases hq : p < i ∨ l.length ≤ p + i
        · rw [if_pos hq, if_pos (by omega)]
        · rw [if_neg hq, if_neg (by omega)]
  · have hge : l.length ≤ 2 * i + 1 := by simp at hc; omega
    (repeat (first | refine Stp.s ?_ | refine inBlock_exit' (by decide) ?_ | ((first | refine vc_region fun K KP hK hKP => ?_ | refine Stg.s ?_ | refine guardD_ret0 ?_ | refine exV_intro _ rfl ?_); (try simp only [go_sem, loadL_a]); try ((first | refine hK _ _ ?_ | refine hKP _ _ _ ?_ | refine hKP _ _ (fun _ => ?_)); clear hK hKP K KP))))
    (simp only [postV, resV, oneOf, List.getD_cons_succ, List.getD_cons_zero, and_true, true_and])
    have : m = l.reverse := by
      refine List.ext_getElem (by simp [hml]) fun p h1 h2 => ?_
      have hp : p < l.length := by omega
      have := hm p hp
      rw [List.getD_eq_getElem?_getD, List.getElem?_eq_getElem h1] at this
      simp only [Option.getD_some] at this
      rw [this, List.getElem_reverse]
      by_cases hq : p < i ∨ l.length ≤ p + i
      · rw [if_pos hq, List.getD_eq_getElem?_getD, List.getElem?_eq_getElem (by omega)]; rfl
      · rw [if_neg hq, List.getD_eq_getElem?_getD, List.getElem?_eq_getElem (by omega)]
        simp only [Option.getD_some]
        congr 1; omega
    rw [this]
/-- append at elements of type uint8, k cells each; the slice is one of several. -/
theorem own_u8 {σ0 τ σ : Store} {x y : V} {cs news : List V} {n m : Nat} {ob : Option Nat} {K : V → Store → Prop} (hb : Own 1 σ0 τ x cs n ob) (hle : τ.le σ) (h0 : σ0.le σ) (hrow : ∀ KK : Nat → List V → Prop, KK m news → rowV 1 y σ KK) (hl : news.length = m * 1) (h1 : ∀ c ∈ news, c.one = true) (hm : n + m ≤ 1000000000)
    (h : ∀ x' ob' σ', Own 1 σ0 σ' x' (cs ++ news) (n + m) ob' → (∀ c l, σ c = some l → some c ≠ ob → σ' c = some l) → (∀ c, ob' = some c → ob = some c ∨ σ c = none) → K x' σ') : appendV Tryz.prog 98 98 x y σ K := by
  have hby : Tryz.prog.bytesOf 5 ≤ 1000 := by rw [show Tryz.prog.bytesOf 5 = 1 from by kernel_rfl]; decide
  refine Own.append Tryz.underlying98 Tryz.underlying98 (by exact trivial) in5 ce5 (by decide) zl5 hb hle h0 hrow hl h1 (by rw [maxLen_i]; omega) ?_ h
  exact Nat.le_trans (Nat.mul_le_mul hm hby) (by decide)

/-- append at elements of type uint8, k cells each. -/
theorem append_u8 {σ0 τ σ : Store} {x y : V} {cs news : List V} {n m : Nat} {K : V → Store → Prop} (hb : Bld 1 σ0 τ x cs n) (hle : τ.le σ) (hrow : ∀ KK : Nat → List V → Prop, KK m news → rowV 1 y σ KK) (hl : news.length = m * 1) (h1 : ∀ c ∈ news, c.one = true) (hm : n + m ≤ 1000000000)
    (h : ∀ x' τ' σ', Bld 1 σ0 τ' x' (cs ++ news) (n + m) → τ'.le σ' → (∀ b, σ b = none → σ' b ≠ none → ∃ cap', x' = .sl b 0 (n + m) cap') → K x' σ') : appendV Tryz.prog 98 98 x y σ K := by
  have hby : Tryz.prog.bytesOf 5 ≤ 1000 := by rw [show Tryz.prog.bytesOf 5 = 1 from by kernel_rfl]; decide
  refine Bld.append Tryz.underlying98 Tryz.underlying98 (by exact trivial) in5 ce5 (by decide) zl5 hb hle hrow hl h1 (by rw [maxLen_i]; omega) ?_ h
  exact Nat.le_trans (Nat.mul_le_mul hm hby) (by decide)

theorem byte_of {n : Nat} (h : n < 256) : V.val (.int .u8 (n : Int)) = byteV (UInt8.ofNat n) := by unfold byteV; rw [byte_lo h]

/-- A writer that holds these bytes. -/
def Emp : Store := fun _ => none
theorem Emp.le (σ : Store) : Emp.le σ := fun _ _ h => by cases h
def Wr (σ : Store) (w : Nat) (bs : List UInt8) (ob : Option Nat) : Prop := ∃ x, σ w = some (.cells [x]) ∧ Own 1 Emp σ x (bs.map byteV) bs.length ob ∧ ob ≠ some w
/-- What a call on a writer leaves as it was. -/
structure WStep (σ σ' : Store) (w : Nat) (ob ob' : Option Nat) : Prop where
  keep : ∀ c l, σ c = some l → c ≠ w → some c ≠ ob → σ' c = some l
  new : ∀ c, ob' = some c → ob = some c ∨ σ c = none
  stay : σ w ≠ none → σ' w ≠ none
theorem WStep.trans {σ σ' σ'' : Store} {w : Nat} {o o' o'' : Option Nat} (h : WStep σ σ' w o o') (k : WStep σ' σ'' w o' o'') : WStep σ σ'' w o o'' where
  keep c l hc h1 h2 := k.keep c l (h.keep c l hc h1 h2) h1 (fun e => by
    rcases h.new c e.symm with q | q
    · exact h2 q.symm
    · rw [q] at hc; cases hc)
  new c e := by
    rcases k.new c e with q | q
    · exact h.new c q
    · by_cases h2 : some c = o
      · exact .inl h2.symm
      · right
        cases hc : σ c with
        | none => rfl
        | some l =>
          by_cases h1 : c = w
          · subst h1; exact absurd q (h.stay (by rw [hc]; simp))
          · rw [h.keep c l hc h1 h2] at q; cases q
  stay q := k.stay (h.stay q)
/-- A call on a writer: it writes these bytes behind. -/
def WrC (f : FuncId) (args : List V) (enc : List UInt8) : Prop :=
  entersB Tryz.prog f = true ∧ ∀ (σ : Store) (w : Nat) (bs : List UInt8) (ob : Option Nat), Wr σ w bs ob → bs.length + enc.length ≤ 100000000 →
    HCalls Tryz.prog f (.ptr w 0 :: args) σ fun r σ' => r = .ret (.ptr w 0) ∧ ∃ ob', Wr σ' w (bs ++ enc) ob' ∧ WStep σ σ' w ob ob'
theorem row_own {k : Nat} {σ0 σ : Store} {x : V} {cs : List V} {n : Nat} {ob : Option Nat} (h : Own k σ0 σ x cs n ob) (KK : Nat → List V → Prop) (hk : KK n cs) : rowV k x σ KK := by
  rcases h with ⟨rfl, rfl, rfl, _⟩ | ⟨b, cap, pre, spare, _, rfl, _, hb, hl, _⟩
  · exact hk
  · unfold rowV
    simp only [hb]
    refine ⟨by simp; omega, ?_⟩
    rw [List.append_assoc, List.drop_left, ← hl, List.take_left]
    exact hk
theorem num_wr (n : Nat) (hn : n < 18446744073709551616) : WrC 111 [U64 n] (numB n) := by
  refine ⟨en111, fun σ w bs ob hw hl => ?_⟩
  obtain ⟨x, hx, hO, hne⟩ := hw
  (refine HCalls.of_vc Tryz.func111 rfl ?_; rw [Tryz.ntmps111, Tryz.results111]; simp only [List.length_cons, List.length_nil, Nat.reduceAdd, Nat.reduceSub, List.replicate, List.cons_append, List.nil_append])
  (repeat (first | refine Stp.s ?_ | refine inBlock_exit' (by decide) ?_ | ((first | refine vc_region fun K KP hK hKP => ?_ | refine Stg.s ?_ | refine guardD_ret0 ?_ | refine exV_intro _ rfl ?_); (try simp only [go_sem, loadL_a]); try ((first | refine hK _ _ ?_ | refine hKP _ _ _ ?_ | refine hKP _ _ (fun _ => ?_)); clear hK hKP K KP))))
  refine vc_cond rfl (fun hc => absurd hc (by decide)) (fun _ => ?_)
  have n1 := eq_true (show ¬((128 : Int) = 0) by decide)
  have n2 : IntKind.u8.wrap ((n : Int).tmod 128) = ((n % 128 : Nat) : Int) := by rw [Int.tmod_eq_emod_of_nonneg (by omega), u8_in (by omega) (by omega)]; omega
  have n3 := eq_true (show (0 : Int) ≤ 7 by decide)
  have n4 : (n : Int).fdiv (2 ^ min (Int.toNat 7) 64) = ((n / 128 : Nat) : Int) := by
    rw [show (2 : Int) ^ min (Int.toNat 7) 64 = 128 from by decide, Int.fdiv_eq_ediv_of_nonneg _ (by omega)]; omega
  (repeat (first | refine Stp.s ?_ | refine inBlock_exit' (by decide) ?_ | ((first | refine vc_region fun K KP hK hKP => ?_ | refine Stg.s ?_ | refine guardD_ret0 ?_ | refine exV_intro _ rfl ?_); (try simp only [go_sem, loadL_a, n1, n2, n3, n4]); try ((first | refine hK _ _ ?_ | refine hKP _ _ _ ?_ | refine hKP _ _ (fun _ => ?_)); clear hK hKP K KP))))
  intro b5 hb5
  ((try simp only [go_sem, loadL_a, n1, n2, n3, n4]); refine hK _ _ ?_; clear hK hKP K KP; repeat (first | refine Stp.s ?_ | refine inBlock_exit' (by decide) ?_ | ((first | refine vc_region fun K KP hK hKP => ?_ | refine Stg.s ?_ | refine guardD_ret0 ?_ | refine exV_intro _ rfl ?_); (try simp only [go_sem, loadL_a, n1, n2, n3, n4]); try ((first | refine hK _ _ ?_ | refine hKP _ _ _ ?_ | refine hKP _ _ (fun _ => ?_)); clear hK hKP K KP))))
  have hB0 : Bld 1 σ (σ.set b5 (.cells [V.val (.int .u8 ((n % 128 : Nat) : Int))])) (.sl b5 0 1 1) ([UInt8.ofNat (n % 128)].map byteV) 1 := .inr ⟨b5, 1, [], rfl, hb5, by rw [byte_of (by omega)]; rfl, rfl, by simp, Nat.le_refl _, by decide⟩
  generalize σ.set b5 _ = σ1 at *
  have e10 : (128 : Nat) ^ 10 = 1180591620717411303424 := by decide
  have h10 : n / 128 < 128 ^ 10 := by omega
  refine vc_loop (loopV (fun (a : Nat × Nat × List UInt8 × V) => [.ptr w 0, U64 a.2.1, .top, .top, .top, a.2.2.2, .top, .top, .top, .top, .top, .top, .top, .top, .top, .top, .top, .top, .top, .top, .top, .top, .top, .top, .top, .top, .top, .top, .top, .top, .top, .top, .top, .top, .top, .top, .top]) (fun a τ => Bld 1 σ τ a.2.2.2 (a.2.2.1.map byteV) a.2.2.1.length ∧ a.2.1 < 18446744073709551616 ∧ a.2.1 < 128 ^ a.1 ∧ a.2.2.1 ++ hiF a.1 a.2.1 = UInt8.ofNat (n % 128) :: hiN (n / 128)) (fun a _ => a.1) (10, n / 128, [UInt8.ofNat (n % 128)], .sl b5 0 1 1) (by repeat (first | exact LeEnv.nil | refine LeEnv.same ?_ | refine LeEnv.top ?_)) ⟨hB0, (by show n / 128 < 18446744073709551616; omega), h10, rfl⟩ ?_)
  clear hB0 n2 n4
  rintro ⟨f, m, l, y⟩ τ ⟨hB, hm, hmf, hml⟩
  simp only at hB hm hmf hml
  have n2 : IntKind.u8.wrap ((m : Int).tmod 128) = ((m % 128 : Nat) : Int) := by rw [Int.tmod_eq_emod_of_nonneg (by omega), u8_in (by omega) (by omega)]; omega
  have n4 : (m : Int).fdiv (2 ^ min (Int.toNat 7) 64) = ((m / 128 : Nat) : Int) := by
    rw [show (2 : Int) ^ min (Int.toNat 7) 64 = 128 from by decide, Int.fdiv_eq_ediv_of_nonneg _ (by omega)]; omega
  have n5 : IntKind.u8.wrap (((m % 128 : Nat) : Int) + 128) = ((m % 128 + 128 : Nat) : Int) := by rw [u8_in (by omega) (by omega)]; omega
  have hll : l.length ≤ 11 := by
    have := congrArg List.length hml
    have h2 := hiN_len (n / 128)
    simp at this; omega
  (repeat (first | refine Stp.s ?_ | refine inBlock_exit' (by decide) ?_ | ((first | refine vc_region fun K KP hK hKP => ?_ | refine Stg.s ?_ | refine guardD_ret0 ?_ | refine exV_intro _ rfl ?_); (try simp only [go_sem, loadL_a]); try ((first | refine hK _ _ ?_ | refine hKP _ _ _ ?_ | refine hKP _ _ (fun _ => ?_)); clear hK hKP K KP))))
  refine vc_cond rfl (fun hc => ?_) (fun hc => ?_)
  · have hm0 : m ≠ 0 := by simp at hc; omega
    cases f with
    | zero => simp at hmf; exact absurd hmf hm0
    | succ f =>
      rw [hiF, if_neg hm0] at hml
      (repeat (first | refine Stp.s ?_ | refine inBlock_exit' (by decide) ?_ | ((first | refine vc_region fun K KP hK hKP => ?_ | refine Stg.s ?_ | refine guardD_ret0 ?_ | refine exV_intro _ rfl ?_); (try simp only [go_sem, loadL_a, n1, n2, n5]); try ((first | refine hK _ _ ?_ | refine hKP _ _ _ ?_ | refine hKP _ _ (fun _ => ?_)); clear hK hKP K KP))))
      intro b6 hb6
      refine append_u8 hB (Store.le_set hb6 (Store.le_refl _)) (row_lit (Store.set_same _ _ _) rfl rfl) (m := 1) rfl (by simp [V.one]) (by omega) ?_
      intro y' τ' σ' hB' hle' _
      ((try simp only [go_sem, loadL_a, n3, n4]); refine hK _ _ ?_; clear hK hKP K KP; repeat (first | refine Stp.s ?_ | refine inBlock_exit' (by decide) ?_ | ((first | refine vc_region fun K KP hK hKP => ?_ | refine Stg.s ?_ | refine guardD_ret0 ?_ | refine exV_intro _ rfl ?_); (try simp only [go_sem, loadL_a, n3, n4]); try ((first | refine hK _ _ ?_ | refine hKP _ _ _ ?_ | refine hKP _ _ (fun _ => ?_)); clear hK hKP K KP))))
      refine ⟨(f, m / 128, l ++ [UInt8.ofNat (m % 128 + 128)], y'), τ', ?_, hle', ⟨?_, ?_, ?_, ?_⟩, Nat.lt_succ_self f⟩
      · repeat (first | exact LeEnv.nil | refine LeEnv.same ?_ | refine LeEnv.top ?_)
      · show Bld 1 σ τ' y' _ _
        rw [List.map_append, List.length_append, List.map_cons, List.map_nil, ← byte_of (by omega)]
        exact hB'
      · show m / 128 < 18446744073709551616; omega
      · show m / 128 < 128 ^ f
        rw [Nat.div_lt_iff_lt_mul (by decide), ← Nat.pow_succ]; exact hmf
      · show (l ++ [_]) ++ hiF f (m / 128) = _
        rw [List.append_assoc]; exact hml
  · have hm0 : m = 0 := by simp at hc; omega
    subst hm0
    have hlf : l = UInt8.ofNat (n % 128) :: hiN (n / 128) := by rw [← hml]; cases f <;> simp [hiF]
    have hlr : l.reverse = numB n := by rw [hlf]; rfl
    have hl0 : l.length ≠ 0 := by rw [hlf]; simp
    obtain ⟨b7, cap, spare, rfl, hb7, hst⟩ := hB.at_ hl0
    have hle := hB.base
    (repeat (first | refine Stp.s ?_ | refine inBlock_exit' (by decide) ?_ | ((first | refine vc_region fun K KP hK hKP => ?_ | refine Stg.s ?_ | refine guardD_ret0 ?_ | refine exV_intro _ rfl ?_); (try simp only [go_sem, loadL_a]); try ((first | refine hK _ _ ?_ | refine hKP _ _ _ ?_ | refine hKP _ _ (fun _ => ?_)); clear hK hKP K KP))))
    refine callV_of en170 (reverse_call b7 cap l spare τ hb7 (by omega)) (fun x' σ' ⟨e, f⟩ => ?_) (fun x' σ' ⟨e, f⟩ => by cases e)
    cases e
    subst f
    have hB2 := hst (l.reverse.map byteV) (by simp)
    rw [hlr] at hB2 ⊢
    have hln : l.length = (numB n).length := by rw [← hlr]; simp
    have hle2 := hB2.base
    have hb72 := Store.set_same τ b7 (rowB (numB n) spare)
    generalize τ.set b7 (rowB (numB n) spare) = τ2 at *
    clear hB hB2 hst hb7 hle hml hlf hlr hmf n2 n4 n5 hl0
    rw [hln] at hll ⊢
    have hrow : ∀ KK : Nat → List V → Prop, KK (numB n).length ((numB n).map byteV) → rowV 1 (.sl b7 0 (numB n).length cap) τ2 KK := fun KK hk => by
      unfold rowV
      simp only [hb72]
      refine ⟨by simp, ?_⟩
      rw [List.drop_zero, Nat.mul_one, List.take_append_of_le_length (by simp), List.take_of_length_le (by simp)]
      exact hk
    have hO2 := hO.keep (σ := τ2) (fun b l' _ h => hle2 _ _ h)
    have hx2 := hle2 _ _ hx
    ((try simp only [go_sem, loadL_a, hx2]); (try ((first | refine hK _ _ ?_ | refine hKP _ _ _ ?_ | refine hKP _ _ (fun _ => ?_)); clear hK hKP K KP)); repeat (first | refine Stp.s ?_ | refine inBlock_exit' (by decide) ?_ | ((first | refine vc_region fun K KP hK hKP => ?_ | refine Stg.s ?_ | refine guardD_ret0 ?_ | refine exV_intro _ rfl ?_); (try simp only [go_sem, loadL_a, hx2]); try ((first | refine hK _ _ ?_ | refine hKP _ _ _ ?_ | refine hKP _ _ (fun _ => ?_)); clear hK hKP K KP))))
    refine own_u8 hO2 (Store.le_refl _) (Emp.le _) hrow (by simp) (fun c hc => by obtain ⟨b, _, rfl⟩ := List.mem_map.1 hc; rfl) (by omega) ?_
    intro x' ob' σ' hO' hk1 hk2
    have hx3 : σ' w = some (.cells [x]) := hk1 w _ hx2 (fun e => hne e.symm)
    have hne' : ob' ≠ some w := fun e => by
      rcases hk2 w e with q | q
      · exact hne q
      · rw [hx2] at q; cases q
    have hO3 := hO'
    rcases hO' with ⟨_, q, _⟩ | ⟨b8, cap8, pre8, spare8, rfl, rfl, hr8⟩
    · simp [numB] at q
    ((try simp only [go_sem, loadL_a, hx3]); (try ((first | refine hK _ _ ?_ | refine hKP _ _ _ ?_ | refine hKP _ _ (fun _ => ?_)); clear hK hKP K KP)); repeat (first | refine Stp.s ?_ | refine inBlock_exit' (by decide) ?_ | ((first | refine vc_region fun K KP hK hKP => ?_ | refine Stg.s ?_ | refine guardD_ret0 ?_ | refine exV_intro _ rfl ?_); (try simp only [go_sem, loadL_a, hx3]); try ((first | refine hK _ _ ?_ | refine hKP _ _ _ ?_ | refine hKP _ _ (fun _ => ?_)); clear hK hKP K KP))))
    (simp only [postV, resV, oneOf, List.getD_cons_succ, List.getD_cons_zero, and_true, true_and])
    refine ⟨some b8, ⟨_, Store.set_same _ _ _, ?_, hne'⟩, ⟨fun c l' hc h1 h2 => ?_, fun c e => ?_, fun _ => by rw [Store.set_same]; simp⟩⟩
    · rw [List.map_append, List.length_append]
      exact hO3.keep fun b l' hb h => by
        rw [Store.set_other _ _ (fun e => hne' (by rw [← e]; exact hb))]; exact h
    · rw [Store.set_other _ _ h1]
      exact hk1 c l' (hle2 c l' hc) h2
    · rcases hk2 c e with q | q
      · exact .inl q
      · exact .inr (Store.none_of_le hle2 q)
end Go.Proofs.YtociliegljoldaaGreat

/- Bytes cloned; new writers; what a writer holds. -/
namespace Go.Proofs.YtociliegljoldaaGreat
set_option linter.unusedSimpArgs false
set_option linter.unusedVariables false
open Go.Proofs
attribute [local irreducible] vc vcOps vcDraw vcK vcKP vcDK vcDB HWp HCalls postV Ex.then Ex.inBlock stepD callV appendV guardC guardD exV effV opV loadV storeV indexAddrV indexV sliceV
set_option maxRecDepth 10000
set_option maxHeartbeats 4000000

theorem flat_bytes : ∀ l : List UInt8, (l.map byteV).flatMap V.cells = l.map byteV
  | [] => rfl
  | a :: l => by rw [List.map_cons, List.flatMap_cons, flat_bytes l]; rfl
theorem bytes_len (l : List UInt8) : ∀ x ∈ l.map byteV, x.cells.length = 1 := by
  intro x hx; obtain ⟨b, _, rfl⟩ := List.mem_map.1 hx; rfl
/-- Appended to a new slice without elements: a copy. -/
theorem clone_tail {x : V} {bs : List UInt8} {σ : Store} (hl : bs.length ≤ 1000000000) (hrow : ∀ (τ : Store), σ.le τ → ∀ KK : Nat → List V → Prop, KK bs.length (bs.map byteV) → rowV 1 x τ KK)
    (hnil : ∀ K : V → Store → Prop, (∀ b : Bool, (b = true → bs = []) → K (BV b) σ) → binV Tryz.prog .eql 98 x nilS σ K) : HQuiet Tryz.prog 146 [x] σ (.lst 1 (bs.map byteV)) := by
  refine HQuiet.of ?_; (refine HCalls.of_vc Tryz.func146 rfl ?_; rw [Tryz.ntmps146, Tryz.results146]; simp only [List.length_cons, List.length_nil, Nat.reduceAdd, Nat.reduceSub, List.replicate, List.cons_append, List.nil_append])
  (repeat (first | refine Stp.s ?_ | refine inBlock_exit' (by decide) ?_ | ((first | refine vc_region fun K KP hK hKP => ?_ | refine Stg.s ?_ | refine guardD_ret0 ?_ | refine exV_intro _ rfl ?_); (try simp only [go_sem, loadL_a]); try ((first | refine hK _ _ ?_ | refine hKP _ _ _ ?_ | refine hKP _ _ (fun _ => ?_)); clear hK hKP K KP))))
  refine hnil _ (fun b hb => ?_)
  ((try simp only [go_sem, loadL_a]); (try ((first | refine hK _ _ ?_ | refine hKP _ _ _ ?_ | refine hKP _ _ (fun _ => ?_)); clear hK hKP K KP)); repeat (first | refine Stp.s ?_ | refine inBlock_exit' (by decide) ?_ | ((first | refine vc_region fun K KP hK hKP => ?_ | refine Stg.s ?_ | refine guardD_ret0 ?_ | refine exV_intro _ rfl ?_); (try simp only [go_sem, loadL_a]); try ((first | refine hK _ _ ?_ | refine hKP _ _ _ ?_ | refine hKP _ _ (fun _ => ?_)); clear hK hKP K KP))))
  refine vc_cond rfl (fun hc => ?_) (fun hc => ?_)
  · rw [hb hc]
    (repeat (first | refine Stp.s ?_ | refine inBlock_exit' (by decide) ?_ | ((first | refine vc_region fun K KP hK hKP => ?_ | refine Stg.s ?_ | refine guardD_ret0 ?_ | refine exV_intro _ rfl ?_); (try simp only [go_sem, loadL_a]); try ((first | refine hK _ _ ?_ | refine hKP _ _ _ ?_ | refine hKP _ _ (fun _ => ?_)); clear hK hKP K KP))))
    (simp only [postV, resV, oneOf, List.getD_cons_succ, List.getD_cons_zero, and_true, true_and])
    exact Ends.mk (Bld.weakens (Bld.nil 1 σ) (Store.le_refl _) rfl rfl (by simp))
  · (repeat (first | refine Stp.s ?_ | refine inBlock_exit' (by decide) ?_ | ((first | refine vc_region fun K KP hK hKP => ?_ | refine Stg.s ?_ | refine guardD_ret0 ?_ | refine exV_intro _ rfl ?_); (try simp only [go_sem, loadL_a]); try ((first | refine hK _ _ ?_ | refine hKP _ _ _ ?_ | refine hKP _ _ (fun _ => ?_)); clear hK hKP K KP))))
    intro b5 hb5
    have hB : Bld 1 σ (σ.set b5 (.cells (repL [V.val (.int .u8 0)] 0))) (.sl b5 0 0 0) [] 0 := .inr ⟨b5, 0, [], rfl, hb5, rfl, rfl, by simp, Nat.le_refl _, by decide⟩
    refine append_u8 hB (Store.le_refl _) (hrow _ hB.base) (by simp) (fun c hc => by obtain ⟨b, _, rfl⟩ := List.mem_map.1 hc; rfl) (by omega) ?_
    intro x' τ' σ' hB' hle' _
    ((try simp only [go_sem, loadL_a]); refine hK _ _ ?_; clear hK hKP K KP; repeat (first | refine Stp.s ?_ | refine inBlock_exit' (by decide) ?_ | ((first | refine vc_region fun K KP hK hKP => ?_ | refine Stg.s ?_ | refine guardD_ret0 ?_ | refine exV_intro _ rfl ?_); (try simp only [go_sem, loadL_a]); try ((first | refine hK _ _ ?_ | refine hKP _ _ _ ?_ | refine hKP _ _ (fun _ => ?_)); clear hK hKP K KP))))
    (simp only [postV, resV, oneOf, List.getD_cons_succ, List.getD_cons_zero, and_true, true_and])
    exact Ends.mk (Bld.weakens hB' hle' (by simp) (by rw [flat_bytes]; simp) (bytes_len bs))
/-- Of a slice in owned memory, of an immutable one. -/
theorem clone_own {x : V} {bs : List UInt8} {σ : Store} {ob : Option Nat} (hO : Own 1 Emp σ x (bs.map byteV) bs.length ob) (hl : bs.length ≤ 1000000000) : HQuiet Tryz.prog 146 [x] σ (.lst 1 (bs.map byteV)) := by
  refine clone_tail hl (fun τ hle KK hk => row_own (hO.keep fun b l _ h => hle _ _ h) KK hk) fun K hK => ?_
  rcases hO with ⟨rfl, h, _⟩ | ⟨b, cap, pre, spare, _, rfl, _⟩
  · have hbs : bs = [] := List.eq_nil_of_length_eq_zero h
    skip
    simp only [go_sem, loadL_a]
    exact hK true fun _ => hbs
  · skip
    simp only [go_sem, loadL_a]
    exact hK false fun q => by cases q
theorem clone_lst {bs : List UInt8} {σ : Store} (hl : bs.length ≤ 1000000000) : HQuiet Tryz.prog 146 [.lst 1 (bs.map byteV)] σ (.lst 1 (bs.map byteV)) := by
  refine clone_tail hl (fun τ hle KK hk => row_lst KK (by rw [List.length_map, flat_bytes]; exact hk)) fun K hK => ?_
  cases bs with
  | nil =>
    skip
    rw [List.map_nil, bin_empty]
    exact ⟨⟨_, Tryz.underlying98⟩, .inl rfl, fun b => hK b fun _ => rfl⟩
  | cons c cs =>
    skip
    rw [List.map_cons]
    simp only [go_sem, loadL_a]
    exact hK false fun q => by cases q
theorem new_call (σ : Store) : HCalls Tryz.prog 86 [] σ (fun r σ' => ∃ w, r = .ret (.ptr w 0) ∧ σ w = none ∧ σ' = σ.set w (.cells [nilS])) := by
  (refine HCalls.of_vc Tryz.func86 rfl ?_; rw [Tryz.ntmps86, Tryz.results86]; simp only [List.length_cons, List.length_nil, Nat.reduceAdd, Nat.reduceSub, List.replicate, List.cons_append, List.nil_append])
  (repeat (first | refine Stp.s ?_ | refine inBlock_exit' (by decide) ?_ | ((first | refine vc_region fun K KP hK hKP => ?_ | refine Stg.s ?_ | refine guardD_ret0 ?_ | refine exV_intro _ rfl ?_); (try simp only [go_sem, loadL_a]); try ((first | refine hK _ _ ?_ | refine hKP _ _ _ ?_ | refine hKP _ _ (fun _ => ?_)); clear hK hKP K KP))))
  intro w hw
  ((try simp only [go_sem, loadL_a]); refine hK _ _ ?_; clear hK hKP K KP; repeat (first | refine Stp.s ?_ | refine inBlock_exit' (by decide) ?_ | ((first | refine vc_region fun K KP hK hKP => ?_ | refine Stg.s ?_ | refine guardD_ret0 ?_ | refine exV_intro _ rfl ?_); (try simp only [go_sem, loadL_a]); try ((first | refine hK _ _ ?_ | refine hKP _ _ _ ?_ | refine hKP _ _ (fun _ => ?_)); clear hK hKP K KP))))
  (simp only [postV, resV, oneOf, List.getD_cons_succ, List.getD_cons_zero, and_true, true_and])
  exact ⟨w, rfl, hw, rfl⟩
theorem Wr.new {σ : Store} {w : Nat} : Wr (σ.set w (.cells [nilS])) w [] none := ⟨nilS, Store.set_same _ _ _, .inl ⟨rfl, rfl, rfl, rfl⟩, by simp⟩
theorem bytes_call {σ : Store} {w : Nat} {bs : List UInt8} {ob : Option Nat} (hw : Wr σ w bs ob) (hl : bs.length ≤ 1000000000) : HQuiet Tryz.prog 88 [.ptr w 0] σ (.lst 1 (bs.map byteV)) := by
  obtain ⟨x, hx, hO, _⟩ := hw
  refine HQuiet.of ?_; (refine HCalls.of_vc Tryz.func88 rfl ?_; rw [Tryz.ntmps88, Tryz.results88]; simp only [List.length_cons, List.length_nil, Nat.reduceAdd, Nat.reduceSub, List.replicate, List.cons_append, List.nil_append])
  (repeat (first | refine Stp.s ?_ | refine inBlock_exit' (by decide) ?_ | ((first | refine vc_region fun K KP hK hKP => ?_ | refine Stg.s ?_ | refine guardD_ret0 ?_ | refine exV_intro _ rfl ?_); (try simp only [go_sem, loadL_a]); try ((first | refine hK _ _ ?_ | refine hKP _ _ _ ?_ | refine hKP _ _ (fun _ => ?_)); clear hK hKP K KP))))
  refine vc_cond rfl (fun hc => absurd hc (by decide)) (fun _ => ?_)
  (repeat (first | refine Stp.s ?_ | refine inBlock_exit' (by decide) ?_ | ((first | refine vc_region fun K KP hK hKP => ?_ | refine Stg.s ?_ | refine guardD_ret0 ?_ | refine exV_intro _ rfl ?_); (try simp only [go_sem, loadL_a, hx]); try ((first | refine hK _ _ ?_ | refine hKP _ _ _ ?_ | refine hKP _ _ (fun _ => ?_)); clear hK hKP K KP))))
  refine callV_quiet en146 (clone_own hO hl) ?_
  ((try simp only [go_sem, loadL_a]); (try ((first | refine hK _ _ ?_ | refine hKP _ _ _ ?_ | refine hKP _ _ (fun _ => ?_)); clear hK hKP K KP)); repeat (first | refine Stp.s ?_ | refine inBlock_exit' (by decide) ?_ | ((first | refine vc_region fun K KP hK hKP => ?_ | refine Stg.s ?_ | refine guardD_ret0 ?_ | refine exV_intro _ rfl ?_); (try simp only [go_sem, loadL_a]); try ((first | refine hK _ _ ?_ | refine hKP _ _ _ ?_ | refine hKP _ _ (fun _ => ?_)); clear hK hKP K KP))))
  (simp only [postV, resV, oneOf, List.getD_cons_succ, List.getD_cons_zero, and_true, true_and])
  exact Ends.le rfl (Store.le_refl _)
end Go.Proofs.YtociliegljoldaaGreat

/- A tree, written. -/
namespace Go.Proofs.YtociliegljoldaaGreat
set_option linter.unusedSimpArgs false
set_option linter.unusedVariables false
open Go.Proofs
attribute [local irreducible] vc vcOps vcDraw vcK vcKP vcDK vcDB HWp HCalls postV Ex.then Ex.inBlock stepD callV appendV guardC guardD exV effV opV loadV storeV indexAddrV indexV sliceV
set_option maxRecDepth 10000
set_option maxHeartbeats 4000000

theorem callV_wr {f : FuncId} {args : List V} {enc : List UInt8} {σ : Store} {w : Nat} {bs : List UInt8} {ob : Option Nat} {K KP : V → Store → Prop} (h : WrC f args enc) (hw : Wr σ w bs ob) (hl : bs.length + enc.length ≤ 100000000)
    (k : ∀ ob' σ', Wr σ' w (bs ++ enc) ob' → WStep σ σ' w ob ob' → K (.ptr w 0) σ') : callV Tryz.prog (.fn (.func f) [] []) (.ptr w 0 :: args) σ K KP := by
  have hc := h.2 σ w bs ob hw hl
  refine callV_of h.1 (ps := []) (qs := []) (xs := .ptr w 0 :: args) (by simpa using hc) (fun x σ' q => ?_) (fun x σ' q => ?_)
  · obtain ⟨e, ob', h1, h2⟩ := q
    cases e
    exact k ob' σ' h1 h2
  · cases q.1
theorem WStep.base {σ τ σ' : Store} {w : Nat} {o o' : Option Nat} (h : σ.le τ) (k : WStep τ σ' w o o') : WStep σ σ' w o o' where
  keep c l hc h1 h2 := k.keep c l (h c l hc) h1 h2
  new c e := (k.new c e).imp id fun q => Store.none_of_le h q
  stay q := k.stay (fun e => q (Store.none_of_le h e))
theorem WStep.refl {σ : Store} {w : Nat} {o : Option Nat} : WStep σ σ w o o := ⟨fun _ _ h _ _ => h, fun _ h => .inl h, id⟩
/-- Memory that is none of the writer's. -/
def Off (σ : Store) (w : Nat) (ob : Option Nat) (c : Nat) (k : Blk) : Prop := σ c = some k ∧ c ≠ w ∧ ob ≠ some c
theorem Off.step {σ σ' : Store} {w c : Nat} {o o' : Option Nat} {k : Blk} (h : Off σ w o c k) (s : WStep σ σ' w o o') : Off σ' w o' c k :=
  ⟨s.keep c k h.1 h.2.1 (fun e => h.2.2 e.symm), h.2.1, fun e => by
    rcases s.new c e with q | q
    · exact h.2.2 q
    · rw [h.1] at q; cases q⟩
theorem Off.new {σ : Store} {w c : Nat} {bs : List UInt8} {o : Option Nat} {k : Blk} (hw : Wr σ w bs o) (hc : σ c = none) : Off (σ.set c k) w o c k :=
  ⟨Store.set_same _ _ _, fun e => (by obtain ⟨x, hx, _⟩ := hw; rw [e, hx] at hc; cases hc), fun e => by
    obtain ⟨x, _, hO, _⟩ := hw
    rcases hO with ⟨_, _, _, q⟩ | ⟨b, _, _, _, q, _, _, h4, _⟩
    · rw [e] at q; cases q
    · rw [e] at q; cases q; rw [h4] at hc; cases hc⟩
theorem Wr.le {σ τ : Store} {w : Nat} {bs : List UInt8} {o : Option Nat} (h : Wr σ w bs o) (hle : σ.le τ) : Wr τ w bs o := by
  obtain ⟨x, hx, hO, hne⟩ := h
  exact ⟨x, hle _ _ hx, hO.keep fun b l _ q => hle _ _ q, hne⟩
theorem Off.set {σ : Store} {w c d : Nat} {o : Option Nat} {k l : Blk} (h : Off σ w o c k) (hd : σ d = none) : Off (σ.set d l) w o c k := ⟨Store.keep hd h.1 _, h.2.1, h.2.2⟩

/-- What Put writes of a number. -/
def natB (n : Int) : List UInt8 := numB (max n 0).toNat
def treeB (t : Tr) : List UInt8 := t.kinds.flatMap natB ++ numB t.edges.length ++ t.edges.flatMap fun e => natB e.1 ++ natB e.2
theorem natB_len (n : Int) : (natB n).length ≤ 11 := numB_len _
theorem flat_len {α : Type} (f : α → List UInt8) (m : Nat) (h : ∀ a, (f a).length ≤ m) : ∀ l : List α, (l.flatMap f).length ≤ m * l.length
  | [] => by simp
  | a :: l => by
    have := flat_len f m h l
    have := h a
    rw [List.flatMap_cons, List.length_append, List.length_cons, Nat.mul_succ]; omega
/-- A tree whose numbers are such of Go. -/
structure Tr.Int64 (t : Tr) : Prop where
  k : ∀ n ∈ t.kinds, -9223372036854775808 ≤ n ∧ n ≤ 9223372036854775807
  e : ∀ e ∈ t.edges, (-9223372036854775808 ≤ e.1 ∧ e.1 ≤ 9223372036854775807) ∧ (-9223372036854775808 ≤ e.2 ∧ e.2 ≤ 9223372036854775807)
theorem natN {n : Int} (h : -9223372036854775808 ≤ n ∧ n ≤ 9223372036854775807) : IntKind.u64.wrap (if (0 : Int) > n then 0 else n) = (((max n 0).toNat : Nat) : Int) := by
  split
  · rw [u64_in (by omega) (by omega)]; omega
  · rw [u64_in (by omega) (by omega)]; omega
theorem i64_nsucc {i : Nat} (h : i < 1000000) : IntKind.i64.wrap ((i : Int) + 1) = ((i + 1 : Nat) : Int) := by rw [i64_in (by omega) (by omega)]; omega
end Go.Proofs.YtociliegljoldaaGreat

