/- An index as bytes. -/
import Derived.Test.YtociliegljoldaaGreatI7
namespace Go.Proofs.YtociliegljoldaaGreat
set_option linter.unusedSimpArgs false
set_option linter.unusedVariables false
open Go.Proofs
attribute [local irreducible] vc vcOps vcDraw vcK vcKP vcDK vcDB HWp HCalls postV Ex.then Ex.inBlock stepD callV appendV guardC guardD exV effV opV loadV storeV indexAddrV indexV sliceV
set_option maxRecDepth 10000
set_option maxHeartbeats 4000000

def entB (e : Ent) : List UInt8 := numB e.node.toNat ++ numB e.n ++ numB e.s.toNat
def entsB (l : List Ent) : List UInt8 := l.flatMap entB
def labsB (w : List LbI) : List UInt8 := w.flatMap fun l => labB l.1
def ixB (x : Ix) : List UInt8 := numB x.cart.toNat ++ numB x.l.length ++ entsB x.l ++ numB x.w.length ++ labsB x.w
theorem entB_len (e : Ent) : (entB e).length ≤ 33 := by
  have := numB_len e.node.toNat
  have := numB_len e.n
  have := numB_len e.s.toNat
  unfold entB; simp only [List.length_append]; omega
theorem labsB_len (w : List LbI) : (labsB w).length ≤ 198 * w.length := flat_len (fun l : LbI => labB l.1) 198 (fun a => labB_len a.1 a.2.ok) w
theorem entsB_len (l : List Ent) : (entsB l).length ≤ 33 * l.length := flat_len entB 33 entB_len l
theorem ixB_len (x : Ix) (hx : x.Ok) : (ixB x).length ≤ 100000 := by
  have := numB_len x.cart.toNat
  have := numB_len x.l.length
  have := numB_len x.w.length
  have := entsB_len x.l
  have := labsB_len x.w
  have := hx.l
  have := hx.w
  unfold ixB; simp only [List.length_append]; omega
theorem entLoad (pre spare : List V) (l : List Ent) (i : Nat) (hi : i < l.length) (K : V → Prop) : loadL Tryz.prog 118 (pre ++ l.flatMap entC ++ spare) (pre.length + i * 3) K = K (entV l[i]) := by
  rw [loadL_a kd118, ce118]
  have hl3 : ∀ l : List Ent, (l.flatMap entC).length = l.length * 3 := fun l => by
    induction l with
    | nil => rfl
    | cons a l ih => rw [List.flatMap_cons, List.length_append, ih, List.length_cons]; show 3 + _ = _; omega
  have e : ((pre ++ l.flatMap entC ++ spare).drop (pre.length + i * 3)).take 3 = entC l[i] := by
    have hs : l = l.take i ++ l[i] :: l.drop (i + 1) := by rw [List.getElem_cons_drop, List.take_append_drop]
    have h2 : l.flatMap entC = (l.take i).flatMap entC ++ (entC l[i] ++ (l.drop (i + 1)).flatMap entC) := by
      conv => lhs; rw [hs]
      rw [List.flatMap_append, List.flatMap_cons]
    have h3 : (pre ++ (l.take i).flatMap entC).length = pre.length + i * 3 := by rw [List.length_append, hl3, List.length_take]; congr 1; omega
    rw [h2, ← h3]
    rw [show pre ++ ((l.take i).flatMap entC ++ (entC l[i] ++ (l.drop (i + 1)).flatMap entC)) ++ spare = (pre ++ (l.take i).flatMap entC) ++ (entC l[i] ++ ((l.drop (i + 1)).flatMap entC ++ spare)) by simp only [List.append_assoc]]
    rw [List.drop_left, List.take_append_of_le_length (Nat.le_refl 3)]
    rfl
  rw [e]
  have hb : pre.length + i * 3 + 3 ≤ (pre ++ l.flatMap entC ++ spare).length := by rw [List.length_append, List.length_append, hl3]; omega
  simp only [decide_eq_true_eq, hb, true_and]

/-- A row that is none of the writer's. -/
def OffR (σ : Store) (w : Nat) (o : Option Nat) (k : Nat) (x : V) (cs : List V) (n : Nat) (ob : Option Nat) : Prop := Own k Emp σ x cs n ob ∧ ∀ c, ob = some c → c ≠ w ∧ o ≠ some c
theorem OffR.step {σ σ' : Store} {w : Nat} {o o' : Option Nat} {k : Nat} {x : V} {cs : List V} {n : Nat} {ob : Option Nat} (h : OffR σ w o k x cs n ob) (s : WStep σ σ' w o o') : OffR σ' w o' k x cs n ob :=
  ⟨h.1.keep fun c l e hc => s.keep c l hc (h.2 c e).1 (fun q => (h.2 c e).2 q.symm), fun c e => ⟨(h.2 c e).1, fun q => by
    rcases s.new c q with r | r
    · exact (h.2 c e).2 r
    · exact h.1.there e r⟩⟩
theorem OffR.set {σ : Store} {w d : Nat} {o : Option Nat} {k : Nat} {x : V} {cs : List V} {n : Nat} {ob : Option Nat} {l : Blk} (h : OffR σ w o k x cs n ob) (hd : σ d = none) : OffR (σ.set d l) w o k x cs n ob :=
  ⟨h.1.keep fun c k _ hc => Store.keep hd hc _, h.2⟩
theorem iSave {b : Nat} {σ : Store} {x : Ix} {ob : Option Nat} (h : IxR σ b x ob) (hx : x.Ok) (g : x.Good) : HQuiet Tryz.prog 52 [.ptr b 0] σ (.lst 1 ((ixB x).map byteV)) := by
  obtain ⟨xl, hb, hO, hne⟩ := h
  refine HQuiet.of ?_; (refine HCalls.of_vc Tryz.func52 rfl ?_; rw [Tryz.ntmps52, Tryz.results52]; simp only [List.length_cons, List.length_nil, Nat.reduceAdd, Nat.reduceSub, List.replicate, List.cons_append, List.nil_append])
  have hp : decide (0 < x.cart) = true := decide_eq_true (by have := g.c; omega)
  (repeat (first | refine Stp.s ?_ | refine inBlock_exit' (by decide) ?_ | ((first | refine vc_region fun K KP hK hKP => ?_ | refine Stg.s ?_ | refine guardD_ret0 ?_ | refine exV_intro _ rfl ?_); (try simp only [go_sem, loadL_a]); try ((first | refine hK _ _ ?_ | refine hKP _ _ _ ?_ | refine hKP _ _ (fun _ => ?_)); clear hK hKP K KP))))
  ((try simp only [go_sem, loadL_a]); refine callV_quiet en97 ((imade b _ _ x.cart hb (ixC_0 x xl))) ?_)
  ((try simp only [go_sem, loadL_a, hp]); (try ((first | refine hK _ _ ?_ | refine hKP _ _ _ ?_ | refine hKP _ _ (fun _ => ?_)); clear hK hKP K KP)); repeat (first | refine Stp.s ?_ | refine inBlock_exit' (by decide) ?_ | ((first | refine vc_region fun K KP hK hKP => ?_ | refine Stg.s ?_ | refine guardD_ret0 ?_ | refine exV_intro _ rfl ?_); (try simp only [go_sem, loadL_a, hp]); try ((first | refine hK _ _ ?_ | refine hKP _ _ _ ?_ | refine hKP _ _ (fun _ => ?_)); clear hK hKP K KP))))
  refine vc_cond rfl (fun hc => absurd hc (by decide)) (fun _ => ?_)
  have hOl : ∀ (υ : Store) (K : V → Store → Prop), lenV Tryz.prog 115 xl υ K = K (I64 x.l.length) υ := fun υ K => hO.lenV (P := Tryz.prog) Tryz.underlying115
  have wc : IntKind.u64.wrap x.cart = ((x.cart.toNat : Nat) : Int) := by have := g.c; rw [Int.toNat_of_nonneg (by omega), u64_in (by omega) (by omega)]
  have hxl := hx.l
  have hxw := hx.w
  have wl : IntKind.u64.wrap (x.l.length : Int) = ((x.l.length : Nat) : Int) := u64_in (by omega) (by omega)
  have ww : IntKind.u64.wrap (x.w.length : Int) = ((x.w.length : Nat) : Int) := u64_in (by omega) (by omega)
  (repeat (first | refine Stp.s ?_ | refine inBlock_exit' (by decide) ?_ | ((first | refine vc_region fun K KP hK hKP => ?_ | refine Stg.s ?_ | refine guardD_ret0 ?_ | refine exV_intro _ rfl ?_); (try simp only [go_sem]); try ((first | refine hK _ _ ?_ | refine hKP _ _ _ ?_ | refine hKP _ _ (fun _ => ?_)); clear hK hKP K KP))))
  ((repeat first | refine Stp.s ?_ | refine inBlock_exit' (by decide) ?_); refine vc_draw mixed [ 0, 6, 13 ] [1, 2, 3, 4, 5, 7, 8, 9, 10, 11, 12, 0, 6, 13, 14 ] [ ] [] (fun υ => υ b = some (.cells (ixC x xl))) (by kernel_rfl) (by kernel_rfl) (by kernel_rfl) (hb) fun K KP hK hKP => ?_; simp only [go_sem]; try ((first | refine hK _ _ ?_ | refine hKP _ _ _ ?_ | refine hKP _ _ (fun _ => ?_)); clear hK hKP K KP))
  refine exV_intro (.ptr b 0) (fun _ _ => rfl) ?_
  ((try simp only [go_sem, wc]); (try ((first | refine hK _ _ ?_ | refine hKP _ _ _ ?_ | refine hKP _ _ (fun _ => ?_)); clear hK hKP K KP)); repeat (first | refine Stp.s ?_ | refine inBlock_exit' (by decide) ?_ | ((first | refine vc_region fun K KP hK hKP => ?_ | refine Stg.s ?_ | refine guardD_ret0 ?_ | refine exV_intro _ rfl ?_); (try simp only [go_sem, wc]); try ((first | refine hK _ _ ?_ | refine hKP _ _ _ ?_ | refine hKP _ _ (fun _ => ?_)); clear hK hKP K KP))))
  refine exV_intro (I64 x.cart) (fun υ hυ => by rw [hυ]; rfl) ?_
  ((try simp only [go_sem, wc]); (try ((first | refine hK _ _ ?_ | refine hKP _ _ _ ?_ | refine hKP _ _ (fun _ => ?_)); clear hK hKP K KP)); repeat (first | refine Stp.s ?_ | refine inBlock_exit' (by decide) ?_ | ((first | refine vc_region fun K KP hK hKP => ?_ | refine Stg.s ?_ | refine guardD_ret0 ?_ | refine exV_intro _ rfl ?_); (try simp only [go_sem, wc]); try ((first | refine hK _ _ ?_ | refine hKP _ _ _ ?_ | refine hKP _ _ (fun _ => ?_)); clear hK hKP K KP))))
  refine exV_intro xl (fun υ hυ => by rw [hυ]; simp only [ixC_l x hx.v]) ?_
  ((try simp only [go_sem, wl, hOl]); (try ((first | refine hK _ _ ?_ | refine hKP _ _ _ ?_ | refine hKP _ _ (fun _ => ?_)); clear hK hKP K KP)); repeat (first | refine Stp.s ?_ | refine inBlock_exit' (by decide) ?_ | ((first | refine vc_region fun K KP hK hKP => ?_ | refine Stg.s ?_ | refine guardD_ret0 ?_ | refine exV_intro _ rfl ?_); (try simp only [go_sem, wl, hOl]); try ((first | refine hK _ _ ?_ | refine hKP _ _ _ ?_ | refine hKP _ _ (fun _ => ?_)); clear hK hKP K KP))))
  refine effV_intro (callV_of en86 (new_call σ) (fun y σ' q => ?_) (fun y σ' q => by obtain ⟨w, e, _⟩ := q; cases e))
  obtain ⟨w, e, hw0, rfl⟩ := q
  cases e
  have hwr : Wr (σ.set w (.cells [nilS])) w [] none := Wr.new
  have h1' := Store.keep hw0 hb (.cells [nilS])
  have hle2 : σ.le (σ.set w (.cells [nilS])) := Store.le_set hw0 (Store.le_refl _)
  have hbw : b ≠ w := fun e => by rw [e, hw0] at hb; cases hb
  have hbO : Off (σ.set w (.cells [nilS])) w none b (.cells (ixC x xl)) := ⟨h1', hbw, by simp⟩
  have hOw : ∀ c, ob = some c → c ≠ w := fun c e q => by have := hO.there e; rw [q, hw0] at this; exact this rfl
  have hR1 : OffR (σ.set w (.cells [nilS])) w none 3 xl (x.l.flatMap entC) x.l.length ob := ⟨hO.keep (fun c l _ hc => hle2 c l hc), fun c e => ⟨hOw c e, by simp⟩⟩
  refine ⟨h1', ?_⟩
  generalize σ.set w _ = σ1 at *
  have c1 := numB_len x.cart.toNat
  have c2 := numB_len x.l.length
  have c3 := numB_len x.w.length
  ((try simp only [go_sem, wl]); (try ((first | refine hK _ _ ?_ | refine hKP _ _ _ ?_ | refine hKP _ _ (fun _ => ?_)); clear hK hKP K KP)); repeat (first | refine Stp.s ?_ | refine inBlock_exit' (by decide) ?_ | ((first | refine vc_region fun K KP hK hKP => ?_ | refine Stg.s ?_ | refine guardD_ret0 ?_ | refine exV_intro _ rfl ?_); (try simp only [go_sem, wl]); try ((first | refine hK _ _ ?_ | refine hKP _ _ _ ?_ | refine hKP _ _ (fun _ => ?_)); clear hK hKP K KP))))
  refine effV_intro (callV_wr (num_wr _ (by have := g.c; omega)) hwr (by simp only [List.length_append, List.length_nil]; omega) (fun o1 σ2 hw2 hs2 => ?_))
  have b2 := hbO.step hs2
  have r2 := hR1.step hs2
  refine ⟨b2.1, ?_⟩
  ((try simp only [go_sem, loadL_a]); (try ((first | refine hK _ _ ?_ | refine hKP _ _ _ ?_ | refine hKP _ _ (fun _ => ?_)); clear hK hKP K KP)); repeat (first | refine Stp.s ?_ | refine inBlock_exit' (by decide) ?_ | ((first | refine vc_region fun K KP hK hKP => ?_ | refine Stg.s ?_ | refine guardD_ret0 ?_ | refine exV_intro _ rfl ?_); (try simp only [go_sem, loadL_a]); try ((first | refine hK _ _ ?_ | refine hKP _ _ _ ?_ | refine hKP _ _ (fun _ => ?_)); clear hK hKP K KP))))
  refine effV_intro (callV_wr (num_wr x.l.length (by omega)) hw2 (by simp only [List.length_append, List.length_nil]; omega) (fun o2 σ3 hw3 hs3 => ?_))
  have b3 := b2.step hs3
  have r3 := r2.step hs3
  refine ⟨b3.1, ?_⟩
  rw [List.nil_append] at hw3
  have hs13 := hs2.trans hs3
  clear hwr hbO hR1 hw2 b2 r2 hs2 hs3 h1'
  simp only [go_sem]
  refine exV_intro (.ptr w 0) (fun _ _ => rfl) ?_
  ((try simp only [go_sem, loadL_a]); refine hK _ _ ?_; clear hK hKP K KP; repeat (first | refine then_normal ?_ | refine inBlock_normal ?_))
  refine vc_seq ?_
  refine vc_join (fun j (_ : Unit) => [.ptr b 0, j 1, j 2, .ptr w 0, j 4, j 5, j 6, j 7, j 8, j 9, j 10, j 11, j 12, j 13, j 14, j 15, j 16, j 17, j 18, j 19, j 20, j 21, j 22, j 23, j 24, j 25, j 26, j 27, xl, I64 x.l.length, I64 (0 : Nat), j 31, j 32, j 33, j 34, j 35, j 36, j 37, j 38, j 39, j 40, j 41, j 42, j 43, j 44, j 45, j 46, j 47, j 48, j 49, j 50, j 51, j 52, j 53, j 54, j 55, j 56, j 57, j 58, j 59, j 60, j 61, j 62, j 63, j 64, j 65, j 66, j 67, j 68, j 69, j 70, j 71, j 72]) (fun _ τ => τ = σ3) (fun j _ τ e => ?_) (fun rest hrest => ?_)
  rotate_left
  · rcases r3.1 with ⟨rfl, hn0, _⟩ | ⟨bo, cap, pre, spare, _, rfl, _⟩
    · (repeat (first | refine Stp.s ?_ | refine inBlock_exit' (by decide) ?_ | ((first | refine vc_region fun K KP hK hKP => ?_ | refine Stg.s ?_ | refine guardD_ret0 ?_ | refine exV_intro _ rfl ?_); (try simp only [go_sem, b3.1, ixC_l x hx.v]); try ((first | refine hK _ _ ?_ | refine hKP _ _ _ ?_ | refine hKP _ _ (fun _ => ?_)); clear hK hKP K KP))))
      exact hrest () _ _ rfl (by rw [hn0]; rfl)
    · (repeat (first | refine Stp.s ?_ | refine inBlock_exit' (by decide) ?_ | ((first | refine vc_region fun K KP hK hKP => ?_ | refine Stg.s ?_ | refine guardD_ret0 ?_ | refine exV_intro _ rfl ?_); (try simp only [go_sem, b3.1, ixC_l x hx.v]); try ((first | refine hK _ _ ?_ | refine hKP _ _ _ ?_ | refine hKP _ _ (fun _ => ?_)); clear hK hKP K KP))))
      exact hrest () _ _ rfl rfl
  subst e

  refine vc_block ?_
  refine vc_loop (loopV (fun (a : Nat × Option Nat) => [.ptr b 0, .top, .top, .ptr w 0, .top, .top, .top, .top, .top, .top, .top, .top, .top, .top, .top, .top, .top, .top, .top, .top, .top, .top, .top, .top, .top, .top, .top, .top, xl, I64 x.l.length, I64 a.1, .top, .top, .top, .top, .top, .top, .top, .top, .top, .top, .top, .top, .top, .top, .top, .top, .top, .top, .top, .top, .top, .top, .top, .top, .top, .top, .top, .top, .top, .top, .top, .top, .top, .top, .top, .top, .top, .top, .top, .top, .top, .top]) (fun a τ => a.1 ≤ x.l.length ∧ Wr τ w (numB x.cart.toNat ++ numB x.l.length ++ entsB (x.l.take a.1)) a.2 ∧ WStep σ1 τ w none a.2 ∧ Off τ w a.2 b (.cells (ixC x xl)) ∧ OffR τ w a.2 3 xl (x.l.flatMap entC) x.l.length ob) (fun a _ => x.l.length - a.1) (0, o2) (by repeat (first | exact LeEnv.nil | refine LeEnv.same ?_ | refine LeEnv.top ?_)) ⟨Nat.zero_le _, by simpa [entsB] using hw3, hs13, b3, r3⟩ ?_)

  clear hw3 hs13 b3 r3
  rintro ⟨i, o⟩ τ ⟨hi, hw, hs, hbO, hR⟩
  simp only at hi hw hs hbO hR
  (repeat (first | refine Stp.s ?_ | refine inBlock_exit' (by decide) ?_ | ((first | refine vc_region fun K KP hK hKP => ?_ | refine Stg.s ?_ | refine guardD_ret0 ?_ | refine exV_intro _ rfl ?_); (try simp only [go_sem, loadL_a]); try ((first | refine hK _ _ ?_ | refine hKP _ _ _ ?_ | refine hKP _ _ (fun _ => ?_)); clear hK hKP K KP))))
  refine vc_cond rfl (fun hq => ?_) (fun hq => ?_)
  · have hlt : i < x.l.length := by simpa using hq
    obtain ⟨hOR, hOR2⟩ := hR
    rcases hOR with ⟨rfl, hn0, _⟩ | ⟨bo, cap, pre, spare, rfl, rfl, _, hτ, hcl, hsl, hnc, hcm⟩
    · omega
    have ldE := entLoad pre spare x.l i hlt
    have hge := g.l _ (List.getElem_mem hlt)
    have htk : x.l.take (i + 1) = x.l.take i ++ [x.l[i]] := List.take_succ_eq_append_getElem hlt
    generalize x.l[i] = y at *
    obtain ⟨nd, nn, se⟩ := y
    simp only at hge
    have g0 := eq_true (show (0 : Int) ≤ (i : Int) by omega)
    have g1 := eq_true (show (i : Int) < (x.l.length : Int) by omega)
    have e1 : IntKind.u64.wrap nd = ((nd.toNat : Nat) : Int) := by have := hge.1; rw [Int.toNat_of_nonneg (by omega), u64_in (by omega) (by omega)]
    have e2 : IntKind.u64.wrap (nn : Int) = ((nn : Nat) : Int) := by have := hge.2.1; exact u64_in (by omega) (by omega)
    have e3 : IntKind.u64.wrap se = ((se.toNat : Nat) : Int) := by have := hge.2.2; rw [Int.toNat_of_nonneg (by omega), u64_in (by omega) (by omega)]
    have hR : OffR τ w o 3 (.sl bo pre.length x.l.length cap) (x.l.flatMap entC) x.l.length (some bo) := ⟨.inr ⟨bo, cap, pre, spare, rfl, rfl, rfl, hτ, hcl, hsl, hnc, hcm⟩, hOR2⟩
    (repeat (first | refine Stp.s ?_ | refine inBlock_exit' (by decide) ?_ | ((first | refine vc_region fun K KP hK hKP => ?_ | refine Stg.s ?_ | refine guardD_ret0 ?_ | refine exV_intro _ rfl ?_); (try simp only [go_sem, g0, g1, hτ, ldE, Int.toNat_natCast]); try ((first | refine hK _ _ ?_ | refine hKP _ _ _ ?_ | refine hKP _ _ (fun _ => ?_)); clear hK hKP K KP))))
    intro b5 hb5
    refine ⟨rfl, fun c hc => by simp only [entC, List.mem_cons, List.not_mem_nil, or_false] at hc; rcases hc with rfl | rfl | rfl <;> rfl, Nat.le_refl 3, ?_⟩
    have e5 : setL [V.val (Value.int IntKind.i64 0), V.val (Value.int IntKind.u32 0), V.val (Value.int IntKind.i64 0)] 0 (entC ⟨nd, nn, se⟩) = [I64 nd, U32 nn, I64 se] := rfl
    rw [e5]
    have h5 : Off (τ.set b5 (.cells [I64 nd, U32 nn, I64 se])) w o b5 (.cells [I64 nd, U32 nn, I64 se]) := Off.new hw hb5
    have hle5 : τ.le (τ.set b5 (.cells [I64 nd, U32 nn, I64 se])) := Store.le_set hb5 (Store.le_refl _)
    have hw5 := hw.le hle5
    have hs5 := hs.trans (WStep.base hle5 (WStep.refl (w := w) (o := o)))
    have hb5' := hbO.set (l := .cells [I64 nd, U32 nn, I64 se]) hb5
    have hR5 := hR.set (l := .cells [I64 nd, U32 nn, I64 se]) hb5
    clear hs hbO hR hτ
    generalize τ.set b5 _ = τ1 at *
    have l1 := numB_len nd.toNat
    have l2 := numB_len nn
    have l3 := numB_len se.toNat
    have l4 := entsB_len (x.l.take i)
    rw [List.length_take] at l4
    ((try simp only [go_sem]); (try ((first | refine hK _ _ ?_ | refine hKP _ _ _ ?_ | refine hKP _ _ (fun _ => ?_)); clear hK hKP K KP)); repeat (first | refine Stp.s ?_ | refine inBlock_exit' (by decide) ?_ | ((first | refine vc_region fun K KP hK hKP => ?_ | refine Stg.s ?_ | refine guardD_ret0 ?_ | refine exV_intro _ rfl ?_); (try simp only [go_sem]); try ((first | refine hK _ _ ?_ | refine hKP _ _ _ ?_ | refine hKP _ _ (fun _ => ?_)); clear hK hKP K KP))))
    ((repeat first | refine Stp.s ?_ | refine inBlock_exit' (by decide) ?_); refine vc_draw mixed [ 5, 10, 14 ] [0, 1, 2, 3, 4, 6, 7, 8, 9, 11, 12, 13, 5, 10, 14 ] [ ] [] (fun υ => υ b5 = some (.cells [I64 nd, U32 nn, I64 se])) (by kernel_rfl) (by kernel_rfl) (by kernel_rfl) (h5.1) fun K KP hK hKP => ?_; simp only [go_sem]; try ((first | refine hK _ _ ?_ | refine hKP _ _ _ ?_ | refine hKP _ _ (fun _ => ?_)); clear hK hKP K KP))
    refine exV_intro (.ptr w 0) (fun _ _ => rfl) ?_
    ((try simp only [go_sem, e1]); (try ((first | refine hK _ _ ?_ | refine hKP _ _ _ ?_ | refine hKP _ _ (fun _ => ?_)); clear hK hKP K KP)); repeat (first | refine Stp.s ?_ | refine inBlock_exit' (by decide) ?_ | ((first | refine vc_region fun K KP hK hKP => ?_ | refine Stg.s ?_ | refine guardD_ret0 ?_ | refine exV_intro _ rfl ?_); (try simp only [go_sem, e1]); try ((first | refine hK _ _ ?_ | refine hKP _ _ _ ?_ | refine hKP _ _ (fun _ => ?_)); clear hK hKP K KP))))
    refine exV_intro (I64 nd) (fun υ hυ => by rw [hυ]; rfl) ?_
    ((try simp only [go_sem, e1]); (try ((first | refine hK _ _ ?_ | refine hKP _ _ _ ?_ | refine hKP _ _ (fun _ => ?_)); clear hK hKP K KP)); repeat (first | refine Stp.s ?_ | refine inBlock_exit' (by decide) ?_ | ((first | refine vc_region fun K KP hK hKP => ?_ | refine Stg.s ?_ | refine guardD_ret0 ?_ | refine exV_intro _ rfl ?_); (try simp only [go_sem, e1]); try ((first | refine hK _ _ ?_ | refine hKP _ _ _ ?_ | refine hKP _ _ (fun _ => ?_)); clear hK hKP K KP))))
    refine exV_intro (U32 nn) (fun υ hυ => by rw [hυ]; rfl) ?_
    ((try simp only [go_sem, e2]); (try ((first | refine hK _ _ ?_ | refine hKP _ _ _ ?_ | refine hKP _ _ (fun _ => ?_)); clear hK hKP K KP)); repeat (first | refine Stp.s ?_ | refine inBlock_exit' (by decide) ?_ | ((first | refine vc_region fun K KP hK hKP => ?_ | refine Stg.s ?_ | refine guardD_ret0 ?_ | refine exV_intro _ rfl ?_); (try simp only [go_sem, e2]); try ((first | refine hK _ _ ?_ | refine hKP _ _ _ ?_ | refine hKP _ _ (fun _ => ?_)); clear hK hKP K KP))))
    refine exV_intro (I64 se) (fun υ hυ => by rw [hυ]; rfl) ?_
    ((try simp only [go_sem, e3]); (try ((first | refine hK _ _ ?_ | refine hKP _ _ _ ?_ | refine hKP _ _ (fun _ => ?_)); clear hK hKP K KP)); repeat (first | refine Stp.s ?_ | refine inBlock_exit' (by decide) ?_ | ((first | refine vc_region fun K KP hK hKP => ?_ | refine Stg.s ?_ | refine guardD_ret0 ?_ | refine exV_intro _ rfl ?_); (try simp only [go_sem, e3]); try ((first | refine hK _ _ ?_ | refine hKP _ _ _ ?_ | refine hKP _ _ (fun _ => ?_)); clear hK hKP K KP))))
    refine effV_intro (callV_wr (num_wr _ (by omega)) hw5 (by simp only [List.length_append]; omega) (fun o6 σ6 hw6 hs6 => ?_))
    have p6 := h5.step hs6
    refine ⟨p6.1, ?_⟩
    ((try simp only [go_sem, loadL_a]); (try ((first | refine hK _ _ ?_ | refine hKP _ _ _ ?_ | refine hKP _ _ (fun _ => ?_)); clear hK hKP K KP)); repeat (first | refine Stp.s ?_ | refine inBlock_exit' (by decide) ?_ | ((first | refine vc_region fun K KP hK hKP => ?_ | refine Stg.s ?_ | refine guardD_ret0 ?_ | refine exV_intro _ rfl ?_); (try simp only [go_sem, loadL_a]); try ((first | refine hK _ _ ?_ | refine hKP _ _ _ ?_ | refine hKP _ _ (fun _ => ?_)); clear hK hKP K KP))))
    refine effV_intro (callV_wr (num_wr _ (by omega)) hw6 (by simp only [List.length_append]; omega) (fun o7 σ7 hw7 hs7 => ?_))
    have p7 := p6.step hs7
    refine ⟨p7.1, ?_⟩
    ((try simp only [go_sem, loadL_a]); (try ((first | refine hK _ _ ?_ | refine hKP _ _ _ ?_ | refine hKP _ _ (fun _ => ?_)); clear hK hKP K KP)); repeat (first | refine Stp.s ?_ | refine inBlock_exit' (by decide) ?_ | ((first | refine vc_region fun K KP hK hKP => ?_ | refine Stg.s ?_ | refine guardD_ret0 ?_ | refine exV_intro _ rfl ?_); (try simp only [go_sem, loadL_a]); try ((first | refine hK _ _ ?_ | refine hKP _ _ _ ?_ | refine hKP _ _ (fun _ => ?_)); clear hK hKP K KP))))
    refine effV_intro (callV_wr (num_wr _ (by omega)) hw7 (by simp only [List.length_append]; omega) (fun o8 σ8 hw8 hs8 => ?_))
    have p8 := p7.step hs8
    refine ⟨p8.1, ?_⟩
    ((try simp only [go_sem, loadL_a, i64_up (show i ≤ 10000000 by omega)]); (try ((first | refine hK _ _ ?_ | refine hKP _ _ _ ?_ | refine hKP _ _ (fun _ => ?_)); clear hK hKP K KP)); repeat (first | refine Stp.s ?_ | refine inBlock_exit' (by decide) ?_ | ((first | refine vc_region fun K KP hK hKP => ?_ | refine Stg.s ?_ | refine guardD_ret0 ?_ | refine exV_intro _ rfl ?_); (try simp only [go_sem, loadL_a, i64_up (show i ≤ 10000000 by omega)]); try ((first | refine hK _ _ ?_ | refine hKP _ _ _ ?_ | refine hKP _ _ (fun _ => ?_)); clear hK hKP K KP))))
    refine ⟨(i + 1, o8), σ8, (by repeat (first | exact LeEnv.nil | refine LeEnv.same ?_ | refine LeEnv.top ?_)), Store.le_refl _, ⟨hlt, ?_, ((hs5.trans hs6).trans hs7).trans hs8, ((hb5'.step hs6).step hs7).step hs8, ((hR5.step hs6).step hs7).step hs8⟩, by show x.l.length - (i + 1) < x.l.length - i; omega⟩
    show Wr σ8 w (_ ++ entsB (x.l.take (i + 1))) o8
    rw [htk]
    have he : entsB (x.l.take i ++ [⟨nd, nn, se⟩]) = entsB (x.l.take i) ++ (numB nd.toNat ++ numB nn ++ numB se.toNat) := by unfold entsB; rw [List.flatMap_append, List.flatMap_cons, List.flatMap_nil, List.append_nil]; rfl
    rw [he]
    simpa only [List.append_assoc] using hw8
  · have hin : i = x.l.length := by simp at hq; omega
    subst hin
    rw [List.take_length] at hw
    have l4 := entsB_len x.l
    have l5 := labsB_len x.w
    ((try simp only [go_sem, hbO.1, ixC_w x hx.v, labsV, List.length_map, ww]); (try ((first | refine hK _ _ ?_ | refine hKP _ _ _ ?_ | refine hKP _ _ (fun _ => ?_)); clear hK hKP K KP)); repeat (first | refine Stp.s ?_ | refine inBlock_exit' (by decide) ?_ | ((first | refine vc_region fun K KP hK hKP => ?_ | refine Stg.s ?_ | refine guardD_ret0 ?_ | refine exV_intro _ rfl ?_); (try simp only [go_sem, hbO.1, ixC_w x hx.v, labsV, List.length_map, ww]); try ((first | refine hK _ _ ?_ | refine hKP _ _ _ ?_ | refine hKP _ _ (fun _ => ?_)); clear hK hKP K KP))))
    refine callV_wr (num_wr x.w.length (by omega)) hw (by simp only [List.length_append]; omega) (fun o3 σ4 hw4 hs4 => ?_)
    have hb4 := hbO.step hs4
    have hR4 := hR.step hs4
    have hs14 := hs.trans hs4
    clear hw hs hbO hR hq hs4
    ((try simp only [go_sem, hb4.1, ixC_w x hx.v, labsV, List.length_map]); (try ((first | refine hK _ _ ?_ | refine hKP _ _ _ ?_ | refine hKP _ _ (fun _ => ?_)); clear hK hKP K KP)); repeat (first | refine Stp.s ?_ | refine inBlock_exit' (by decide) ?_ | ((first | refine vc_region fun K KP hK hKP => ?_ | refine Stg.s ?_ | refine guardD_ret0 ?_ | refine exV_intro _ rfl ?_); (try simp only [go_sem, hb4.1, ixC_w x hx.v, labsV, List.length_map]); try ((first | refine hK _ _ ?_ | refine hKP _ _ _ ?_ | refine hKP _ _ (fun _ => ?_)); clear hK hKP K KP))))
    refine vc_loop (loopV (fun (a : Nat × Option Nat) => [.ptr b 0, .top, .top, .ptr w 0, .top, .top, .top, .top, .top, .top, .top, .top, .top, .top, .top, .top, .top, .top, .top, .top, .top, .top, .top, .top, .top, .top, .top, .top, .top, .top, .top, .top, .top, .top, .top, .top, .top, .top, .top, .top, .top, .top, .top, .top, .top, .top, .top, .top, .top, .top, .top, .top, .top, .top, .top, .top, .top, .top, .top, .top, .top, .lst 17 (x.w.map labV), I64 x.w.length, I64 a.1, .top, .top, .top, .top, .top, .top, .top, .top, .top]) (fun a τ => a.1 ≤ x.w.length ∧ Wr τ w (numB x.cart.toNat ++ numB x.l.length ++ entsB x.l ++ numB x.w.length ++ labsB (x.w.take a.1)) a.2 ∧ WStep σ1 τ w none a.2 ∧ Off τ w a.2 b (.cells (ixC x xl))) (fun a _ => x.w.length - a.1) (0, o3) (by repeat (first | exact LeEnv.nil | refine LeEnv.same ?_ | refine LeEnv.top ?_)) ⟨Nat.zero_le _, by simpa [labsB] using hw4, hs14, hb4⟩ ?_)
    clear hw4 hs14 hb4 hR4
    rintro ⟨i, o⟩ τ ⟨hi, hw, hs, hbO⟩
    simp only at hi hw hs hbO
    (repeat (first | refine Stp.s ?_ | refine inBlock_exit' (by decide) ?_ | ((first | refine vc_region fun K KP hK hKP => ?_ | refine Stg.s ?_ | refine guardD_ret0 ?_ | refine exV_intro _ rfl ?_); (try simp only [go_sem, loadL_a]); try ((first | refine hK _ _ ?_ | refine hKP _ _ _ ?_ | refine hKP _ _ (fun _ => ?_)); clear hK hKP K KP))))
    refine vc_cond rfl (fun hq => ?_) (fun hq => ?_)
    · have hlt : i < x.w.length := by simpa using hq
      have hgl : (x.w.map labV).getD i .top = labV x.w[i] := by
        rw [List.getD_eq_getElem?_getD, List.getElem?_map, List.getElem?_eq_getElem hlt]; rfl
      have htk : x.w.take (i + 1) = x.w.take i ++ [x.w[i]] := List.take_succ_eq_append_getElem hlt
      have g0 := eq_true (show (0 : Int) ≤ (i : Int) by omega)
      have g1 := eq_true (show (i : Int) < (x.w.length : Int) by omega)
      have l6 := labsB_len (x.w.take i)
      rw [List.length_take] at l6
      generalize x.w[i] = l at *
      have hlc := lbCells l.1 l.2.ok
      have l7 := labB_len l.1 l.2.ok
      (repeat (first | refine Stp.s ?_ | refine inBlock_exit' (by decide) ?_ | ((first | refine vc_region fun K KP hK hKP => ?_ | refine Stg.s ?_ | refine guardD_ret0 ?_ | refine exV_intro _ rfl ?_); (try simp only [go_sem, g0, g1, hgl, Int.toNat_natCast, List.length_map, labV, Lb.v, lbLoad l.1 l.2.ok]); try ((first | refine hK _ _ ?_ | refine hKP _ _ _ ?_ | refine hKP _ _ (fun _ => ?_)); clear hK hKP K KP))))
      intro b4 hb4
      refine ⟨hlc, eltL.one l, Nat.le_of_eq hlc, ?_⟩
      rw [setL_full _ _ (by simp [hlc])]
      have h5 : Off (τ.set b4 (.cells l.1.cs)) w o b4 (.cells l.1.cs) := Off.new hw hb4
      have hle5 : τ.le (τ.set b4 (.cells l.1.cs)) := Store.le_set hb4 (Store.le_refl _)
      have hw5 := hw.le hle5
      have hs5 := hs.trans (WStep.base hle5 (WStep.refl (w := w) (o := o)))
      have hb5' := hbO.set (l := .cells l.1.cs) hb4
      clear hs hbO
      generalize τ.set b4 _ = τ1 at *
      ((try simp only [go_sem, h5.1, lbLoad l.1 l.2.ok]); (try ((first | refine hK _ _ ?_ | refine hKP _ _ _ ?_ | refine hKP _ _ (fun _ => ?_)); clear hK hKP K KP)); repeat (first | refine Stp.s ?_ | refine inBlock_exit' (by decide) ?_ | ((first | refine vc_region fun K KP hK hKP => ?_ | refine Stg.s ?_ | refine guardD_ret0 ?_ | refine exV_intro _ rfl ?_); (try simp only [go_sem, h5.1, lbLoad l.1 l.2.ok]); try ((first | refine hK _ _ ?_ | refine hKP _ _ _ ?_ | refine hKP _ _ (fun _ => ?_)); clear hK hKP K KP))))
      refine callV_of en112 (lab_put l τ1 w _ o hw5 (by simp only [List.length_append]; omega)) (fun y σ' q => ?_) (fun y σ' q => by cases q.1)
      obtain ⟨e, o6, hw6, hs6⟩ := q
      cases e
      ((try simp only [go_sem, loadL_a, i64_up (show i ≤ 10000000 by omega)]); (try ((first | refine hK _ _ ?_ | refine hKP _ _ _ ?_ | refine hKP _ _ (fun _ => ?_)); clear hK hKP K KP)); repeat (first | refine Stp.s ?_ | refine inBlock_exit' (by decide) ?_ | ((first | refine vc_region fun K KP hK hKP => ?_ | refine Stg.s ?_ | refine guardD_ret0 ?_ | refine exV_intro _ rfl ?_); (try simp only [go_sem, loadL_a, i64_up (show i ≤ 10000000 by omega)]); try ((first | refine hK _ _ ?_ | refine hKP _ _ _ ?_ | refine hKP _ _ (fun _ => ?_)); clear hK hKP K KP))))
      refine ⟨(i + 1, o6), σ', (by repeat (first | exact LeEnv.nil | refine LeEnv.same ?_ | refine LeEnv.top ?_)), Store.le_refl _, ⟨hlt, ?_, hs5.trans hs6, hb5'.step hs6⟩, by show x.w.length - (i + 1) < x.w.length - i; omega⟩
      show Wr σ' w (_ ++ labsB (x.w.take (i + 1))) o6
      rw [htk]
      have he : labsB (x.w.take i ++ [l]) = labsB (x.w.take i) ++ labB l.1 := by unfold labsB; rw [List.flatMap_append, List.flatMap_cons, List.flatMap_nil, List.append_nil]
      rw [he]
      simpa only [List.append_assoc] using hw6
    · have hin : i = x.w.length := by simp at hq; omega
      subst hin
      rw [List.take_length] at hw
      have hbl := ixB_len x hx
      (repeat (first | refine Stp.s ?_ | refine inBlock_exit' (by decide) ?_ | ((first | refine vc_region fun K KP hK hKP => ?_ | refine Stg.s ?_ | refine guardD_ret0 ?_ | refine exV_intro _ rfl ?_); (try simp only [go_sem, loadL_a]); try ((first | refine hK _ _ ?_ | refine hKP _ _ _ ?_ | refine hKP _ _ (fun _ => ?_)); clear hK hKP K KP))))
      refine callV_quiet en88 (bytes_call hw (by unfold ixB at hbl; omega)) ?_
      ((try simp only [go_sem, loadL_a]); (try ((first | refine hK _ _ ?_ | refine hKP _ _ _ ?_ | refine hKP _ _ (fun _ => ?_)); clear hK hKP K KP)); repeat (first | refine Stp.s ?_ | refine inBlock_exit' (by decide) ?_ | ((first | refine vc_region fun K KP hK hKP => ?_ | refine Stg.s ?_ | refine guardD_ret0 ?_ | refine exV_intro _ rfl ?_); (try simp only [go_sem, loadL_a]); try ((first | refine hK _ _ ?_ | refine hKP _ _ _ ?_ | refine hKP _ _ (fun _ => ?_)); clear hK hKP K KP))))
      (simp only [postV, resV, oneOf, List.getD_cons_succ, List.getD_cons_zero, and_true, true_and])
      refine Ends.le rfl fun c l hc => ?_
      exact hs.keep c l (hle2 c l hc) (fun e => by rw [e, hw0] at hc; cases hc) (by simp)
end Go.Proofs.YtociliegljoldaaGreat
