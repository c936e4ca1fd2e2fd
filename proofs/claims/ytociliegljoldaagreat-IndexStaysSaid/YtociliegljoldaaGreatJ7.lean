/- An index read: the walk. -/
import Derived.Test.YtociliegljoldaaGreatJ6
namespace Go.Proofs.YtociliegljoldaaGreat
set_option linter.unusedSimpArgs false
set_option linter.unusedVariables false
open Go.Proofs
attribute [local irreducible] vc vcOps vcDraw vcK vcKP vcDK vcDB HWp HCalls postV Ex.then Ex.inBlock stepD callV appendV guardC guardD exV effV opV loadV storeV indexAddrV indexV sliceV
set_option maxRecDepth 10000
set_option maxHeartbeats 4000000

def LdQ (σ : Store) (br : Nat) (bs : List UInt8) (r : Res) (σ' : Store) : Prop := match pIx bs with
  | .ok (x, rest) => ∃ b ob, r = .ret (.ptr b 0) ∧ LdSt σ br b x ob rest σ' ∧ x.Good ∧ x.l.length + x.w.length ≤ 120
  | .error (e, rest) => r = .pan (flt e) ∧ σ' br = some (rdr rest) ∧ ∀ c l, σ c = some l → c ≠ br → σ' c = some l
def VB (v : List Nat) : Prop := ∀ y ∈ v, y < 4294967296
theorem LdQ.err {σ τ : Store} {br : Nat} {bs : List UInt8} {e : Int} {rest : List UInt8} (hp : pIx bs = .error (e, rest)) (h1 : τ br = some (rdr rest)) (h2 : ∀ c l, σ c = some l → c ≠ br → τ c = some l) : LdQ σ br bs (.pan (flt e)) τ := by
  unfold LdQ; rw [hp]; exact ⟨rfl, h1, h2⟩
theorem ix0_good {c : Int} (h : 1 ≤ c ∧ c ≤ 12) : (ix0 c).Good where
  v := rfl
  w l hl := by cases hl
  d := List.Pairwise.nil
  l e he := by cases he
  c := h
theorem next_ok {v : List Nat} {nd nk : Nat} (h : nextN v nd = (((nd : Int), nk), 0)) : nodeB nd = true ∧ nk = getN v nd + 1 ∧ getN v nd < 1048576 := by
  unfold nextN at h
  split at h
  · rename_i hn
    split at h
    · cases h
    · rename_i hm
      simp only [Prod.mk.injEq, and_true, true_and] at h
      exact ⟨hn, h.symm, by omega⟩
  · cases h
theorem withV_vb {v : List Nat} (hb : VB v) (nd : Int) {k : Nat} (hk : k < 4294967296) : VB (withV v nd k) := by
  unfold withV
  split
  · intro y hy
    rcases List.mem_or_eq_of_mem_set hy with q | q
    · exact hb y q
    · rw [q]
      have : v.getD (nd - 1).toNat 0 < 4294967296 := by
        rw [List.getD_eq_getElem?_getD]
        cases e : v[(nd - 1).toNat]? with
        | none => show 0 < _; omega
        | some y => exact hb y (List.mem_of_getElem? e)
      omega
  · exact hb
theorem ent_good {x : Ix} (g : x.Good) {nd nk s : Nat} (h : nextN x.v nd = (((nd : Int), nk), 0)) (hs : 0 < s ∧ s ≤ 12) : (x.ent nd nk s).Good where
  v := withV_len g.v nd nk
  w := g.w
  d := g.d
  l e he := by
    obtain ⟨h1, h2, h3⟩ := next_ok h
    rcases List.mem_append.1 he with q | q
    · exact g.l e q
    · simp only [List.mem_singleton] at q
      subst q
      unfold nodeB at h1
      simp only [Bool.and_eq_true, decide_eq_true_eq] at h1
      exact ⟨h1, ⟨by show 1 ≤ nk; omega, by show nk ≤ 1048576; omega⟩, ⟨by show (1 : Int) ≤ (s : Int); omega, by show (s : Int) ≤ 12; omega⟩⟩
  c := g.c
theorem runI_good : ∀ (f : Nat) (x : Ix), x.Good → (runI f x).2.Good ∧ (runI f x).2.l.length + (runI f x).2.w.length = x.l.length + x.w.length
  | 0, x, g => ⟨g, rfl⟩
  | f + 1, x, g => by
    unfold runI
    cases hx : x.nxt with
    | none => exact ⟨g, rfl⟩
    | some i =>
      have hi := findIdx_lt hx
      have := runI_good f (x.take i) (take_good g hi)
      refine ⟨this.1, this.2.trans ?_⟩
      unfold Ix.take
      simp only [List.length_append, List.length_take, List.length_drop, List.length_cons, List.length_nil]
      omega
theorem addR_good {x : Ix} (g : x.Good) (l : LbI) : (addR x l).2.2.Good ∧ (addR x l).2.2.l.length + (addR x l).2.2.w.length ≤ x.l.length + x.w.length + 1 := by
  unfold addR
  split
  · exact ⟨g, by show x.l.length + x.w.length ≤ _; omega⟩
  · rename_i h1
    split
    · exact ⟨g, by show x.l.length + x.w.length ≤ _; omega⟩
    · rename_i h2
      split
      · exact ⟨g, by show x.l.length + x.w.length ≤ _; omega⟩
      · rename_i h3
        split
        · exact ⟨g, by show x.l.length + x.w.length ≤ _; omega⟩
        · have hp : (x.put l).Good := put_good g (by
            simp only [Bool.or_eq_true, Bool.not_eq_true', beq_iff_eq, not_or] at h1
            simp only [bne_iff_ne, ne_eq, Decidable.not_not] at h2
            exact ⟨by simpa using h1.1, h1.2, h2⟩) h3
          have := runI_good ((x.put l).w.length + 1) (x.put l) hp
          have hl : (x.put l).w.length = x.w.length + 1 := by unfold Ix.put; rw [(srtL_perm _).length_eq]; simp
          have hl2 : (x.put l).l = x.l := rfl
          refine ⟨this.1, ?_⟩
          show (runA (x.put l)).2.l.length + (runA (x.put l)).2.w.length ≤ _
          unfold runA
          rw [hl2] at this
          omega
theorem nils_vr {τ : Store} : Weakens nilS τ (.lst 17 []) τ := fun I w v hs hv => ⟨I, Imm.le_refl I, hs, nil_vr hv⟩
theorem iLoad (σ : Store) (br : Nat) (bs : List UInt8) (hb : σ br = some (rdr bs)) (hl : bs.length ≤ 1000000000) (hf : Few bs) : HCalls Tryz.prog 122 [.ptr br 0] σ (LdQ σ br bs) := by
  (refine HCalls.of_vc Tryz.func122 rfl ?_; rw [Tryz.ntmps122, Tryz.results122]; simp only [List.length_cons, List.length_nil, Nat.reduceAdd, Nat.reduceSub, List.replicate, List.cons_append, List.nil_append])
  have w120 : (12 : Int) = ((12 : Nat) : Int) := rfl
  (repeat (first | refine Stp.s ?_ | refine inBlock_exit' (by decide) ?_ | ((first | refine vc_region fun K KP hK hKP => ?_ | refine Stg.s ?_ | refine guardD_ret0 ?_ | refine exV_intro _ rfl ?_); (try simp only [go_sem, loadL_a]); try ((first | refine hK _ _ ?_ | refine hKP _ _ _ ?_ | refine hKP _ _ (fun _ => ?_)); clear hK hKP K KP))))
  refine callV_sm (m := 12) (by decide) hb hl (fun c r0 h1 hc12 hr0 => ?_) (fun e rest h1 => ?_)
  rotate_left
  · have hp : pIx bs = .error (e, rest) := by unfold pIx; rw [h1]
    ((try simp only [go_sem, loadL_a]); (try ((first | refine hK _ _ ?_ | refine hKP _ _ _ ?_ | refine hKP _ _ (fun _ => ?_)); clear hK hKP K KP)); repeat (first | refine Stp.s ?_ | refine inBlock_exit' (by decide) ?_ | ((first | refine vc_region fun K KP hK hKP => ?_ | refine Stg.s ?_ | refine guardD_ret0 ?_ | refine exV_intro _ rfl ?_); (try simp only [go_sem, loadL_a]); try ((first | refine hK _ _ ?_ | refine hKP _ _ _ ?_ | refine hKP _ _ (fun _ => ?_)); clear hK hKP K KP))))
    (simp only [postV, resV, oneOf, List.getD_cons_succ, List.getD_cons_zero, and_true, true_and])
    unfold LdQ
    rw [hp]
    exact ⟨rfl, Store.set_same _ _ _, fun c l hc hn => by rw [Store.set_other _ _ hn]; exact hc⟩
  obtain ⟨hc1, hf⟩ := hf c r0 h1
  have hbr0 := Store.set_same σ br (rdr r0)
  have hfr0 : ∀ c l, σ c = some l → c ≠ br → (σ.set br (rdr r0)) c = some l := fun c l hc hn => by rw [Store.set_other _ _ hn]; exact hc
  generalize σ.set br (rdr r0) = σ1 at *
  ((try simp only [go_sem, loadL_a]); (try ((first | refine hK _ _ ?_ | refine hKP _ _ _ ?_ | refine hKP _ _ (fun _ => ?_)); clear hK hKP K KP)); repeat (first | refine Stp.s ?_ | refine inBlock_exit' (by decide) ?_ | ((first | refine vc_region fun K KP hK hKP => ?_ | refine Stg.s ?_ | refine guardD_ret0 ?_ | refine exV_intro _ rfl ?_); (try simp only [go_sem, loadL_a]); try ((first | refine hK _ _ ?_ | refine hKP _ _ _ ?_ | refine hKP _ _ (fun _ => ?_)); clear hK hKP K KP))))
  intro b hbn
  have hbσ : σ b = none := by
    cases hq : σ b with
    | none => rfl
    | some l =>
      by_cases e : b = br
      · rw [e, hbr0] at hbn; cases hbn
      · rw [hfr0 b l hq e] at hbn; cases hbn
  have e0 : ∀ (z : V), Blk.cells [V.val (Value.int IntKind.i64 c), V.val (Value.int IntKind.u32 0), V.val (Value.int IntKind.u32 0), V.val (Value.int IntKind.u32 0), V.val (Value.int IntKind.u32 0), V.val (Value.int IntKind.u32 0), V.val (Value.int IntKind.u32 0), V.val (Value.int IntKind.u32 0), V.val (Value.int IntKind.u32 0), V.val (Value.int IntKind.u32 0), V.val (Value.int IntKind.u32 0), V.val (Value.int IntKind.u32 0), V.val (Value.int IntKind.u32 0), nilS, z] = .cells (I64 c :: (zeroN.map U32 ++ [nilS, z])) := fun _ => rfl
  rw [show (V.val (Value.slice none 0 0)) = nilS from rfl, e0]
  have hb1 := Store.set_same σ1 b (.cells (I64 c :: (zeroN.map U32 ++ [nilS, nilS])))
  have hbr1 := Store.keep hbn hbr0 (.cells (I64 c :: (zeroN.map U32 ++ [nilS, nilS])))
  have hfr1 : ∀ d l, σ d = some l → d ≠ br → (σ1.set b (.cells (I64 c :: (zeroN.map U32 ++ [nilS, nilS])))) d = some l := fun d l hc hn => Store.keep hbn (hfr0 d l hc hn) _
  have hbbr : b ≠ br := fun e => by rw [e, hbr0] at hbn; cases hbn
  generalize σ1.set b _ = σ2 at *
  ((try simp only [go_sem, loadL_a]); (try ((first | refine hK _ _ ?_ | refine hKP _ _ _ ?_ | refine hKP _ _ (fun _ => ?_)); clear hK hKP K KP)); repeat (first | refine Stp.s ?_ | refine inBlock_exit' (by decide) ?_ | ((first | refine vc_region fun K KP hK hKP => ?_ | refine Stg.s ?_ | refine guardD_ret0 ?_ | refine exV_intro _ rfl ?_); (try simp only [go_sem, loadL_a]); try ((first | refine hK _ _ ?_ | refine hKP _ _ _ ?_ | refine hKP _ _ (fun _ => ?_)); clear hK hKP K KP))))
  refine callV_sm (m := 400) (by decide) hbr1 (by omega) (fun n r1 h2 hn4 hr1 => ?_) (fun e rest h2 => ?_)
  rotate_left
  · have hp : pIx bs = .error (e, rest) := by unfold pIx; rw [h1]; simp only; rw [h2]
    ((try simp only [go_sem, loadL_a]); (try ((first | refine hK _ _ ?_ | refine hKP _ _ _ ?_ | refine hKP _ _ (fun _ => ?_)); clear hK hKP K KP)); repeat (first | refine Stp.s ?_ | refine inBlock_exit' (by decide) ?_ | ((first | refine vc_region fun K KP hK hKP => ?_ | refine Stg.s ?_ | refine guardD_ret0 ?_ | refine exV_intro _ rfl ?_); (try simp only [go_sem, loadL_a]); try ((first | refine hK _ _ ?_ | refine hKP _ _ _ ?_ | refine hKP _ _ (fun _ => ?_)); clear hK hKP K KP))))
    (simp only [postV, resV, oneOf, List.getD_cons_succ, List.getD_cons_zero, and_true, true_and])
    exact LdQ.err hp (Store.set_same _ _ _) fun d l hc hn => by rw [Store.set_other _ _ hn]; exact hfr1 d l hc hn
  obtain ⟨hn60, hf⟩ := hf n r1 h2
  have hb3 := (Store.set_other σ2 (rdr r1) hbbr).trans hb1
  have hbr3 := Store.set_same σ2 br (rdr r1)
  have hfr3 : ∀ d l, σ d = some l → d ≠ br → (σ2.set br (rdr r1)) d = some l := fun d l hc hn => by rw [Store.set_other _ _ hn]; exact hfr1 d l hc hn
  generalize σ2.set br (rdr r1) = σ3 at *
  have hW : Weakens (.val undef) σ3 (.val undef) (σ3.set b (.cells (ixC (ix0 c) nilS))) := by
    have := Weakens.cell (x := .val undef) hb3 hb3 (j := 14) (y := nilS) rfl (nils_vr (τ := σ3))
    exact this
  have hS0 : LdSt σ br b (ix0 c) none r1 (σ3.set b (.cells (ixC (ix0 c) nilS))) :=
    ⟨by rw [Store.set_other _ _ hbbr.symm]; exact hbr3, ⟨nilS, Store.set_same _ _ _, .inl ⟨rfl, rfl, rfl, rfl⟩, by simp⟩, hbσ, fun _ e => (by cases e), fun d l hc hn => by rw [Store.set_other _ _ (fun e => by rw [e, hbσ] at hc; cases hc)]; exact hfr3 d l hc hn⟩
  clear hb1 hbr1 hfr1 hbr0 hfr0 hbn
  ((try simp only [go_sem, loadL_a]); (try ((first | refine hK _ _ ?_ | refine hKP _ _ _ ?_ | refine hKP _ _ (fun _ => ?_)); clear hK hKP K KP)); repeat (first | refine Stp.s ?_ | refine inBlock_exit' (by decide) ?_ | ((first | refine vc_region fun K KP hK hKP => ?_ | refine Stg.s ?_ | refine guardD_ret0 ?_ | refine exV_intro _ rfl ?_); (try simp only [go_sem, loadL_a]); try ((first | refine hK _ _ ?_ | refine hKP _ _ _ ?_ | refine hKP _ _ (fun _ => ?_)); clear hK hKP K KP))))
  refine vc_loop (loopW (fun (a : Nat × Ix × Option Nat × List UInt8) => [.ptr br 0, .top, .top, .ptr b 0, .top, .top, .top, .top, .top, .top, .top, .top, .top, .top, .top, I64 n, I64 a.1, .top, .top, .top, .top, .top, .top, .top, .top, .top, .top, .top, .top, .top, .top, .top, .top, .top, .top, .top, .top, .top, .top, .top, .top, .top, .top, .top, .top, .top, .top, .top, .top, .top, .top, .top, .top, .top, .top, .top, .top, .top, .top, .top, .top, .top, .top, .top, .top, .top, .top, .top, .top, .top, .top, .top, .top, .top, .top, .top, .top, .top, .top, .top, .top, .top, .top, .top, .top, .top, .top, .top, .top, .top, .top, .top, .top, .top, .top, .top]) (fun a τ => a.1 ≤ n ∧ LdSt σ br b a.2.1 a.2.2.1 a.2.2.2 τ ∧ a.2.1.Good ∧ a.2.1.w = [] ∧ a.2.1.l.length = a.1 ∧ VB a.2.1.v ∧ a.2.2.2.length ≤ bs.length ∧ pEnts n (ix0 c) r1 = pEnts (n - a.1) a.2.1 a.2.2.2) (fun a _ => n - a.1) (0, ix0 c, none, r1) (tell_weak (by repeat (first | exact LeEnv.nil | refine LeEnv.same ?_ | refine LeEnv.top ?_)) hW) ⟨Nat.zero_le _, hS0, ix0_good (by omega), rfl, rfl, fun y hy => by simp [ix0, zeroN] at hy; omega, by show r1.length ≤ _; omega, rfl⟩ ?_)
  clear hW hS0 hb3 hbr3 hfr3
  rintro ⟨i, x, ob, cs⟩ τ ⟨hi, hS, hg, hw0, hil, hvb, hcs, hp⟩
  simp only at hi hS hg hw0 hil hvb hcs hp
  (repeat (first | refine Stp.s ?_ | refine inBlock_exit' (by decide) ?_ | ((first | refine vc_region fun K KP hK hKP => ?_ | refine Stg.s ?_ | refine guardD_ret0 ?_ | refine exV_intro _ rfl ?_); (try simp only [go_sem, loadL_a]); try ((first | refine hK _ _ ?_ | refine hKP _ _ _ ?_ | refine hKP _ _ (fun _ => ?_)); clear hK hKP K KP))))
  refine vc_cond rfl (fun hq => ?_) (fun hq => ?_)
  · have hlt : i < n := by simpa using hq
    rw [show n - i = (n - (i + 1)) + 1 by omega, pEnts] at hp
    (repeat (first | refine Stp.s ?_ | refine inBlock_exit' (by decide) ?_ | ((first | refine vc_region fun K KP hK hKP => ?_ | refine Stg.s ?_ | refine guardD_ret0 ?_ | refine exV_intro _ rfl ?_); (try simp only [go_sem, loadL_a]); try ((first | refine hK _ _ ?_ | refine hKP _ _ _ ?_ | refine hKP _ _ (fun _ => ?_)); clear hK hKP K KP))))
    refine callV_sm (m := 12) (by decide) hS.r (by omega) (fun nd q1 g1 hnd hq1 => ?_) (fun e rest g1 => ?_)
    rotate_left
    · rw [g1] at hp
      have hS1 := hS.rd hb rest
      ((try simp only [go_sem, loadL_a]); (try ((first | refine hK _ _ ?_ | refine hKP _ _ _ ?_ | refine hKP _ _ (fun _ => ?_)); clear hK hKP K KP)); repeat (first | refine Stp.s ?_ | refine inBlock_exit' (by decide) ?_ | ((first | refine vc_region fun K KP hK hKP => ?_ | refine Stg.s ?_ | refine guardD_ret0 ?_ | refine exV_intro _ rfl ?_); (try simp only [go_sem, loadL_a]); try ((first | refine hK _ _ ?_ | refine hKP _ _ _ ?_ | refine hKP _ _ (fun _ => ?_)); clear hK hKP K KP))))
      (simp only [postV, resV, oneOf, List.getD_cons_succ, List.getD_cons_zero, and_true, true_and])
      exact LdQ.err (by unfold pIx; rw [h1]; simp only; rw [h2]; simp only; rw [hp]) hS1.r hS1.f
    have hnd : nd ≤ 12 := hnd
    rw [g1] at hp; simp only at hp
    have hS1 := hS.rd hb q1
    generalize τ.set br (rdr q1) = τ1 at *
    ((try simp only [go_sem, loadL_a]); (try ((first | refine hK _ _ ?_ | refine hKP _ _ _ ?_ | refine hKP _ _ (fun _ => ?_)); clear hK hKP K KP)); repeat (first | refine Stp.s ?_ | refine inBlock_exit' (by decide) ?_ | ((first | refine vc_region fun K KP hK hKP => ?_ | refine Stg.s ?_ | refine guardD_ret0 ?_ | refine exV_intro _ rfl ?_); (try simp only [go_sem, loadL_a]); try ((first | refine hK _ _ ?_ | refine hKP _ _ _ ?_ | refine hKP _ _ (fun _ => ?_)); clear hK hKP K KP))))
    refine callV_sm (m := 1048576) (by decide) hS1.r (by omega) (fun k q2 g2 hk hq2 => ?_) (fun e rest g2 => ?_)
    rotate_left
    · rw [g2] at hp
      have hS2 := hS1.rd hb rest
      ((try simp only [go_sem, loadL_a]); (try ((first | refine hK _ _ ?_ | refine hKP _ _ _ ?_ | refine hKP _ _ (fun _ => ?_)); clear hK hKP K KP)); repeat (first | refine Stp.s ?_ | refine inBlock_exit' (by decide) ?_ | ((first | refine vc_region fun K KP hK hKP => ?_ | refine Stg.s ?_ | refine guardD_ret0 ?_ | refine exV_intro _ rfl ?_); (try simp only [go_sem, loadL_a]); try ((first | refine hK _ _ ?_ | refine hKP _ _ _ ?_ | refine hKP _ _ (fun _ => ?_)); clear hK hKP K KP))))
      (simp only [postV, resV, oneOf, List.getD_cons_succ, List.getD_cons_zero, and_true, true_and])
      exact LdQ.err (by unfold pIx; rw [h1]; simp only; rw [h2]; simp only; rw [hp]) hS2.r hS2.f
    have hk : k ≤ 1048576 := hk
    rw [g2] at hp; simp only at hp
    have hS2 := hS1.rd hb q2
    generalize τ1.set br (rdr q2) = τ2 at *
    have wk : IntKind.u32.wrap (k : Int) = ((k : Nat) : Int) := u32_in (by omega) (by omega)
    ((try simp only [go_sem, loadL_a, wk]); (try ((first | refine hK _ _ ?_ | refine hKP _ _ _ ?_ | refine hKP _ _ (fun _ => ?_)); clear hK hKP K KP)); repeat (first | refine Stp.s ?_ | refine inBlock_exit' (by decide) ?_ | ((first | refine vc_region fun K KP hK hKP => ?_ | refine Stg.s ?_ | refine guardD_ret0 ?_ | refine exV_intro _ rfl ?_); (try simp only [go_sem, loadL_a, wk]); try ((first | refine hK _ _ ?_ | refine hKP _ _ _ ?_ | refine hKP _ _ (fun _ => ?_)); clear hK hKP K KP))))
    refine callV_sm (m := 12) (by decide) hS2.r (by omega) (fun s q3 g3 hs hq3 => ?_) (fun e rest g3 => ?_)
    rotate_left
    · rw [g3] at hp
      have hS3 := hS2.rd hb rest
      ((try simp only [go_sem, loadL_a]); (try ((first | refine hK _ _ ?_ | refine hKP _ _ _ ?_ | refine hKP _ _ (fun _ => ?_)); clear hK hKP K KP)); repeat (first | refine Stp.s ?_ | refine inBlock_exit' (by decide) ?_ | ((first | refine vc_region fun K KP hK hKP => ?_ | refine Stg.s ?_ | refine guardD_ret0 ?_ | refine exV_intro _ rfl ?_); (try simp only [go_sem, loadL_a]); try ((first | refine hK _ _ ?_ | refine hKP _ _ _ ?_ | refine hKP _ _ (fun _ => ?_)); clear hK hKP K KP))))
      (simp only [postV, resV, oneOf, List.getD_cons_succ, List.getD_cons_zero, and_true, true_and])
      exact LdQ.err (by unfold pIx; rw [h1]; simp only; rw [h2]; simp only; rw [hp]) hS3.r hS3.f
    have hs : s ≤ 12 := hs
    rw [g3] at hp; simp only at hp
    have hS3 := hS2.rd hb q3
    generalize τ2.set br (rdr q3) = τ3 at *
    clear hS hS1 hS2 g1 g2 g3
    ((try simp only [go_sem, loadL_a]); (try ((first | refine hK _ _ ?_ | refine hKP _ _ _ ?_ | refine hKP _ _ (fun _ => ?_)); clear hK hKP K KP)); repeat (first | refine Stp.s ?_ | refine inBlock_exit' (by decide) ?_ | ((first | refine vc_region fun K KP hK hKP => ?_ | refine Stg.s ?_ | refine guardD_ret0 ?_ | refine exV_intro _ rfl ?_); (try simp only [go_sem, loadL_a]); try ((first | refine hK _ _ ?_ | refine hKP _ _ _ ?_ | refine hKP _ _ (fun _ => ?_)); clear hK hKP K KP))))
    intro b4 hb4
    have h4 := Store.set_same τ3 b4 (.cells [I64 nd, U32 k, I64 s])
    have hS4 := hS3.new (k := .cells [I64 nd, U32 k, I64 s]) hb4
    have n4b : b4 ≠ b := fun e => by obtain ⟨xl, q, _⟩ := hS3.x; rw [e, q] at hb4; cases hb4
    have n4r : b4 ≠ br := fun e => by rw [e, hS3.r] at hb4; cases hb4
    have n4σ : σ b4 = none := by
      cases hq : σ b4 with
      | none => rfl
      | some l => rw [hS3.f b4 l hq n4r] at hb4; cases hb4
    have n4o : ob ≠ some b4 := fun e => by
      obtain ⟨xl, _, hO, _⟩ := hS3.x
      exact hO.there e hb4
    clear hS3 hb4
    show K _ (τ3.set b4 (.cells [I64 nd, U32 k, I64 s]))
    generalize τ3.set b4 _ = τ4 at *
    obtain ⟨xl, hbx, hO, hne⟩ := hS4.x
    have np := next_pure2 x.v hg.v hvb nd
    unfold vecV at np
    have ldD : ∀ (a b z : Int) (K : V → Prop), loadL Tryz.prog 25 [I64 a, .val (.int .u32 b), I64 z] 0 K = K (.agg [I64 a, .val (.int .u32 b)]) := fun a b z K => by rw [loadL_a kd25, ce25]; simp
    have ldD2 : ∀ (a b : Int) (K : V → Prop), loadL Tryz.prog 25 [I64 a, .val (.int .u32 b)] 0 K = K (.agg [I64 a, .val (.int .u32 b)]) := fun a b K => by rw [loadL_a kd25, ce25]; simp
    ((try simp only [go_sem, loadL_a]); (try ((first | refine hK _ _ ?_ | refine hKP _ _ _ ?_ | refine hKP _ _ (fun _ => ?_)); clear hK hKP K KP)); repeat (first | refine Stp.s ?_ | refine inBlock_exit' (by decide) ?_ | ((first | refine vc_region fun K KP hK hKP => ?_ | refine Stg.s ?_ | refine guardD_ret0 ?_ | refine exV_intro _ rfl ?_); (try simp only [go_sem, loadL_a]); try ((first | refine hK _ _ ?_ | refine hKP _ _ _ ?_ | refine hKP _ _ (fun _ => ?_)); clear hK hKP K KP))))
    ((repeat first | refine Stp.s ?_ | refine inBlock_exit' (by decide) ?_); refine vc_draw mixed [ 11, 12 ] [0, 1, 2, 3, 4, 5, 6, 7, 8, 9, 10, 11, 12, 13 ] [ ] [] (fun υ => υ b = some (.cells (ixC x xl)) ∧ υ b4 = some (.cells [I64 nd, U32 k, I64 s])) (by kernel_rfl) (by kernel_rfl) (by kernel_rfl) (⟨hbx, h4⟩) fun K KP hK hKP => ?_; simp only [go_sem]; try ((first | refine hK _ _ ?_ | refine hKP _ _ _ ?_ | refine hKP _ _ (fun _ => ?_)); clear hK hKP K KP))
    refine exV_intro (.ptr b 0) (fun _ _ => rfl) ?_
    ((try simp only [go_sem, vecV]); (try ((first | refine hK _ _ ?_ | refine hKP _ _ _ ?_ | refine hKP _ _ (fun _ => ?_)); clear hK hKP K KP)); repeat (first | refine Stp.s ?_ | refine inBlock_exit' (by decide) ?_ | ((first | refine vc_region fun K KP hK hKP => ?_ | refine Stg.s ?_ | refine guardD_ret0 ?_ | refine exV_intro _ rfl ?_); (try simp only [go_sem, vecV]); try ((first | refine hK _ _ ?_ | refine hKP _ _ _ ?_ | refine hKP _ _ (fun _ => ?_)); clear hK hKP K KP))))
    refine exV_intro (vecV x.v) (fun υ hυ => by rw [hυ.1]; exact (ixC_v x hg.v xl _).mpr rfl) ?_
    ((try simp only [go_sem, vecV]); (try ((first | refine hK _ _ ?_ | refine hKP _ _ _ ?_ | refine hKP _ _ (fun _ => ?_)); clear hK hKP K KP)); repeat (first | refine Stp.s ?_ | refine inBlock_exit' (by decide) ?_ | ((first | refine vc_region fun K KP hK hKP => ?_ | refine Stg.s ?_ | refine guardD_ret0 ?_ | refine exV_intro _ rfl ?_); (try simp only [go_sem, vecV]); try ((first | refine hK _ _ ?_ | refine hKP _ _ _ ?_ | refine hKP _ _ (fun _ => ?_)); clear hK hKP K KP))))
    refine exV_intro (I64 nd) (fun υ hυ => by rw [hυ.2]; rfl) ?_
    ((try simp only [go_sem, vecV]); (try ((first | refine hK _ _ ?_ | refine hKP _ _ _ ?_ | refine hKP _ _ (fun _ => ?_)); clear hK hKP K KP)); repeat (first | refine Stp.s ?_ | refine inBlock_exit' (by decide) ?_ | ((first | refine vc_region fun K KP hK hKP => ?_ | refine Stg.s ?_ | refine guardD_ret0 ?_ | refine exV_intro _ rfl ?_); (try simp only [go_sem, vecV]); try ((first | refine hK _ _ ?_ | refine hKP _ _ _ ?_ | refine hKP _ _ (fun _ => ?_)); clear hK hKP K KP))))
    ((try simp only [go_sem, loadL_a]); first | refine exV_intro _ (callV_pure (np) ⟨rfl, rfl⟩) ?_ | refine exV_intro _ (fun _ => callV_pure (np) ⟨rfl, rfl⟩) ?_ | refine exV_intro _ (fun _ _ => callV_pure (np) ⟨rfl, rfl⟩) ?_)
    generalize hNe : nextN x.v nd = N at *
    obtain ⟨⟨na, nk⟩, ne⟩ := N
    simp only
    ((try simp only [go_sem, vecV]); (try ((first | refine hK _ _ ?_ | refine hKP _ _ _ ?_ | refine hKP _ _ (fun _ => ?_)); clear hK hKP K KP)); repeat (first | refine Stp.s ?_ | refine inBlock_exit' (by decide) ?_ | ((first | refine vc_region fun K KP hK hKP => ?_ | refine Stg.s ?_ | refine guardD_ret0 ?_ | refine exV_intro _ rfl ?_); (try simp only [go_sem, vecV]); try ((first | refine hK _ _ ?_ | refine hKP _ _ _ ?_ | refine hKP _ _ (fun _ => ?_)); clear hK hKP K KP))))
    refine effV_intro (fun b5 hb5 => ⟨⟨Store.keep hb5 hbx _, Store.keep hb5 h4 _⟩, ?_⟩)
    have n5b : b5 ≠ b := fun e => by rw [e, hbx] at hb5; cases hb5
    have n54 : b5 ≠ b4 := fun e => by rw [e, h4] at hb5; cases hb5
    have n5r : b5 ≠ br := fun e => by rw [e, hS4.r] at hb5; cases hb5
    have n5o : ob ≠ some b5 := fun e => hO.there e hb5
    have n5σ : σ b5 = none := by
      cases hq : σ b5 with
      | none => rfl
      | some l => rw [hS4.f b5 l hq n5r] at hb5; cases hb5
    have hS5 := hS4.new (k := .cells [I64 na, U32 nk]) hb5
    have h45 := Store.keep hb5 h4 (.cells [I64 na, U32 nk])
    have hb5x := Store.keep hb5 hbx (.cells [I64 na, U32 nk])
    have h5 := Store.set_same τ4 b5 (.cells [I64 na, U32 nk])
    have e5 : ∀ z, (τ4.set b5 z).set b5 (.cells [I64 na, U32 nk]) = τ4.set b5 (.cells [I64 na, U32 nk]) := fun z => Store.set_set _ _ _ _
    ((try simp only [go_sem, e5]); (try ((first | refine hK _ _ ?_ | refine hKP _ _ _ ?_ | refine hKP _ _ (fun _ => ?_)); clear hK hKP K KP)); repeat (first | refine Stp.s ?_ | refine inBlock_exit' (by decide) ?_ | ((first | refine vc_region fun K KP hK hKP => ?_ | refine Stg.s ?_ | refine guardD_ret0 ?_ | refine exV_intro _ rfl ?_); (try simp only [go_sem, e5]); try ((first | refine hK _ _ ?_ | refine hKP _ _ _ ?_ | refine hKP _ _ (fun _ => ?_)); clear hK hKP K KP))))
    refine effV_intro ⟨⟨hb5x, h45⟩, ?_⟩
    clear h4 hbx hS4 hO e5 hb5
    generalize τ4.set b5 _ = τ5 at *
    ((try simp only [go_sem, h45, h5, ldD, ldD2]); (try ((first | refine hK _ _ ?_ | refine hKP _ _ _ ?_ | refine hKP _ _ (fun _ => ?_)); clear hK hKP K KP)); repeat (first | refine Stp.s ?_ | refine inBlock_exit' (by decide) ?_ | ((first | refine vc_region fun K KP hK hKP => ?_ | refine Stg.s ?_ | refine guardD_ret0 ?_ | refine exV_intro _ rfl ?_); (try simp only [go_sem, h45, h5, ldD, ldD2]); try ((first | refine hK _ _ ?_ | refine hKP _ _ _ ?_ | refine hKP _ _ (fun _ => ?_)); clear hK hKP K KP))))
    refine callV_rd (Must_call _) hS5.r (by omega) (fun v rest hm => ?_) (fun e rest hm => ?_)
    rotate_left
    · split at hm
      · cases hm
      · rename_i hq
        cases hm
        rw [if_neg (fun q => hq (by obtain ⟨q1, q2⟩ := q; cases q1; simpa using q2))] at hp
        have hS6 := hS5.rd hb q3
        ((try simp only [go_sem, loadL_a]); (try ((first | refine hK _ _ ?_ | refine hKP _ _ _ ?_ | refine hKP _ _ (fun _ => ?_)); clear hK hKP K KP)); repeat (first | refine Stp.s ?_ | refine inBlock_exit' (by decide) ?_ | ((first | refine vc_region fun K KP hK hKP => ?_ | refine Stg.s ?_ | refine guardD_ret0 ?_ | refine exV_intro _ rfl ?_); (try simp only [go_sem, loadL_a]); try ((first | refine hK _ _ ?_ | refine hKP _ _ _ ?_ | refine hKP _ _ (fun _ => ?_)); clear hK hKP K KP))))
        (simp only [postV, resV, oneOf, List.getD_cons_succ, List.getD_cons_zero, and_true, true_and])
        exact LdQ.err (by unfold pIx; rw [h1]; simp only; rw [h2]; simp only; rw [hp]) hS6.r hS6.f
    split at hm
    rotate_left
    · cases hm
    rename_i hq
    cases hm
    obtain ⟨rfl, rfl, rfl, hs0⟩ : ne = 0 ∧ na = (nd : Int) ∧ nk = k ∧ 0 < s := by
      simp only [Bool.and_eq_true, beq_iff_eq, decide_eq_true_eq] at hq
      exact ⟨hq.1.1, hq.1.2.1, by have := hq.1.2.2; omega, by have := hq.2; omega⟩
    rw [if_pos ⟨rfl, hs0⟩] at hp
    have hS6 := hS5.rd hb q3
    have hbbr := hS5.bne hb
    have h46 := (Store.set_other τ5 (rdr q3) n4r).trans h45
    have hb6x := (Store.set_other τ5 (rdr q3) hbbr).trans hb5x
    obtain ⟨yl, hby, hO, hne⟩ := hS6.x
    obtain rfl : yl = xl := by
      rw [hby] at hb6x
      injection hb6x with q
      injection q with q
      have := ixC_l x hg.v yl
      rw [q, ixC_l x hg.v xl] at this
      exact (Option.some.inj this).symm
    clear hS5 h45 hb5x hb6x hq h5 np
    generalize τ5.set br (rdr q3) = τ6 at *
    ((try simp only [go_sem, loadL_a]); (try ((first | refine hK _ _ ?_ | refine hKP _ _ _ ?_ | refine hKP _ _ (fun _ => ?_)); clear hK hKP K KP)); repeat (first | refine Stp.s ?_ | refine inBlock_exit' (by decide) ?_ | ((first | refine vc_region fun K KP hK hKP => ?_ | refine Stg.s ?_ | refine guardD_ret0 ?_ | refine exV_intro _ rfl ?_); (try simp only [go_sem, loadL_a]); try ((first | refine hK _ _ ?_ | refine hKP _ _ _ ?_ | refine hKP _ _ (fun _ => ?_)); clear hK hKP K KP))))
    ((repeat first | refine Stp.s ?_ | refine inBlock_exit' (by decide) ?_); refine vc_draw mixed [ 10 ] [0, 1, 2, 3, 4, 5, 6, 7, 8, 9, 10 ] [ 4, 6 ] [] (fun _ => True) (by kernel_rfl) (by kernel_rfl) (by kernel_rfl) trivial fun K KP hK hKP => ?_; simp only [go_sem, h46, hby, ldD, ixC_v _ hg.v]; try (refine hK _ _ ?_; clear hK hKP K KP))
    ((try simp only [go_sem, h46, hby, ldD, ixC_v _ hg.v]); (try ((first | refine hK _ _ ?_ | refine hKP _ _ _ ?_ | refine hKP _ _ (fun _ => ?_)); clear hK hKP K KP)); repeat (first | refine Stp.s ?_ | refine inBlock_exit' (by decide) ?_ | ((first | refine vc_region fun K KP hK hKP => ?_ | refine Stg.s ?_ | refine guardD_ret0 ?_ | refine exV_intro _ rfl ?_); (try simp only [go_sem, h46, hby, ldD, ixC_v _ hg.v]); try ((first | refine hK _ _ ?_ | refine hKP _ _ _ ?_ | refine hKP _ _ (fun _ => ?_)); clear hK hKP K KP))))
    ((try simp only [go_sem, loadL_a]); first | refine exV_intro _ (callV_pure (with_pure x.v hg.v nd nk) ⟨rfl, rfl⟩) ?_ | refine exV_intro _ (fun _ => callV_pure (with_pure x.v hg.v nd nk) ⟨rfl, rfl⟩) ?_ | refine exV_intro _ (fun _ _ => callV_pure (with_pure x.v hg.v nd nk) ⟨rfl, rfl⟩) ?_)
    have hWl := withV_len hg.v nd nk
    have hsv := ixC_setv x hg.v yl (withV x.v nd nk) hWl
    have hln := ixC_len x hg.v yl
    ((try simp only [go_sem, hby, vecV, hsv, hln]); (try ((first | refine hK _ _ ?_ | refine hKP _ _ _ ?_ | refine hKP _ _ (fun _ => ?_)); clear hK hKP K KP)); repeat (first | refine Stp.s ?_ | refine inBlock_exit' (by decide) ?_ | ((first | refine vc_region fun K KP hK hKP => ?_ | refine Stg.s ?_ | refine guardD_ret0 ?_ | refine exV_intro _ rfl ?_); (try simp only [go_sem, hby, vecV, hsv, hln]); try ((first | refine hK _ _ ?_ | refine hKP _ _ _ ?_ | refine hKP _ _ (fun _ => ?_)); clear hK hKP K KP))))
    refine ⟨by simp [hWl], u32_one _, by simp [hWl], ?_⟩
    have hgx := hg
    generalize hWe : withV x.v nd nk = W at *
    have k7 := Store.set_same τ6 b (.cells (ixC ⟨x.cart, W, x.l, x.w⟩ yl))
    have h47 := (Store.set_other τ6 (.cells (ixC ⟨x.cart, W, x.l, x.w⟩ yl)) n4b).trans h46
    have hO7 := hO.keep (fun c k e hc => (Store.set_other τ6 (.cells (ixC ⟨x.cart, W, x.l, x.w⟩ yl)) (fun q => hne (by rw [e, q]))).trans hc)
    have hr7 := (Store.set_other τ6 (.cells (ixC ⟨x.cart, W, x.l, x.w⟩ yl)) hbbr.symm).trans hS6.r
    have hf7 : ∀ c l, σ c = some l → c ≠ br → (τ6.set b (.cells (ixC ⟨x.cart, W, x.l, x.w⟩ yl))) c = some l := fun c l hc hn => by
      rw [Store.set_other _ _ (fun e => by rw [e, hS6.bn] at hc; cases hc)]; exact hS6.f c l hc hn
    generalize τ6.set b _ = τ7 at *
    have hx2 : (⟨x.cart, W, x.l, x.w⟩ : Ix).v.length = 12 := hWl
    have hcl := ixC_l _ hx2 yl
    have hsl := fun zl => ixC_setl _ hx2 yl zl (x.l ++ [⟨nd, nk, s⟩])
    have hln2 := ixC_len _ hx2 yl
    simp only at hcl hsl
    have ldE : ∀ (a b z : Int) (K : V → Prop), loadL Tryz.prog 118 [I64 a, .val (.int .u32 b), I64 z] 0 K = K (.agg [I64 a, .val (.int .u32 b), I64 z]) := fun a b z K => by rw [loadL_a kd118, ce118]; simp
    ((try simp only [go_sem, loadL_a]); (try ((first | refine hK _ _ ?_ | refine hKP _ _ _ ?_ | refine hKP _ _ (fun _ => ?_)); clear hK hKP K KP)); repeat (first | refine Stp.s ?_ | refine inBlock_exit' (by decide) ?_ | ((first | refine vc_region fun K KP hK hKP => ?_ | refine Stg.s ?_ | refine guardD_ret0 ?_ | refine exV_intro _ rfl ?_); (try simp only [go_sem, loadL_a]); try ((first | refine hK _ _ ?_ | refine hKP _ _ _ ?_ | refine hKP _ _ (fun _ => ?_)); clear hK hKP K KP))))
    ((repeat first | refine Stp.s ?_ | refine inBlock_exit' (by decide) ?_); refine vc_draw mixed [ 6, 7, 10 ] [0, 1, 2, 3, 4, 5, 6, 7, 8, 9, 10 ] [ ] [10] (fun υ => υ b = some (.cells (ixC ⟨x.cart, W, x.l, x.w⟩ yl)) ∧ υ b4 = some (.cells [I64 nd, U32 nk, I64 s])) (by kernel_rfl) (by kernel_rfl) (by kernel_rfl) (⟨k7, h47⟩) fun K KP hK hKP => ?_; simp only [go_sem]; try ((first | refine hK _ _ ?_ | refine hKP _ _ _ ?_ | refine hKP _ _ (fun _ => ?_)); clear hK hKP K KP))
    refine exV_intro (.ptr b 0) (fun _ _ => rfl) ?_
    ((try simp only [go_sem]); (try ((first | refine hK _ _ ?_ | refine hKP _ _ _ ?_ | refine hKP _ _ (fun _ => ?_)); clear hK hKP K KP)); repeat (first | refine Stp.s ?_ | refine inBlock_exit' (by decide) ?_ | ((first | refine vc_region fun K KP hK hKP => ?_ | refine Stg.s ?_ | refine guardD_ret0 ?_ | refine exV_intro _ rfl ?_); (try simp only [go_sem]); try ((first | refine hK _ _ ?_ | refine hKP _ _ _ ?_ | refine hKP _ _ (fun _ => ?_)); clear hK hKP K KP))))
    refine exV_intro yl (fun υ hυ => by rw [hυ.1]; simp only [hcl]) ?_
    ((try simp only [go_sem]); (try ((first | refine hK _ _ ?_ | refine hKP _ _ _ ?_ | refine hKP _ _ (fun _ => ?_)); clear hK hKP K KP)); repeat (first | refine Stp.s ?_ | refine inBlock_exit' (by decide) ?_ | ((first | refine vc_region fun K KP hK hKP => ?_ | refine Stg.s ?_ | refine guardD_ret0 ?_ | refine exV_intro _ rfl ?_); (try simp only [go_sem]); try ((first | refine hK _ _ ?_ | refine hKP _ _ _ ?_ | refine hKP _ _ (fun _ => ?_)); clear hK hKP K KP))))
    refine exV_intro (.agg [I64 nd, U32 nk, I64 s]) (fun υ hυ => by rw [hυ.2]; exact (ldE _ _ _ _).mpr rfl) ?_
    ((try simp only [go_sem]); (try ((first | refine hK _ _ ?_ | refine hKP _ _ _ ?_ | refine hKP _ _ (fun _ => ?_)); clear hK hKP K KP)); repeat (first | refine Stp.s ?_ | refine inBlock_exit' (by decide) ?_ | ((first | refine vc_region fun K KP hK hKP => ?_ | refine Stg.s ?_ | refine guardD_ret0 ?_ | refine exV_intro _ rfl ?_); (try simp only [go_sem]); try ((first | refine hK _ _ ?_ | refine hKP _ _ _ ?_ | refine hKP _ _ (fun _ => ?_)); clear hK hKP K KP))))
    refine effV_intro (fun b8 hb8 => ⟨⟨Store.keep hb8 k7 _, Store.keep hb8 h47 _⟩, ?_⟩)
    have k8 := Store.keep hb8 k7 (.cells [I64 nd, U32 nk, I64 s])
    have h48 := Store.keep hb8 h47 (.cells [I64 nd, U32 nk, I64 s])
    have i8 := Store.set_same τ7 b8 (.cells [I64 nd, U32 nk, I64 s])
    have hr8 := Store.keep hb8 hr7 (.cells [I64 nd, U32 nk, I64 s])
    have hf8 : ∀ c l, σ c = some l → c ≠ br → (τ7.set b8 (.cells [I64 nd, U32 nk, I64 s])) c = some l := fun c l hc hn => Store.keep hb8 (hf7 c l hc hn) _
    have hO8 := hO7.keep (fun c k e hc => Store.keep hb8 hc (.cells [I64 nd, U32 nk, I64 s]))
    clear k7 h47 hr7 hf7 hO7 hb8
    generalize τ7.set b8 _ = τ8 at *
    ((try simp only [go_sem, loadL_a]); (try ((first | refine hK _ _ ?_ | refine hKP _ _ _ ?_ | refine hKP _ _ (fun _ => ?_)); clear hK hKP K KP)); repeat (first | refine Stp.s ?_ | refine inBlock_exit' (by decide) ?_ | ((first | refine vc_region fun K KP hK hKP => ?_ | refine Stg.s ?_ | refine guardD_ret0 ?_ | refine exV_intro _ rfl ?_); (try simp only [go_sem, loadL_a]); try ((first | refine hK _ _ ?_ | refine hKP _ _ _ ?_ | refine hKP _ _ (fun _ => ?_)); clear hK hKP K KP))))
    refine effV_intro ?_
    refine own_ent hO8 (Store.le_refl _) (Emp.le _) (row_lit i8 rfl rfl) (m := 1) rfl (fun c hc => by simp only [List.mem_cons, List.not_mem_nil, or_false] at hc; rcases hc with rfl | rfl | rfl <;> rfl) (by omega) ?_
    intro zl ob' τ9 hO9 hk9 hn9
    have k9 := hk9 _ _ k8 (fun e => hne e.symm)
    have h49 := hk9 _ _ h48 (fun e => n4o e.symm)
    have hr9 := hk9 _ _ hr8 (fun e => hS6.one hb br e.symm rfl)
    have hf9 : ∀ c l, σ c = some l → c ≠ br → τ9 c = some l := fun c l hc hn => hk9 _ _ (hf8 c l hc hn) (fun e => by rw [hS6.on c e.symm] at hc; cases hc)
    have ho9 : ∀ c, ob' = some c → σ c = none := fun c e => by
      rcases hn9 c e with q | q
      · exact hS6.on c q
      · cases hc : σ c with
        | none => rfl
        | some l =>
          by_cases hcb : c = br
          · rw [hcb, hr8] at q; cases q
          · rw [hf8 c l hc hcb] at q; cases q
    refine ⟨⟨k9, h49⟩, ?_⟩
    ((try simp only [go_sem, loadL_a, k9, hsl zl, hln2]); (try ((first | refine hK _ _ ?_ | refine hKP _ _ _ ?_ | refine hKP _ _ (fun _ => ?_)); clear hK hKP K KP)); repeat (first | refine Stp.s ?_ | refine inBlock_exit' (by decide) ?_ | ((first | refine vc_region fun K KP hK hKP => ?_ | refine Stg.s ?_ | refine guardD_ret0 ?_ | refine exV_intro _ rfl ?_); (try simp only [go_sem, loadL_a, k9, hsl zl, hln2]); try ((first | refine hK _ _ ?_ | refine hKP _ _ _ ?_ | refine hKP _ _ (fun _ => ?_)); clear hK hKP K KP))))
    refine ⟨by rcases hO9 with ⟨rfl, _⟩ | ⟨_, _, _, _, _, rfl, _⟩ <;> rfl, ?_⟩
    have hyc : zl.cells = [zl] := by rcases hO9 with ⟨rfl, _⟩ | ⟨_, _, _, _, _, rfl, _⟩ <;> rfl
    have hyo : zl.one = true := by rcases hO9 with ⟨rfl, _⟩ | ⟨_, _, _, _, _, rfl, _⟩ <;> rfl
    rw [hyc]
    refine ⟨rfl, fun c hc => by simp only [List.mem_singleton] at hc; subst hc; exact hyo, by show 13 + 1 ≤ 15; decide, ?_⟩
    rw [show setL (ixC ⟨x.cart, W, x.l, x.w⟩ yl) 13 [zl] = (ixC ⟨x.cart, W, x.l, x.w⟩ yl).set 13 zl from rfl, hsl zl]
    have hobb : ob' ≠ some b := fun e => by
      rcases hn9 b e with q | q
      · exact hne q
      · rw [k8] at q; cases q
    have hxe : (⟨x.cart, W, x.l ++ [⟨nd, nk, s⟩], x.w⟩ : Ix) = x.ent nd nk s := by unfold Ix.ent; rw [hWe]
    have hO10 := hO9.keep (fun c k e hc => (Store.set_other τ9 (.cells (ixC (x.ent nd nk s) zl)) (fun q => hobb (by rw [e, q]))).trans hc)
    have hS10 : LdSt σ br b (x.ent nd nk s) ob' q3 (τ9.set b (.cells (ixC (x.ent nd nk s) zl))) :=
      ⟨by rw [Store.set_other _ _ hbbr.symm]; exact hr9, ⟨zl, Store.set_same _ _ _, (by
        have e : (x.ent nd nk s).l = x.l ++ [⟨nd, nk, s⟩] := rfl
        rw [e, List.flatMap_append, List.length_append]
        simpa [entC] using hO10), hobb⟩, hS6.bn, ho9, fun c l hc hn => by rw [Store.set_other _ _ (fun e => by rw [e, hS6.bn] at hc; cases hc)]; exact hf9 c l hc hn⟩
    rw [hxe]
    ((try simp only [go_sem, loadL_a, i64_up (show i ≤ 10000000 by omega)]); (try ((first | refine hK _ _ ?_ | refine hKP _ _ _ ?_ | refine hKP _ _ (fun _ => ?_)); clear hK hKP K KP)); repeat (first | refine Stp.s ?_ | refine inBlock_exit' (by decide) ?_ | ((first | refine vc_region fun K KP hK hKP => ?_ | refine Stg.s ?_ | refine guardD_ret0 ?_ | refine exV_intro _ rfl ?_); (try simp only [go_sem, loadL_a, i64_up (show i ≤ 10000000 by omega)]); try ((first | refine hK _ _ ?_ | refine hKP _ _ _ ?_ | refine hKP _ _ (fun _ => ?_)); clear hK hKP K KP))))
    refine ⟨(i + 1, x.ent nd nk s, ob', q3), _, tell_weak (by repeat (first | exact LeEnv.nil | refine LeEnv.same ?_ | refine LeEnv.top ?_)) (Weakens.le (Store.le_refl _)), ⟨hlt, hS10, ent_good hgx hNe ⟨hs0, hs⟩, hw0, ?_, ?_, by show q3.length ≤ bs.length; omega, hp⟩, by show n - (i + 1) < n - i; omega⟩
    · show (x.l ++ [_]).length = i + 1
      rw [List.length_append, hil]; rfl
    · exact withV_vb hvb nd (by omega)
  · have hin : i = n := by simp at hq; omega
    subst hin
    rw [Nat.sub_self, pEnts] at hp
    have hf := hf x cs hp
    clear hvb
    (repeat (first | refine Stp.s ?_ | refine inBlock_exit' (by decide) ?_ | ((first | refine vc_region fun K KP hK hKP => ?_ | refine Stg.s ?_ | refine guardD_ret0 ?_ | refine exV_intro _ rfl ?_); (try simp only [go_sem, loadL_a]); try ((first | refine hK _ _ ?_ | refine hKP _ _ _ ?_ | refine hKP _ _ (fun _ => ?_)); clear hK hKP K KP))))
    refine callV_sm (m := 400) (by decide) hS.r (by omega) (fun m r3 h4 hm4 hr3 => ?_) (fun e rest h4 => ?_)
    rotate_left
    · have hS1 := hS.rd hb rest
      ((try simp only [go_sem, loadL_a]); (try ((first | refine hK _ _ ?_ | refine hKP _ _ _ ?_ | refine hKP _ _ (fun _ => ?_)); clear hK hKP K KP)); repeat (first | refine Stp.s ?_ | refine inBlock_exit' (by decide) ?_ | ((first | refine vc_region fun K KP hK hKP => ?_ | refine Stg.s ?_ | refine guardD_ret0 ?_ | refine exV_intro _ rfl ?_); (try simp only [go_sem, loadL_a]); try ((first | refine hK _ _ ?_ | refine hKP _ _ _ ?_ | refine hKP _ _ (fun _ => ?_)); clear hK hKP K KP))))
      (simp only [postV, resV, oneOf, List.getD_cons_succ, List.getD_cons_zero, and_true, true_and])
      exact LdQ.err (by unfold pIx; rw [h1]; simp only; rw [h2]; simp only; rw [hp]; simp only; rw [h4]) hS1.r hS1.f
    have hm60 := hf m r3 h4
    have hpx : pIx bs = pLabs m x r3 := by unfold pIx; rw [h1]; simp only; rw [h2]; simp only; rw [hp]; simp only; rw [h4]
    have hS1 := hS.rd hb r3
    clear hp h4 hS h1 h2 hf
    generalize τ.set br (rdr r3) = τ1 at *
    ((try simp only [go_sem, loadL_a]); (try ((first | refine hK _ _ ?_ | refine hKP _ _ _ ?_ | refine hKP _ _ (fun _ => ?_)); clear hK hKP K KP)); repeat (first | refine Stp.s ?_ | refine inBlock_exit' (by decide) ?_ | ((first | refine vc_region fun K KP hK hKP => ?_ | refine Stg.s ?_ | refine guardD_ret0 ?_ | refine exV_intro _ rfl ?_); (try simp only [go_sem, loadL_a]); try ((first | refine hK _ _ ?_ | refine hKP _ _ _ ?_ | refine hKP _ _ (fun _ => ?_)); clear hK hKP K KP))))
    refine vc_loop (loopV (fun (a : Nat × Ix × Option Nat × List UInt8) => [.ptr br 0, .top, .top, .ptr b 0, .top, .top, .top, .top, .top, .top, .top, .top, .top, .top, .top, .top, .top, .top, .top, .top, .top, .top, .top, .top, .top, .top, .top, .top, .top, .top, .top, .top, .top, .top, .top, .top, .top, .top, .top, .top, .top, .top, .top, .top, .top, .top, .top, .top, .top, .top, .top, .top, .top, .top, .top, .top, .top, .top, .top, .top, .top, .top, .top, .top, .top, .top, .top, .top, .top, .top, .top, .top, .top, .top, .top, .top, I64 m, I64 a.1, .top, .top, .top, .top, .top, .top, .top, .top, .top, .top, .top, .top, .top, .top, .top, .top, .top, .top]) (fun a τ => a.1 ≤ m ∧ LdSt σ br b a.2.1 a.2.2.1 a.2.2.2 τ ∧ a.2.1.Good ∧ a.2.1.l.length + a.2.1.w.length ≤ i + a.1 ∧ a.2.2.2.length ≤ bs.length ∧ pIx bs = pLabs (m - a.1) a.2.1 a.2.2.2) (fun a _ => m - a.1) (0, x, ob, r3) (by repeat (first | exact LeEnv.nil | refine LeEnv.same ?_ | refine LeEnv.top ?_)) ⟨Nat.zero_le _, hS1, hg, by show x.l.length + x.w.length ≤ _; rw [hw0, hil]; simp, by show r3.length ≤ _; omega, hpx⟩ ?_)
    clear hS1 hpx hg hw0 hil hr3 hcs
    rintro ⟨j, x, ob, cs⟩ τ ⟨hj, hS, hg, hsz, hcs, hp⟩
    simp only at hj hS hg hsz hcs hp
    (repeat (first | refine Stp.s ?_ | refine inBlock_exit' (by decide) ?_ | ((first | refine vc_region fun K KP hK hKP => ?_ | refine Stg.s ?_ | refine guardD_ret0 ?_ | refine exV_intro _ rfl ?_); (try simp only [go_sem, loadL_a]); try ((first | refine hK _ _ ?_ | refine hKP _ _ _ ?_ | refine hKP _ _ (fun _ => ?_)); clear hK hKP K KP))))
    refine vc_cond rfl (fun hq => ?_) (fun hq => ?_)
    · have hlt : j < m := by simpa using hq
      rw [show m - j = (m - (j + 1)) + 1 by omega, pLabs] at hp
      (repeat (first | refine Stp.s ?_ | refine inBlock_exit' (by decide) ?_ | ((first | refine vc_region fun K KP hK hKP => ?_ | refine Stg.s ?_ | refine guardD_ret0 ?_ | refine exV_intro _ rfl ?_); (try simp only [go_sem, loadL_a]); try ((first | refine hK _ _ ?_ | refine hKP _ _ _ ?_ | refine hKP _ _ (fun _ => ?_)); clear hK hKP K KP))))
      refine callV_rd lab_call hS.r (by omega) (fun v rest hv => ?_) (fun e rest hv => ?_)
      rotate_left
      · cases hq : pLab cs with
        | ok a => rw [hq] at hv; cases hv
        | error a =>
          rw [hq] at hv hp
          cases hv
          have hS1 := hS.rd hb rest
          ((try simp only [go_sem, loadL_a]); (try ((first | refine hK _ _ ?_ | refine hKP _ _ _ ?_ | refine hKP _ _ (fun _ => ?_)); clear hK hKP K KP)); repeat (first | refine Stp.s ?_ | refine inBlock_exit' (by decide) ?_ | ((first | refine vc_region fun K KP hK hKP => ?_ | refine Stg.s ?_ | refine guardD_ret0 ?_ | refine exV_intro _ rfl ?_); (try simp only [go_sem, loadL_a]); try ((first | refine hK _ _ ?_ | refine hKP _ _ _ ?_ | refine hKP _ _ (fun _ => ?_)); clear hK hKP K KP))))
          (simp only [postV, resV, oneOf, List.getD_cons_succ, List.getD_cons_zero, and_true, true_and])
          exact LdQ.err hp hS1.r hS1.f
      cases hq : pLab cs with
      | error a => rw [hq] at hv; cases hv
      | ok a =>
        obtain ⟨l, r⟩ := a
        rw [hq] at hv hp
        cases hv
        simp only at hp
        obtain ⟨hla, hlr, hrl⟩ := pLab_inv hq
        rw [dif_pos hla] at hp
        have hS1 := hS.rd hb rest
        generalize τ.set br (rdr rest) = τ1 at *
        have hadd := iAdd hS1.x hg (by omega) ⟨l, hla⟩
        ((try simp only [go_sem, loadL_a]); (try ((first | refine hK _ _ ?_ | refine hKP _ _ _ ?_ | refine hKP _ _ (fun _ => ?_)); clear hK hKP K KP)); repeat (first | refine Stp.s ?_ | refine inBlock_exit' (by decide) ?_ | ((first | refine vc_region fun K KP hK hKP => ?_ | refine Stg.s ?_ | refine guardD_ret0 ?_ | refine exV_intro _ rfl ?_); (try simp only [go_sem, loadL_a]); try ((first | refine hK _ _ ?_ | refine hKP _ _ _ ?_ | refine hKP _ _ (fun _ => ?_)); clear hK hKP K KP))))
        refine callV_of en45 hadd (fun y σ' q => ?_) (fun y σ' q => by cases q.1)
        obtain ⟨e, ob', hx', hs'⟩ := q
        cases e
        have hS2 := hS1.step hb hx' hs'
        generalize hA : addR x ⟨l, hla⟩ = A at *
        obtain ⟨k, f, x'⟩ := A
        simp only at hp
        have hgd := addR_good hg ⟨l, hla⟩
        rw [hA] at hgd
        simp only at hgd
        ((try simp only [go_sem, loadL_a]); (try ((first | refine hK _ _ ?_ | refine hKP _ _ _ ?_ | refine hKP _ _ (fun _ => ?_)); clear hK hKP K KP)); repeat (first | refine Stp.s ?_ | refine inBlock_exit' (by decide) ?_ | ((first | refine vc_region fun K KP hK hKP => ?_ | refine Stg.s ?_ | refine guardD_ret0 ?_ | refine exV_intro _ rfl ?_); (try simp only [go_sem, loadL_a]); try ((first | refine hK _ _ ?_ | refine hKP _ _ _ ?_ | refine hKP _ _ (fun _ => ?_)); clear hK hKP K KP))))
        refine callV_rd (Must_call _) hS2.r (by omega) (fun v rest' hm => ?_) (fun e rest' hm => ?_)
        rotate_left
        · split at hm
          · cases hm
          · rename_i hq2
            cases hm
            rw [if_neg (fun q => hq2 (by obtain ⟨rfl, rfl⟩ := q; rfl))] at hp
            have hS3 := hS2.rd hb rest
            ((try simp only [go_sem, loadL_a]); (try ((first | refine hK _ _ ?_ | refine hKP _ _ _ ?_ | refine hKP _ _ (fun _ => ?_)); clear hK hKP K KP)); repeat (first | refine Stp.s ?_ | refine inBlock_exit' (by decide) ?_ | ((first | refine vc_region fun K KP hK hKP => ?_ | refine Stg.s ?_ | refine guardD_ret0 ?_ | refine exV_intro _ rfl ?_); (try simp only [go_sem, loadL_a]); try ((first | refine hK _ _ ?_ | refine hKP _ _ _ ?_ | refine hKP _ _ (fun _ => ?_)); clear hK hKP K KP))))
            (simp only [postV, resV, oneOf, List.getD_cons_succ, List.getD_cons_zero, and_true, true_and])
            exact LdQ.err hp hS3.r hS3.f
        split at hm
        rotate_left
        · cases hm
        rename_i hq2
        cases hm
        have hfk : f = 0 ∧ k = 0 := by simpa using hq2
        rw [if_pos hfk] at hp
        have hS3 := hS2.rd hb rest
        ((try simp only [go_sem, loadL_a, i64_up (show j ≤ 10000000 by omega)]); (try ((first | refine hK _ _ ?_ | refine hKP _ _ _ ?_ | refine hKP _ _ (fun _ => ?_)); clear hK hKP K KP)); repeat (first | refine Stp.s ?_ | refine inBlock_exit' (by decide) ?_ | ((first | refine vc_region fun K KP hK hKP => ?_ | refine Stg.s ?_ | refine guardD_ret0 ?_ | refine exV_intro _ rfl ?_); (try simp only [go_sem, loadL_a, i64_up (show j ≤ 10000000 by omega)]); try ((first | refine hK _ _ ?_ | refine hKP _ _ _ ?_ | refine hKP _ _ (fun _ => ?_)); clear hK hKP K KP))))
        exact ⟨(j + 1, x', ob', rest), _, (by repeat (first | exact LeEnv.nil | refine LeEnv.same ?_ | refine LeEnv.top ?_)), Store.le_refl _, ⟨hlt, hS3, hgd.1, by show x'.l.length + x'.w.length ≤ i + (j + 1); omega, by show rest.length ≤ bs.length; omega, hp⟩, by show m - (j + 1) < m - j; omega⟩
    · have hjm : j = m := by simp at hq; omega
      subst hjm
      rw [Nat.sub_self, pLabs] at hp
      (repeat (first | refine Stp.s ?_ | refine inBlock_exit' (by decide) ?_ | ((first | refine vc_region fun K KP hK hKP => ?_ | refine Stg.s ?_ | refine guardD_ret0 ?_ | refine exV_intro _ rfl ?_); (try simp only [go_sem, loadL_a]); try ((first | refine hK _ _ ?_ | refine hKP _ _ _ ?_ | refine hKP _ _ (fun _ => ?_)); clear hK hKP K KP))))
      (simp only [postV, resV, oneOf, List.getD_cons_succ, List.getD_cons_zero, and_true, true_and])
      unfold LdQ
      rw [hp]
      exact ⟨b, ob, rfl, hS, hg, by omega⟩
end Go.Proofs.YtociliegljoldaaGreat
