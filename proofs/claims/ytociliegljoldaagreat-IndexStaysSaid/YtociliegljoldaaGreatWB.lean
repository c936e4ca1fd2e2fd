import Derived.Test.YtociliegljoldaaGreatWA
import Derived.Test.YtociliegljoldaaGreatRR
import Derived.Test.YtociliegljoldaaGreatPQ
import Derived.Recover
import Derived.Test.YtociliegljoldaaGreatPP
/- A tree, read. -/
namespace Go.Proofs.YtociliegljoldaaGreat
set_option linter.unusedSimpArgs false
set_option linter.unusedVariables false
open Go.Proofs
attribute [local irreducible] vc vcOps vcDraw vcK vcKP vcDK vcDB HWp HCalls postV Ex.then Ex.inBlock stepD callV appendV guardC guardD exV effV opV loadV storeV indexAddrV indexV sliceV
set_option maxRecDepth 10000
set_option maxHeartbeats 4000000

theorem Weakens.heap {x y : V} {σ τ : Store} (h : Weakens x σ y τ) {I : Imm} {w : World} {v : Value} (hs : StR σ I w) (hv : VR I x v) : VR (HeapI w) y v := by
  obtain ⟨J, _, h2, h3⟩ := h I w v hs hv
  exact h3.mono fun b o e => h2.imm b o e
/-- A call that only tells a scalar may be shown memory of one's own. -/
theorem callV_borrow {g : FuncId} {xs ys : List V} {v : Value} {σ : Store} {K KP : V → Store → Prop} (h : HPure Tryz.prog g ys (.val v)) (hb : ∀ (I : Imm) (w : World) (vs : List Value), StR σ I w → LR I xs vs → LR (HeapI w) ys vs) (k : K (.val v) σ) : callV Tryz.prog (.fn (.func g) [] []) xs σ K KP := by
  refine callV_of (R := fun r σ' => r = .ret (.val v) ∧ σ' = σ) h.1 ?_ (fun x σ' ⟨e, f⟩ => by cases e; subst f; exact k) (fun x σ' ⟨e, _⟩ => by cases e)
  rw [List.nil_append, List.append_nil]
  unfold HCalls
  intro I w vs hs hv
  have h1 := h.2 (fun _ => none)
  unfold HCalls at h1
  have h0 := h1 (HeapI w) w vs (HeapI.st w) (hb I w _ hs hv)
  refine h0.mono fun e w' ⟨g1, I', σ', g2, g3, g4⟩ => ?_
  have same : ∀ b o, w.heap[b]? = some o → w'.heap[b]? = some o := fun b o e => g3.imm b o (g2 b o e)
  refine ⟨g1, I, σ, Imm.le_refl I, ⟨fun b o e => same b o (hs.imm b o e), fun b l e => ?_, hs.sep⟩, ?_⟩
  · obtain ⟨o, o1, o2⟩ := hs.own b l e
    exact ⟨o, same b o o1, o2⟩
  · rcases g4 with ⟨r, u, a, b, c, _⟩ | ⟨r, u, a, b, c, _⟩
    · cases c
      cases b
      exact .inl ⟨.val v, v, a, .val v, rfl, rfl⟩
    · cases c
/-- A reader's call, its result and memory told as less. -/
theorem RdC.of {f : FuncId} {args : List V} {p : List UInt8 → Except (Int × List UInt8) (V × List UInt8)} (he : entersB Tryz.prog f = true)
    (h : ∀ (σ : Store) (br : Nat) (bs : List UInt8), σ br = some (rdr bs) → bs.length ≤ 1000000000 → HCalls Tryz.prog f (.ptr br 0 :: args) σ fun r σ' => match p bs with
      | .ok (v, rest) => Ends v (σ.set br (rdr rest)) r σ'
      | .error (e, rest) => r = .pan (flt e) ∧ (σ.set br (rdr rest)).le σ') : RdC f args p := by
  refine ⟨he, fun σ br bs hb hl => (h σ br bs hb hl).weaken (fun r σ' q => ?_) (fun r σ' q => ?_)⟩
  · cases hp : p bs with
    | ok a => obtain ⟨v, rest⟩ := a; rw [hp] at q; obtain ⟨y, e, hw⟩ := q; cases e; exact ⟨v, _, hw, rfl, rfl⟩
    | error a => obtain ⟨e, rest⟩ := a; rw [hp] at q; cases q.1
  · cases hp : p bs with
    | ok a => obtain ⟨v, rest⟩ := a; rw [hp] at q; obtain ⟨y, e, hw⟩ := q; cases e
    | error a => obtain ⟨e, rest⟩ := a; rw [hp] at q; obtain ⟨e', hle⟩ := q; cases e'; exact ⟨_, _, Weakens.le hle, rfl, rfl⟩

/-- A number of at most m, plainly. -/
def pSm (m : Nat) (bs : List UInt8) : Except (Int × List UInt8) (Nat × List UInt8) := match decN bs with
  | .ok (n, r) => if n ≤ m then .ok (n, r) else .error (3, r)
  | .error e => .error e
theorem pSmall_eq (m : Nat) (bs : List UInt8) : pSmall m bs = match pSm m bs with | .ok (n, r) => .ok (I64 n, r) | .error e => .error e := by
  unfold pSmall pSm
  cases decN bs with
  | error e => rfl
  | ok a => obtain ⟨n, r⟩ := a; simp only; split <;> rfl
def mkT (ks : List Nat) (es : List (Nat × Nat)) : Tr := ⟨ks.map fun n => ((n : Nat) : Int), es.map fun e => (((e.1 : Nat) : Int), ((e.2 : Nat) : Int))⟩
/-- What Get reads: n edges; n kinds and the edges. -/
def pE : Nat → List Nat → List (Nat × Nat) → List UInt8 → Except (Int × List UInt8) (Tr × List UInt8)
  | 0, ks, es, cs => if (mkT ks es).rightC = true then .ok (mkT ks es, cs) else .error (3, cs)
  | n + 1, ks, es, cs => match pSm 12 cs with
    | .error e => .error e
    | .ok (a, r) => match pSm 12 r with
      | .error e => .error e
      | .ok (b, r) => pE n ks (es ++ [(a, b)]) r
def pK : Nat → List Nat → List UInt8 → Except (Int × List UInt8) (Tr × List UInt8)
  | 0, ks, cs => match pSm 11 cs with
    | .error e => .error e
    | .ok (n, r) => pE n ks [] r
  | n + 1, ks, cs => match pSm 3 cs with
    | .error e => .error e
    | .ok (k, r) => pK n (ks ++ [k]) r
def pTree (bs : List UInt8) : Except (Int × List UInt8) (V × List UInt8) := match pK 12 [] bs with
  | .ok (t, r) => .ok (t.v, r)
  | .error e => .error e
theorem callV_sm {m : Nat} (hm : m ≤ 9223372036854775807) {σ : Store} {br : Nat} {cs : List UInt8} {K KP : V → Store → Prop} (hb : σ br = some (rdr cs)) (hl : cs.length ≤ 1000000000)
    (ok : ∀ n rest, pSm m cs = .ok (n, rest) → n ≤ m → rest.length ≤ cs.length → K (I64 n) (σ.set br (rdr rest))) (er : ∀ e rest, pSm m cs = .error (e, rest) → KP (flt e) (σ.set br (rdr rest))) : callV Tryz.prog (.fn (.func 153) [] []) [.ptr br 0, I64 m] σ K KP := by
  refine callV_rd (small_call m hm) hb hl (fun v rest hp => ?_) (fun e rest hp => ?_)
  · rw [pSmall_eq] at hp
    cases hq : pSm m cs with
    | error e => rw [hq] at hp; cases hp
    | ok a =>
      obtain ⟨n, r⟩ := a
      rw [hq] at hp
      simp only [Except.ok.injEq, Prod.mk.injEq] at hp
      obtain ⟨rfl, rfl⟩ := hp
      have h1 : n ≤ m ∧ r.length ≤ cs.length := by
        unfold pSm at hq
        cases hd : decN cs with
        | error e => rw [hd] at hq; cases hq
        | ok a =>
          obtain ⟨n', r'⟩ := a
          rw [hd] at hq
          simp only at hq
          split at hq
          · rename_i hle
            simp only [Except.ok.injEq, Prod.mk.injEq] at hq
            obtain ⟨rfl, rfl⟩ := hq
            refine ⟨hle, ?_⟩
            rw [(num_of_dec hd).2, List.length_append]; omega
          · cases hq
      exact ok n r hq h1.1 h1.2
  · rw [pSmall_eq] at hp
    cases hq : pSm m cs with
    | ok a => rw [hq] at hp; cases hp
    | error a => rw [hq] at hp; cases hp; exact er _ _ hq
theorem Own.onto {k : Nat} {σ0 τ : Store} {x : V} {cs : List V} {n : Nat} {ob : Option Nat} (h : Own k Emp τ x cs n ob) (h0 : ∀ b, ob = some b → σ0 b = none) : Own k σ0 τ x cs n ob := by
  rcases h with h | ⟨b, cap, pre, spare, h1, h2, _, h4⟩
  · exact .inl h
  · exact .inr ⟨b, cap, pre, spare, h1, h2, h0 b h1, h4⟩
abbrev N64 (n : Nat) : V := I64 n
def kCells (ks : List Nat) (x : V) : List V := ks.map N64 ++ List.replicate (12 - ks.length) (I64 0) ++ [x]
theorem kCells_set {ks : List Nat} {x : V} {k : Nat} (h : ks.length < 12) : (kCells ks x).set ks.length (N64 k) = kCells (ks ++ [k]) x := by
  unfold kCells
  have e : 12 - ks.length = (12 - (ks ++ [k]).length) + 1 := by simp; omega
  rw [e, List.replicate_succ, List.append_assoc, List.set_append_right _ _ (by simp)]
  simp [List.append_assoc]
theorem kCells_len (ks : List Nat) (x : V) (h : ks.length ≤ 12) : (kCells ks x).length = 13 := by unfold kCells; simp; omega
end Go.Proofs.YtociliegljoldaaGreat

/- wire.Read: a reader that is let read, and what it met. -/
namespace Go.Proofs.YtociliegljoldaaGreat
set_option linter.unusedSimpArgs false
set_option linter.unusedVariables false
open Go.Proofs
theorem hwp_use {P : Program} {c : Code} {Q : Ex → List V → Store → Prop} {env : List V} {σ : Store} (h : vc P c Q env σ) {ds : List Deferred} {I : Imm} {w : World} {a : Act} (hs : StR σ I w) (he : LR I env a.tmps.toList) (hd : a.defers = ds) : c.wp P (toQ ds I w Q) a w := vc_ok _ _ _ _ h ds I w a hs he hd
theorem flt_val {I : Imm} {e : Int} {v : Value} (h : VR I (.ifc 273 (.agg [I64 e])) v) : v = .iface 273 (.agg #[.int .i64 e]) := by
  cases h with
  | ifc _ _ u hu =>
    obtain ⟨vs, rfl, hl⟩ := hu.inv_agg
    have := hl.len
    obtain ⟨x, hx⟩ : ∃ x, vs.toList = [x] := by
      cases hv : vs.toList with
      | nil => rw [hv] at this; simp at this
      | cons x l => cases l with
        | nil => exact ⟨x, rfl⟩
        | cons y l => rw [hv] at this; simp at this
    rw [hx] at hl
    have h0 := hl.head.inv_val
    subst h0
    congr 2
    exact Array.ext' (by rw [hx])
attribute [local irreducible] vc vcOps vcDraw vcK vcKP vcDK vcDB HWp HCalls postV Ex.then Ex.inBlock stepD callV appendV guardC guardD exV effV opV loadV storeV indexAddrV indexV sliceV
set_option maxRecDepth 10000
set_option maxHeartbeats 4000000

theorem caught_idle (be : Nat) (w : World) : CallsD Tryz.prog 150 #[.pointer (some ⟨be, 0, none⟩)] .returning w fun e u' w' => (∃ v, e = .returned v) ∧ u' = .returning ∧ w' = w := by
  refine callsD_of_wpS Tryz.func150 rfl fun c₀ cs hu => ?_
  apply wpS_seq
  apply wpS_region
  simp [wpOpsS, go_sem, recoverD, hu, Tryz.ntmps150, Exit.thenS]
  apply wpS_seq
  apply wpS_seq
  apply wpS_region
  simp [wpOpsS, go_sem, Exit.thenS, Array.replicate]
  refine wpS_cond (t := true) (by simp [Act.eval, Array.replicate]) ?_
  simp only [if_true]
  refine wpS_of_wp (wp_ret ?_)
  cases c₀
  simp_all [Exit.thenS, bodyPostS, results, Tryz.results150]
theorem caught_pan (e : Int) (older : List PanicEntry) (I : Imm) (w : World) (σ : Store) (be : Nat) (k0 : Int) (hs : StR σ I w) (hb : σ be = some (.cells [I64 k0])) :
    CallsD Tryz.prog 150 #[.pointer (some ⟨be, 0, none⟩)] (.panicking ({ v := .iface 273 (.agg #[.int .i64 e]), recovered := false } :: older)) w fun en u' w' =>
      (∃ v, en = .returned v) ∧ u' = .panicking ({ v := .iface 273 (.agg #[.int .i64 e]), recovered := true } :: older) ∧ Bel w w' ∧ ∃ I' σ', I.le I' ∧ StR σ' I' w' ∧ (∀ c l, σ c = some l → c ≠ be → σ' c = some l) ∧ σ' be = some (.cells [I64 e]) := by
  refine callsD_of_wpS Tryz.func150 rfl fun c₀ cs hu => ?_
  apply wpS_seq
  apply wpS_region
  simp [wpOpsS, go_sem, recoverD, hu, Tryz.ntmps150, Exit.thenS]
  refine wpS_of_wp ?_
  refine wp_mono (hwp_use (Q := fun ex env σ' => (ex = .normal ∨ ex = .ret) ∧ (∀ c l, σ c = some l → c ≠ be → σ' c = some l) ∧ σ' be = some (.cells [I64 e])) (env := [.ptr be 0, .top, .ifc 273 (.agg [I64 e]), .top, .top, .top, .top, .top, .top, .top, .top, .top, .top, .top, .top, .top, .top, .top, .top, .top]) (σ := σ) ?_ (ds := []) (I := I) hs ?_ rfl) ?_
  · (repeat (first | refine Stp.s ?_ | refine inBlock_exit' (by decide) ?_ | ((first | refine vc_region fun K KP hK hKP => ?_ | refine Stg.s ?_ | refine guardD_ret0 ?_ | refine exV_intro _ rfl ?_); (try simp only [go_sem, loadL_a]); try ((first | refine hK _ _ ?_ | refine hKP _ _ _ ?_ | refine hKP _ _ (fun _ => ?_)); clear hK hKP K KP))))
    refine vc_cond rfl (fun hc => absurd hc (by decide)) (fun _ => ?_)
    (repeat (first | refine Stp.s ?_ | refine inBlock_exit' (by decide) ?_ | ((first | refine vc_region fun K KP hK hKP => ?_ | refine Stg.s ?_ | refine guardD_ret0 ?_ | refine exV_intro _ rfl ?_); (try simp only [go_sem, loadL_a]); try ((first | refine hK _ _ ?_ | refine hKP _ _ _ ?_ | refine hKP _ _ (fun _ => ?_)); clear hK hKP K KP))))
    intro b hn
    have hbe : be ≠ b := fun e' => by rw [← e', hb] at hn; cases hn
    ((try simp only [go_sem, loadL_a]); refine hK _ _ ?_; clear hK hKP K KP; repeat (first | refine Stp.s ?_ | refine inBlock_exit' (by decide) ?_ | ((first | refine vc_region fun K KP hK hKP => ?_ | refine Stg.s ?_ | refine guardD_ret0 ?_ | refine exV_intro _ rfl ?_); (try simp only [go_sem, loadL_a]); try ((first | refine hK _ _ ?_ | refine hKP _ _ _ ?_ | refine hKP _ _ (fun _ => ?_)); clear hK hKP K KP))))
    refine vc_cond rfl (fun hc => absurd hc (by decide)) (fun _ => ?_)
    (repeat (first | refine Stp.s ?_ | refine inBlock_exit' (by decide) ?_ | ((first | refine vc_region fun K KP hK hKP => ?_ | refine Stg.s ?_ | refine guardD_ret0 ?_ | refine exV_intro _ rfl ?_); (try simp only [go_sem, loadL_a, hb, hbe, Ne.symm hbe]); try ((first | refine hK _ _ ?_ | refine hKP _ _ _ ?_ | refine hKP _ _ (fun _ => ?_)); clear hK hKP K KP))))
    rw [Store.set_other _ _ hbe, hb]
    refine ⟨by simp, ?_⟩
    ((try simp only [go_sem, loadL_a]); refine hK _ _ ?_; clear hK hKP K KP; repeat (first | refine Stp.s ?_ | refine inBlock_exit' (by decide) ?_ | ((first | refine vc_region fun K KP hK hKP => ?_ | refine Stg.s ?_ | refine guardD_ret0 ?_ | refine exV_intro _ rfl ?_); (try simp only [go_sem, loadL_a]); try ((first | refine hK _ _ ?_ | refine hKP _ _ _ ?_ | refine hKP _ _ (fun _ => ?_)); clear hK hKP K KP))))
    exact ⟨.inl rfl, fun c l hc hn' => by rw [Store.set_other _ _ hn']; exact Store.le_set hn (Store.le_refl σ) c l hc, Store.set_same _ _ _⟩
  · simp only [Array.replicate, List.replicate, Array.toList_append, Array.toList_setIfInBounds, List.set, List.cons_append, List.nil_append]
    have hz : VR I (.ifc 273 (.agg [I64 e])) (.iface 273 (.agg #[.int .i64 e])) := .ifc _ _ _ (VR.mk_agg (.cons (.val _) (.nil _)))
    exact .cons (.ptr _ _) (.cons (.top _) (.cons hz (.cons (.top _) (.cons (.top _) (.cons (.top _) (.cons (.top _) (.cons (.top _) (.cons (.top _) (.cons (.top _) (.cons (.top _) (.cons (.top _) (.cons (.top _) (.cons (.top _) (.cons (.top _) (.cons (.top _) (.cons (.top _) (.cons (.top _) (.cons (.top _) (.cons (.top _) (.nil _))))))))))))))))))))
  · intro ex a w1 q
    simp only [toQ] at q
    obtain ⟨hd, hbel, I', σ', env', hI, hs', -, q⟩ := q
    cases ex with
    | normal => exact ⟨hd, _, rfl, _, by simp [results, Tryz.results150]; rfl, ⟨_, rfl⟩, rfl, hbel, I', hI, σ', hs', q.2.1, q.2.2⟩
    | ret => exact ⟨hd, _, rfl, _, by simp [results, Tryz.results150]; rfl, ⟨_, rfl⟩, rfl, hbel, I', hI, σ', hs', q.2.1, q.2.2⟩
    | exit l => rcases q.1 with h | h <;> cases h
    | goto l => rcases q.1 with h | h <;> cases h
    | panic ch => obtain ⟨_, _, _, _, h, _⟩ := q; rcases h with h | h <;> cases h
    | outgrown => exact q.elim
end Go.Proofs.YtociliegljoldaaGreat

/- wire.Read, whole. -/
namespace Go.Proofs.YtociliegljoldaaGreat
set_option linter.unusedSimpArgs false
set_option linter.unusedVariables false
open Go.Proofs
attribute [local irreducible] vc vcOps vcDraw vcK vcKP vcDK vcDB HWp HCalls postV Ex.then Ex.inBlock stepD callV appendV guardC guardD exV effV opV loadV storeV indexAddrV indexV sliceV
set_option maxRecDepth 10000
set_option maxHeartbeats 4000000

theorem wp_seq_vc {P : Program} {x y : Code} {Q : List V → Store → Prop} {R : Exit → Act → World → Prop} {env : List V} {σ : Store} {ds : List Deferred} {I : Imm} {w : World} {a : Act} (hs : StR σ I w) (he : LR I env a.tmps.toList) (hd : a.defers = ds)
    (h : vc P x (fun ex env' σ' => ex = .normal ∧ Q env' σ') env σ)
    (hn : ∀ I' w' a' env' σ', I.le I' → Bel w w' → StR σ' I' w' → LR I' env' a'.tmps.toList → a'.defers = ds → Q env' σ' → y.wp P R a' w') : (Code.seq x y).wp P R a w := by
  refine wp_seq (wp_mono (hwp_use h hs he hd) ?_)
  intro e a1 w1 hq
  obtain ⟨h1, h2, I', σ', env', h3, h4, h5, h6⟩ := hq
  cases e with
  | normal => exact hn I' w1 a1 env' σ' h3 h2 h4 h5 h1 h6.2
  | exit id => cases h6.1
  | goto l => cases h6.1
  | ret => cases h6.1
  | panic ch => obtain ⟨r, v, _, _, h6⟩ := h6; cases h6.1
  | outgrown => exact h6.elim

def rdCode (p : Except Int (List UInt8)) : Int := match p with | .ok [] => 0 | .ok _ => 2 | .error e => e

theorem read_call {g : FuncId} (hg : entersB Tryz.prog g = true) {qs : List V} {bs : List UInt8} (hl : bs.length ≤ 1000000000) {σ : Store} {B : Nat → Prop} (hB : ∀ c, B c → σ c ≠ none) {p : Except Int (List UInt8)} (hp : ∀ r, p = .ok r → r.length ≤ 1000000000) {Qf : Store → Prop}
    (hQ : ∀ τ τ', Qf τ → (∀ c l, B c → τ c = some l → τ' c = some l) → Qf τ')
    (cb : ∀ (υ : Store) (br : Nat), σ.le υ → υ br = some (rdr bs) → σ br = none → HCalls Tryz.prog g (.ptr br 0 :: qs) υ fun r σ' => (∀ c l, υ c = some l → c ≠ br → ¬ B c → σ' c = some l) ∧ Qf σ' ∧ match p with
      | .ok rest => r = .ret unitV ∧ σ' br = some (rdr rest)
      | .error e => r = .pan (flt e)) :
    HCalls Tryz.prog 92 [.lst 1 (bs.map byteV), .fn (.func g) [] qs] σ fun r σ' => r = .ret (I64 (rdCode p)) ∧ (∀ c l, σ c = some l → ¬ B c → σ' c = some l) ∧ Qf σ' := by
  unfold HCalls
  intro I w vs hs hv
  suffices H : ∀ R : Ending → World → Prop, (∀ v w' I' σ', Bel w w' → I.le I' → StR σ' I' w' → VR I' (I64 (rdCode p)) v → (∀ c l, σ c = some l → ¬ B c → σ' c = some l) → Qf σ' → R (.returned v) w') → Calls Tryz.prog 92 vs w R from
    H _ fun v w' I' σ' h1 h2 h3 h4 h5 h6 => ⟨h1, I', σ', h2, h3, .inl ⟨_, v, rfl, h4, rfl, h5, h6⟩⟩
  intro R hR
  refine calls_of_wp_defers Tryz.func92 rfl ?_
  have he : LR I ([.lst 1 (bs.map byteV), .fn (.func g) [] qs, .top, .top, .top, .top, .top, .top, .top, .top, .top, .top, .top, .top, .top, .top, .top, .top, .top, .top, .top]) (vs ++ Array.replicate (21 - vs.size) undef).toList := by
    have hl2 : 2 = vs.size := by have := hv.len; simpa using this
    have := hv.spare (List.replicate (21 - vs.size) undef) 19 (by simp [← hl2])
    simpa using this
  refine wp_seq_vc (Q := fun env' σ' => ∃ be, σ be = none ∧ σ' = σ.set be (.cells [I64 0]) ∧ env' = [.lst 1 (bs.map byteV), .fn (.func g) [] qs, .top, .top, .ptr be 0, .top, .top, .top, .top, .top, .top, .top, .top, .top, .top, .top, .top, .top, .top, .top, .top]) hs he rfl ?_ ?_
  · (repeat (first | refine Stp.s ?_ | refine inBlock_exit' (by decide) ?_ | ((first | refine vc_region fun K KP hK hKP => ?_ | refine Stg.s ?_ | refine guardD_ret0 ?_ | refine exV_intro _ rfl ?_); (try simp only [go_sem, loadL_a]); try ((first | refine hK _ _ ?_ | refine hKP _ _ _ ?_ | refine hKP _ _ (fun _ => ?_)); clear hK hKP K KP))))
    intro b hb
    ((try simp only [go_sem, loadL_a]); refine hK _ _ ?_; clear hK hKP K KP; repeat (first | refine Stp.s ?_ | refine inBlock_exit' (by decide) ?_ | ((first | refine vc_region fun K KP hK hKP => ?_ | refine Stg.s ?_ | refine guardD_ret0 ?_ | refine exV_intro _ rfl ?_); (try simp only [go_sem, loadL_a]); try ((first | refine hK _ _ ?_ | refine hKP _ _ _ ?_ | refine hKP _ _ (fun _ => ?_)); clear hK hKP K KP))))
    exact ⟨rfl, b, hb, rfl, rfl⟩
  intro I1 w1 a1 env1 σ1 hI1 hw1 hs1 he1 hd1 ⟨be, hbe, e1, e2⟩
  subst e1 e2
  refine wp_seq_vc (Q := fun env' σ' => σ' = σ.set be (.cells [I64 0]) ∧ env' = [.lst 1 (bs.map byteV), .fn (.func g) [] qs, .top, .top, .ptr be 0, .top, .fn (.func g) [] qs, BV false, .top, .top, .top, .top, .top, .top, .top, .top, .top, .top, .top, .top, .top]) hs1 he1 hd1 ?_ ?_
  · (repeat (first | refine Stp.s ?_ | refine inBlock_exit' (by decide) ?_ | ((first | refine vc_region fun K KP hK hKP => ?_ | refine Stg.s ?_ | refine guardD_ret0 ?_ | refine exV_intro _ rfl ?_); (try simp only [go_sem, loadL_a]); try ((first | refine hK _ _ ?_ | refine hKP _ _ _ ?_ | refine hKP _ _ (fun _ => ?_)); clear hK hKP K KP))))
    refine vc_cond rfl (fun hc => absurd hc (by decide)) (fun _ => ?_)
    (repeat (first | refine Stp.s ?_ | refine inBlock_exit' (by decide) ?_ | ((first | refine vc_region fun K KP hK hKP => ?_ | refine Stg.s ?_ | refine guardD_ret0 ?_ | refine exV_intro _ rfl ?_); (try simp only [go_sem, loadL_a]); try ((first | refine hK _ _ ?_ | refine hKP _ _ _ ?_ | refine hKP _ _ (fun _ => ?_)); clear hK hKP K KP))))
    exact ⟨rfl, rfl, rfl⟩
  intro I2 w2 a2 env2 σ2 hI2 hw2 hs2 he2 hd2 ⟨e1, e2⟩
  subst e1 e2
  refine wp_seq ?_
  refine wp_region_list ?_
  simp [wpList, go_sem]
  refine .inl ?_
  have h4 : a2.tmps[4]?.getD undef = .pointer (some ⟨be, 0, none⟩) := by
    have hlen := he2.len
    simp at hlen
    have h := he2.at_ 4 (.ptr be 0) (a2.tmps[4]'(by omega)) rfl (by simp)
    rw [Array.getElem?_eq_getElem (by omega)]
    simp only [Option.getD_some]
    generalize a2.tmps[4] = x at h
    cases h
    rfl
  rw [h4, hd2]
  have hnb : ¬ B be := fun h => hB be h hbe
  refine wp_mono (hwp_use (Q := fun ex env' σ' => (∀ c l, σ c = some l → ¬ B c → σ' c = some l) ∧ Qf σ' ∧ match ex with
    | .normal => σ' be = some (.cells [I64 (rdCode p)]) ∧ env'[4]? = some (.ptr be 0)
    | .ret => σ' be = some (.cells [I64 (rdCode p)]) ∧ env'[4]? = some (.ptr be 0)
    | .pan x => ∃ e, p = .error e ∧ x = flt e ∧ ∃ k0, σ' be = some (.cells [I64 k0]) ∧ env'[4]? = some (.ptr be 0)
    | _ => False) ?main hs2 (a := _) he2 rfl) ?fin
  case fin =>
    intro ex a3 w3 ⟨hd3, hw3, I3, σ3, env3, hI3, hs3, he3, q⟩
    have done : ∀ (I4 : Imm) (w4 : World) (σ4 : Store), I3.le I4 → Bel w3 w4 → StR σ4 I4 w4 → (∀ c l, σ c = some l → ¬ B c → σ4 c = some l) → Qf σ4 → σ4 be = some (.cells [I64 (rdCode p)]) → env3[4]? = some (.ptr be 0) → Leaves Tryz.prog Tryz.f92 a3.tmps R [] .returning w4 := by
      intro I4 w4 σ4 h1 h2 h3 h5 h6 h7 h8
      have h4 := he3.mono h1
      obtain ⟨v, r, g1, g2, g3⟩ := results_ok (P := Tryz.prog) (fn := Tryz.f92) h3 h4 (Q := fun r σ' => r = .ret (I64 (rdCode p)) ∧ σ' = σ4) (by
        rw [Tryz.results92]
        simp [resV, go_sem, h8, h7, loadV, oneOf])
      obtain ⟨e, -⟩ := g3
      cases e
      exact ⟨v, g1, hR v w4 I4 σ4 (hw1.trans (hw2.trans (hw3.trans h2))) (Imm.le_trans hI1 (Imm.le_trans hI2 (Imm.le_trans hI3 h1))) h3 g2 h5 h6⟩
    cases ex with
    | exit l => exact q.2.2.elim
    | goto l => exact q.2.2.elim
    | normal =>
      simp only [bodyPostD]
      rw [hd3]
      refine leaves_cons (by simp) rfl ((caught_idle be w3).mono fun e u' w' h => ?_)
      obtain ⟨⟨v, rfl⟩, rfl, rfl⟩ := h
      exact done I3 w' σ3 (Imm.le_refl _) (Bel.refl _) hs3 q.1 q.2.1 q.2.2.1 q.2.2.2
    | ret =>
      simp only [bodyPostD]
      rw [hd3]
      refine leaves_cons (by simp) rfl ((caught_idle be w3).mono fun e u' w' h => ?_)
      obtain ⟨⟨v, rfl⟩, rfl, rfl⟩ := h
      exact done I3 w' σ3 (Imm.le_refl _) (Bel.refl _) hs3 q.1 q.2.1 q.2.2.1 q.2.2.2
    | panic ch =>
      obtain ⟨r, v, rfl, hv1, q1, q2, e, hpe, rfl, k0, q3, q4⟩ := q
      have hv2 := flt_val hv1
      subst hv2
      simp only [bodyPostD]
      rw [hd3]
      refine leaves_cons (by simp) rfl ((caught_pan e [] I3 w3 σ3 be k0 hs3 q3).mono fun en u' w' h => ?_)
      obtain ⟨⟨v, rfl⟩, rfl, hw4, I4, σ4, hI4, hs4, f1, f2⟩ := h
      refine done I4 w' σ4 hI4 hw4 hs4 (fun c l hc hn => ?_) (hQ _ _ q2 fun c l hb hc => f1 c l hc ?_) ?_ q4
      · exact f1 c l (q1 c l hc hn) fun e' => by rw [e', hbe] at hc; cases hc
      · exact fun e' => hnb (e' ▸ hb)
      · rw [f2, hpe]; rfl
    | outgrown => exact q.elim
  case main =>
    (repeat (first | refine Stp.s ?_ | refine inBlock_exit' (by decide) ?_ | ((first | refine vc_region fun K KP hK hKP => ?_ | refine Stg.s ?_ | refine guardD_ret0 ?_ | refine exV_intro _ rfl ?_); (try simp only [go_sem, loadL_a]); try ((first | refine hK _ _ ?_ | refine hKP _ _ _ ?_ | refine hKP _ _ (fun _ => ?_)); clear hK hKP K KP))))
    refine callV_quiet en146 (clone_lst hl) ?_
    simp only [go_sem, loadL_a]
    intro br hbr
    have hbb : br ≠ be := fun e' => by rw [e', Store.set_same] at hbr; cases hbr
    have hbr0 : σ br = none := by rw [Store.set_other _ _ hbb] at hbr; exact hbr
    have hnr : ¬ B br := fun h => hB br h hbr0
    ((try simp only [go_sem, loadL_a]); refine hK _ _ ?_; clear hK hKP K KP; repeat (first | refine Stp.s ?_ | refine inBlock_exit' (by decide) ?_ | ((first | refine vc_region fun K KP hK hKP => ?_ | refine Stg.s ?_ | refine guardD_ret0 ?_ | refine exV_intro _ rfl ?_); (try simp only [go_sem, loadL_a]); try ((first | refine hK _ _ ?_ | refine hKP _ _ _ ?_ | refine hKP _ _ (fun _ => ?_)); clear hK hKP K KP))))
    refine callV_of hg (cb ((σ.set be (.cells [I64 0])).set br (rdr bs)) br (fun c l hc => Store.le_set hbr (Store.le_set hbe (Store.le_refl σ)) c l hc) (Store.set_same _ _ _) hbr0) (fun x σ' q => ?_) (fun x σ' q => ?_)
    · obtain ⟨q1, q2, q3⟩ := q
      cases hpp : p with
      | error e => rw [hpp] at q3; cases q3
      | ok rest =>
        rw [hpp] at q3
        obtain ⟨q3, q4⟩ := q3
        cases q3
        have hrl := hp rest hpp
        have hbe' : σ' be = some (.cells [I64 0]) := q1 be _ (by rw [Store.set_other _ _ (Ne.symm hbb)]; exact Store.set_same _ _ _) (Ne.symm hbb) hnb
        have keep : ∀ (z : Blk) c l, σ c = some l → ¬ B c → (σ'.set be z) c = some l := fun z c l hc hn => by
          have n1 : c ≠ be := fun e' => by rw [e', hbe] at hc; cases hc
          have n2 : c ≠ br := fun e' => by rw [e', hbr0] at hc; cases hc
          rw [Store.set_other _ _ n1]
          exact q1 c l (by rw [Store.set_other _ _ n2, Store.set_other _ _ n1]; exact hc) n2 hn
        have kQ : ∀ (z : Blk), Qf (σ'.set be z) := fun z => hQ _ _ q2 fun c l hb hc => by
          have n1 : c ≠ be := fun e' => by subst e'; exact hnb hb
          rw [Store.set_other _ _ n1]; exact hc
        ((try simp only [go_sem, loadL_a, q4, rdr, List.length_map]); refine hK _ _ ?_; clear hK hKP K KP; repeat (first | refine Stp.s ?_ | refine inBlock_exit' (by decide) ?_ | ((first | refine vc_region fun K KP hK hKP => ?_ | refine Stg.s ?_ | refine guardD_ret0 ?_ | refine exV_intro _ rfl ?_); (try simp only [go_sem, loadL_a, q4, rdr, List.length_map]); try ((first | refine hK _ _ ?_ | refine hKP _ _ _ ?_ | refine hKP _ _ (fun _ => ?_)); clear hK hKP K KP))))
        refine vc_cond rfl (fun hc => ?_) (fun hc => ?_)
        · (repeat (first | refine Stp.s ?_ | refine inBlock_exit' (by decide) ?_ | ((first | refine vc_region fun K KP hK hKP => ?_ | refine Stg.s ?_ | refine guardD_ret0 ?_ | refine exV_intro _ rfl ?_); (try simp only [go_sem, loadL_a, hbe']); try ((first | refine hK _ _ ?_ | refine hKP _ _ _ ?_ | refine hKP _ _ (fun _ => ?_)); clear hK hKP K KP))))
          refine ⟨keep _, kQ _, ?_, rfl⟩
          rw [Store.set_same, hpp]
          cases rest with
          | nil => simp at hc
          | cons a l => rfl
        · (repeat (first | refine Stp.s ?_ | refine inBlock_exit' (by decide) ?_ | ((first | refine vc_region fun K KP hK hKP => ?_ | refine Stg.s ?_ | refine guardD_ret0 ?_ | refine exV_intro _ rfl ?_); (try simp only [go_sem, loadL_a, hbe']); try ((first | refine hK _ _ ?_ | refine hKP _ _ _ ?_ | refine hKP _ _ (fun _ => ?_)); clear hK hKP K KP))))
          refine ⟨keep _, kQ _, ?_, rfl⟩
          rw [Store.set_same, hpp]
          cases rest with
          | nil => rfl
          | cons a l => simp at hc
    · obtain ⟨q1, q2, q3⟩ := q
      cases hpp : p with
      | ok rest => rw [hpp] at q3; cases q3.1
      | error e =>
        rw [hpp] at q3
        cases q3
        ((try simp only [go_sem, loadL_a]); (try ((first | refine hK _ _ ?_ | refine hKP _ _ _ ?_ | refine hKP _ _ (fun _ => ?_)); clear hK hKP K KP)); repeat (first | refine Stp.s ?_ | refine inBlock_exit' (by decide) ?_ | ((first | refine vc_region fun K KP hK hKP => ?_ | refine Stg.s ?_ | refine guardD_ret0 ?_ | refine exV_intro _ rfl ?_); (try simp only [go_sem, loadL_a]); try ((first | refine hK _ _ ?_ | refine hKP _ _ _ ?_ | refine hKP _ _ (fun _ => ?_)); clear hK hKP K KP))))
        refine ⟨fun c l hc hn => ?_, q2, e, hpp, rfl, 0, ?_, rfl⟩
        · have n1 : c ≠ be := fun e' => by rw [e', hbe] at hc; cases hc
          have n2 : c ≠ br := fun e' => by rw [e', hbr0] at hc; cases hc
          exact q1 c l (by rw [Store.set_other _ _ n2, Store.set_other _ _ n1]; exact hc) n2 hn
        · exact q1 be _ (by rw [Store.set_other _ _ (Ne.symm hbb)]; exact Store.set_same _ _ _) (Ne.symm hbb) hnb
end Go.Proofs.YtociliegljoldaaGreat

/- Plain: a tree's bytes are read as it. -/
namespace Go.Proofs.YtociliegljoldaaGreat
set_option linter.unusedSimpArgs false
set_option linter.unusedVariables false
open Go.Proofs

theorem nums_bnd {x : Int} (h : x ∈ nums) : 1 ≤ x ∧ x ≤ 12 := by
  have : ∀ y ∈ nums, 1 ≤ y ∧ y ≤ 12 := by decide
  exact this x h
structure Tr.Low (t : Tr) : Prop where
  k : ∀ k ∈ t.kinds, 0 ≤ k ∧ k ≤ 3
  e : ∀ e ∈ t.edges, (1 ≤ e.1 ∧ e.1 ≤ 12) ∧ (1 ≤ e.2 ∧ e.2 ≤ 12)
  n : t.edges.length ≤ 11
theorem Tr.right_low {t : Tr} (h : t.right = true) : t.Low := by
  unfold Tr.right at h
  simp only [Bool.and_eq_true] at h
  obtain ⟨⟨⟨hk, he⟩, _⟩, hn⟩ := h
  have hE : ∀ e ∈ t.edges, t.there e.1 = true ∧ t.there e.2 = true := by
    intro e hm
    obtain ⟨i, hi, rfl⟩ := List.getElem_of_mem hm
    unfold Tr.edgesOk at he
    rw [List.all_eq_true] at he
    have := he i (List.mem_range.2 hi)
    unfold Tr.bad at this
    rw [List.getD_eq_getElem?_getD, List.getElem?_eq_getElem hi] at this
    simp only [Option.getD_some, Bool.not_or, Bool.not_not, Bool.and_eq_true] at this
    exact ⟨this.1.1.1.1, this.1.1.1.2⟩
  refine ⟨fun k hm => ?_, fun e hm => ⟨nums_bnd (there_nums (hE e hm).1), nums_bnd (there_nums (hE e hm).2)⟩, ?_⟩
  · unfold Tr.kindsOk at hk
    rw [Bool.not_eq_true', List.any_eq_false] at hk
    have := hk k hm
    simp at this
    omega
  · have ha : t.all ≤ 12 := by
      unfold Tr.all
      exact Nat.le_trans (List.length_filter_le _ _) (by decide)
    cases hs : t.nodes 3 with
    | nil =>
      rw [hs] at hn
      have h0 : (nums.filter t.there).length = 0 := by simpa [Tr.all] using hn
      cases hed : t.edges with
      | nil => simp
      | cons e l =>
        exfalso
        have := (hE e (by rw [hed]; simp)).1
        have hm : e.1 ∈ nums.filter t.there := List.mem_filter.2 ⟨there_nums this, this⟩
        rw [List.length_eq_zero_iff] at h0
        rw [h0] at hm; cases hm
    | cons c l =>
      rw [hs] at hn
      simp only [Bool.and_eq_true, beq_iff_eq] at hn
      have := hn.1
      omega
theorem psm_num {n m : Nat} (h : n ≤ m) (hm : m < 1000000) (r : List UInt8) : pSm m (numB n ++ r) = .ok (n, r) := by
  unfold pSm
  rw [dec_num (by omega)]
  simp only [if_pos h]
theorem pK_succ (n : Nat) (ks : List Nat) (cs : List UInt8) : pK (n + 1) ks cs = match pSm 3 cs with
    | .error e => .error e
    | .ok (k, r) => pK n (ks ++ [k]) r := rfl
theorem pE_succ (n : Nat) (ks : List Nat) (es : List (Nat × Nat)) (cs : List UInt8) : pE (n + 1) ks es cs = match pSm 12 cs with
    | .error e => .error e
    | .ok (a, r) => match pSm 12 r with
      | .error e => .error e
      | .ok (b, r) => pE n ks (es ++ [(a, b)]) r := rfl
theorem pk_read : ∀ (l : List Int) (ks : List Nat) (r : List UInt8), (∀ k ∈ l, 0 ≤ k ∧ k ≤ 3) → pK l.length ks (l.flatMap natB ++ r) = pK 0 (ks ++ l.map Int.toNat) r
  | [], ks, r, _ => by simp
  | k :: l, ks, r, h => by
    have hk := h k (by simp)
    have e : (max k 0).toNat = k.toNat := by omega
    rw [List.length_cons, List.flatMap_cons, pK_succ, natB, e, List.append_assoc, psm_num (by omega) (by decide)]
    simp only
    rw [pk_read l _ r fun x hx => h x (by simp [hx])]
    simp
theorem pe_read : ∀ (l : List (Int × Int)) (ks : List Nat) (es : List (Nat × Nat)) (r : List UInt8), (∀ e ∈ l, (1 ≤ e.1 ∧ e.1 ≤ 12) ∧ (1 ≤ e.2 ∧ e.2 ≤ 12)) →
    pE l.length ks es ((l.flatMap fun e => natB e.1 ++ natB e.2) ++ r) = pE 0 ks (es ++ l.map fun e => (e.1.toNat, e.2.toNat)) r
  | [], ks, es, r, _ => by simp
  | e :: l, ks, es, r, h => by
    have he := h e (by simp)
    have e1 : (max e.1 0).toNat = e.1.toNat := by omega
    have e2 : (max e.2 0).toNat = e.2.toNat := by omega
    rw [List.length_cons, List.flatMap_cons, pE_succ, natB, natB, e1, e2, List.append_assoc, List.append_assoc, psm_num (by omega) (by decide)]
    simp only
    rw [psm_num (by omega) (by decide)]
    simp only
    rw [pe_read l ks _ r fun x hx => h x (by simp [hx])]
    simp
theorem mkt_id {t : Tr} (h : t.Low) : mkT (t.kinds.map Int.toNat) (t.edges.map fun e => (e.1.toNat, e.2.toNat)) = t := by
  unfold mkT
  have e1 : (t.kinds.map Int.toNat).map (fun n => ((n : Nat) : Int)) = t.kinds := by
    rw [List.map_map]
    conv => rhs; rw [← List.map_id t.kinds]
    exact List.map_congr_left fun k hk => by have := h.k k hk; simp; omega
  have e2 : (t.edges.map fun e => (e.1.toNat, e.2.toNat)).map (fun e => (((e.1 : Nat) : Int), ((e.2 : Nat) : Int))) = t.edges := by
    rw [List.map_map]
    conv => rhs; rw [← List.map_id t.edges]
    exact List.map_congr_left fun e he => by have := h.e e he; simp; rw [Prod.ext_iff]; simp; omega
  rw [e1, e2]
/-- A tree that may be is read from its bytes. -/
theorem read_tree {t : Tr} (ht : t.Ok) (h : t.right = true) (r : List UInt8) : pK 12 [] (treeB t ++ r) = .ok (t, r) := by
  have hl := Tr.right_low h
  unfold treeB
  have e := pk_read t.kinds [] (numB t.edges.length ++ ((t.edges.flatMap fun e => natB e.1 ++ natB e.2) ++ r)) hl.k
  rw [ht.k] at e
  rw [List.append_assoc, List.append_assoc, e, pK, psm_num hl.n (by decide)]
  simp only
  rw [pe_read _ _ _ _ hl.e, pE, List.nil_append, List.nil_append, mkt_id hl, ← right_clo, if_pos h]
theorem read_tree' {t : Tr} (ht : t.Ok) (h : t.right = true) : pTree (treeB t) = .ok (t.v, []) := by
  unfold pTree
  have := read_tree ht h []
  rw [List.append_nil] at this
  rw [this]
theorem psm_ok {m n : Nat} {cs r : List UInt8} (h : pSm m cs = .ok (n, r)) : n ≤ m ∧ cs = numB n ++ r := by
  unfold pSm at h
  cases hd : decN cs with
  | error e => rw [hd] at h; cases h
  | ok a =>
    obtain ⟨n', r'⟩ := a
    rw [hd] at h
    simp only at h
    split at h
    · rename_i hle
      simp only [Except.ok.injEq, Prod.mk.injEq] at h
      obtain ⟨rfl, rfl⟩ := h
      exact ⟨hle, (num_of_dec hd).2⟩
    · cases h
theorem pe_ok : ∀ (n : Nat) (ks : List Nat) (es : List (Nat × Nat)) (cs : List UInt8) (t : Tr) (r : List UInt8), pE n ks es cs = .ok (t, r) →
    ∃ es', es'.length = n ∧ t = mkT ks (es ++ es') ∧ t.rightC = true ∧ cs = (es'.flatMap fun e => numB e.1 ++ numB e.2) ++ r
  | 0, ks, es, cs, t, r, h => by
    unfold pE at h
    split at h
    · rename_i hr; cases h; exact ⟨[], rfl, by simp, hr, by simp⟩
    · cases h
  | n + 1, ks, es, cs, t, r, h => by
    rw [pE_succ] at h
    cases h1 : pSm 12 cs with
    | error e => rw [h1] at h; cases h
    | ok a =>
      obtain ⟨a, r1⟩ := a
      rw [h1] at h
      simp only at h
      cases h2 : pSm 12 r1 with
      | error e => rw [h2] at h; cases h
      | ok b =>
        obtain ⟨b, r2⟩ := b
        rw [h2] at h
        simp only at h
        obtain ⟨es', q1, q2, q3, q4⟩ := pe_ok n ks _ r2 t r h
        refine ⟨(a, b) :: es', by simp [q1], by rw [q2]; simp, q3, ?_⟩
        rw [(psm_ok h1).2, (psm_ok h2).2, q4]
        simp
theorem pk_ok : ∀ (n : Nat) (ks : List Nat) (cs : List UInt8) (t : Tr) (r : List UInt8), pK n ks cs = .ok (t, r) →
    ∃ ks' es', ks'.length = n ∧ t = mkT (ks ++ ks') es' ∧ t.rightC = true ∧ cs = ks'.flatMap numB ++ numB es'.length ++ (es'.flatMap fun e => numB e.1 ++ numB e.2) ++ r
  | 0, ks, cs, t, r, h => by
    unfold pK at h
    cases h1 : pSm 11 cs with
    | error e => rw [h1] at h; cases h
    | ok a =>
      obtain ⟨n, r1⟩ := a
      rw [h1] at h
      simp only at h
      obtain ⟨es', q1, q2, q3, q4⟩ := pe_ok n ks [] r1 t r h
      refine ⟨[], es', rfl, by rw [q2]; simp, q3, ?_⟩
      rw [(psm_ok h1).2, q4, q1]; simp
  | n + 1, ks, cs, t, r, h => by
    rw [pK_succ] at h
    cases h1 : pSm 3 cs with
    | error e => rw [h1] at h; cases h
    | ok a =>
      obtain ⟨k, r1⟩ := a
      rw [h1] at h
      simp only at h
      obtain ⟨ks', es', q1, q2, q3, q4⟩ := pk_ok n _ r1 t r h
      refine ⟨k :: ks', es', by simp [q1], by rw [q2]; simp, q3, ?_⟩
      rw [(psm_ok h1).2, q4]; simp
theorem natB_nat (n : Nat) : natB (n : Int) = numB n := by unfold natB; congr 1; omega
theorem treeB_mkT (ks : List Nat) (es : List (Nat × Nat)) : treeB (mkT ks es) = ks.flatMap numB ++ numB es.length ++ (es.flatMap fun e => numB e.1 ++ numB e.2) := by
  unfold treeB mkT
  simp only [List.flatMap_map, natB_nat, List.length_map]
/-- What is read may be, and is written as that. -/
theorem tree_read {bs r : List UInt8} {t : Tr} (h : pK 12 [] bs = .ok (t, r)) : t.Ok ∧ t.right = true ∧ bs = treeB t ++ r := by
  obtain ⟨ks, es, q1, q2, q3, q4⟩ := pk_ok 12 [] bs t r h
  rw [← right_clo] at q3
  refine ⟨⟨?_, Nat.le_trans (Tr.right_low q3).n (by decide)⟩, q3, ?_⟩
  · rw [q2]; simp [mkT, q1]
  · rw [q4, q2, List.nil_append, treeB_mkT]
end Go.Proofs.YtociliegljoldaaGreat

/- What a closed call makes of bytes; alive of truglaw18. -/
namespace Go.Proofs.YtociliegljoldaaGreat
set_option linter.unusedSimpArgs false
set_option linter.unusedVariables false
open Go.Proofs
attribute [local irreducible] vc vcOps vcDraw vcK vcKP vcDK vcDB HWp HCalls postV Ex.then Ex.inBlock stepD callV appendV guardC guardD exV effV opV loadV storeV indexAddrV indexV sliceV
set_option maxRecDepth 10000
set_option maxHeartbeats 4000000

def CapTree (g : FuncId) : Prop := entersB Tryz.prog g = true ∧ ∀ (υ : Store) (br bt : Nat) (bs : List UInt8) (old : List V), old.length = 13 → bs.length ≤ 1000000000 → υ br = some (rdr bs) → υ bt = some (.cells old) → bt ≠ br → HCalls Tryz.prog g [.ptr br 0, .ptr bt 0] υ fun r σ' => match pK 12 [] bs with
    | .ok (t, rest) => r = .ret unitV ∧ σ' = (υ.set br (rdr rest)).set bt (.cells t.v.cells)
    | .error (e, rest) => r = .pan (flt e) ∧ σ' = υ.set br (rdr rest)
theorem callV_rdt {g : FuncId} (cap : CapTree g) {σ : Store} {bs : List UInt8} {bt : Nat} {old : List V} (ht : σ bt = some (.cells old)) (h13 : old.length = 13) (hl : bs.length ≤ 1000000000) {K KP : V → Store → Prop}
    (ok : ∀ t rest σ', pK 12 [] bs = .ok (t, rest) → σ' bt = some (.cells t.v.cells) → (∀ c l, σ c = some l → c ≠ bt → σ' c = some l) → K (I64 (rdCode (.ok rest))) σ')
    (er : ∀ e rest σ', pK 12 [] bs = .error (e, rest) → σ' bt = some (.cells old) → (∀ c l, σ c = some l → c ≠ bt → σ' c = some l) → K (I64 e) σ') : callV Tryz.prog (.fn (.func 92) [] []) [.lst 1 (bs.map byteV), .fn (.func g) [] [.ptr bt 0]] σ K KP := by
  have hB : ∀ c, c = bt → σ c ≠ none := fun c e => by rw [e, ht]; simp
  cases hp : pK 12 [] bs with
  | ok a =>
    obtain ⟨t, rest⟩ := a
    have hrl : rest.length ≤ bs.length := by rw [(tree_read hp).2.2, List.length_append]; omega
    refine callV_of en92 (read_call cap.1 hl (B := fun c => c = bt) hB (p := .ok rest) (fun r e => by cases e; omega) (Qf := fun τ => τ bt = some (.cells t.v.cells)) (fun τ τ' h k => k bt _ rfl h) ?_) (fun x σ' q => ?_) (fun x σ' q => ?_)
    · intro υ br hle hbr hb0
      have hn : bt ≠ br := fun e => hB br e.symm hb0
      refine (cap.2 υ br bt bs old h13 hl hbr (hle _ _ ht) hn).mono fun r σ' q => ?_
      rw [hp] at q
      obtain ⟨q1, q2⟩ := q
      subst q2
      refine ⟨fun c l hc h1 h2 => ?_, Store.set_same _ _ _, q1, ?_⟩
      · rw [Store.set_other _ _ h2, Store.set_other _ _ h1]; exact hc
      · rw [Store.set_other _ _ (Ne.symm hn)]; exact Store.set_same _ _ _
    · obtain ⟨e, q1, q2⟩ := q
      cases e
      exact ok t rest σ' hp q2 q1
    · cases q.1
  | error a =>
    obtain ⟨e, rest⟩ := a
    refine callV_of en92 (read_call cap.1 hl (B := fun c => c = bt) hB (p := .error e) (fun r e => by cases e) (Qf := fun τ => τ bt = some (.cells old)) (fun τ τ' h k => k bt _ rfl h) ?_) (fun x σ' q => ?_) (fun x σ' q => ?_)
    · intro υ br hle hbr hb0
      have hn : bt ≠ br := fun e => hB br e.symm hb0
      refine (cap.2 υ br bt bs old h13 hl hbr (hle _ _ ht) hn).mono fun r σ' q => ?_
      rw [hp] at q
      obtain ⟨q1, q2⟩ := q
      subst q2
      refine ⟨fun c l hc h1 h2 => ?_, ?_, q1⟩
      · rw [Store.set_other _ _ h1]; exact hc
      · rw [Store.set_other _ _ hn]; exact hle _ _ ht
    · obtain ⟨e, q1, q2⟩ := q
      cases e
      exact er _ rest σ' hp q2 q1
    · cases q.1
theorem small_i64 : small.Int64 := ⟨by decide, by decide⟩
theorem small7 : small.next 3 = [1, 2] := by decide
theorem small8 : small.beyond 2 3 = [1, 3] := by rw [beyond_clo]; decide
theorem small9 : small.homes 5 = [1] := by decide
theorem small10 : small.kind 2 = 2 := by decide
theorem VR.val_any {I J : Imm} {x v : Value} (h : VR I (.val x) v) : VR J (.val x) v := by cases h; exact .val _
theorem VR.nil_any {I J : Imm} {v : Value} {k : Nat} (h : VR I (.val (.slice none 0 0)) v) : VR J (.lst k []) v := by cases h; exact .lnil k
theorem LR.conv {I J : Imm} {xs ys : List V} {vs : List Value} (h : LR I xs vs) (hl : ys.length = xs.length) (k : ∀ (j : Nat) x y, xs[j]? = some x → ys[j]? = some y → ∀ v, VR I x v → VR J y v) : LR J ys vs :=
  ⟨hl.trans h.len, fun j y v hy hv => by
    have hj : j < xs.length := hl ▸ (List.getElem?_eq_some_iff.1 hy).1
    exact k j xs[j] y (List.getElem?_eq_getElem hj) hy v (h.at_ j _ v (List.getElem?_eq_getElem hj) hv)⟩
def cut18 : Tr := ⟨[1, 2, 3, 0, 0, 0, 0, 0, 0, 0, 0, 0], [(1, 3)]⟩
theorem cut_ok : cut18.Ok := ⟨rfl, by decide⟩
theorem cut_right : cut18.right = false := by rw [right_clo]; decide
def bare : Tr := ⟨[0, 0, 0, 0, 0, 0, 0, 0, 0, 0, 0, 0], []⟩
theorem bare_ok : bare.Ok := ⟨rfl, by decide⟩
theorem bare_right : bare.right = true := by rw [right_clo]; decide
theorem bare_conv {I J : Imm} {vs : List Value} (h : LR I [.agg (List.replicate 12 (I64 0) ++ [.val (.slice none 0 0)])] vs) : LR J [bare.v] vs := by
  refine h.conv rfl fun j x y hx hy v hv => ?_
  cases j with
  | succ j => simp at hx
  | zero =>
    simp at hx hy
    subst hx hy
    obtain ⟨us, rfl, hu⟩ := hv.inv_agg
    have : LR J (List.replicate 12 (I64 0) ++ [.lst 2 []]) us.toList := by
      have hu2 : LR I (List.replicate 12 (I64 0) ++ [.val (.slice none 0 0)]) us.toList := hu
      refine hu2.conv (by simp) fun j x y hx hy v hv => ?_
      by_cases hj : j < 12
      · rw [List.getElem?_append_left (by simpa using hj), List.getElem?_replicate, if_pos hj] at hx hy
        cases hx; cases hy; exact hv.val_any
      · have hj : j = 12 := by have := (List.getElem?_eq_some_iff.1 hx).1; simp at this; omega
        subst hj
        rw [List.getElem?_append_right (by simp)] at hx hy
        simp at hx hy
        subst hx hy
        exact hv.nil_any
    exact VR.mk_agg this
end Go.Proofs.YtociliegljoldaaGreat

