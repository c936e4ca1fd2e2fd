/- An index read. -/
import Derived.Test.YtociliegljoldaaGreatJ5
namespace Go.Proofs.YtociliegljoldaaGreat
set_option linter.unusedSimpArgs false
set_option linter.unusedVariables false
open Go.Proofs
attribute [local irreducible] vc vcOps vcDraw vcK vcKP vcDK vcDB HWp HCalls postV Ex.then Ex.inBlock stepD callV appendV guardC guardD exV effV opV loadV storeV indexAddrV indexV sliceV
set_option maxRecDepth 10000
set_option maxHeartbeats 4000000

/-- An index with one entry more. -/
def Ix.ent (x : Ix) (nd k s : Nat) : Ix := ⟨x.cart, withV x.v nd k, x.l ++ [⟨nd, k, s⟩], x.w⟩
def pEnts : Nat → Ix → List UInt8 → Except (Int × List UInt8) (Ix × List UInt8)
  | 0, x, bs => .ok (x, bs)
  | n + 1, x, bs => match pSm 12 bs with
    | .error e => .error e
    | .ok (nd, r1) => match pSm 1048576 r1 with
      | .error e => .error e
      | .ok (k, r2) => match pSm 12 r2 with
        | .error e => .error e
        | .ok (s, r3) => if nextN x.v nd = (((nd : Int), k), 0) ∧ 0 < s then pEnts n (x.ent nd k s) r3 else .error (3, r3)
open Classical in
noncomputable def pLabs : Nat → Ix → List UInt8 → Except (Int × List UInt8) (Ix × List UInt8)
  | 0, x, bs => .ok (x, bs)
  | n + 1, x, bs => match pLab bs with
    | .error e => .error e
    | .ok (l, r) => if h : LbArg l then (if (addR x ⟨l, h⟩).2.1 = 0 ∧ (addR x ⟨l, h⟩).1 = 0 then pLabs n (addR x ⟨l, h⟩).2.2 r else .error (3, r)) else .error (3, r)
def ix0 (c : Int) : Ix := ⟨c, zeroN, [], []⟩
noncomputable def pIx (bs : List UInt8) : Except (Int × List UInt8) (Ix × List UInt8) := match pSm 12 bs with
  | .error e => .error e
  | .ok (c, r0) => match pSm 400 r0 with
    | .error e => .error e
    | .ok (n, r1) => match pEnts n (ix0 c) r1 with
      | .error e => .error e
      | .ok (x, r2) => match pSm 400 r2 with
        | .error e => .error e
        | .ok (m, r3) => pLabs m x r3
/-- Bytes that tell of few labels. -/
def Few (bs : List UInt8) : Prop := ∀ c r0, pSm 12 bs = .ok (c, r0) → 1 ≤ c ∧ ∀ n r1, pSm 400 r0 = .ok (n, r1) → n ≤ 60 ∧ ∀ x r2, pEnts n (ix0 c) r1 = .ok (x, r2) → ∀ m r3, pSm 400 r2 = .ok (m, r3) → m ≤ 60
/-- Memory while an index is read. -/
structure LdSt (σ : Store) (br b : Nat) (x : Ix) (ob : Option Nat) (cs : List UInt8) (τ : Store) : Prop where
  r : τ br = some (rdr cs)
  x : IxR τ b x ob
  bn : σ b = none
  on : ∀ c, ob = some c → σ c = none
  f : ∀ c l, σ c = some l → c ≠ br → τ c = some l
section
variable {σ : Store} {br b : Nat} {x : Ix} {ob : Option Nat} {cs : List UInt8} {τ : Store} (h : LdSt σ br b x ob cs τ)
include h
theorem LdSt.bne {k : Blk} (hr : σ br = some k) : b ≠ br := fun e => by have := h.bn; rw [e, hr] at this; cases this
theorem LdSt.one {k : Blk} (hr : σ br = some k) : ∀ c, ob = some c → c ≠ br := fun c e q => by have := h.on c e; rw [q, hr] at this; cases this
theorem LdSt.rd {k : Blk} (hr : σ br = some k) (cs' : List UInt8) : LdSt σ br b x ob cs' (τ.set br (rdr cs')) where
  r := Store.set_same _ _ _
  x := by
    obtain ⟨xl, hb, hO, hne⟩ := h.x
    exact ⟨xl, by rw [Store.set_other _ _ (h.bne hr)]; exact hb, hO.keep fun c l e hc => by rw [Store.set_other _ _ (h.one hr c e)]; exact hc, hne⟩
  bn := h.bn
  on := h.on
  f c l hc hn := by rw [Store.set_other _ _ hn]; exact h.f c l hc hn
theorem LdSt.new {d : Nat} {k : Blk} (hd : τ d = none) : LdSt σ br b x ob cs (τ.set d k) where
  r := Store.keep hd h.r _
  x := h.x.le (Store.le_set hd (Store.le_refl _))
  bn := h.bn
  on := h.on
  f c l hc hn := Store.keep hd (h.f c l hc hn) _
theorem LdSt.step {x' : Ix} {ob' : Option Nat} {τ' : Store} {k : Blk} (hr : σ br = some k) (hx : IxR τ' b x' ob') (hs : WStep τ τ' b ob ob') : LdSt σ br b x' ob' cs τ' where
  r := hs.keep br _ h.r (Ne.symm (h.bne hr)) (fun e => h.one hr br e.symm rfl)
  x := hx
  bn := h.bn
  on c e := by
    rcases hs.new c e with q | q
    · exact h.on c q
    · cases hc : σ c with
      | none => rfl
      | some l =>
        by_cases hcb : c = br
        · rw [hcb, h.r] at q; cases q
        · rw [h.f c l hc hcb] at q; cases q
  f c l hc hn := hs.keep c l (h.f c l hc hn) (fun e => by rw [e, h.bn] at hc; cases hc) (fun e => by rw [h.on c e.symm] at hc; cases hc)
end
end Go.Proofs.YtociliegljoldaaGreat
