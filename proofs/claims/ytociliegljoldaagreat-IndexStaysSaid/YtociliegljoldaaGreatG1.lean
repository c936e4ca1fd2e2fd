/- Small rules that many walks use. -/
import Derived.Test.YtociliegljoldaaGreatWA
namespace Go.Proofs.YtociliegljoldaaGreat
set_option linter.unusedSimpArgs false
set_option linter.unusedVariables false
open Go.Proofs
attribute [local irreducible] vc vcOps vcDraw vcK vcKP vcDK vcDB HWp HCalls postV Ex.then Ex.inBlock stepD callV appendV guardC guardD exV effV opV loadV storeV indexAddrV indexV sliceV
set_option maxRecDepth 10000
set_option maxHeartbeats 4000000

theorem Bld.row {k : Nat} {σ0 τ σ : Store} {x : V} {cs : List V} {n : Nat} (h : Bld k σ0 τ x cs n) (hle : τ.le σ) (KK : Nat → List V → Prop) (hk : KK n cs) : rowV k x σ KK := by
  rcases h with ⟨rfl, rfl, rfl, _⟩ | ⟨b, cap, spare, rfl, hb, rfl, hl, _⟩
  · exact hk
  · unfold rowV
    simp only [hle _ _ (Store.set_same σ0 b _)]
    refine ⟨by simp; omega, ?_⟩
    rw [List.drop_zero, ← hl, List.take_left]
    exact hk
theorem Store.le_over {σ τ : Store} {b : Nat} {k : Blk} (hb : σ b = none) (h : σ.le τ) : σ.le (τ.set b k) := fun c l e => by
  have : c ≠ b := fun q => by rw [q, hb] at e; cases e
  rw [Store.set_other _ _ this]; exact h c l e
theorem i64_n (i : Nat) (h : i < 1000000) : IntKind.i64.wrap ((i : Int) + 1) = ((i + 1 : Nat) : Int) := by rw [i64_in (by omega) (by omega)]; omega

theorem nat_nn (n : Nat) : ((0 : Int) ≤ (n : Int)) = True := eq_true (by omega)
/-- Two ways that come together: what lies behind is walked once. -/
theorem vc_join {P : Program} {a b : Code} {Q : Ex → List V → Store → Prop} {env : List V} {σ : Store} {α : Type} (mk : (Nat → V) → α → List V) (inv : α → Store → Prop) (tail : ∀ j x τ, inv x τ → vc P b Q (mk j x) τ)
    (k : ∀ b', (∀ x τ env, inv x τ → env = mk (fun i => env.getD i .top) x → vc P b' Q env τ) → vc P (.seq a b') Q env σ) : vc P (.seq a b) Q env σ :=
  k b fun x τ env h e => by rw [e]; exact tail _ x τ h
theorem bin_seq {t : TypeId} {a b : List UInt8} {σ : Store} {K : V → Store → Prop} : binV Tryz.prog .eql t (.val (.string ⟨a.toArray⟩)) (.val (.string ⟨b.toArray⟩)) σ K = K (BV (a == b)) σ := by
  show K (.val (.bool ((⟨a.toArray⟩ : ByteArray).toList == (⟨b.toArray⟩ : ByteArray).toList))) σ = _
  rw [ByteArray.toList_eq, ByteArray.toList_eq]
theorem bin_sne {t : TypeId} {a b : List UInt8} {σ : Store} {K : V → Store → Prop} : binV Tryz.prog .neq t (.val (.string ⟨a.toArray⟩)) (.val (.string ⟨b.toArray⟩)) σ K = K (BV (!(a == b))) σ := by
  show K (.val (.bool (!((⟨a.toArray⟩ : ByteArray).toList == (⟨b.toArray⟩ : ByteArray).toList)))) σ = _
  rw [ByteArray.toList_eq, ByteArray.toList_eq]
theorem Store.le_set_both {σ τ : Store} {b : Nat} {k : Blk} (h : σ.le τ) : (σ.set b k).le (τ.set b k) := fun c l e => by
  by_cases hc : c = b
  · subst hc; rw [Store.set_same] at e ⊢; exact e
  · rw [Store.set_other _ _ hc] at e ⊢; exact h c l e
theorem Bld.reset {k : Nat} {σ0 τ : Store} {x : V} {cs : List V} {n c : Nat} {kk l : Blk} (hb : Bld k σ0 τ x cs n) (hc : σ0 c = some l) : Bld k (σ0.set c kk) (τ.set c kk) x cs n := by
  rcases hb with ⟨rfl, rfl, rfl, rfl⟩ | ⟨b, cap, spare, rfl, hb0, rfl, hcl, hsl, hnc, hcm⟩
  · exact .inl ⟨rfl, rfl, rfl, rfl⟩
  · have hne : b ≠ c := fun e => by rw [← e, hb0] at hc; cases hc
    exact .inr ⟨b, cap, spare, rfl, by rw [Store.set_other _ _ hne]; exact hb0, Store.set_comm _ _ _ hne, hcl, hsl, hnc, hcm⟩
/-- The end of a call that makes one new block. -/
def EndsNew (F : Nat → V) (k : Blk) (σ : Store) : Res → Store → Prop := fun r σ' => ∃ b y, σ b = none ∧ r = .ret y ∧ Weakens y σ' (F b) (σ.set b k)
theorem callV_new {P : Program} {f : FuncId} {ps qs xs : List V} {σ : Store} {K KP : V → Store → Prop} {F : Nat → V} {k : Blk} (he : entersB P f = true) (h : HCalls P f (ps ++ xs ++ qs) σ (EndsNew F k σ)) (h2 : ∀ b, σ b = none → K (F b) (σ.set b k)) : callV P (.fn (.func f) ps qs) xs σ K KP :=
  callV_of he (h.weaken (Q' := fun r σ' => ∃ b, σ b = none ∧ r = .ret (F b) ∧ σ' = σ.set b k) (fun r σ' ⟨b, y, hb, e, hw⟩ => by cases e; exact ⟨F b, _, hw, b, hb, rfl, rfl⟩) (fun r σ' ⟨b, y, hb, e, hw⟩ => by cases e))
    (fun x σ' ⟨b, hb, e, f⟩ => by cases e; subst f; exact h2 b hb) (fun x σ' ⟨b, hb, e, f⟩ => by cases e)
theorem any_mem {l : List Int} {m : Int} : l.any (m == ·) = decide (m ∈ l) := by
  rw [Bool.eq_iff_iff, List.any_eq_true, decide_eq_true_eq]
  exact ⟨fun ⟨y, hy, e⟩ => by rw [beq_iff_eq] at e; rw [e]; exact hy, fun h => ⟨m, h, by simp⟩⟩
theorem next_bnd {t : Tr} {n m : Int} (h : m ∈ t.next n) : 1 ≤ m ∧ m ≤ 12 := mem_nums.1 (List.mem_filter.1 h).1
theorem nc0 : ((0 : Nat) : Int) = 0 := rfl
theorem nc1 : ((1 : Nat) : Int) = 1 := rfl
theorem nc2 : ((2 : Nat) : Int) = 2 := rfl
theorem nc3 : ((3 : Nat) : Int) = 3 := rfl
theorem nz0 : Int.toNat 0 = 0 := rfl
theorem nz1 : Int.toNat 1 = 1 := rfl
theorem nz2 : Int.toNat 2 = 2 := rfl
theorem nq1 : ((0 : Int) ≤ 1) = True := by decide
theorem nq2 : ((0 : Int) < 1) = True := by decide
theorem nq3 : ((0 : Int) < 2) = True := by decide
theorem nq4 : ((1 : Int) < 2) = True := by decide
theorem nq5 : ((0 : Int) ≤ 2) = True := by decide
end Go.Proofs.YtociliegljoldaaGreat
