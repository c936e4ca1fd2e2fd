import Derived.Test.YtaldikplfcoahaaT14
import Derived.Test.YtaldikplfcoahaaHp
namespace Go.Proofs.Ytaldikplfcoahaa
set_option linter.unusedSimpArgs false
set_option linter.unusedVariables false
open Go.Proofs
attribute [local irreducible] vc vcOps vcDraw vcK vcKP vcDK vcDB HWp HCalls postV Ex.then Ex.inBlock stepD callV appendV guardC guardD exV effV opV loadV storeV indexAddrV indexV sliceV
set_option maxRecDepth 10000
set_option maxHeartbeats 4000000
/-- append at elements of type int, k cells each; the slice is one of several. -/
theorem own_int {σ0 τ σ : Store} {x y : V} {cs news : List V} {n m : Nat} {ob : Option Nat} {K : V → Store → Prop} (hb : Own 1 σ0 τ x cs n ob) (hle : τ.le σ) (h0 : σ0.le σ) (hrow : ∀ KK : Nat → List V → Prop, KK m news → rowV 1 y σ KK) (hl : news.length = m * 1) (h1 : ∀ c ∈ news, c.one = true) (hm : n + m ≤ 1000000000)
    (h : ∀ x' ob' σ', Own 1 σ0 σ' x' (cs ++ news) (n + m) ob' → (∀ c l, σ c = some l → some c ≠ ob → σ' c = some l) → (∀ c, ob' = some c → ob = some c ∨ σ c = none) → K x' σ') : appendV Try.prog 29 29 x y σ K := by
  have hby : Try.prog.bytesOf 3 ≤ 1000 := by rw [show Try.prog.bytesOf 3 = 8 from by kernel_rfl]; decide
  refine Own.append Try.underlying29 Try.underlying29 (by exact trivial) in3 ce3 (by decide) zl3 hb hle h0 hrow hl h1 (by rw [maxLen_i]; omega) ?_ h
  exact Nat.le_trans (Nat.mul_le_mul hm hby) (by decide)

/-- append at elements of type interest.hop, k cells each; the slice is one of several. -/
theorem own_hop {σ0 τ σ : Store} {x y : V} {cs news : List V} {n m : Nat} {ob : Option Nat} {K : V → Store → Prop} (hb : Own 2 σ0 τ x cs n ob) (hle : τ.le σ) (h0 : σ0.le σ) (hrow : ∀ KK : Nat → List V → Prop, KK m news → rowV 2 y σ KK) (hl : news.length = m * 2) (h1 : ∀ c ∈ news, c.one = true) (hm : n + m ≤ 1000000000)
    (h : ∀ x' ob' σ', Own 2 σ0 σ' x' (cs ++ news) (n + m) ob' → (∀ c l, σ c = some l → some c ≠ ob → σ' c = some l) → (∀ c, ob' = some c → ob = some c ∨ σ c = none) → K x' σ') : appendV Try.prog 56 56 x y σ K := by
  have hby : Try.prog.bytesOf 55 ≤ 1000 := by rw [show Try.prog.bytesOf 55 = 16 from by kernel_rfl]; decide
  refine Own.append Try.underlying56 Try.underlying56 (by exact trivial) in55 ce55 (by decide) zl55 hb hle h0 hrow hl h1 (by rw [maxLen_i]; omega) ?_ h
  exact Nat.le_trans (Nat.mul_le_mul hm hby) (by decide)

end Go.Proofs.Ytaldikplfcoahaa
