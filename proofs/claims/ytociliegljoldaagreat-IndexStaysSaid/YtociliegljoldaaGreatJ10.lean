/- What must come of fixed calls: the values. -/
import Derived.Test.YtociliegljoldaaGreatJ9
namespace Go.Proofs.YtociliegljoldaaGreat
set_option linter.unusedSimpArgs false
set_option linter.unusedVariables false
open Go.Proofs
attribute [local irreducible] vc vcOps vcDraw vcK vcKP vcDK vcDB HWp HCalls postV Ex.then Ex.inBlock stepD callV appendV guardC guardD exV effV opV loadV storeV indexAddrV indexV sliceV
set_option maxRecDepth 10000
set_option maxHeartbeats 4000000

def lA : LbI := ⟨⟨1, 1, 1, 1, 2, zeroN⟩, ⟨⟨rfl, by decide⟩, by decide, by decide, by decide, by decide, by decide⟩⟩
def lB : LbI := ⟨⟨2, 1, 2, 1, 3, [1, 0, 0, 0, 0, 0, 0, 0, 0, 0, 0, 0]⟩, ⟨⟨rfl, by decide⟩, by decide, by decide, by decide, by decide, by decide⟩⟩
def v2 : List Nat := [2, 0, 0, 0, 0, 0, 0, 0, 0, 0, 0, 0]
def x1 : Ix := ⟨1, zeroN, [], [lB]⟩
def x2 : Ix := ⟨1, v2, [⟨1, 1, 2⟩, ⟨1, 2, 3⟩], []⟩
theorem srt1 (l : LbI) : srtL [l] = [l] := List.perm_singleton.1 (srtL_perm [l])
theorem srtAB : srtL [lB, lA] = [lA, lB] := by
  refine (srt_eq (List.Perm.swap _ _ _) (fun p q h0 h1 h2 => ?_) ?_).symm
  · have hq : q = 1 := by have : q < 2 := h2; omega
    have hp : p = 0 := by omega
    subst hq hp
    show keyL lA ≤ keyL lB
    decide
  · show [keyL lB, keyL lA].Nodup
    decide
theorem add1 : addR (ix0 1) lB = (0, 0, x1) := by
  unfold addR
  rw [if_neg (by decide), if_neg (by decide), if_neg (by decide), if_neg (by decide)]
  have : (ix0 1).put lB = x1 := by unfold Ix.put ix0 x1; rw [List.nil_append, srt1]
  rw [this, runA_none (by rfl)]; rfl
theorem add2 : addR x1 lA = (2, 0, x2) := by
  unfold addR
  rw [if_neg (by decide), if_neg (by decide), if_neg (by decide), if_neg (by decide)]
  have : x1.put lA = ⟨1, zeroN, [], [lA, lB]⟩ := by unfold Ix.put x1; rw [List.cons_append, List.nil_append, srtAB]
  rw [this]
  rfl
theorem add3 : addR x2 lA = (0, 10, x2) := by
  unfold addR
  rw [if_neg (by decide), if_neg (by decide), if_pos (by decide)]
def bs2 : List UInt8 := [1, 2, 1, 1, 2, 1, 2, 3, 0]
theorem ixB2 : ixB x2 = bs2 := by unfold ixB; decide
theorem pIx2 : pIx bs2 = .ok (x2, []) := by
  unfold pIx
  rw [show pSm 12 bs2 = .ok (1, [2, 1, 1, 2, 1, 2, 3, 0]) from by rfl]
  simp only
  rw [show pSm 400 [2, 1, 1, 2, 1, 2, 3, 0] = .ok (2, [1, 1, 2, 1, 2, 3, 0]) from by rfl]
  simp only
  rw [show pEnts 2 (ix0 ((1 : Nat) : Int)) [1, 1, 2, 1, 2, 3, 0] = .ok (x2, [0]) from by rfl]
  simp only
  rw [show pSm 400 [0] = .ok (0, []) from by rfl]
  simp only
  unfold pLabs
  rfl
theorem few2 : Few bs2 := fun c r0 h => by
  rw [show pSm 12 bs2 = .ok (1, [2, 1, 1, 2, 1, 2, 3, 0]) from by rfl] at h
  cases h
  refine ⟨by decide, fun n r1 h => ?_⟩
  rw [show pSm 400 [2, 1, 1, 2, 1, 2, 3, 0] = .ok (2, [1, 1, 2, 1, 2, 3, 0]) from by rfl] at h
  cases h
  refine ⟨by decide, fun x r2 h m r3 h2 => ?_⟩
  rw [show pEnts 2 (ix0 ((1 : Nat) : Int)) [1, 1, 2, 1, 2, 3, 0] = .ok (x2, [0]) from by rfl] at h
  cases h
  rw [show pSm 400 [0] = .ok (0, []) from by rfl] at h2
  cases h2
  decide
theorem sel2 : srtI (selI zeroN v2 x2.l) = [2, 3] := by
  have e : selI zeroN v2 x2.l = [2, 3] := by decide
  rw [e]
  refine (srtI_eq (List.Perm.refl _) (fun p q h1 h2 => ?_)).symm
  have hq : q = 1 := by have : q < 2 := h2; omega
  have hp : p = 0 := by omega
  subst hq hp
  decide
theorem dots2 : (srtD (dotI 3 zeroN v2 x2.l)).length = 1 := by rw [(srtD_perm _).length_eq]; rfl
theorem good1 : (ix0 1).Good := ix0_good (by decide)
theorem good_x1 : x1.Good := by have := (addR_good good1 lB).1; rw [add1] at this; exact this
theorem good_x2 : x2.Good := by have := (addR_good good_x1 lA).1; rw [add2] at this; exact this
end Go.Proofs.YtociliegljoldaaGreat
