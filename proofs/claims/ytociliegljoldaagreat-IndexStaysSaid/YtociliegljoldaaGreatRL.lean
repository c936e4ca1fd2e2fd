/- Readings of a row's arguments: labels. -/
import Derived.Test.YtociliegljoldaaGreatRR
import Derived.Test.YtociliegljoldaaGreatK1
namespace Go.Proofs.YtociliegljoldaaGreat
set_option linter.unusedSimpArgs false
set_option linter.unusedVariables false
open Go.Proofs Go.ChangeShapes Go.WideShapes Go.ChangeAt Go.RowKit
attribute [local irreducible] vc vcOps vcDraw vcK vcKP vcDK vcDB HWp HCalls postV Ex.then Ex.inBlock stepD callV appendV guardC guardD exV effV opV loadV storeV indexAddrV indexV sliceV
set_option maxRecDepth 100000
set_option maxHeartbeats 4000000

section
variable {H : Type} {enc : TypeId × Value → H} {W : World}
theorem drop_one (cs : List Value) (i : Nat) : cs.drop i = (cs.drop i).take 1 ++ cs.drop (i + 1) := by
  conv => lhs; rw [← List.take_append_drop 1 (cs.drop i)]
  rw [List.drop_drop]
theorem rd_nat {P : Program} {t : TypeId} {k : IntKind} {cs : List Value} (ht : P.underlying t = some (.int k)) (h0 : k.min = 0) (h : Rd enc P W t cs) : ∃ n : Nat, cs = [.int k (n : Int)] ∧ (n : Int) ≤ k.max := by
  obtain ⟨n, e, h1, h2⟩ := rd_int ht h
  rw [h0] at h1
  exact ⟨n.toNat, by rw [e, show ((n.toNat : Nat) : Int) = n by omega], by omega⟩
structure LbArg (l : Lb) : Prop where
  ok : l.Ok
  c : -9223372036854775808 ≤ l.cart ∧ l.cart ≤ 9223372036854775807
  t : l.time < 18446744073709551616
  n : -9223372036854775808 ≤ l.node ∧ l.node ≤ 9223372036854775807
  s : -9223372036854775808 ≤ l.seller ∧ l.seller ≤ 9223372036854775807
  d : ∀ x ∈ l.deps, x < 4294967296
theorem rd_label {cs : List Value} (h : Rd enc Tryz.prog W 39 cs) : ∃ l : Lb, LbArg l ∧ LR (HeapI W) l.cs cs := by
  obtain ⟨h1, h2⟩ := rd_struct Tryz.underlying39 h
  rw [ce39] at h1
  have f0 : Rd enc Tryz.prog W 37 ((cs.drop 0).take (Tryz.prog.cellsOf 37)) := h2 0 _ rfl
  have f1 : Rd enc Tryz.prog W 3 ((cs.drop 1).take (Tryz.prog.cellsOf 3)) := h2 1 _ rfl
  have f2 : Rd enc Tryz.prog W 23 ((cs.drop 2).take (Tryz.prog.cellsOf 23)) := h2 2 _ rfl
  have f3 : Rd enc Tryz.prog W 3 ((cs.drop 3).take (Tryz.prog.cellsOf 3)) := h2 3 _ rfl
  have f4 : Rd enc Tryz.prog W 3 ((cs.drop 4).take (Tryz.prog.cellsOf 3)) := h2 4 _ rfl
  have f5 : Rd enc Tryz.prog W 27 ((cs.drop 5).take (Tryz.prog.cellsOf 27)) := h2 5 _ rfl
  rw [ce37] at f0
  rw [ce3] at f1 f3 f4
  rw [ce23] at f2
  rw [ce27] at f5
  obtain ⟨a, ha, ra⟩ := rd_nat Tryz.underlying37 rfl f0
  obtain ⟨b, hb, rb⟩ := rd_int Tryz.underlying3 f1
  obtain ⟨c, hc, rc⟩ := rd_nat Tryz.underlying23 rfl f2
  obtain ⟨d, hd, rd⟩ := rd_int Tryz.underlying3 f3
  obtain ⟨e, he, re⟩ := rd_int Tryz.underlying3 f4
  obtain ⟨v, v1, v2, v3⟩ := rd_ints Tryz.underlying27 Tryz.underlying23 ce23 ce27 f5
  have em : IntKind.u32.min = 0 := rfl
  have eM : IntKind.u32.max = 4294967295 := rfl
  have eU : IntKind.u64.max = 18446744073709551615 := rfl
  have i0 : IntKind.i64.min = -9223372036854775808 := rfl
  have i1 : IntKind.i64.max = 9223372036854775807 := rfl
  rw [i0, i1] at rb rd re
  rw [eM] at rc
  rw [eU] at ra
  refine ⟨⟨a, b, c, d, e, v.map Int.toNat⟩, ⟨⟨by simp [v1], by show c < _; omega⟩, rd, by show a < _; omega, rb, re, fun x hx => ?_⟩, ?_⟩
  · obtain ⟨y, hy, rfl⟩ := List.mem_map.1 hx
    have := v3 y hy
    rw [em, eM] at this; omega
  · have hv : (v.map Int.toNat).map U32 = v.map fun n => V.val (.int .u32 n) := by
      rw [List.map_map]
      refine List.map_congr_left fun y hy => ?_
      have := v3 y hy
      rw [em] at this
      show V.val (.int .u32 ((y.toNat : Nat) : Int)) = _
      rw [show ((y.toNat : Nat) : Int) = y by omega]
    have hcs : cs = [.int .u64 (a : Int), .int .i64 b, .int .u32 (c : Int), .int .i64 d, .int .i64 e] ++ v.map (fun n => Value.int .u32 n) := by
      have e0 := drop_one cs 0
      have e1 := drop_one cs 1
      have e2 := drop_one cs 2
      have e3 := drop_one cs 3
      have e4 := drop_one cs 4
      have e5 : (cs.drop 5).take 12 = cs.drop 5 := List.take_of_length_le (by rw [List.length_drop]; omega)
      rw [ha] at e0
      rw [hb] at e1
      rw [hc] at e2
      rw [hd] at e3
      rw [he] at e4
      rw [e5] at v2
      rw [List.drop_zero] at e0
      rw [e0, e1, e2, e3, e4, v2]; rfl
    rw [hcs]
    show LR (HeapI W) ([U64 a, I64 b, U32 c, I64 d, I64 e] ++ (v.map Int.toNat).map U32) _
    rw [hv]
    exact LR.append (LR.cons (.val _) (LR.cons (.val _) (LR.cons (.val _) (LR.cons (.val _) (LR.cons (.val _) (LR.nil _)))))) (lr_ints v)
end
end Go.Proofs.YtociliegljoldaaGreat
