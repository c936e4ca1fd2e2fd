/- Trees that come in. -/
import Derived.Test.YtaldikplfcoahaaRb
import Derived.Test.YtaldikplfcoahaaT16
namespace Go.Proofs.Ytaldikplfcoahaa
set_option linter.unusedSimpArgs false
set_option linter.unusedVariables false
open Go.ChangeShapes Go.WideShapes Go.ChangeAt Go.RowKit

variable {H : Type} {enc : TypeId × Value → H} {W : World}
theorem rd_edge {cs : List Value} (h : Rd enc Try.prog W 58 cs) : ∃ e : Int × Int, True ∧ LR (HeapI W) (edgeV e).cells cs := by
  obtain ⟨h1, h2⟩ := rd_struct Try.underlying58 h
  rw [ce58] at h1
  have f0 : Rd enc Try.prog W 3 ((cs.drop 0).take (Try.prog.cellsOf 3)) := h2 0 _ rfl
  have f1 : Rd enc Try.prog W 3 ((cs.drop 1).take (Try.prog.cellsOf 3)) := h2 1 _ rfl
  rw [ce3] at f0 f1
  obtain ⟨a, ha, _⟩ := rd_int Try.underlying3 f0
  obtain ⟨b, hb, _⟩ := rd_int Try.underlying3 f1
  obtain ⟨x, y, rfl⟩ : ∃ x y, cs = [x, y] := by
    cases cs with
    | nil => simp at h1
    | cons x cs => cases cs with
      | nil => simp at h1
      | cons y cs => cases cs with
        | nil => exact ⟨x, y, rfl⟩
        | cons z cs => simp at h1
  simp at ha hb
  subst ha hb
  exact ⟨(a, b), trivial, LR.cons (.val _) (LR.cons (.val _) (LR.nil _))⟩
theorem rd_tree {cs : List Value} (h : Rd enc Try.prog W 25 cs) : ∃ t : Tr, t.kinds.length = 12 ∧ LR (HeapI W) t.cs cs := by
  obtain ⟨h1, h2⟩ := rd_struct Try.underlying25 h
  rw [ce25] at h1
  have f0 : Rd enc Try.prog W 22 ((cs.drop 0).take (Try.prog.cellsOf 22)) := h2 0 _ rfl
  have f1 : Rd enc Try.prog W 23 ((cs.drop 12).take (Try.prog.cellsOf 23)) := h2 1 _ rfl
  rw [ce22, List.drop_zero] at f0
  rw [ce23] at f1
  obtain ⟨l, l1, l2, _⟩ := rd_ints Try.underlying22 Try.underlying3 ce3 ce22 f0
  obtain ⟨es, v, e1, _, _, e4⟩ := rd_slice edgeV (fun _ => True) Try.underlying23 ce58 f1 (fun _ => rfl) (by decide) (fun cs' h' => rd_edge h')
  refine ⟨⟨l, es⟩, l1, ?_⟩
  have hcs : cs = cs.take 12 ++ (cs.drop 12).take 1 := by
    conv => lhs; rw [← List.take_append_drop 12 cs]
    congr 1
    rw [List.take_of_length_le (by simp; omega)]
  rw [hcs, l2, e1]
  exact (lr_ints l).append (LR.cons e4 (LR.nil _))
end Go.Proofs.Ytaldikplfcoahaa
