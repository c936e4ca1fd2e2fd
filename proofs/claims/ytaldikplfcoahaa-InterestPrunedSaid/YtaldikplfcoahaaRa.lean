/- Own framework: arguments as they are read. -/
import Derived.Test.YtaldikplfcoahaaLa
import Derived.OpenShut
namespace Go.Proofs.Ytaldikplfcoahaa
set_option linter.unusedSimpArgs false
set_option linter.unusedVariables false
open Go.ChangeShapes Go.WideShapes Go.ChangeAt Go.RowKit

section
variable {H : Type} {enc : TypeId × Value → H} {P : Program} {W : World}

/-- These cells read as something of type t. -/
def Rd (enc : TypeId × Value → H) (P : Program) (W : World) (t : TypeId) (cs : List Value) : Prop := ∃ fuel x, DataW.trod enc P W 0 (fun _ => true) true fuel t cs = some x

theorem wf_range {k : IntKind} {n : Int} (h : (Lit.int k n).wf = true) : k.min ≤ n ∧ n ≤ k.max := by simpa [Lit.wf] using h
theorem rd_int {t : TypeId} {k : IntKind} {cs : List Value} (ht : P.underlying t = some (.int k)) (h : Rd enc P W t cs) : ∃ n, cs = [.int k n] ∧ k.min ≤ n ∧ n ≤ k.max := by
  obtain ⟨fuel, x, h⟩ := h
  obtain ⟨n, h1, _, h3⟩ := DataW.trod_int ht h
  exact ⟨n, h1, wf_range h3⟩
theorem rd_bool {t : TypeId} {cs : List Value} (ht : P.underlying t = some .bool) (h : Rd enc P W t cs) : ∃ b, cs = [.bool b] := by
  obtain ⟨fuel, x, h⟩ := h
  obtain ⟨n, h1, _⟩ := DataW.trod_bool ht h
  exact ⟨n, h1⟩
theorem rd_string {t : TypeId} {cs : List Value} (ht : P.underlying t = some .string) (h : Rd enc P W t cs) : ∃ s : ByteArray, cs = [.string s] ∧ s.size ≤ maxLen := by
  obtain ⟨fuel, x, h⟩ := h
  obtain ⟨n, h1, _, h3⟩ := DataW.trod_string ht h
  exact ⟨n, h1, h3⟩
theorem rd_struct {t : TypeId} {fs : Array Field} {cs : List Value} (ht : P.underlying t = some (.struct fs)) (h : Rd enc P W t cs) :
    cs.length = P.cellsOf t ∧ ∀ (i : Nat) (f : Field), fs[i]? = some f → Rd enc P W f.type ((cs.drop f.offset).take (P.cellsOf f.type)) := by
  obtain ⟨fuel, x, h⟩ := h
  obtain ⟨xs, n, _, _, h3, h4, h5⟩ := DataW.trod_struct ht h
  refine ⟨h3, fun i f hf => ⟨n, (xs.getD i (.nil, [])), ?_⟩⟩
  have hi := (Array.getElem?_eq_some_iff.1 hf).1
  rw [h5 i f hf, List.getElem?_eq_getElem (by omega)]
  simp [show i < xs.length by omega]
theorem rd_array {t : TypeId} {m : Nat} {e : TypeId} {cs : List Value} (ht : P.underlying t = some (.array m e)) (h : Rd enc P W t cs) :
    cs.length = P.cellsOf t ∧ ∀ (i : Nat), i < m → Rd enc P W e ((cs.drop (i * P.cellsOf e)).take (P.cellsOf e)) := by
  obtain ⟨fuel, x, h⟩ := h
  obtain ⟨xs, n, _, _, h3, h4, h5⟩ := DataW.trod_array ht h
  refine ⟨h3, fun i hi => ⟨n, (xs.getD i (.nil, [])), ?_⟩⟩
  rw [h5 i hi, List.getElem?_eq_getElem (by omega)]
  simp [show i < xs.length by omega]
/-- A choice for each number below one. -/
theorem choose_lt {α : Type} {m : Nat} {p : Nat → α → Prop} (h : ∀ i, i < m → ∃ a, p i a) : ∃ l : List α, l.length = m ∧ ∀ i (hi : i < l.length), p i l[i] := by
  induction m with
  | zero => exact ⟨[], rfl, fun i hi => by simp at hi⟩
  | succ m ih =>
    obtain ⟨l, h1, h2⟩ := ih fun i hi => h i (by omega)
    obtain ⟨a, ha⟩ := h m (by omega)
    refine ⟨l ++ [a], by simp [h1], fun i hi => ?_⟩
    by_cases hm : i < l.length
    · rw [List.getElem_append_left hm]; exact h2 i hm
    · obtain rfl : i = l.length := by simp at hi; omega
      rw [List.getElem_append_right (by omega)]; simpa [h1] using ha
/-- A slice, its elements told. -/
theorem rd_slice {α : Type} {t e : TypeId} {k : Nat} {cs : List Value} (g : α → V) (Q : α → Prop) (ht : P.underlying t = some (.slice e)) (hk : P.cellsOf e = k) (h : Rd enc P W t cs) (hg : ∀ a, (g a).cells.length = k) (hk0 : 0 < k)
    (hel : ∀ cs', Rd enc P W e cs' → ∃ a, Q a ∧ LR (HeapI W) (g a).cells cs') :
    ∃ (l : List α) (v : Value), cs = [v] ∧ (∀ a ∈ l, Q a) ∧ l.length ≤ maxLen ∧ VR (HeapI W) (.lst k (l.map g)) v := by
  obtain ⟨fuel, x, h⟩ := h
  rcases DataW.trod_slice ht h with ⟨h0, _⟩ | ⟨a, len, cap, elems, rest, n, _, rfl, _, hb, hl, hm, hlen, he1, he2, _⟩
  · exact ⟨[], _, h0, by simp, by simp, .lnil k⟩
  · obtain ⟨hr1, hr2⟩ := he2 rfl
    have hall : ∀ i, i < cap → ∃ y, (W.cells? 0 (a.add (i * P.cellsOf e)) (P.cellsOf e)).bind (DataW.trod enc P W 0 (fun _ => true) true n e) = some y := fun i hi => by
      by_cases q : i < len
      · exact ⟨elems[i], by rw [he1 i q]; simp [hlen, q]⟩
      · have := hr2 (i - len) (by omega)
        rw [show len + (i - len) = i by omega] at this
        exact ⟨rest[i - len], by rw [this]; simp [hr1, show i - len < cap - len by omega]⟩
    by_cases hc0 : cap = 0
    · subst hc0
      obtain rfl : len = 0 := by omega
      exact ⟨[], _, rfl, by simp, by simp, .lst0 k a⟩
    · have hcell : ∀ i, i < cap → ∃ cs', W.cells? 0 (a.add (i * k)) k = some cs' ∧ Rd enc P W e cs' := fun i hi => by
        obtain ⟨y, hy⟩ := hall i hi
        rw [hk, Option.bind_eq_some_iff] at hy
        obtain ⟨cs', h1, h2⟩ := hy
        exact ⟨cs', h1, n, y, h2⟩
      -- the block
      obtain ⟨cs0, q0, _⟩ := hcell 0 (by omega)
      obtain ⟨_, q1, q2⟩ := World.cells?_some q0
      have q3 := q2 0 hk0
      have hq : ∃ arr el fr, W.heap[a.block]? = some (.cells arr el fr) ∧ a.spot = none := by
        rw [Nat.zero_mul] at q3
        have e0 : (a.add 0).add 0 = a := by simp [Addr.add]
        rw [e0, List.getElem?_eq_getElem (by omega)] at q3
        unfold World.cell? at q3
        cases hh : W.heap[a.block]? with
        | none => rw [hh] at q3; cases q3
        | some o =>
          rw [hh] at q3
          cases o with
          | cells arr el fr =>
            refine ⟨arr, el, fr, rfl, ?_⟩
            simp only at q3
            split at q3
            · cases q3
            · rename_i hs; cases hsp : a.spot with | none => rfl | some z => rw [hsp] at hs; simp at hs
          | _ => cases q3
      obtain ⟨arr, el, fr, hh, hsp⟩ := hq
      obtain ⟨b, off, spot⟩ := a
      simp only at hsp hh
      subst hsp
      have hat : ∀ i j, i < cap → j < k → ∃ cs', W.cells? 0 (Addr.add ⟨b, off, none⟩ (i * k)) k = some cs' ∧ arr[off + i * k + j]? = cs'[j]? ∧ j < cs'.length := fun i j hi hj => by
        obtain ⟨cs', h1, _⟩ := hcell i hi
        obtain ⟨_, z1, z2⟩ := World.cells?_some h1
        refine ⟨cs', h1, ?_, by omega⟩
        rw [← z2 j hj, Addr.add_lit, Addr.add_lit]
        simp [World.cell?, hh]
      obtain ⟨l, l1, l2⟩ := choose_lt (m := len) (p := fun i a => ∃ cs', W.cells? 0 (Addr.add ⟨b, off, none⟩ (i * k)) k = some cs' ∧ Q a ∧ LR (HeapI W) (g a).cells cs') (fun i hi => by
        obtain ⟨cs', h1, h2⟩ := hcell i (by omega)
        obtain ⟨a, ha⟩ := hel cs' h2
        exact ⟨a, cs', h1, ha⟩)
      have hsz : off + len * k ≤ arr.size := by
        by_cases hl0 : len = 0
        · rw [hl0]
          obtain ⟨cs', _, z, zl⟩ := hat 0 0 (by omega) hk0
          rw [List.getElem?_eq_getElem zl] at z
          have := (Array.getElem?_eq_some_iff.1 z).1; omega
        · obtain ⟨cs', _, z, zl⟩ := hat (len - 1) (k - 1) (by omega) (by omega)
          rw [List.getElem?_eq_getElem zl] at z
          have := (Array.getElem?_eq_some_iff.1 z).1
          have e : len * k = (len - 1) * k + k := by rw [← Nat.succ_mul]; congr 1; omega
          omega
      refine ⟨l, _, rfl, fun a ha => ?_, by omega, ?_⟩
      · obtain ⟨i, hi, rfl⟩ := List.mem_iff_getElem.1 ha
        exact (l2 i hi).choose_spec.2.1
      · have hv := VR.lst (I := HeapI W) k (l.map g) b off cap arr el fr hh (by simp; omega) hm (by rw [List.length_map, l1]; exact hsz) (fun x hx => by obtain ⟨a, _, rfl⟩ := List.mem_map.1 hx; exact hg a) (fun i j x c v hx hc hv => by
          rw [List.getElem?_map, Option.map_eq_some_iff] at hx
          obtain ⟨y, hy, rfl⟩ := hx
          obtain ⟨hi, rfl⟩ := List.getElem?_eq_some_iff.1 hy
          obtain ⟨cs', h1, _, h3⟩ := l2 i hi
          have hj : j < k := by rw [← hg l[i]]; exact (List.getElem?_eq_some_iff.1 hc).1
          obtain ⟨cs2, z1, z2, _⟩ := hat i j (by omega) hj
          rw [h1] at z1; cases z1
          exact h3.at_ j c v hc (by rw [← z2]; exact hv))
        rw [List.length_map, l1] at hv
        exact hv
end
end Go.Proofs.Ytaldikplfcoahaa
