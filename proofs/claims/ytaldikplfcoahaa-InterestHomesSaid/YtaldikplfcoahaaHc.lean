/- Own framework, part c: the model does what part b says, operation by operation. -/
import Derived.Test.YtaldikplfcoahaaHb
namespace Go.Proofs.Ytaldikplfcoahaa
set_option linter.unusedSimpArgs false
set_option linter.unusedVariables false
open Go.RowKit

/-- What the model's run of an operation comes to, told over abstract values. -/
def Upon (P : Program) (I : Imm) (w : World) (K KP : V → Store → Prop) : Result Next → Prop
  | .ok (.value v) w' => Bel w w' ∧ ∃ I' x σ', I.le I' ∧ StR σ' I' w' ∧ VR I' x v ∧ K x σ'
  | .ok .skip w' => Bel w w' ∧ ∃ I' σ', I.le I' ∧ StR σ' I' w' ∧ K .top σ'
  | .ok (.enter f args) w' => Bel w w' ∧ Calls P f args w' fun e w'' => Bel w' w'' ∧ ∃ I' σ', I.le I' ∧ StR σ' I' w'' ∧
      ((∃ r v, e = .returned v ∧ VR I' r v ∧ K r σ') ∨ (∃ r v, e = .panicked [{ v := v, recovered := false }] ∧ VR I' r v ∧ KP r σ'))
  | .halt (.panic v) w' => Bel w w' ∧ ∃ I' x σ', I.le I' ∧ StR σ' I' w' ∧ VR I' x v ∧ KP x σ'
  | _ => False

section
variable {P : Program} {I : Imm} {w : World} {K KP : V → Store → Prop} {σ : Store}

theorem Upon.val {x : V} {v : Value} (hs : StR σ I w) (hx : VR I x v) (hk : K x σ) : Upon P I w K KP (.ok (.value v) w) :=
  ⟨Bel.refl _, I, x, σ, Imm.le_refl I, hs, hx, hk⟩

theorem below_alloc (w : World) {c : Array Value} {t : TypeId} : Bel w (w.alloc (.cells c t)) := (Bel.refl w).alloc c t

theorem blkR_new {cs : List V} {vs : List Value} (t : TypeId) (h : LR I cs vs) : BlkR I (.cells cs) (.cells vs.toArray t) :=
  ⟨fun j _ => by simp, by simpa using h⟩

/-- A new row. -/
theorem StR.new {cs : List V} {vs : Array Value} (hs : StR σ I w) (t : TypeId) (h : LR I cs vs.toList) : StR (σ.set w.heap.size (.cells cs)) I (w.alloc (.cells vs t)) :=
  hs.alloc (fun b hb => Below.heap_alloc w _ b hb) (heap_alloc_new w _) (by
    have := blkR_new (I := I) t h; simpa using this)

theorem loadB {cs : List V} {b : Nat} (hs : StR σ I w) (hb : σ b = some (.cells cs)) {j : Nat} {c : V} (hj : cs[j]? = some c) : ∃ v, w.cell? ⟨b, j, none⟩ = some v ∧ VR I c v := by
  obtain ⟨o, ho, hk⟩ := hs.own b _ hb
  cases o with
  | cells arr el fr =>
    obtain ⟨_, hlr⟩ := hk
    have hl := hlr.len
    have hlt : j < cs.length := (List.getElem?_eq_some_iff.1 hj).1
    have hja : j < arr.size := by simpa [hl] using hlt
    refine ⟨arr[j], by simp [World.cell?, ho, hja], hlr.at_ j c _ hj (by simp [hja])⟩
  | _ => exact hk.elim

theorem cellsB {cs : List V} {b : Nat} (hs : StR σ I w) (hb : σ b = some (.cells cs)) : ∃ vs : List Value, LR I cs vs ∧ ∀ (j : Nat) v, vs[j]? = some v → w.cell? ⟨b, j, none⟩ = some v := by
  obtain ⟨o, ho, hk⟩ := hs.own b _ hb
  cases o with
  | cells arr el fr => exact ⟨arr.toList, hk.2, fun j v hv => by simp [World.cell?, ho]; simpa using hv⟩
  | _ => exact hk.elim

theorem run_isAgg {t : TypeId} {d : TypeDesc} (h : P.underlying t = some d) : (isAgg t).run P w = .ok (aggD d) w := by
  simp only [isAgg, Sem.run_bind, run_underlying h, Result.andThen_ok]
  cases d <;> rfl

theorem info_of_und {t : TypeId} {d : TypeDesc} (h : P.underlying t = some d) : ∃ i, P.info? t = some i := by
  unfold Program.underlying at h
  cases e : P.info? t with
  | some i => exact ⟨i, rfl⟩
  | none => simp [e] at h

theorem run_sizeOf' {t : TypeId} (h : (P.info? t).isSome = true) : (sizeOf t).run P w = .ok (P.cellsOf t) w := by
  cases e : P.info? t with
  | none => simp [e] at h
  | some i => simp [sizeOf, typeInfo, e, Program.cellsOf]

theorem run_sizeOf_und {t : TypeId} {d : TypeDesc} (h : P.underlying t = some d) : (sizeOf t).run P w = .ok (P.cellsOf t) w := by
  obtain ⟨i, hi⟩ := info_of_und h; exact run_sizeOf' (by simp [hi])

theorem kindB_some {t : TypeId} {b : Bool} (h : kindB P t = some b) : ∃ d, P.underlying t = some d ∧ aggD d = b := by
  unfold kindB at h
  cases e : P.underlying t with
  | none => simp [e] at h
  | some d => refine ⟨d, rfl, ?_⟩; simpa [e] using h

/-- Reading a variable at a place whose cells are known. -/
theorem run_loadVar {t : TypeId} {b o off : Nat} {cs : List V} {vs : List Value} {KL : V → Prop} (hl : LR I cs vs) (hc : ∀ (j : Nat) v, vs[j]? = some v → w.cell? ⟨b, o + j, none⟩ = some v)
    (h : loadL P t cs off KL) : ∃ v x, (loadVar t ⟨b, o + off, none⟩).run P w = .ok v w ∧ VR I x v ∧ KL x := by
  unfold loadL at h
  split at h
  · rename_i hk
    obtain ⟨d, hd, hb⟩ := kindB_some hk
    obtain ⟨hle, hK⟩ := h
    have hlen := hl.len
    refine ⟨.agg (((vs.drop off).take (P.cellsOf t)).toArray), _, ?_, VR.mk_agg ((hl.drop off).take _), hK⟩
    simp only [loadVar, Sem.run_bind, run_isAgg hd, Result.andThen_ok, hb, if_true, run_sizeOf_und hd, Sem.run_pure]
    have hn : ((vs.drop off).take (P.cellsOf t)).length = P.cellsOf t := by simp; omega
    have hrun := run_loadCells_list (P := P) w ⟨b, o + off, none⟩ ((vs.drop off).take (P.cellsOf t)) (fun j v hv => by
      rw [Addr.add_lit, Nat.add_assoc]
      apply hc
      rw [List.getElem?_take] at hv
      split at hv
      · rw [List.getElem?_drop] at hv; exact hv
      · cases hv)
    rw [hn] at hrun
    rw [hrun]; rfl
  · rename_i hk
    obtain ⟨d, hd, hb⟩ := kindB_some hk
    split at h
    · exact h.elim
    · rename_i c hc'
      have hlen := hl.len
      have hlt := (List.getElem?_eq_some_iff.1 hc').1
      refine ⟨vs[off]'(by omega), c, ?_, hl.at_ off c _ hc' (by simp [show off < vs.length by omega]), h⟩
      have h0 := hc off _ (List.getElem?_eq_getElem (show off < vs.length by omega))
      simp only [loadVar, Sem.run_bind, run_isAgg hd, Result.andThen_ok, hb, Bool.false_eq_true, if_false, run_load, h0]
  · exact h.elim

theorem inv_ro {cs : List V} {v : Value} (h : VR I (.ro cs) v) : ∃ b off arr el fr, v = .pointer (some ⟨b, off, none⟩) ∧ I b = some (.cells arr el fr) ∧ off + cs.length ≤ arr.size ∧ LR I cs ((arr.toList.drop off).take cs.length) := by
  cases h with
  | ro _ b off arr el fr h hb hx =>
    refine ⟨b, off, arr, el, fr, rfl, h, hb, by simp; omega, fun j x v hx' hv => hx j x v hx' ?_⟩
    rw [List.getElem?_take] at hv
    split at hv
    · rw [List.getElem?_drop] at hv; simpa using hv
    · cases hv

theorem loadV_run {t : TypeId} {a : V} {va : Value} (hs : StR σ I w) (ha : VR I a va) (h : loadV P t a σ K) : ∃ ad v x, va = .pointer (some ad) ∧ (loadVar t ad).run P w = .ok v w ∧ VR I x v ∧ K x σ := by
  unfold loadV at h
  split at h
  · rename_i b off
    cases ha
    split at h
    · rename_i cs hb
      obtain ⟨vs, hl, hc⟩ := cellsB hs hb
      obtain ⟨v, x, hrun, hx, hk⟩ := run_loadVar (w := w) (b := b) (o := 0) hl (fun j v hv => by rw [Nat.zero_add]; exact hc _ v hv) h
      rw [Nat.zero_add] at hrun
      exact ⟨_, v, x, rfl, hrun, hx, hk⟩
    · exact h.elim
  · obtain ⟨b, off, arr, el, fr, rfl, hi, hb, hl⟩ := inv_ro ha
    have hh := hs.imm b _ hi
    obtain ⟨v, x, hrun, hx, hk⟩ := run_loadVar (w := w) (b := b) (o := off) hl (fun j v hv => by
      rw [List.getElem?_take] at hv
      split at hv
      · rw [List.getElem?_drop] at hv; simp [World.cell?, hh]; simpa using hv
      · cases hv) h
    exact ⟨_, v, x, rfl, hrun, hx, hk⟩
  · exact h.elim

theorem load_ok {t : TypeId} {a : V} {v : Value} (hs : StR σ I w) (ha : VR I a v) (h : loadV P t a σ K) : Upon P I w K KP ((do pure (.value (← Instr.loadAt t v)) : Sem Next).run P w) := by
  obtain ⟨ad, u, x, rfl, hrun, hx, hk⟩ := loadV_run hs ha h
  simp only [Instr.loadAt, Instr.sureAddr, Sem.run_bind, Sem.run_pure, Result.andThen_ok, hrun]
  exact Upon.val hs hx hk

theorem new_ok {t : TypeId} {cs : List V} {v : Value} (hs : StR σ I w) (hl : LR I cs v.cells.toList) (h : newV cs σ K) : Upon P I w K KP ((do pure (.value (.pointer (some (← newVar t v)))) : Sem Next).run P w) := by
  simp only [newVar, newRow, Sem.run_bind, run_newObj, Result.andThen_ok, Sem.run_pure]
  exact ⟨below_alloc w, I, _, _, Imm.le_refl I, hs.new t hl, .ptr _ _, h _ hs.fresh_own⟩

theorem LR.vals (I : Imm) (vs : List Value) : LR I (vs.map V.val) vs := by
  have := LR.map (I := I) (f := V.val) (g := id) (fun a => VR.val a) vs
  simpa using this

theorem zeroV_run {t : TypeId} {cs : List V} (h : zeroV P t = some cs) : ∃ z, (zeroValue t).run P w = .ok z w ∧ LR I cs z.cells.toList ∧ cs.length = z.cells.size := by
  unfold zeroV at h
  cases e : P.info? t with
  | none => simp [e] at h
  | some i =>
    simp only [e, Option.bind_some, Option.map_eq_some_iff] at h
    obtain ⟨z, hz, rfl⟩ := h
    exact ⟨z, by simp [zeroValue, typeInfo, e, hz], LR.vals I _, by simp⟩

theorem alloc_ok {t : TypeId} (hs : StR σ I w) (h : allocV P t σ K) : Upon P I w K KP ((do pure (.value (← Instr.alloc t true (.tuple #[]))) : Sem Next).run P w) := by
  unfold allocV at h
  split at h
  · rename_i cs hz
    obtain ⟨z, hrun, hl, _⟩ := zeroV_run (I := I) (w := w) hz
    have := new_ok (P := P) (t := t) (KP := KP) hs hl h
    simp only [Instr.alloc, Sem.run_bind, hrun, Result.andThen_ok] at this ⊢
    exact this
  · exact h.elim

theorem box_ok {t : TypeId} {x : V} {v : Value} (hs : StR σ I w) (hx : VR I x v) (h : boxV x σ K) : Upon P I w K KP ((do pure (.value (← Instr.box t v)) : Sem Next).run P w) := by
  have := new_ok (P := P) (t := t) (KP := KP) hs (hx.cells h.1) h.2
  simp only [Instr.box, Sem.run_bind, Result.andThen_ok] at this ⊢
  exact this

theorem LR.setL {cs : List V} {vs : List Value} (h : LR I cs vs) : ∀ (ys : List V) (us : List Value) (off : Nat), LR I ys us → LR I (setL cs off ys) (us.zipIdx.foldl (fun cs (c, j) => cs.set (off + j) c) vs) := by
  intro ys
  induction ys generalizing cs vs with
  | nil => intro us off hu; obtain rfl : us = [] := List.eq_nil_of_length_eq_zero (by simpa using hu.len.symm); exact h
  | cons y ys ih =>
    intro us off hu
    cases us with
    | nil => have := hu.len; simp at this
    | cons u us =>
      simp only [Go.Proofs.Ytaldikplfcoahaa.setL, List.zipIdx_cons, List.foldl_cons, Nat.add_zero]
      have := ih (h.set off hu.head) us (off + 1) hu.tail
      rw [show us.zipIdx (0 + 1) = us.zipIdx.map (fun p => (p.1, p.2 + 1)) by rw [Nat.zero_add, List.zipIdx_eq_map_add]; simp [Nat.add_comm]] 
      rw [List.foldl_map]
      simpa [Nat.add_assoc, Nat.add_comm 1] using this

/-- The cells of a literal. -/
theorem fill_ok (place : Nat → Option (Nat × Nat)) : ∀ (parts : List (Nat × V)) (ps : List (Nat × Value)) (cs : List V) (vs : Array Value) (out : List V), LR I cs vs.toList →
    (parts.length = ps.length ∧ ∀ (j : Nat) p q, parts[j]? = some p → ps[j]? = some q → p.1 = q.1 ∧ VR I p.2 q.2) → fillV place cs parts = some out →
    ∃ us, Instr.fill place vs ps = some us ∧ LR I out us.toList := by
  intro parts
  induction parts with
  | nil =>
    intro ps cs vs out hl hp h
    have : ps = [] := List.eq_nil_of_length_eq_zero (by simpa using hp.1.symm)
    subst this
    simp only [fillV, Option.some.injEq] at h
    subst h
    exact ⟨vs, rfl, hl⟩
  | cons p parts ih =>
    intro ps cs vs out hl hp h
    cases ps with
    | nil => simp at hp
    | cons q ps =>
      obtain ⟨i, x⟩ := p
      obtain ⟨i', u⟩ := q
      have h0 := hp.2 0 _ _ rfl rfl
      simp only at h0
      obtain ⟨rfl, hx⟩ := h0
      unfold fillV at h
      unfold Instr.fill
      cases e : place i with
      | none => simp [e] at h
      | some os =>
        obtain ⟨off, size⟩ := os
        simp only [e] at h ⊢
        split at h
        · rename_i hc
          obtain ⟨hc1, hc2, hc3⟩ := hc
          have hxc := hx.cells hc1
          have hxl := hxc.len
          have hll := hl.len
          simp only [Array.length_toList] at hxl hll
          rw [if_neg (by simp; omega)]
          refine ih ps _ _ out ?_ ⟨by simpa using hp.1, fun j p q a b => hp.2 (j + 1) p q (by simpa using a) (by simpa using b)⟩ h
          have := hl.setL _ _ off hxc
          rw [← Array.foldl_toList, Array.toList_zipIdx]
          clear ih
          generalize u.cells.toList.zipIdx = l at this ⊢
          have key : ∀ (l : List (Value × Nat)) (vs : Array Value), (l.foldl (fun cs (c, j) => cs.setIfInBounds (off + j) c) vs).toList = l.foldl (fun cs (c, j) => cs.set (off + j) c) vs.toList := by
            intro l
            induction l with
            | nil => intro vs; rfl
            | cons a l ih => intro vs; simp only [List.foldl_cons]; rw [ih]; simp
          rw [key]
          exact this
        · cases h

theorem parts_map {ρ : Operand → V} {ρc : Operand → Value} (hρ : ∀ x, VR I (ρ x) (ρc x)) (parts : Array (Nat × Operand)) :
    (parts.toList.map fun (i, x) => (i, ρ x)).length = ((parts.map fun (i, x) => (i, ρc x)).toList).length ∧
    ∀ (j : Nat) p q, (parts.toList.map fun (i, x) => (i, ρ x))[j]? = some p → ((parts.map fun (i, x) => (i, ρc x)).toList)[j]? = some q → p.1 = q.1 ∧ VR I p.2 q.2 := by
  refine ⟨by simp, fun j p q hp hq => ?_⟩
  simp only [Array.toList_map, List.getElem?_map] at hp hq
  cases e : parts.toList[j]? with
  | none => simp [e] at hp
  | some a => simp [e] at hp hq; subst hp; subst hq; exact ⟨rfl, hρ _⟩

theorem mapM_size {fields : List Field} (h : fields.all (fun f => (P.info? f.type).isSome) = true) : (fields.mapM fun f => (do pure (f.offset, ← sizeOf f.type) : Sem (Nat × Nat))).run P w = .ok (fields.map fun f => (f.offset, P.cellsOf f.type)) w := by
  induction fields with
  | nil => simp [List.mapM_nil]
  | cons f fs ih =>
    simp only [List.all_cons, Bool.and_eq_true] at h
    simp only [List.mapM_cons, Sem.run_bind, run_sizeOf' h.1, Result.andThen_ok, Sem.run_pure, ih h.2, List.map_cons]

theorem build_ok {t : TypeId} {ρ : Operand → V} {ρc : Operand → Value} (hρ : ∀ x, VR I (ρ x) (ρc x)) (parts : Array (Nat × Operand)) (hs : StR σ I w)
    (h : buildV P t (parts.toList.map fun (i, x) => (i, ρ x)) σ K) : Upon P I w K KP ((do pure (.value (← Instr.build t (parts.map fun (i, x) => (i, ρc x)))) : Sem Next).run P w) := by
  unfold buildV at h
  split at h
  · rename_i place z hpl hz
    obtain ⟨zv, hrun, hl, hlen⟩ := zeroV_run (I := I) (w := w) hz
    split at h
    · rename_i cs hf
      obtain ⟨us, hfill, hlr⟩ := fill_ok (I := I) place _ _ _ zv.cells _ hl (parts_map hρ parts) hf
      simp only [Instr.build, Sem.run_bind, hrun, Result.andThen_ok]
      unfold placesB at hpl
      split at hpl
      · rename_i fields hu
        split at hpl
        · rename_i hall
          simp only [Option.some.injEq] at hpl
          simp only [run_underlying hu, Result.andThen_ok, Sem.run_bind]
          have hm := mapM_size (P := P) (w := w) hall
          rw [Array.mapM_eq_mapM_toList]
          simp only [Sem.run_map, hm, Result.andThen_ok]
          have hpe : (fun i => (fields.toList.map fun f => (f.offset, P.cellsOf f.type)).toArray[i]?) = place := by subst hpl; funext i; simp
          rw [hpe, hfill]
          exact Upon.val hs (.agg _ _ (by simpa using hlr.len) fun j c v a b => hlr.at_ j c v a (by simpa using b)) h
        · cases hpl
      · rename_i n e hu
        split at hpl
        · rename_i hi
          simp only [Option.some.injEq] at hpl
          simp only [run_underlying hu, Result.andThen_ok, Sem.run_bind, run_sizeOf' hi]
          subst hpl
          simp only [hfill]
          exact Upon.val hs (.agg _ _ (by simpa using hlr.len) fun j c v a b => hlr.at_ j c v a (by simpa using b)) h
        · cases hpl
      · cases hpl
    · exact h.elim
  · exact h.elim

end
end Go.Proofs.Ytaldikplfcoahaa
