/- Own framework, part e: '==' on structs and arrays of plain data. -/
import Derived.Test.YtaldikplfcoahaaHd
import Derived.ChangeKeysEq
import Derived.Laws.StructEq
namespace Go.Proofs.Ytaldikplfcoahaa
set_option linter.unusedSimpArgs false
set_option linter.unusedVariables false
open Go.RowKit

section
variable {P : Program} {I : Imm} {w : World} {K KP : V → Store → Prop} {σ : Store}

/-- A value of a type out of its cells. -/
def asVal (P : Program) (t : TypeId) (us : List Value) : Value := match kindB P t with | some true => .agg us.toArray | _ => us.headD undef

theorem allEq_len : ∀ {gs : List Nat} {xs ys : List V} {r : Bool}, allEq gs xs ys = some r → xs.length = gs.length ∧ ys.length = gs.length
  | [], [], [], _, _ => ⟨rfl, rfl⟩
  | [], [], _ :: _, _, h => by simp [allEq] at h
  | [], _ :: _, _, _, h => by simp [allEq] at h
  | _ :: _, [], _, _, h => by simp [allEq] at h
  | _ :: _, _ :: _, [], _, h => by simp [allEq] at h
  | g :: gs, x :: xs, y :: ys, r, h => by
    simp only [allEq] at h
    split at h
    · rename_i a b h1 h2; have := allEq_len h2; simp [this]
    · cases h

theorem allEq_split : ∀ {gs : List Nat} (hs : List Nat) {xs ys : List V} {r : Bool}, allEq (gs ++ hs) xs ys = some r →
    ∃ r1 r2, allEq gs (xs.take gs.length) (ys.take gs.length) = some r1 ∧ allEq hs (xs.drop gs.length) (ys.drop gs.length) = some r2 ∧ r = (r1 && r2)
  | [], hs, xs, ys, r, h => ⟨true, r, by simp [allEq], by simpa using h, by simp⟩
  | g :: gs, hs, [], ys, r, h => by simp [allEq] at h
  | g :: gs, hs, _ :: _, [], r, h => by simp [allEq] at h
  | g :: gs, hs, x :: xs, y :: ys, r, h => by
    simp only [List.cons_append, allEq] at h
    split at h
    · rename_i a b h1 h2
      obtain ⟨r1, r2, e1, e2, e3⟩ := allEq_split hs h2
      simp only [Option.some.injEq] at h
      refine ⟨a && r1, r2, by simp [allEq, h1, e1], by simpa using e2, ?_⟩
      rw [← h, e3, Bool.and_assoc]
    · cases h

theorem run_part_cells {t : TypeId} {us : Array Value} {off : Nat} {k : Bool} (hk : kindB P t = some k) (h : off + P.cellsOf t ≤ us.size) (h1 : k = false → P.cellsOf t = 1) :
    (part t us off).run P w = .ok (asVal P t ((us.toList.drop off).take (P.cellsOf t))) w := by
  obtain ⟨d, hd, hb⟩ := kindB_some hk
  simp only [part, Sem.run_bind, run_isAgg hd, Result.andThen_ok, hb]
  cases k with
  | true =>
    simp only [if_true, run_sizeOf_und hd, Result.andThen_ok, Sem.run_bind, Sem.run_pure, asVal, hk]
    congr 2
    apply Array.ext'
    simp [List.take_drop, Nat.add_comm]
  | false =>
    have := h1 rfl
    have hlt : off < us.size := by omega
    simp only [Bool.false_eq_true, if_false, asVal, hk, Array.getElem?_eq_getElem hlt, Sem.run_pure, this]
    congr 1
    rw [List.headD_eq_head?_getD, List.head?_take, List.head?_drop]
    simp [hlt]

theorem leafs_kind {d : Nat} {t : TypeId} {gs : List Nat} (h : leafs P d t = some gs) : ∃ k, kindB P t = some k ∧ (k = false → gs.length = 1) := by
  cases d with
  | zero => simp [leafs] at h
  | succ d =>
    unfold leafs at h
    unfold kindB
    cases hu : P.underlying t with
    | none => simp [hu] at h
    | some k =>
      refine ⟨aggD k, rfl, ?_⟩
      cases k <;> simp only [hu] at h <;> simp only [aggD] <;> first
        | (simp at h; done)
        | (intro; simp at h; subst h; rfl)
        | (intro hh; cases hh)

theorem equalIn_ok : ∀ (d : Nat) (t : TypeId) (gs : List Nat), leafs P d t = some gs → ∀ (D : Nat) (xs ys : List V) (us vs : List Value) (r : Bool) (w : World), d ≤ D → LR I xs us → LR I ys vs →
    allEq gs xs ys = some r → (Op.equalIn D t (asVal P t us) (asVal P t vs)).run P w = .ok r w := by
  intro d
  induction d with
  | zero => intro t gs h; simp [leafs] at h
  | succ d ih =>
    intro t gs h D xs ys us vs r w hD hx hy he
    obtain ⟨D, rfl⟩ : ∃ E, D = E + 1 := ⟨D - 1, by omega⟩
    have hlen := allEq_len he
    have hxl := hx.len
    have hyl := hy.len
    unfold leafs at h
    cases hu : P.underlying t with
    | none => simp [hu] at h
    | some k =>
      have prim : ∀ g, gs = [g] → aggD k = false → ∃ x y u v, xs = [x] ∧ ys = [y] ∧ us = [u] ∧ vs = [v] ∧ VR I x u ∧ VR I y v ∧ eqPrimV g x y = some r ∧ asVal P t us = u ∧ asVal P t vs = v := by
        intro g hg hk
        subst hg
        simp only [List.length_cons, List.length_nil, Nat.zero_add] at hlen
        obtain ⟨x, rfl⟩ := List.length_eq_one_iff.1 hlen.1
        obtain ⟨y, rfl⟩ := List.length_eq_one_iff.1 hlen.2
        obtain ⟨u, rfl⟩ := List.length_eq_one_iff.1 (hxl.symm.trans hlen.1)
        obtain ⟨v, rfl⟩ := List.length_eq_one_iff.1 (hyl.symm.trans hlen.2)
        refine ⟨x, y, u, v, rfl, rfl, rfl, rfl, hx.head, hy.head, ?_, by simp [asVal, kindB, hu, hk], by simp [asVal, kindB, hu, hk]⟩
        simp only [allEq] at he
        cases e : eqPrimV g x y with
        | none => simp [e] at he
        | some a => simp [e] at he; rw [he]
      cases k with
      | int q =>
        simp only [hu, Option.some.injEq] at h
        obtain ⟨x, y, u, v, rfl, rfl, rfl, rfl, h1, h2, h3, h4, h5⟩ := prim 0 h.symm rfl
        rw [h4, h5]
        unfold eqPrimV at h3
        split at h3 <;> (try (exfalso; omega)) <;> (try cases h3)
        cases h1; cases h2
        split at h3
        · rename_i e; subst e; simp only [Option.some.injEq] at h3; subst h3; simp [Op.equalIn, run_underlying hu]
        · cases h3
      | bool =>
        simp only [hu, Option.some.injEq] at h
        obtain ⟨x, y, u, v, rfl, rfl, rfl, rfl, h1, h2, h3, h4, h5⟩ := prim 1 h.symm rfl
        rw [h4, h5]
        unfold eqPrimV at h3
        split at h3 <;> first | (exfalso; omega) | (cases h3; cases h1; cases h2; simp [Op.equalIn, run_underlying hu]; done) | cases h3
      | string =>
        simp only [hu, Option.some.injEq] at h
        obtain ⟨x, y, u, v, rfl, rfl, rfl, rfl, h1, h2, h3, h4, h5⟩ := prim 2 h.symm rfl
        rw [h4, h5]
        unfold eqPrimV at h3
        split at h3 <;> first | (exfalso; omega) | (cases h3; cases h1; cases h2; simp [Op.equalIn, run_underlying hu]; done) | cases h3
      | struct fs =>
        simp only [hu] at h
        split at h
        · cases h
        · rename_i hst
          have hfo : P.fieldsOf t = fs := by simp [Program.fieldsOf, hu]
          have hka : kindB P t = some true := by simp [kindB, hu, aggD]
          simp only [asVal, hka]
          rw [run_equalIn_struct w D t us.toArray vs.toArray (by rw [hfo]; exact hu) (by simpa using hst), hfo]
          -- the fields, one behind the other
          have key : ∀ (fl : List Field) (acc : List Nat) (r1 : Bool), leafs.leafFields (leafs P d) P acc fl = some gs →
              allEq (gs.drop acc.length) (xs.drop acc.length) (ys.drop acc.length) = some r1 → (Op.eqFields D us.toArray vs.toArray fl).run P w = .ok r1 w := by
            intro fl
            induction fl with
            | nil =>
              intro acc r1 hl ha
              simp only [leafs.leafFields, Option.some.injEq] at hl
              subst hl
              rw [List.drop_eq_nil_of_le (Nat.le_refl _), List.drop_eq_nil_of_le (by omega), List.drop_eq_nil_of_le (by omega)] at ha
              simp only [allEq, Option.some.injEq] at ha
              subst ha
              simp [Op.eqFields]
            | cons f fl ihf =>
              intro acc r1 hl ha
              simp only [leafs.leafFields] at hl
              split at hl
              · cases hl
              · rename_i hname
                split at hl
                · cases hl
                · rename_i g hg
                  split at hl
                  · rename_i hgl
                    have hname' : f.name ≠ "_" ∧ f.offset = acc.length := by
                      refine ⟨fun e => hname (.inl e), ?_⟩
                      by_cases e : f.offset = acc.length
                      · exact e
                      · exact absurd (Or.inr e) hname
                    -- gs begins with acc ++ g
                    have hpre : ∃ rest, gs = acc ++ g ++ rest := by
                      have : ∀ (fl : List Field) (acc : List Nat), leafs.leafFields (leafs P d) P acc fl = some gs → ∃ rest, gs = acc ++ rest := by
                        intro fl
                        induction fl with
                        | nil => intro acc h; simp only [leafs.leafFields, Option.some.injEq] at h; exact ⟨[], by simp [h]⟩
                        | cons f fl ih2 =>
                          intro acc h
                          simp only [leafs.leafFields] at h
                          split at h
                          · cases h
                          · split at h
                            · cases h
                            · split at h
                              · obtain ⟨r, hr⟩ := ih2 _ h; exact ⟨_, by rw [hr, List.append_assoc]⟩
                              · cases h
                      exact this fl _ hl
                    obtain ⟨rest, hgs⟩ := hpre
                    have hdrop : gs.drop acc.length = g ++ rest := by rw [hgs, List.append_assoc, List.drop_left]
                    rw [hdrop] at ha
                    obtain ⟨ra, rb, e1, e2, e3⟩ := allEq_split rest ha
                    have hbig : acc.length + g.length ≤ gs.length := by rw [hgs]; simp
                    obtain ⟨k, hk, hk1⟩ := leafs_kind hg
                    have hf1 : k = false → P.cellsOf f.type = 1 := fun e => by rw [← hgl]; exact hk1 e
                    have p1 := run_part_cells (P := P) (w := w) (us := us.toArray) (off := f.offset) hk (by rw [hname'.2, ← hgl]; simp; omega) hf1
                    have p2 := run_part_cells (P := P) (w := w) (us := vs.toArray) (off := f.offset) hk (by rw [hname'.2, ← hgl]; simp; omega) hf1
                    have hrun := ih f.type g hg D _ _ _ _ ra w (by omega) ((hx.drop acc.length).take g.length) ((hy.drop acc.length).take g.length) e1
                    rw [hname'.2, ← hgl] at p1 p2
                    simp only [Op.eqFields, hname'.1, ne_eq, not_false_eq_true, if_true, Sem.run_bind, hname'.2, p1, p2, Result.andThen_ok, hrun]
                    have hrest := ihf (acc ++ g) rb hl (by
                      have e4 : gs.drop (acc ++ g).length = rest := by rw [hgs, List.drop_left]
                      rw [e4]
                      simpa [List.drop_drop, Nat.add_comm] using e2)
                    cases ra
                    · simp [e3]
                    · simp only [Bool.not_true, Bool.false_eq_true, if_false, hrest, e3, Bool.true_and]
                  · cases hl
          refine key fs.toList [] r h (by simpa using he)
      | array n e =>
        simp only [hu] at h
        split at h
        · rename_i g hg
          split at h
          · rename_i hgl
            simp only [Option.some.injEq] at h
            have hka : kindB P t = some true := by simp [kindB, hu, aggD]
            obtain ⟨k, hk, hk1⟩ := leafs_kind hg
            have hf1 : k = false → P.cellsOf e = 1 := fun e => by rw [← hgl]; exact hk1 e
            obtain ⟨dd, hdd, _⟩ := kindB_some hk
            obtain ⟨i, hi⟩ := info_of_und hdd
            simp only [asVal, hka]
            have hnx : gs.length = n * g.length := by rw [← h]; simp
            rw [run_equalIn_array w D us.toArray vs.toArray hu hi]
            have key : ∀ (m j : Nat) (r1 : Bool), j + m = n → allEq ((List.replicate m g).flatten) (xs.drop (j * g.length)) (ys.drop (j * g.length)) = some r1 →
                (Op.eqItems D e (P.cellsOf e) us.toArray vs.toArray (List.range' j m)).run P w = .ok r1 w := by
              intro m
              induction m with
              | zero =>
                intro j r1 hj ha
                have := allEq_len ha
                simp only [List.replicate_zero, List.flatten_nil, List.length_nil] at this ha
                rw [List.eq_nil_of_length_eq_zero this.1, List.eq_nil_of_length_eq_zero this.2] at ha
                simp only [allEq, Option.some.injEq] at ha
                subst ha
                simp [Op.eqItems]
              | succ m ihm =>
                intro j r1 hj ha
                rw [List.replicate_succ, List.flatten_cons] at ha
                have hl2 := allEq_len ha
                simp only [List.length_append, List.length_drop] at hl2
                have hmul : (j + 1) * g.length ≤ n * g.length := Nat.mul_le_mul_right _ (by omega)
                rw [Nat.add_mul, Nat.one_mul] at hmul
                obtain ⟨ra, rb, e1, e2, e3⟩ := allEq_split _ ha
                have p1 := run_part_cells (P := P) (w := w) (us := us.toArray) (off := j * P.cellsOf e) hk (by rw [← hgl]; simp; omega) hf1
                have p2 := run_part_cells (P := P) (w := w) (us := vs.toArray) (off := j * P.cellsOf e) hk (by rw [← hgl]; simp; omega) hf1
                have hrun := ih e g hg D _ _ _ _ ra w (by omega) ((hx.drop (j * g.length)).take g.length) ((hy.drop (j * g.length)).take g.length) e1
                rw [← hgl] at p1 p2
                have hrest := ihm (j + 1) rb (by omega) (by simpa [List.drop_drop, Nat.add_mul, Nat.add_comm] using e2)
                simp only [List.range'_succ, Op.eqItems, Sem.run_bind, ← hgl, p1, p2, Result.andThen_ok, hrun]
                rw [← hgl] at hrest
                cases ra
                · simp [e3]
                · simp only [Bool.not_true, Bool.false_eq_true, if_false, hrest, e3, Bool.true_and]
            have := key n 0 r (by omega) (by rw [h]; simpa using he)
            rw [List.range_eq_range']
            exact this
          · cases h
        · cases h
      | _ => simp [hu] at h

end
end Go.Proofs.Ytaldikplfcoahaa
