/- Own framework, part h: make, len, append, calls; the theorem on every operation. -/
import Derived.Test.YtaldikplfcoahaaHg
import Derived.Laws.NewFold
namespace Go.Proofs.Ytaldikplfcoahaa
set_option linter.unusedSimpArgs false
set_option linter.unusedVariables false
open Go.RowKit

section
variable {P : Program} {I : Imm} {w : World} {K KP : V → Store → Prop} {σ : Store}

theorem run_typeInfo_und {t : TypeId} {i : TypeInfo} (h : P.info? t = some i) : (typeInfo t).run P w = .ok i w := by simp [typeInfo, h]

theorem makeSlice_ok {t : TypeId} {l c : V} {u v : Value} (hs : StR σ I w) (hl : VR I l u) (hc : VR I c v) (h : makeSliceV P t l c σ K) : Upon P I w K KP ((do pure (.value (← Instr.makeSlice t u v)) : Sem Next).run P w) := by
  unfold makeSliceV at h
  split at h
  · rename_i e k n k' m hu
    cases hl; cases hc
    obtain ⟨h1, h2, h3, h4, h5, h⟩ := h
    split at h
    · rename_i z hz
      obtain ⟨zv, hrun, hzl, hlen⟩ := zeroV_run (I := I) (w := w) hz
      obtain ⟨i, hi⟩ := Option.isSome_iff_exists.1 h1
      have hby : P.bytesOf e = i.bytes := by simp [Program.bytesOf, hi]
      rw [hby] at h4
      have wn : IntKind.i64.wrap n = n := by simp only [IntKind.wrap, IntKind.signed, IntKind.bits]; simp; omega
      have wm : IntKind.i64.wrap m = m := by simp only [IntKind.wrap, IntKind.signed, IntKind.bits]; simp; omega
      have hbm : (i.bytes : Int) * m ≤ 140737488355328 := by rw [Int.mul_comm]; exact h4
      by_cases h0 : m.toNat * P.cellsOf e = 0
      · have hnew : LR I (repL z (m.toNat * P.cellsOf e)) ((Array.range (m.toNat * P.cellsOf e)).map (fun i => (#[] : Array Value)[i % (#[] : Array Value).size]!)).toList := by
          rw [h0]; exact ⟨by simp [repL], fun j x v hx _ => by simp [repL] at hx⟩
        simp only [Instr.makeSlice, Sem.run_bind, run_underlying hu, Result.andThen_ok, asInt, asIntOf, Sem.run_pure, run_typeInfo_und hi, wn, wm, Sem.run_ite, run_askRoom, run_sizeOf' h1, newRow, run_newObj, if_pos h0]
        rw [if_neg (by simp; omega)]
        exact ⟨below_alloc w, I, _, _, Imm.le_refl I, hs.new e hnew, .sl _ _ _ _, h _ hs.fresh_own⟩
      · have hnew := repL_ok hzl (m.toNat * P.cellsOf e)
        simp only [Instr.makeSlice, Sem.run_bind, run_underlying hu, Result.andThen_ok, asInt, asIntOf, Sem.run_pure, run_typeInfo_und hi, wn, wm, Sem.run_ite, run_askRoom, run_sizeOf' h1, newRow, run_newObj, if_neg h0, hrun]
        rw [if_neg (by simp; omega)]
        exact ⟨below_alloc w, I, _, _, Imm.le_refl I, hs.new e hnew, .sl _ _ _ _, h _ hs.fresh_own⟩
    · exact h.elim
  · exact h.elim

theorem len_ok {t : TypeId} {ts : Array TypeId} {x : V} {u : Value} {ty : TypeId} (ht : ts[0]? = some t) (hs : StR σ I w) (hx : VR I x u) (h : lenV P t x σ K) :
    Upon P I w K KP ((do pure (.value (← Builtin.len_ ts ty #[u])) : Sem Next).run P w) := by
  unfold lenV at h
  split at h
  · rename_i s hu; cases hx
    refine Upon.valRun hs ?_ (.val _) h
    simp [Builtin.len_, ht, run_underlying hu, goInt]
  · rename_i n e hu
    refine Upon.valRun hs ?_ (.val _) h
    simp [Builtin.len_, ht, run_underlying hu, goInt]
  · rename_i e n c hu; cases hx
    refine Upon.valRun hs ?_ (.val _) h
    simp [Builtin.len_, ht, run_underlying hu, goInt]
  · rename_i e b off n c hu; cases hx
    refine Upon.valRun hs ?_ (.val _) h
    simp [Builtin.len_, ht, run_underlying hu, goInt]
  · rename_i e k xs hu
    have : ∃ a c, u = .slice a xs.length c := by cases hx <;> exact ⟨_, _, rfl⟩
    obtain ⟨a, c, rfl⟩ := this
    refine Upon.valRun hs ?_ (.val _) h
    simp [Builtin.len_, ht, run_underlying hu, goInt]
  · exact h.elim

/-- The cells of rows, one behind the other. -/
theorem flat_LR {k : Nat} {arr : Array Value} : ∀ (xs : List V) (off : Nat), (∀ x ∈ xs, x.cells.length = k) → off + xs.length * k ≤ arr.size →
    (∀ (i j : Nat) x c v, xs[i]? = some x → x.cells[j]? = some c → arr[off + i * k + j]? = some v → VR I c v) → LR I (xs.flatMap V.cells) ((arr.toList.drop off).take (xs.length * k)) := by
  intro xs
  induction xs with
  | nil => intro off _ _ _; simp; exact LR.nil I
  | cons x xs ih =>
    intro off hk hb hx
    simp only [List.length_cons, Nat.add_mul, Nat.one_mul] at hb
    have h1 : LR I x.cells ((arr.toList.drop off).take k) := by
      have hxl := hk x (List.mem_cons_self ..)
      refine ⟨by simp; omega, fun j c v hc hv => ?_⟩
      rw [List.getElem?_take] at hv
      split at hv
      · rw [List.getElem?_drop] at hv
        exact hx 0 j x c v rfl hc (by simpa using hv)
      · cases hv
    have h2 := ih (off + k) (fun y hy => hk y (List.mem_cons_of_mem _ hy)) (by omega) (fun i j y c v hy hc hv => hx (i + 1) j y c v (by simpa using hy) hc (by rw [Nat.add_mul, Nat.one_mul]; rw [show off + (i * k + k) + j = off + k + i * k + j by omega]; exact hv))
    have := h1.append h2
    rw [List.flatMap_cons]
    have e : (arr.toList.drop off).take ((x :: xs).length * k) = (arr.toList.drop off).take k ++ (arr.toList.drop (off + k)).take (xs.length * k) := by
      rw [List.length_cons, Nat.add_mul, Nat.one_mul, Nat.add_comm (xs.length * k) k, List.take_add, List.drop_drop]
    rw [e]; exact this

/-- What is appended. -/
theorem row_ok {k : Nat} {y : V} {u : Value} {KK : Nat → List V → Prop} (hs : StR σ I w) (hy : VR I y u) (h : rowV k y σ KK) :
    ∃ (m : Nat) (news : List V) (vals : List Value), KK m news ∧ LR I news vals ∧ news.length = m * k ∧ (∀ w', (Builtin.lenOf u).run P w' = .ok m w') ∧
      (∀ w', (∀ b, b < w.heap.size → w'.heap[b]? = w.heap[b]?) → (Builtin.firstCells k m u).run P w' = .ok vals.toArray w') := by
  unfold rowV at h
  split at h
  · cases hy
    exact ⟨0, [], [], h, LR.nil I, by simp, fun _ => rfl, fun _ _ => rfl⟩
  · rename_i b off len cap
    cases hy
    split at h
    · rename_i cs hb
      obtain ⟨h1, h⟩ := h
      obtain ⟨vs, hl, hc⟩ := cellsB hs hb
      have hlen := hl.len
      refine ⟨len, _, (vs.drop off).take (len * k), h, (hl.drop off).take _, by simp; omega, fun _ => rfl, fun w' hw' => ?_⟩
      have hn : ((vs.drop off).take (len * k)).length = len * k := by simp; omega
      have hrun := run_loadCells_list (P := P) w' ⟨b, off, none⟩ ((vs.drop off).take (len * k)) (fun j v hv => by
        rw [Addr.add_lit]
        rw [List.getElem?_take] at hv
        split at hv
        · rw [List.getElem?_drop] at hv
          have hcell := hc _ v hv
          have hlt : b < w.heap.size := by obtain ⟨o, ho, _⟩ := hs.own b _ hb; exact world_lt ho
          simp only [World.cell?, hw' b hlt] at hcell ⊢; exact hcell
        · cases hv)
      rw [hn] at hrun
      exact hrun
    · exact h.elim
  · rename_i k' xs
    obtain ⟨rfl, h⟩ := h
    cases hy with
    | lnil => exact ⟨0, [], [], h, LR.nil I, by simp, fun _ => rfl, fun _ _ => rfl⟩
    | lst0 _ a => exact ⟨0, [], [], h, LR.nil I, by simp, fun _ => rfl, fun w' _ => by have := run_loadCells_list (P := P) w' a [] (fun j v hv => by simp at hv); simp only [Builtin.firstCells, Nat.zero_mul]; exact this⟩
    | lst _ _ b off cap arr el fr g1 g2 g3 g4 g5 g6 =>
      have hl := flat_LR xs off g5 g4 g6
      have hlen := hl.len
      have hn : ((arr.toList.drop off).take (xs.length * k')).length = xs.length * k' := by simp; omega
      refine ⟨xs.length, _, _, h, hl, by rw [hlen, hn], fun _ => rfl, fun w' hw' => ?_⟩
      have hh := hs.imm b _ g1
      have hrun := run_loadCells_list (P := P) w' ⟨b, off, none⟩ ((arr.toList.drop off).take (xs.length * k')) (fun j v hv => by
        rw [Addr.add_lit]
        rw [List.getElem?_take] at hv
        split at hv
        · rw [List.getElem?_drop] at hv
          simp only [World.cell?, hw' b (world_lt hh), hh]
          simpa using hv
        · cases hv)
      rw [hn] at hrun
      exact hrun
  · rename_i s
    cases hy
    obtain ⟨rfl, h⟩ := h
    refine ⟨s.size, _, s.data.toList.map (fun b => .int .u8 b.toNat), h, LR.map (fun b => VR.val _) _, by simp, fun _ => rfl, fun w' _ => ?_⟩
    simp only [Builtin.firstCells, Sem.run_pure]
    congr 1
    have : s.extract 0 s.size = s := by
      simp
    rw [this]
    apply Array.ext'; simp
  · exact h.elim

/-- The new row of an append that grows. -/
theorem grow_run {t u e : TypeId} {d : TypeDesc} {i : TypeInfo} {ty : TypeId} (hu : P.underlying t = some (.slice e)) (hd : P.underlying u = some d) (hnd : ∀ k, d ≠ .int k) (hi : P.info? e = some i)
    {z : Value} (hz : i.zero = some z) {base : Option Addr} {n cap m : Nat} {y : Value} {olds vals : List Value} (hb : cap < n + m) (hm : n + m ≤ maxLen) (hby : (n + m) * i.bytes ≤ 140737488355328)
    (hlen : ∀ w', (Builtin.lenOf y).run P w' = .ok m w') (hold : (Builtin.firstCells i.size n (.slice base n cap)).run P w.drew = .ok olds.toArray w.drew)
    (hnew : (Builtin.firstCells i.size m y).run P w.drew = .ok vals.toArray w.drew) :
    (Builtin.append_ #[t, u] ty #[.slice base n cap, y]).run P w =
      .ok (.slice (some ⟨w.heap.size, 0, none⟩) (n + m) (grownCap w (n + m) cap e)) (w.drew.alloc (.cells (olds.toArray ++ vals.toArray ++ Builtin.zeroCells z.cells (grownCap w (n + m) cap e - (n + m))) e)) := by
  have hn : ¬ (n + m ≤ cap) := by omega
  have hz' : (match d with | TypeDesc.int k => true | _ => false) = false := by
    cases d <;> first | rfl | exact absurd rfl (hnd _)
  have h48 : ¬ (Builtin.nextslicecap (n + m) cap * i.bytes > 2 ^ 48) := by
    have := growslice_fits (need := n + m) (old := cap) (bytes := i.bytes) hb (by omega)
    omega
  have h63 : ¬ (((n + m : Nat) : Int) > IntKind.i64.max ∧ i.bytes = 0) := by
    intro h; have := h.1; simp [IntKind.max, IntKind.signed, IntKind.bits] at this; simp only [maxLen] at hm; omega
  simp only [Builtin.append_, List.getElem?_toArray, List.getElem?_cons_zero, List.getElem?_cons_succ, Sem.run_bind, run_underlying hu, run_underlying hd, Result.andThen_ok, sizeOf, run_typeInfo_und hi, Sem.run_pure, hz', Bool.false_eq_true, if_false, hlen,
    if_neg hn, false_or]
  rw [if_neg h63]
  simp only [Sem.run_bind, run_typeInfo_und hi, Result.andThen_ok, zeroValue]
  rw [if_neg h48]
  simp only [run_choose_drew, Question.forced, Bool.false_eq_true, if_false, Result.andThen_ok, Sem.run_bind, run_askRoom, hold, hnew, Bool.not_false, if_true, run_typeInfo_und hi, hz, Sem.run_pure, newRow, run_newObj]
  rfl

theorem room_run {t u e : TypeId} {d : TypeDesc} {i : TypeInfo} {ty : TypeId} (hu : P.underlying t = some (.slice e)) (hd : P.underlying u = some d) (hnd : ∀ k, d ≠ .int k) (hi : P.info? e = some i)
    {b off n cap m : Nat} {y : Value} {vals : List Value} (hb : n + m ≤ cap) (hlen : ∀ w', (Builtin.lenOf y).run P w' = .ok m w')
    (hnew : (Builtin.firstCells i.size m y).run P w = .ok vals.toArray w) {w' : World} (hst : (storeCells ⟨b, off + n * i.size, none⟩ vals).run P w = .ok () w') :
    (Builtin.append_ #[t, u] ty #[.slice (some ⟨b, off, none⟩) n cap, y]).run P w = .ok (.slice (some ⟨b, off, none⟩) (n + m) cap) w' := by
  have hz' : (match d with | TypeDesc.int k => true | _ => false) = false := by
    cases d <;> first | rfl | exact absurd rfl (hnd _)
  simp only [Builtin.append_, List.getElem?_toArray, List.getElem?_cons_zero, List.getElem?_cons_succ, Sem.run_bind, run_underlying hu, run_underlying hd, Result.andThen_ok, sizeOf, run_typeInfo_und hi, Sem.run_pure, hz', Bool.false_eq_true, if_false, hlen,
    if_pos hb, Bool.not_false, if_true, hnew, Addr.add_lit, hst]

theorem stay_run {t u e : TypeId} {d : TypeDesc} {i : TypeInfo} {ty : TypeId} (hu : P.underlying t = some (.slice e)) (hd : P.underlying u = some d) (hnd : ∀ k, d ≠ .int k) (hi : P.info? e = some i)
    {a : Option Addr} {n cap : Nat} {y : Value} {vals : List Value} (hb : n ≤ cap) (hlen : ∀ w', (Builtin.lenOf y).run P w' = .ok 0 w')
    (hnew : (Builtin.firstCells i.size 0 y).run P w = .ok vals.toArray w) (hv : vals = []) :
    (Builtin.append_ #[t, u] ty #[.slice a n cap, y]).run P w = .ok (.slice a n cap) w := by
  subst hv
  have hz' : (match d with | TypeDesc.int k => true | _ => false) = false := by
    cases d <;> first | rfl | exact absurd rfl (hnd _)
  simp only [Builtin.append_, List.getElem?_toArray, List.getElem?_cons_zero, List.getElem?_cons_succ, Sem.run_bind, run_underlying hu, run_underlying hd, Result.andThen_ok, sizeOf, run_typeInfo_und hi, Sem.run_pure, hz', Bool.false_eq_true, if_false, hlen,
    Nat.add_zero, if_pos hb, Bool.not_false, if_true, hnew]
  cases a <;> rfl

theorem LR.spare {xs : List V} {vs : List Value} (h : LR I xs vs) (zs : List Value) (n : Nat) (hn : zs.length = n) : LR I (xs ++ List.replicate n .top) (vs ++ zs) := by
  subst hn; exact h.append (LR.tops I zs)

theorem append_ok {t u : TypeId} {x y : V} {va vy : Value} {ty : TypeId} (hs : StR σ I w) (hx : VR I x va) (hy : VR I y vy) (h : appendV P t u x y σ K) :
    Upon P I w K KP ((do pure (.value (← Builtin.append_ #[t, u] ty #[va, vy])) : Sem Next).run P w) := by
  unfold appendV at h
  split at h
  · rename_i e d hu hd
    obtain ⟨hnd, h1, h2, h⟩ := h
    have hnd' : ∀ k, d ≠ .int k := fun k e => by subst e; exact hnd
    obtain ⟨i, hi⟩ := Option.isSome_iff_exists.1 h1
    have hsz : P.cellsOf e = i.size := by simp [Program.cellsOf, hi]
    have hby : P.bytesOf e = i.bytes := by simp [Program.bytesOf, hi]
    rw [hsz] at h2 h
    rw [hby] at h
    have hrow := row_ok (P := P) hs hy h
    clear h
    obtain ⟨m, news, vals, ⟨hone, h⟩, hl, hln, hlen, hfc⟩ := hrow
    have hvl := hl.len
    -- a new row
    have grow : ∀ (n cap : Nat) (base : Option Addr) (oldV : List V) (olds : List Value), va = .slice base n cap → cap < n + m → n + m ≤ maxLen → (n + m) * i.bytes ≤ 140737488355328 → (zeroV P e).map List.length = some i.size →
        LR I oldV olds → olds.length = n * i.size → (Builtin.firstCells i.size n (.slice base n cap)).run P w.drew = .ok olds.toArray w.drew →
        (∀ b' cap', σ b' = none → n + m ≤ cap' → cap' ≤ maxLen → K (.sl b' 0 (n + m) cap') (σ.set b' (.cells (oldV ++ news ++ List.replicate ((cap' - (n + m)) * i.size) .top)))) →
        Upon P I w K KP ((do pure (.value (← Builtin.append_ #[t, u] ty #[va, vy])) : Sem Next).run P w) := by
      intro n cap base oldV olds hva hc hm hbb hzs hol hon hfo hK
      subst hva
      have hz : ∃ z, i.zero = some z ∧ z.cells.size = i.size := by
        unfold zeroV at hzs
        simp only [hi, Option.bind_some, Option.map_map, Option.map_eq_some_iff] at hzs
        obtain ⟨z, hz, hq⟩ := hzs; exact ⟨z, hz, by simpa using hq⟩
      obtain ⟨z, hz, hzn⟩ := hz
      have hrun := grow_run (P := P) (w := w) (ty := ty) hu hd hnd' hi hz hc hm hbb hlen hfo (hfc w.drew (fun b _ => rfl))
      simp only [Sem.run_bind, hrun, Result.andThen_ok, Sem.run_pure]
      have hge := grownCap_ge w (n + m) cap e
      have hle := grownCap_le_maxLen w (n + m) cap e hm
      have hkeep : ∀ b, b < w.heap.size → (w.drew.alloc (.cells (olds.toArray ++ vals.toArray ++ Builtin.zeroCells z.cells (grownCap w (n + m) cap e - (n + m))) e)).heap[b]? = w.heap[b]? := fun b hb => Below.heap_alloc w.drew _ b hb
      refine ⟨((Bel.refl w).drew).alloc _ _, I, _, _, Imm.le_refl I, ?_, .sl _ _ _ _, hK w.heap.size _ hs.fresh_own hge hle⟩
      refine hs.alloc hkeep (heap_alloc_new w.drew _) ⟨fun j _ => by simp, ?_⟩
      have := (hol.append hl).spare (Builtin.zeroCells z.cells (grownCap w (n + m) cap e - (n + m))).toList ((grownCap w (n + m) cap e - (n + m)) * i.size) (by simp [Builtin.zeroCells, hzn])
      simpa using this
    split at h
    · rename_i b off n cap
      cases hx
      split at h
      · rename_i cs hb
        obtain ⟨q1, q2, q3, q4, q5⟩ := h
        obtain ⟨vs, hvs, hc⟩ := cellsB hs hb
        have hvsl := hvs.len
        have hmulle : n * i.size ≤ cap * i.size := Nat.mul_le_mul_right _ q2
        by_cases hroom : n + m ≤ cap
        · have hmul : (n + m) * i.size ≤ cap * i.size := Nat.mul_le_mul_right _ hroom
          rw [Nat.add_mul] at hmul
          obtain ⟨w', hst, hstr, hbel⟩ := run_storeCells_own (P := P) (I := I) (b := b) news vals (off + n * i.size) 0 cs σ w hs hb hl hone (by rw [hln]; omega)
          have hrun := room_run (P := P) (w := w) (ty := ty) hu hd hnd' hi hroom hlen (hfc w (fun _ _ => rfl)) hst
          simp only [Sem.run_bind, hrun, Result.andThen_ok, Sem.run_pure]
          exact ⟨hbel, I, _, _, Imm.le_refl I, by simpa using hstr, .sl _ _ _ _, q4 hroom⟩
        · have q := q5 (by omega)
          obtain ⟨p1, p2, p3, p4⟩ := q
          refine grow n cap _ _ ((vs.drop off).take (n * i.size)) rfl (by omega) p1 p2 p3 ((hvs.drop off).take _) (by simp; omega) ?_ p4
          have hn : ((vs.drop off).take (n * i.size)).length = n * i.size := by simp; omega
          have hrun := run_loadCells_list (P := P) w.drew ⟨b, off, none⟩ ((vs.drop off).take (n * i.size)) (fun j v hv => by
            rw [Addr.add_lit]
            rw [List.getElem?_take] at hv
            split at hv
            · rw [List.getElem?_drop] at hv; exact hc _ v hv
            · cases hv)
          rw [hn] at hrun
          exact hrun
      · exact h.elim
    · cases hx
      by_cases hm0 : m = 0
      · subst hm0
        have hv0 : vals = [] := List.eq_nil_of_length_eq_zero (by rw [← hvl, hln]; simp)
        have hrun := stay_run (P := P) (w := w) (ty := ty) hu hd hnd' hi (a := none) (n := 0) (cap := 0) (Nat.le_refl _) hlen (hfc w (fun _ _ => rfl)) hv0
        exact Upon.valRun hs hrun (.val _) (h.1 rfl)
      · obtain ⟨p1, p2, p3, p4⟩ := h.2 (by omega)
        refine grow 0 0 none [] [] rfl (by omega) (by omega) (by rw [Nat.zero_add]; exact p2) p3 (LR.nil I) (by simp) rfl (fun b' cap' a b c => ?_)
        have := p4 b' cap' a (by omega) c
        simpa using this
    · rename_i k xs
      obtain ⟨rfl, h⟩ := h
      have hv0 : vals = [] := List.eq_nil_of_length_eq_zero (by rw [← hvl, hln]; simp)
      have : ∃ a c, va = .slice a xs.length c ∧ xs.length ≤ c := by cases hx <;> first | exact ⟨_, _, rfl, by assumption⟩ | exact ⟨_, _, rfl, Nat.le_refl _⟩
      obtain ⟨a, c, rfl, hc⟩ := this
      exact Upon.valRun hs (stay_run (P := P) (w := w) (ty := ty) hu hd hnd' hi hc hlen (hfc w (fun _ _ => rfl)) hv0) hx h
    · exact h.elim
  · exact h.elim

end
end Go.Proofs.Ytaldikplfcoahaa
