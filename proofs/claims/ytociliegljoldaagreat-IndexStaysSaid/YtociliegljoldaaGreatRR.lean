import Derived.Test.YtociliegljoldaaGreatHC
import Derived.Carry
import Derived.OpenShut
import Derived.Test.YtociliegljoldaaGreatTC
/- Own framework: from a call's contract to a law's row. -/
namespace Go.Proofs.YtociliegljoldaaGreat
set_option linter.unusedSimpArgs false
set_option linter.unusedVariables false
open Go.ChangeShapes Go.WideShapes Go.ChangeAt Go.RowKit

def HeapI (W : World) : Imm := fun b => W.heap[b]?
theorem HeapI.st (W : World) : StR (fun _ => none) (HeapI W) W := ⟨fun _ _ h => h, fun _ _ h => (by cases h), fun _ _ h => (by cases h)⟩

theorem trodAll_stays {H : Type} {enc : TypeId × Value → H} {P : Program} (hl : laidOutB P = true) {W W' : World} (hb : Below W.heap.size W W') {sp : Nat → Bool} :
    ∀ {ts : List TypeId} {vs : List Value} {ds : List (DataW H)} {ps : List MemPlace}, ts.all (fun t => P.readableRec t && decide (t < P.types.size)) = true → DataW.TrodAll enc P W 0 (fun _ => true) true ts vs ds ps → (∀ p ∈ ps, sp p.block = true) →
      DataW.TrodAll enc P W' 0 sp true ts vs ds ps
  | [], [], [], _, _, h, _ => h
  | t :: ts, v :: vs, d :: ds, ps, hr, h, hsp => by
    have hlt := h.lt
    obtain ⟨p, q, h1, h2, rfl⟩ := h
    rw [List.all_cons, Bool.and_eq_true, Bool.and_eq_true, decide_eq_true_eq] at hr
    exact ⟨p, q, WideElems.Trod_stays hl hr.1.1 hr.1.2 h1 (fun x hx => hb.same (hlt x (List.mem_append.2 (.inl hx)))) (fun x hx => hsp x (List.mem_append.2 (.inl hx))),
      trodAll_stays hl hb hr.2 h2 (fun x hx => hsp x (List.mem_append.2 (.inr hx))), rfl⟩
  | [], _ :: _, _, _, _, h, _ => by cases h
  | [], [], _ :: _, _, _, h, _ => by cases h
  | _ :: _, [], _, _, _, h, _ => by cases h
  | _ :: _, _ :: _, [], _, _, h, _ => by cases h

theorem trodAll_len {H : Type} {enc : TypeId × Value → H} {P : Program} {W : World} {b : Nat} {sp : Nat → Bool} {hd : Bool} :
    ∀ {ts : List TypeId} {vs : List Value} {ds : List (DataW H)} {ps : List MemPlace}, DataW.TrodAll enc P W b sp hd ts vs ds ps → ds.length = ts.length
  | [], [], [], _, _ => rfl
  | _ :: _, _ :: _, _ :: _, _, h => by obtain ⟨_, _, _, h2, _⟩ := h; simp [trodAll_len h2]
  | [], _ :: _, _, _, h => by cases h
  | [], [], _ :: _, _, h => by cases h
  | _ :: _, [], _, _, h => by cases h
  | _ :: _, _ :: _, [], _, h => by cases h

/-- What a law's row asks behind the call, where old memory alone is held to be as it was. -/
theorem law_post {H : Type} {enc : TypeId × Value → H} {P : Program} {f : Func} {s : ChangeSpec} {apart fresh handsOn again : Bool} {W W' : World} {args : Array Value} {v : Value} {ds gs : List (DataW H)} {before : List MemPlace}
    (hW : DataW.Whole enc P f.params.toList s.vars apart W args.toList ds gs before)
    (h1 : ∀ (b : Nat) (sp : Nat → Bool) (hd : Bool), DataW.TrodAll enc P W' b sp hd f.resultTypes.toList (v.resultList f.resultTypes.size) (s.fn H (ds ++ gs)).results [])
    (h2 : ∀ sp : Nat → Bool, (∀ p ∈ before, sp p.block = true) → DataW.TrodAll enc P W' 0 sp true f.params.toList args.toList (s.fn H (ds ++ gs)).args before)
    (h3 : ∀ sp : Nat → Bool, DataW.TrodVars enc P W' sp s.vars (s.fn H (ds ++ gs)).vars [])
    (hB : Below W.heap.size W W') (hfz : ∀ a : Addr, a.block < W.heap.size → W'.frozen? a = W.frozen? a)
    (hok : ∀ (j : Nat) (t : TypeId) (r : Value), f.resultTypes[j]? = some t → (v.resultList f.resultTypes.size)[j]? = some r → Value.okWide P W' .any 0 t r) :
    s.post enc P f apart fresh handsOn again W args v W' := by
  have hlt := hW.lt
  refine ⟨ds, gs, before, [], before, [], hW, h1 _ _ _, h2 _ (fun p hp => by simpa using hlt p hp), h3 _, World.keptBut_mono (fun p hp => ⟨hp, .inr (.inl hp)⟩) (hB.frame (· ∈ before)), fun _ => ?_⟩
  obtain ⟨_, _, _, _, _, hz, hn⟩ := hW
  refine ⟨hok, _, _, before, ⟨before, [], by simpa using trodAll_append (h2 _ (fun _ _ => rfl)) (h1 _ _ _), h3 _, by simp, fun b off hp => ?_, hn⟩, fun p hp _ => hp⟩
  rw [hfz ⟨b, off, none⟩ (hlt _ hp)]
  exact hz b off hp

/-- A law's row, out of its contract. -/
theorem law_lift {C : Checked} {os : Os} {f : FuncId} {fn : Func} {s : ChangeSpec} {fresh handsOn again : Bool} {H : Type} {enc : TypeId × Value → H} {tb : TypeId}
    (own : ownKnob C.prog.godebug = none) (started : os.Started) (noInit : C.prog.inits.idxOf? f = none) (hfn : C.prog.funcs[f]? = some fn) (hl : laidOutB C.prog = true)
    (witness : ∃ (w : World) (tape : Tape) (i : Input), w.os = os ∧ (w.forCall tape i).Shaped C.prog ∧ i.vars = [] ∧ Input.okWide C.prog (w.forCall tape i) .any w.heap.size f i ∧
      s.pre6 enc C.prog fn [] false (w.forCall tape i).memory i.args ∧ Assume.holds {} C.prog (lone (Frame.enter C.prog f i.args .normal) [] (w.forCall tape i)))
    (hvars : s.vars = []) (hres : fn.resultTypes = #[tb]) (htb : C.prog.underlying tb = some .bool) (hread : fn.params.toList.all (fun t => C.prog.readableRec t && decide (t < C.prog.types.size)) = true)
    (hspec : ∀ ds : List (DataW H), ds.length = fn.params.size → s.fn H ds = { results := [.lit (.bool true)], args := ds })
    (main : ∀ (W : World) (base : Nat) (args : Array Value) (ds : List (DataW H)) (ps : List MemPlace), (∀ (j : Nat) t v, fn.params[j]? = some t → args[j]? = some v → Value.okWide C.prog W .any base t v) →
      DataW.TrodAll enc C.prog W 0 (fun _ => true) true fn.params.toList args.toList ds ps → ∃ xs, LR (HeapI W) xs args.toList ∧ HCalls C.prog f xs (fun _ => none) (fun r _ => r = .ret (.val (.bool true)))) :
    ReturnsInHanded {} C os f .any (s.pre6 enc C.prog fn [] false) (s.post enc C.prog fn false fresh handsOn again) := by
  refine returnsInHanded_of_change (C := C) own started noInit hfn witness ?_
  intro W base args ds gs before hval hW _ _
  have hW' := hW
  obtain ⟨p, q, hA, hV, rfl, hfz, hnd⟩ := hW
  rw [hvars] at hV
  obtain ⟨rfl, rfl⟩ := trodVars_none hV
  obtain ⟨xs, hxs, hc⟩ := main W base args ds p hval hA
  refine (hc (HeapI W) W args (HeapI.st W) hxs).mono fun e W' ⟨hb, I', σ', h1, h2, h3⟩ => ?_
  have hB : Below W.heap.size W W' := ⟨hb.b.os, hb.b.tape, hb.b.output, hb.b.size, fun k hk => by
    have h0 : HeapI W k = some W.heap[k] := by simp [HeapI, hk]
    rw [h2.imm k _ (h1 k _ h0)]; simp [hk]⟩
  have e0 : e = .returned (.bool true) := by
    rcases h3 with ⟨r, v, a, b, c⟩ | ⟨r, v, a, b, c⟩
    · cases c; cases b; exact a
    · cases c
  refine ⟨.bool true, e0, ?_⟩
  have hlen : (ds ++ ([] : List (DataW H))).length = fn.params.size := by rw [List.append_nil, trodAll_len hA]; simp
  have hs := hspec _ hlen
  have hv1 : (Value.bool true).resultList fn.resultTypes.size = [Value.bool true] := by rw [hres]; rfl
  refine law_post (before := p) (by simpa using hW') (fun b sp hd => ?_) (fun sp hsp => ?_) (fun sp => ?_) hB (fun a ha => hb.fr a ha) (fun j t r ht hr => ?_)
  · rw [hs, hv1, hres]; exact trodAll_mk1 (shut_bool htb _)
  · rw [hs]
    show DataW.TrodAll enc C.prog W' 0 sp true _ _ (ds ++ []) p
    rw [List.append_nil]
    exact trodAll_stays hl hB hread hA hsp
  · rw [hs, hvars]; exact rfl
  · rw [hv1] at hr
    rw [hres] at ht
    cases j with
    | zero =>
      simp at hr ht
      subst hr ht
      exact okWide_bool_mk htb _
    | succ j => simp at hr
end Go.Proofs.YtociliegljoldaaGreat

/- Own framework: arguments as they are read. -/
namespace Go.Proofs.YtociliegljoldaaGreat
set_option linter.unusedSimpArgs false
set_option linter.unusedVariables false
open Go.ChangeShapes Go.WideShapes Go.ChangeAt Go.RowKit

section
variable {H : Type} {enc : TypeId × Value → H} {P : Program} {W : World}

/-- These cells read as something of type t. -/
def Rd (enc : TypeId × Value → H) (P : Program) (W : World) (t : TypeId) (cs : List Value) : Prop := ∃ fuel x, DataW.trod enc P W 0 (fun _ => true) true fuel t cs = some x

theorem wf_range {k : IntKind} {n : Int} (h : (Lit.int k n).wf = true) : k.min ≤ n ∧ n ≤ k.max := by simpa [Lit.wf] using h
theorem rd_int {t : TypeId} {k : IntKind} {cs : List Value} (ht : P.underlying t = some (.int k)) (h : Rd enc P W t cs) : ∃ n, cs = [.int k n] ∧ k.min ≤ n ∧ n ≤ k.max := by
  obtain ⟨fuel, x, h⟩ := h
  obtain ⟨n, h1, _, h3⟩ := DataW.trod_int ht h
  exact ⟨n, h1, wf_range h3⟩
theorem rd_bool {t : TypeId} {cs : List Value} (ht : P.underlying t = some .bool) (h : Rd enc P W t cs) : ∃ b, cs = [.bool b] := by
  obtain ⟨fuel, x, h⟩ := h
  obtain ⟨n, h1, _⟩ := DataW.trod_bool ht h
  exact ⟨n, h1⟩
theorem rd_string {t : TypeId} {cs : List Value} (ht : P.underlying t = some .string) (h : Rd enc P W t cs) : ∃ s : ByteArray, cs = [.string s] ∧ s.size ≤ maxLen := by
  obtain ⟨fuel, x, h⟩ := h
  obtain ⟨n, h1, _, h3⟩ := DataW.trod_string ht h
  exact ⟨n, h1, h3⟩
theorem rd_struct {t : TypeId} {fs : Array Field} {cs : List Value} (ht : P.underlying t = some (.struct fs)) (h : Rd enc P W t cs) :
    cs.length = P.cellsOf t ∧ ∀ (i : Nat) (f : Field), fs[i]? = some f → Rd enc P W f.type ((cs.drop f.offset).take (P.cellsOf f.type)) := by
  obtain ⟨fuel, x, h⟩ := h
  obtain ⟨xs, n, _, _, h3, h4, h5⟩ := DataW.trod_struct ht h
  refine ⟨h3, fun i f hf => ⟨n, (xs.getD i (.nil, [])), ?_⟩⟩
  have hi := (Array.getElem?_eq_some_iff.1 hf).1
  rw [h5 i f hf, List.getElem?_eq_getElem (by omega)]
  simp [show i < xs.length by omega]
theorem rd_array {t : TypeId} {m : Nat} {e : TypeId} {cs : List Value} (ht : P.underlying t = some (.array m e)) (h : Rd enc P W t cs) :
    cs.length = P.cellsOf t ∧ ∀ (i : Nat), i < m → Rd enc P W e ((cs.drop (i * P.cellsOf e)).take (P.cellsOf e)) := by
  obtain ⟨fuel, x, h⟩ := h
  obtain ⟨xs, n, _, _, h3, h4, h5⟩ := DataW.trod_array ht h
  refine ⟨h3, fun i hi => ⟨n, (xs.getD i (.nil, [])), ?_⟩⟩
  rw [h5 i hi, List.getElem?_eq_getElem (by omega)]
  simp [show i < xs.length by omega]
/-- A choice for each number below one. -/
theorem choose_lt {α : Type} {m : Nat} {p : Nat → α → Prop} (h : ∀ i, i < m → ∃ a, p i a) : ∃ l : List α, l.length = m ∧ ∀ i (hi : i < l.length), p i l[i] := by
  induction m with
  | zero => exact ⟨[], rfl, fun i hi => by simp at hi⟩
  | succ m ih =>
    obtain ⟨l, h1, h2⟩ := ih fun i hi => h i (by omega)
    obtain ⟨a, ha⟩ := h m (by omega)
    refine ⟨l ++ [a], by simp [h1], fun i hi => ?_⟩
    by_cases hm : i < l.length
    · rw [List.getElem_append_left hm]; exact h2 i hm
    · obtain rfl : i = l.length := by simp at hi; omega
      rw [List.getElem_append_right (by omega)]; simpa [h1] using ha
/-- A slice, its elements told. -/
theorem rd_slice {α : Type} {t e : TypeId} {k : Nat} {cs : List Value} (g : α → V) (Q : α → Prop) (ht : P.underlying t = some (.slice e)) (hk : P.cellsOf e = k) (h : Rd enc P W t cs) (hg : ∀ a, Q a → (g a).cells.length = k) (hk0 : 0 < k)
    (hel : ∀ cs', Rd enc P W e cs' → ∃ a, Q a ∧ LR (HeapI W) (g a).cells cs') :
    ∃ (l : List α) (v : Value), cs = [v] ∧ (∀ a ∈ l, Q a) ∧ l.length ≤ maxLen ∧ VR (HeapI W) (.lst k (l.map g)) v := by
  obtain ⟨fuel, x, h⟩ := h
  rcases DataW.trod_slice ht h with ⟨h0, _⟩ | ⟨a, len, cap, elems, rest, n, _, rfl, _, hb, hl, hm, hlen, he1, he2, _⟩
  · exact ⟨[], _, h0, by simp, by simp, .lnil k⟩
  · obtain ⟨hr1, hr2⟩ := he2 rfl
    have hall : ∀ i, i < cap → ∃ y, (W.cells? 0 (a.add (i * P.cellsOf e)) (P.cellsOf e)).bind (DataW.trod enc P W 0 (fun _ => true) true n e) = some y := fun i hi => by
      by_cases q : i < len
      · exact ⟨elems[i], by rw [he1 i q]; simp [hlen, q]⟩
      · have := hr2 (i - len) (by omega)
        rw [show len + (i - len) = i by omega] at this
        exact ⟨rest[i - len], by rw [this]; simp [hr1, show i - len < cap - len by omega]⟩
    by_cases hc0 : cap = 0
    · subst hc0
      obtain rfl : len = 0 := by omega
      exact ⟨[], _, rfl, by simp, by simp, .lst0 k a⟩
    · have hcell : ∀ i, i < cap → ∃ cs', W.cells? 0 (a.add (i * k)) k = some cs' ∧ Rd enc P W e cs' := fun i hi => by
        obtain ⟨y, hy⟩ := hall i hi
        rw [hk, Option.bind_eq_some_iff] at hy
        obtain ⟨cs', h1, h2⟩ := hy
        exact ⟨cs', h1, n, y, h2⟩
      -- the block
      obtain ⟨cs0, q0, _⟩ := hcell 0 (by omega)
      obtain ⟨_, q1, q2⟩ := World.cells?_some q0
      have q3 := q2 0 hk0
      have hq : ∃ arr el fr, W.heap[a.block]? = some (.cells arr el fr) ∧ a.spot = none := by
        rw [Nat.zero_mul] at q3
        have e0 : (a.add 0).add 0 = a := by simp [Addr.add]
        rw [e0, List.getElem?_eq_getElem (by omega)] at q3
        unfold World.cell? at q3
        cases hh : W.heap[a.block]? with
        | none => rw [hh] at q3; cases q3
        | some o =>
          rw [hh] at q3
          cases o with
          | cells arr el fr =>
            refine ⟨arr, el, fr, rfl, ?_⟩
            simp only at q3
            split at q3
            · cases q3
            · rename_i hs; cases hsp : a.spot with | none => rfl | some z => rw [hsp] at hs; simp at hs
          | _ => cases q3
      obtain ⟨arr, el, fr, hh, hsp⟩ := hq
      obtain ⟨b, off, spot⟩ := a
      simp only at hsp hh
      subst hsp
      have hat : ∀ i j, i < cap → j < k → ∃ cs', W.cells? 0 (Addr.add ⟨b, off, none⟩ (i * k)) k = some cs' ∧ arr[off + i * k + j]? = cs'[j]? ∧ j < cs'.length := fun i j hi hj => by
        obtain ⟨cs', h1, _⟩ := hcell i hi
        obtain ⟨_, z1, z2⟩ := World.cells?_some h1
        refine ⟨cs', h1, ?_, by omega⟩
        rw [← z2 j hj, Addr.add_lit, Addr.add_lit]
        simp [World.cell?, hh]
      obtain ⟨l, l1, l2⟩ := choose_lt (m := len) (p := fun i a => ∃ cs', W.cells? 0 (Addr.add ⟨b, off, none⟩ (i * k)) k = some cs' ∧ Q a ∧ LR (HeapI W) (g a).cells cs') (fun i hi => by
        obtain ⟨cs', h1, h2⟩ := hcell i (by omega)
        obtain ⟨a, ha⟩ := hel cs' h2
        exact ⟨a, cs', h1, ha⟩)
      have hsz : off + len * k ≤ arr.size := by
        by_cases hl0 : len = 0
        · rw [hl0]
          obtain ⟨cs', _, z, zl⟩ := hat 0 0 (by omega) hk0
          rw [List.getElem?_eq_getElem zl] at z
          have := (Array.getElem?_eq_some_iff.1 z).1; omega
        · obtain ⟨cs', _, z, zl⟩ := hat (len - 1) (k - 1) (by omega) (by omega)
          rw [List.getElem?_eq_getElem zl] at z
          have := (Array.getElem?_eq_some_iff.1 z).1
          have e : len * k = (len - 1) * k + k := by rw [← Nat.succ_mul]; congr 1; omega
          omega
      have hQ : ∀ a ∈ l, Q a := fun a ha => by
        obtain ⟨i, hi, rfl⟩ := List.mem_iff_getElem.1 ha
        exact (l2 i hi).choose_spec.2.1
      refine ⟨l, _, rfl, hQ, by omega, ?_⟩
      · have hv := VR.lst (I := HeapI W) k (l.map g) b off cap arr el fr hh (by simp; omega) hm (by rw [List.length_map, l1]; exact hsz) (fun x hx => by obtain ⟨a, ha, rfl⟩ := List.mem_map.1 hx; exact hg a (hQ a ha)) (fun i j x c v hx hc hv => by
          rw [List.getElem?_map, Option.map_eq_some_iff] at hx
          obtain ⟨y, hy, rfl⟩ := hx
          obtain ⟨hi, rfl⟩ := List.getElem?_eq_some_iff.1 hy
          obtain ⟨cs', h1, _, h3⟩ := l2 i hi
          have hj : j < k := by rw [← hg l[i] (hQ _ (List.getElem_mem hi))]; exact (List.getElem?_eq_some_iff.1 hc).1
          obtain ⟨cs2, z1, z2, _⟩ := hat i j (by omega) hj
          rw [h1] at z1; cases z1
          exact h3.at_ j c v hc (by rw [← z2]; exact hv))
        rw [List.length_map, l1] at hv
        exact hv
end
end Go.Proofs.YtociliegljoldaaGreat

/- Own framework: a law's arguments. -/
namespace Go.Proofs.YtociliegljoldaaGreat
set_option linter.unusedSimpArgs false
set_option linter.unusedVariables false
open Go.ChangeShapes Go.WideShapes Go.ChangeAt Go.RowKit

section
variable {H : Type} {enc : TypeId × Value → H} {P : Program} {W : World} {base : Nat} {v : Value} {d : DataW H} {ps : List MemPlace} {t : TypeId}

theorem arg_int {k : IntKind} (ht : P.underlying t = some (.int k)) (hval : Value.okWide P W .any base t v) (h : DataW.Trod enc P W 0 (fun _ => true) true t v d ps) : ∃ n, v = .int k n ∧ k.min ≤ n ∧ n ≤ k.max := by
  obtain ⟨n, h1, _, _, h4⟩ := open_int ht hval h
  exact ⟨n, h1, wf_range h4⟩
theorem arg_bool (ht : P.underlying t = some .bool) (hval : Value.okWide P W .any base t v) (h : DataW.Trod enc P W 0 (fun _ => true) true t v d ps) : ∃ b, v = .bool b := by
  obtain ⟨n, h1, _⟩ := open_bool ht hval h
  exact ⟨n, h1⟩
theorem arg_agg (ht : (∃ fs, P.underlying t = some (.struct fs)) ∨ ∃ n e, P.underlying t = some (.array n e)) (hval : Value.okWide P W .any base t v) (h : DataW.Trod enc P W 0 (fun _ => true) true t v d ps) : ∃ vs, v = .agg vs ∧ Rd enc P W t vs.toList := by
  obtain ⟨fuel, h⟩ := h
  have hv : ∃ vs, v = .agg vs := by
    unfold Value.okWide at hval
    rcases ht with ⟨fs, ht⟩ | ⟨n, e, ht⟩ <;> rw [ht] at hval <;> exact ⟨_, hval.choose_spec.1⟩
  obtain ⟨vs, rfl⟩ := hv
  exact ⟨vs, rfl, fuel, _, h⟩
/-- One cell, no bundle. -/
theorem arg_one (ht : ∀ cs, ¬ Value.okWide P W .any base t (.agg cs)) (hval : Value.okWide P W .any base t v) (h : DataW.Trod enc P W 0 (fun _ => true) true t v d ps) : v.cells = #[v] ∧ Rd enc P W t [v] := by
  have e : v.cells = #[v] := Value.cells_of_ne_agg fun cs q => ht cs (q ▸ hval)
  obtain ⟨fuel, h⟩ := h
  rw [e] at h
  exact ⟨e, fuel, _, h⟩
end

theorem lr_ints {I : Imm} {k : IntKind} (l : List Int) : LR I (l.map fun n => V.val (.int k n)) (l.map fun n => Value.int k n) := LR.map (fun n => VR.val _) l
section
variable {H : Type} {enc : TypeId × Value → H} {P : Program} {W : World}
theorem rd_ints {t e : TypeId} {m : Nat} {k : IntKind} {cs : List Value} (ht : P.underlying t = some (.array m e)) (he : P.underlying e = some (.int k)) (hc : P.cellsOf e = 1) (hn : P.cellsOf t = m) (h : Rd enc P W t cs) :
    ∃ l : List Int, l.length = m ∧ cs = l.map (fun n => Value.int k n) ∧ ∀ n ∈ l, k.min ≤ n ∧ n ≤ k.max := by
  obtain ⟨h1, h2⟩ := rd_array ht h
  rw [hn] at h1
  obtain ⟨l, l1, l2⟩ := choose_lt (m := m) (p := fun i n => cs[i]? = some (Value.int k n) ∧ k.min ≤ n ∧ n ≤ k.max) (fun i hi => by
    have := h2 i hi
    rw [hc, Nat.mul_one] at this
    obtain ⟨n, e1, e2⟩ := rd_int he this
    have e3 : (List.take 1 (List.drop i cs))[0]? = some (Value.int k n) := by rw [e1]; rfl
    rw [List.getElem?_take, if_pos (by omega), List.getElem?_drop] at e3
    exact ⟨n, e3, e2⟩)
  refine ⟨l, l1, List.ext_getElem? fun i => ?_, fun n hn => ?_⟩
  · by_cases hi : i < m
    · rw [(l2 i (by omega)).1]; simp [show i < l.length by omega]
    · rw [List.getElem?_eq_none (by omega), List.getElem?_eq_none (by simp; omega)]
  · obtain ⟨i, hi, rfl⟩ := List.mem_iff_getElem.1 hn
    exact (l2 i hi).2
end
end Go.Proofs.YtociliegljoldaaGreat

/- Trees that come in. -/
namespace Go.Proofs.YtociliegljoldaaGreat
set_option linter.unusedSimpArgs false
set_option linter.unusedVariables false
open Go.ChangeShapes Go.WideShapes Go.ChangeAt Go.RowKit

variable {H : Type} {enc : TypeId × Value → H} {W : World}
/-- A slice's argument. -/
theorem arg_slice {P : Program} {α : Type} {t e : TypeId} {k base : Nat} {v : Value} {d : DataW H} {ps : List MemPlace} (g : α → V) (Q : α → Prop) (ht : P.underlying t = some (.slice e)) (hk : P.cellsOf e = k) (hg : ∀ a, Q a → (g a).cells.length = k) (hk0 : 0 < k)
    (hel : ∀ cs', Rd enc P W e cs' → ∃ a, Q a ∧ LR (HeapI W) (g a).cells cs') (hval : Value.okWide P W .any base t v) (h : DataW.Trod enc P W 0 (fun _ => true) true t v d ps) :
    ∃ l : List α, ((∀ a ∈ l, Q a) ∧ l.length ≤ maxLen) ∧ VR (HeapI W) (.lst k (l.map g)) v := by
  obtain ⟨a0, len, cap, rfl⟩ := okWide_slice ht hval
  obtain ⟨fuel, h⟩ := h
  obtain ⟨l, v, h1, h2, h3, h4⟩ := rd_slice g Q ht hk ⟨fuel, _, h⟩ hg hk0 hel
  have : v = .slice a0 len cap := by
    have e : (Value.slice a0 len cap).cells.toList = [.slice a0 len cap] := rfl
    rw [e] at h1; cases h1; rfl
  subst this
  exact ⟨l, ⟨h2, h3⟩, h4⟩
theorem rd_byte {P : Program} {t : TypeId} {cs : List Value} (ht : P.underlying t = some (.int .u8)) (h : Rd enc P W t cs) : ∃ b : UInt8, True ∧ LR (HeapI W) (byteV b).cells cs := by
  obtain ⟨n, rfl, h1, h2⟩ := rd_int ht h
  have e1 : IntKind.u8.min = 0 := rfl
  have e2 : IntKind.u8.max = 255 := rfl
  refine ⟨UInt8.ofNat n.toNat, trivial, LR.cons ?_ (LR.nil _)⟩
  have : byteV (UInt8.ofNat n.toNat) = .val (.int .u8 n) := by
    unfold byteV
    rw [UInt8.toNat_ofNat']
    congr 2
    rw [e1] at h1; rw [e2] at h2
    omega
  show VR (HeapI W) (byteV _) _
  rw [this]
  exact .val _
set_option maxRecDepth 100000 in
theorem arg_bytes {base : Nat} {v : Value} {d : DataW H} {ps : List MemPlace} (hval : Value.okWide Tryz.prog W .any base 98 v) (h : DataW.Trod enc Tryz.prog W 0 (fun _ => true) true 98 v d ps) :
    ∃ l : List UInt8, ((∀ a ∈ l, True) ∧ l.length ≤ maxLen) ∧ VR (HeapI W) (.lst 1 (l.map byteV)) v :=
  arg_slice byteV (fun _ => True) Tryz.underlying98 ce5 (fun _ _ => rfl) (by decide) (fun cs' h' => rd_byte Tryz.underlying5 h') hval h
end Go.Proofs.YtociliegljoldaaGreat

