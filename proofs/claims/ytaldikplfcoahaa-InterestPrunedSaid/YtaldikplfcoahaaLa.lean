/- Own framework: from a call's contract to a law's row. -/
import Derived.Test.YtaldikplfcoahaaHp
import Derived.Carry
namespace Go.Proofs.Ytaldikplfcoahaa
set_option linter.unusedSimpArgs false
set_option linter.unusedVariables false
open Go.ChangeShapes Go.WideShapes Go.ChangeAt Go.RowKit

def HeapI (W : World) : Imm := fun b => W.heap[b]?
theorem HeapI.st (W : World) : StR (fun _ => none) (HeapI W) W := ⟨fun _ _ h => h, fun _ _ h => (by cases h), fun _ _ h => (by cases h)⟩

theorem trodAll_stays {H : Type} {enc : TypeId × Value → H} {P : Program} (hl : laidOutB P = true) {W W' : World} (hb : Below W.heap.size W W') {sp : Nat → Bool} :
    ∀ {ts : List TypeId} {vs : List Value} {ds : List (DataW H)} {ps : List MemPlace}, ts.all (fun t => P.readableRec t && decide (t < P.types.size)) = true → DataW.TrodAll enc P W 0 (fun _ => true) true ts vs ds ps → (∀ p ∈ ps, sp p.block = true) →
      DataW.TrodAll enc P W' 0 sp true ts vs ds ps
  | [], [], [], _, _, h, _ => h
  | t :: ts, v :: vs, d :: ds, ps, hr, h, hsp => by
    have hlt := h.lt
    obtain ⟨p, q, h1, h2, rfl⟩ := h
    rw [List.all_cons, Bool.and_eq_true, Bool.and_eq_true, decide_eq_true_eq] at hr
    exact ⟨p, q, WideElems.Trod_stays hl hr.1.1 hr.1.2 h1 (fun x hx => hb.same (hlt x (List.mem_append.2 (.inl hx)))) (fun x hx => hsp x (List.mem_append.2 (.inl hx))),
      trodAll_stays hl hb hr.2 h2 (fun x hx => hsp x (List.mem_append.2 (.inr hx))), rfl⟩
  | [], _ :: _, _, _, _, h, _ => by cases h
  | [], [], _ :: _, _, _, h, _ => by cases h
  | _ :: _, [], _, _, _, h, _ => by cases h
  | _ :: _, _ :: _, [], _, _, h, _ => by cases h

theorem trodAll_len {H : Type} {enc : TypeId × Value → H} {P : Program} {W : World} {b : Nat} {sp : Nat → Bool} {hd : Bool} :
    ∀ {ts : List TypeId} {vs : List Value} {ds : List (DataW H)} {ps : List MemPlace}, DataW.TrodAll enc P W b sp hd ts vs ds ps → ds.length = ts.length
  | [], [], [], _, _ => rfl
  | _ :: _, _ :: _, _ :: _, _, h => by obtain ⟨_, _, _, h2, _⟩ := h; simp [trodAll_len h2]
  | [], _ :: _, _, _, h => by cases h
  | [], [], _ :: _, _, h => by cases h
  | _ :: _, [], _, _, h => by cases h
  | _ :: _, _ :: _, [], _, h => by cases h

/-- A law's row, out of its contract. -/
theorem law_lift {C : Checked} {os : Os} {f : FuncId} {fn : Func} {s : ChangeSpec} {fresh handsOn again : Bool} {H : Type} {enc : TypeId × Value → H} {tb : TypeId}
    (own : ownKnob C.prog.godebug = none) (started : os.Started) (noInit : C.prog.inits.idxOf? f = none) (hfn : C.prog.funcs[f]? = some fn) (hl : laidOutB C.prog = true)
    (witness : ∃ (w : World) (tape : Tape) (i : Input), w.os = os ∧ (w.forCall tape i).Shaped C.prog ∧ i.vars = [] ∧ Input.okWide C.prog (w.forCall tape i) .any w.heap.size f i ∧
      s.pre6 enc C.prog fn [] false (w.forCall tape i).memory i.args ∧ Assume.holds {} C.prog (lone (Frame.enter C.prog f i.args .normal) [] (w.forCall tape i)))
    (hvars : s.vars = []) (hres : fn.resultTypes = #[tb]) (htb : C.prog.underlying tb = some .bool) (hread : fn.params.toList.all (fun t => C.prog.readableRec t && decide (t < C.prog.types.size)) = true)
    (hspec : ∀ ds : List (DataW H), ds.length = fn.params.size → s.fn H ds = { results := [.lit (.bool true)], args := ds })
    (main : ∀ (W : World) (base : Nat) (args : Array Value) (ds : List (DataW H)) (ps : List MemPlace), (∀ (j : Nat) t v, fn.params[j]? = some t → args[j]? = some v → Value.okWide C.prog W .any base t v) →
      DataW.TrodAll enc C.prog W 0 (fun _ => true) true fn.params.toList args.toList ds ps → ∃ xs, LR (HeapI W) xs args.toList ∧ HCalls C.prog f xs (fun _ => none) (fun r _ => r = .ret (.val (.bool true)))) :
    ReturnsInHanded {} C os f .any (s.pre6 enc C.prog fn [] false) (s.post enc C.prog fn false fresh handsOn again) := by
  refine returnsInHanded_of_change (C := C) own started noInit hfn witness ?_
  intro W base args ds gs before hval hW _ _
  have hW' := hW
  obtain ⟨p, q, hA, hV, rfl, hfz, hnd⟩ := hW
  rw [hvars] at hV
  obtain ⟨rfl, rfl⟩ := trodVars_none hV
  obtain ⟨xs, hxs, hc⟩ := main W base args ds p hval hA
  refine (hc (HeapI W) W args (HeapI.st W) hxs).mono fun e W' ⟨hb, I', σ', h1, h2, h3⟩ => ?_
  have hB : Below W.heap.size W W' := ⟨hb.b.os, hb.b.tape, hb.b.output, hb.b.size, fun k hk => by
    have h0 : HeapI W k = some W.heap[k] := by simp [HeapI, hk]
    rw [h2.imm k _ (h1 k _ h0)]; simp [hk]⟩
  have e0 : e = .returned (.bool true) := by
    rcases h3 with ⟨r, v, a, b, c⟩ | ⟨r, v, a, b, c⟩
    · cases c; cases b; exact a
    · cases c
  refine ⟨.bool true, e0, ?_⟩
  have hlen : (ds ++ ([] : List (DataW H))).length = fn.params.size := by rw [List.append_nil, trodAll_len hA]; simp
  have hs := hspec _ hlen
  have hv1 : (Value.bool true).resultList fn.resultTypes.size = [Value.bool true] := by rw [hres]; rfl
  refine post_of_same (pa := p) (pv := []) (by simpa using hW') (fun b sp hd => ?_) (fun sp hsp => ?_) (fun sp _ => ?_) (by simp) (hB.frame _) (fun a => ?_) (fun j t r ht hr => ?_)
  · rw [hs, hv1, hres]; exact trodAll_mk1 (shut_bool htb _)
  · rw [hs]
    show DataW.TrodAll enc C.prog W' 0 sp true _ _ (ds ++ []) p
    rw [List.append_nil]
    exact trodAll_stays hl hB hread hA (fun x hx => hsp x (by simpa using hx))
  · rw [hs, hvars]; exact rfl
  · exact hb.fr a
  · rw [hv1] at hr
    rw [hres] at ht
    cases j with
    | zero =>
      simp at hr ht
      subst hr ht
      exact okWide_bool_mk htb _
    | succ j => simp at hr
end Go.Proofs.Ytaldikplfcoahaa
