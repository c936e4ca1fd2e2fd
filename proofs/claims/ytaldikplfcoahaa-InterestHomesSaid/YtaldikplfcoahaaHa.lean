/- Own framework, part a: abstract values, the relation to the model's values, owned memory, calls and code over them. -/
import Derived.ProofKit
namespace Go.Proofs.Ytaldikplfcoahaa
set_option linter.unusedSimpArgs false
set_option linter.unusedVariables false
open Go.RowKit

inductive V where
  | val (v : Value)
  | ptr (b off : Nat)
  | sl (b off len cap : Nat)
  | lst (k : Nat) (xs : List V)
  | ro (cs : List V)
  | agg (cs : List V)
  | tup (cs : List V)
  | fn (f : Fn) (first captured : List V)
  | ifc (t : TypeId) (v : V)
  | cnd (b : Bool) (v : V)
  | top

instance : Inhabited V := ⟨.top⟩

def V.cells : V → List V
  | .agg cs => cs
  | .val v => v.cells.toList.map .val
  | x => [x]

/-- May be stored into one cell. -/
def V.one : V → Bool
  | .val (.agg _) | .val (.tuple _) | .agg _ | .tup _ | .cnd _ _ | .top => false
  | _ => true

/-- Not an unknown. -/
def V.plain : V → Bool
  | .cnd _ _ | .top => false
  | _ => true

abbrev Imm := Nat → Option Obj
def Imm.le (I J : Imm) : Prop := ∀ b o, I b = some o → J b = some o
theorem Imm.le_refl (I : Imm) : I.le I := fun _ _ h => h
theorem Imm.le_trans {I J K : Imm} (h : I.le J) (k : J.le K) : I.le K := fun b o e => k b o (h b o e)

inductive VR (I : Imm) : V → Value → Prop where
  | val (v : Value) : VR I (.val v) v
  | ptr (b off : Nat) : VR I (.ptr b off) (.pointer (some ⟨b, off, none⟩))
  | sl (b off len cap : Nat) : VR I (.sl b off len cap) (.slice (some ⟨b, off, none⟩) len cap)
  | lnil (k : Nat) : VR I (.lst k []) (.slice none 0 0)
  | lst0 (k : Nat) (a : Addr) : VR I (.lst k []) (.slice (some a) 0 0)
  | lst (k : Nat) (xs : List V) (b off cap : Nat) (arr : Array Value) (el : TypeId) (fr : Nat × Nat) (h : I b = some (.cells arr el fr)) (hc : xs.length ≤ cap)
      (hm : cap ≤ maxLen) (hb : off + xs.length * k ≤ arr.size) (hk : ∀ x ∈ xs, x.cells.length = k)
      (hx : ∀ (i j : Nat) x c v, xs[i]? = some x → x.cells[j]? = some c → arr[off + i * k + j]? = some v → VR I c v) :
      VR I (.lst k xs) (.slice (some ⟨b, off, none⟩) xs.length cap)
  | ro (cs : List V) (b off : Nat) (arr : Array Value) (el : TypeId) (fr : Nat × Nat) (h : I b = some (.cells arr el fr)) (hb : off + cs.length ≤ arr.size)
      (hx : ∀ (j : Nat) c v, cs[j]? = some c → arr[off + j]? = some v → VR I c v) : VR I (.ro cs) (.pointer (some ⟨b, off, none⟩))
  | agg (cs : List V) (vs : Array Value) (hl : cs.length = vs.size) (hx : ∀ (j : Nat) c v, cs[j]? = some c → vs[j]? = some v → VR I c v) : VR I (.agg cs) (.agg vs)
  | tup (cs : List V) (vs : Array Value) (hl : cs.length = vs.size) (hx : ∀ (j : Nat) c v, cs[j]? = some c → vs[j]? = some v → VR I c v) : VR I (.tup cs) (.tuple vs)
  | fn (f : Fn) (ps qs : List V) (us ws : Array Value) (hl : ps.length = us.size) (hx : ∀ (j : Nat) c v, ps[j]? = some c → us[j]? = some v → VR I c v)
      (kl : qs.length = ws.size) (kx : ∀ (j : Nat) c v, qs[j]? = some c → ws[j]? = some v → VR I c v) : VR I (.fn f ps qs) (.func f us ws)
  | ifc (t : TypeId) (x : V) (v : Value) (h : VR I x v) : VR I (.ifc t x) (.iface t v)
  | cndT (x : V) (v : Value) (h : VR I x v) : VR I (.cnd true x) v
  | cndF (x : V) : VR I (.cnd false x) undef
  | top (v : Value) : VR I .top v

theorem VR.mono {I J : Imm} (hJ : I.le J) {x : V} {v : Value} (h : VR I x v) : VR J x v := by
  induction h with
  | val v => exact .val v
  | ptr b off => exact .ptr b off
  | sl b off len cap => exact .sl b off len cap
  | lnil k => exact .lnil k
  | lst0 k a => exact .lst0 k a
  | lst k xs b off cap arr el fr h hc hm hb hk _ ih => exact .lst k xs b off cap arr el fr (hJ _ _ h) hc hm hb hk ih
  | ro cs b off arr el fr h hb _ ih => exact .ro cs b off arr el fr (hJ _ _ h) hb ih
  | agg cs vs hl _ ih => exact .agg cs vs hl ih
  | tup cs vs hl _ ih => exact .tup cs vs hl ih
  | fn f ps qs us ws hl _ kl _ ih1 ih2 => exact .fn f ps qs us ws hl ih1 kl ih2
  | ifc t x v _ ih => exact .ifc t x v ih
  | cndT x v _ ih => exact .cndT x v ih
  | cndF x => exact .cndF x
  | top v => exact .top v

/-- Pointwise. -/
structure LR (I : Imm) (xs : List V) (vs : List Value) : Prop where
  len : xs.length = vs.length
  at_ : ∀ (j : Nat) x v, xs[j]? = some x → vs[j]? = some v → VR I x v

theorem LR.mono {I J : Imm} (hJ : I.le J) {xs : List V} {vs : List Value} (h : LR I xs vs) : LR J xs vs := ⟨h.len, fun j x v a b => (h.at_ j x v a b).mono hJ⟩
theorem LR.nil (I : Imm) : LR I [] [] := ⟨rfl, fun j x v h => by simp at h⟩
theorem LR.cons {I : Imm} {x : V} {v : Value} {xs : List V} {vs : List Value} (h : VR I x v) (hs : LR I xs vs) : LR I (x :: xs) (v :: vs) :=
  ⟨by simp [hs.len], fun j a b ha hb => by
    cases j with
    | zero => simp at ha hb; subst ha; subst hb; exact h
    | succ j => simp at ha hb; exact hs.at_ j a b ha hb⟩
theorem LR.head {I : Imm} {x : V} {v : Value} {xs : List V} {vs : List Value} (h : LR I (x :: xs) (v :: vs)) : VR I x v := h.at_ 0 x v rfl rfl
theorem LR.tail {I : Imm} {x : V} {v : Value} {xs : List V} {vs : List Value} (h : LR I (x :: xs) (v :: vs)) : LR I xs vs :=
  ⟨by simpa using h.len, fun j a b ha hb => h.at_ (j + 1) a b (by simpa using ha) (by simpa using hb)⟩
theorem LR.set {I : Imm} {xs : List V} {vs : List Value} (h : LR I xs vs) (d : Nat) {x : V} {v : Value} (hv : VR I x v) : LR I (xs.set d x) (vs.set d v) :=
  ⟨by simp [h.len], fun j a b ha hb => by
    rw [List.getElem?_set] at ha hb
    by_cases e : d = j
    · simp only [e, if_true] at ha hb
      have hl := h.len
      by_cases hj : j < xs.length
      · rw [if_pos hj] at ha; rw [if_pos (by omega)] at hb
        simp at ha hb; subst ha; subst hb; exact hv
      · rw [if_neg hj] at ha; cases ha
    · simp only [e, if_false] at ha hb; exact h.at_ j a b ha hb⟩
theorem LR.getD {I : Imm} {xs : List V} {vs : List Value} (h : LR I xs vs) (j : Nat) (u : Value) : VR I (xs.getD j .top) (vs.getD j u) := by
  have hl := h.len
  by_cases hj : j < xs.length
  · exact h.at_ j _ _ (by simp [hj]) (by rw [List.getD_eq_getElem?_getD, List.getElem?_eq_getElem (by omega)]; rfl)
  · rw [List.getD_eq_getElem?_getD, List.getElem?_eq_none (by omega)]; exact .top _
theorem LR.map {I : Imm} {α : Type} {f : α → V} {g : α → Value} (h : ∀ a, VR I (f a) (g a)) (l : List α) : LR I (l.map f) (l.map g) :=
  ⟨by simp, fun j x v hx hv => by
    simp only [List.getElem?_map] at hx hv
    cases e : l[j]? with
    | none => simp [e] at hx
    | some a => simp [e] at hx hv; subst hx; subst hv; exact h a⟩
theorem LR.append {I : Imm} {xs ys : List V} {vs ws : List Value} (h : LR I xs vs) (k : LR I ys ws) : LR I (xs ++ ys) (vs ++ ws) :=
  ⟨by simp [h.len, k.len], fun j x v hx hv => by
    have hl := h.len
    by_cases hj : j < xs.length
    · rw [List.getElem?_append_left hj] at hx; rw [List.getElem?_append_left (by omega)] at hv; exact h.at_ j x v hx hv
    · rw [List.getElem?_append_right (by omega)] at hx; rw [List.getElem?_append_right (by omega)] at hv
      rw [hl] at hx; exact k.at_ _ x v hx hv⟩
theorem LR.take {I : Imm} {xs : List V} {vs : List Value} (h : LR I xs vs) (n : Nat) : LR I (xs.take n) (vs.take n) :=
  ⟨by simp [h.len], fun j x v hx hv => by
    rw [List.getElem?_take] at hx hv
    by_cases hj : j < n
    · simp [hj] at hx hv; exact h.at_ j x v hx hv
    · simp [hj] at hx⟩
theorem LR.drop {I : Imm} {xs : List V} {vs : List Value} (h : LR I xs vs) (n : Nat) : LR I (xs.drop n) (vs.drop n) :=
  ⟨by simp [h.len], fun j x v hx hv => by
    rw [List.getElem?_drop] at hx hv; exact h.at_ _ x v hx hv⟩
theorem LR.tops (I : Imm) (vs : List Value) : LR I (List.replicate vs.length .top) vs :=
  ⟨by simp, fun j x v hx _ => by rw [List.getElem?_replicate] at hx; split at hx <;> simp at hx; subst hx; exact .top v⟩

theorem VR.inv_agg {I : Imm} {cs : List V} {v : Value} (h : VR I (.agg cs) v) : ∃ vs, v = .agg vs ∧ LR I cs vs.toList := by
  cases h with | agg _ vs hl hx => exact ⟨vs, rfl, by simpa using hl, fun j x v a b => hx j x v a (by simpa using b)⟩
theorem VR.inv_tup {I : Imm} {cs : List V} {v : Value} (h : VR I (.tup cs) v) : ∃ vs, v = .tuple vs ∧ LR I cs vs.toList := by
  cases h with | tup _ vs hl hx => exact ⟨vs, rfl, by simpa using hl, fun j x v a b => hx j x v a (by simpa using b)⟩
theorem VR.inv_fn {I : Imm} {f : Fn} {ps qs : List V} {v : Value} (h : VR I (.fn f ps qs) v) : ∃ us ws, v = .func f us ws ∧ LR I ps us.toList ∧ LR I qs ws.toList := by
  cases h with | fn _ _ _ us ws hl hx kl kx => exact ⟨us, ws, rfl, ⟨by simpa using hl, fun j x v a b => hx j x v a (by simpa using b)⟩, ⟨by simpa using kl, fun j x v a b => kx j x v a (by simpa using b)⟩⟩
theorem VR.inv_val {I : Imm} {u v : Value} (h : VR I (.val u) v) : v = u := by cases h; rfl
theorem VR.mk_agg {I : Imm} {cs : List V} {vs : List Value} (h : LR I cs vs) : VR I (.agg cs) (.agg vs.toArray) :=
  .agg _ _ (by simpa using h.len) fun j c v a b => h.at_ j c v a (by simpa using b)
theorem VR.mk_tup {I : Imm} {cs : List V} {vs : List Value} (h : LR I cs vs) : VR I (.tup cs) (.tuple vs.toArray) :=
  .tup _ _ (by simpa using h.len) fun j c v a b => h.at_ j c v a (by simpa using b)

theorem Value.cells_of_ne_agg {v : Value} (h : ∀ cs, v ≠ .agg cs) : v.cells = #[v] := by
  cases v <;> first | rfl | exact absurd rfl (h _)

/-- The cells of a value. -/
theorem VR.cells {I : Imm} {x : V} {v : Value} (h : VR I x v) (hp : x.plain = true) : LR I x.cells v.cells.toList := by
  cases h with
  | val v =>
    simp only [V.cells]
    have := LR.map (I := I) (f := V.val) (g := id) (fun a => VR.val a) v.cells.toList
    simpa using this
  | agg _ vs hl hx => exact ⟨by simpa [V.cells, Value.cells] using hl, fun j c v a b => hx j c v a (by simpa [Value.cells] using b)⟩
  | cndT => simp [V.plain] at hp
  | cndF => simp [V.plain] at hp
  | top => simp [V.plain] at hp
  | ptr b off => exact LR.cons (VR.ptr b off) (LR.nil I)
  | sl b off len cap => exact LR.cons (.sl b off len cap) (.nil I)
  | lnil k => exact LR.cons (.lnil k) (.nil I)
  | lst0 k a => exact LR.cons (.lst0 k a) (.nil I)
  | lst k xs b off cap arr el fr h hc hm hb hk hx => exact LR.cons (.lst k xs b off cap arr el fr h hc hm hb hk hx) (.nil I)
  | ro cs b off arr el fr h hb hx => exact LR.cons (.ro cs b off arr el fr h hb hx) (.nil I)
  | tup cs vs hl hx => exact LR.cons (.tup cs vs hl hx) (.nil I)
  | fn f ps qs us ws hl hx kl kx => exact LR.cons (.fn f ps qs us ws hl hx kl kx) (.nil I)
  | ifc t x v h => exact LR.cons (.ifc t x v h) (.nil I)

theorem VR.one {I : Imm} {x : V} {v : Value} (h : VR I x v) (ho : x.one = true) : v.oneCell' = true := by
  cases h with
  | val v => cases v <;> first | rfl | exact absurd ho (by simp [V.one])
  | _ => first | rfl | exact absurd ho (by simp [V.one])

/-! Owned memory. -/

inductive Blk where
  | cells (cs : List V)
  | raw (o : Obj)

abbrev Store := Nat → Option Blk
def Store.set (σ : Store) (b : Nat) (k : Blk) : Store := fun c => if c = b then some k else σ c
def Store.del (σ : Store) (b : Nat) : Store := fun c => if c = b then none else σ c
theorem Store.set_same (σ : Store) (b : Nat) (k : Blk) : σ.set b k b = some k := by simp [Store.set]
theorem Store.set_other (σ : Store) {b c : Nat} (k : Blk) (h : c ≠ b) : σ.set b k c = σ c := by simp [Store.set, h]
theorem Store.set_set (σ : Store) (b : Nat) (k l : Blk) : (σ.set b k).set b l = σ.set b l := by funext c; simp only [Store.set]; split <;> rfl
theorem Store.del_set (σ : Store) (b : Nat) (k : Blk) (h : σ b = none) : (σ.set b k).del b = σ := by
  funext c; simp only [Store.set, Store.del]; split
  · rename_i e; rw [e, h]
  · rfl
theorem Store.set_comm (σ : Store) {b c : Nat} (k l : Blk) (h : b ≠ c) : (σ.set b k).set c l = (σ.set c l).set b k := by
  funext d; simp only [Store.set]; by_cases e : d = c <;> by_cases f : d = b <;> simp_all

def BlkR (I : Imm) : Blk → Obj → Prop
  | .cells cs, .cells arr _ fr => (∀ j, j < arr.size → (decide (fr.1 ≤ j) && decide (j < fr.2)) = false) ∧ LR I cs arr.toList
  | .raw o, o' => o' = o
  | _, _ => False

theorem BlkR.mono {I J : Imm} (hJ : I.le J) {k : Blk} {o : Obj} (h : BlkR I k o) : BlkR J k o := by
  cases k with
  | cells cs => cases o <;> first | exact ⟨h.1, h.2.mono hJ⟩ | exact h.elim
  | raw o => exact h

structure StR (σ : Store) (I : Imm) (w : World) : Prop where
  imm : ∀ b o, I b = some o → w.heap[b]? = some o
  own : ∀ b k, σ b = some k → ∃ o, w.heap[b]? = some o ∧ BlkR I k o
  sep : ∀ b k, σ b = some k → I b = none

/-- A part of the owned memory may be forgotten. -/
theorem StR.sub {σ τ : Store} {I : Imm} {w : World} (h : StR σ I w) (hs : ∀ b k, τ b = some k → σ b = some k) : StR τ I w :=
  ⟨h.imm, fun b k e => h.own b k (hs b k e), fun b k e => h.sep b k (hs b k e)⟩

theorem StR.fresh_own {σ : Store} {I : Imm} {w : World} (h : StR σ I w) : σ w.heap.size = none := by
  cases e : σ w.heap.size with
  | none => rfl
  | some k => obtain ⟨o, ho, _⟩ := h.own _ k e; simp at ho
theorem StR.fresh_imm {σ : Store} {I : Imm} {w : World} (h : StR σ I w) : I w.heap.size = none := by
  cases e : I w.heap.size with
  | none => rfl
  | some k => have := h.imm _ k e; simp at this

/-- A world of which all old blocks are as they were. -/
theorem StR.keeps {σ : Store} {I : Imm} {w w' : World} (h : StR σ I w) (hw : ∀ b, b < w.heap.size → w'.heap[b]? = w.heap[b]?) : StR σ I w' := by
  have lt : ∀ b o, w.heap[b]? = some o → b < w.heap.size := fun b o e => (Array.getElem?_eq_some_iff.1 e).1
  refine ⟨fun b o e => ?_, fun b k e => ?_, h.sep⟩
  · have h1 := h.imm b o e; rw [hw b (lt _ _ h1)]; exact h1
  · obtain ⟨o, h1, h2⟩ := h.own b k e; exact ⟨o, by rw [hw b (lt _ _ h1)]; exact h1, h2⟩

/-- One new block, owned. -/
theorem StR.alloc {σ : Store} {I : Imm} {w w' : World} {o : Obj} {k : Blk} (h : StR σ I w) (hw : ∀ b, b < w.heap.size → w'.heap[b]? = w.heap[b]?)
    (hn : w'.heap[w.heap.size]? = some o) (hk : BlkR I k o) : StR (σ.set w.heap.size k) I w' := by
  have h' := h.keeps hw
  refine ⟨h'.imm, fun b l e => ?_, fun b l e => ?_⟩
  · simp only [Store.set] at e
    split at e
    · rename_i eb; cases e; rw [eb]; exact ⟨o, hn, hk⟩
    · exact h'.own b l e
  · simp only [Store.set] at e
    split at e
    · rename_i eb; cases e; rw [eb]; exact h.fresh_imm
    · exact h.sep b l e

/-- One new block, never to be written. -/
theorem StR.allocImm {σ : Store} {I : Imm} {w w' : World} {o : Obj} (h : StR σ I w) (hw : ∀ b, b < w.heap.size → w'.heap[b]? = w.heap[b]?)
    (hn : w'.heap[w.heap.size]? = some o) : I.le (fun b => if b = w.heap.size then some o else I b) ∧ StR σ (fun b => if b = w.heap.size then some o else I b) w' := by
  have h' := h.keeps hw
  have hle : I.le (fun b => if b = w.heap.size then some o else I b) := fun b o' e => by
    have hb := (Array.getElem?_eq_some_iff.1 (h.imm b o' e)).1
    show (if _ then _ else _) = _; rw [if_neg (by omega)]; exact e
  refine ⟨hle, fun b o' e => ?_, fun b k e => ?_, fun b k e => ?_⟩
  · split at e
    · rename_i eb; cases e; rw [eb]; exact hn
    · exact h'.imm b o' e
  · obtain ⟨o', h1, h2⟩ := h'.own b k e; exact ⟨o', h1, h2.mono hle⟩
  · have hb := h.own b k e
    obtain ⟨o', h1, _⟩ := hb
    have := (Array.getElem?_eq_some_iff.1 h1).1
    show (if _ then _ else _) = _; rw [if_neg (by omega)]; exact h.sep b k e

/-- An owned block is never written again. -/
theorem StR.freeze {σ : Store} {I : Imm} {w : World} {b : Nat} {k : Blk} (h : StR σ I w) (hb : σ b = some k) :
    ∃ o, w.heap[b]? = some o ∧ BlkR I k o ∧ I.le (fun c => if c = b then some o else I c) ∧ StR (σ.del b) (fun c => if c = b then some o else I c) w := by
  obtain ⟨o, ho, hk⟩ := h.own b k hb
  have hle : I.le (fun c => if c = b then some o else I c) := fun c o' e => by
    by_cases ec : c = b
    · rw [ec, h.sep b k hb] at e; cases e
    · show (if _ then _ else _) = _; rw [if_neg ec]; exact e
  refine ⟨o, ho, hk, hle, fun c o' e => ?_, fun c l e => ?_, fun c l e => ?_⟩
  · split at e
    · rename_i ec; cases e; rw [ec]; exact ho
    · exact h.imm c o' e
  · simp only [Store.del] at e; split at e
    · cases e
    · obtain ⟨o', h1, h2⟩ := h.own c l e; exact ⟨o', h1, h2.mono hle⟩
  · simp only [Store.del] at e; split at e
    · cases e
    · rename_i ec; show (if _ then _ else _) = _; rw [if_neg ec]; exact h.sep c l e

/-! Calls. -/

/-- What a call may change outside of the memory that is told: new blocks, and draws. -/
structure Bel (w w' : World) : Prop where
  b : Below 0 w w'
  fr : ∀ a, w'.frozen? a = w.frozen? a
theorem Bel.refl (w : World) : Bel w w := ⟨Below.refl _ _, fun _ => rfl⟩
theorem Bel.trans {a b c : World} (h : Bel a b) (k : Bel b c) : Bel a c := ⟨h.b.trans k.b, fun x => (k.fr x).trans (h.fr x)⟩
theorem Bel.drew {a w : World} (h : Bel a w) : Bel a w.drew := ⟨h.b.drew, h.fr⟩
theorem Bel.alloc {a w : World} (h : Bel a w) (c : Array Value) (t : TypeId) : Bel a (w.alloc (.cells c t)) := ⟨h.b.alloc (Nat.zero_le _) _, fun x => (frozen?_alloc_cells w c t x).trans (h.fr x)⟩
theorem Bel.setCell {a w : World} (h : Bel a w) (p : Addr) (u : Value) : Bel a (w.setCell p u) := ⟨h.b.setCell (Nat.zero_le _) u, fun x => (World.frozen?_setCell _ _ _ _).trans (h.fr x)⟩


inductive Res where
  | ret (v : V)
  | pan (v : V)

def HCalls (P : Program) (f : FuncId) (xs : List V) (σ : Store) (Q : Res → Store → Prop) : Prop :=
  ∀ (I : Imm) (w : World) (vs : Array Value), StR σ I w → LR I xs vs.toList →
    Calls P f vs w fun e w' => Bel w w' ∧ ∃ I' σ', I.le I' ∧ StR σ' I' w' ∧
      ((∃ r v, e = .returned v ∧ VR I' r v ∧ Q (.ret r) σ') ∨ (∃ r v, e = .panicked [{ v := v, recovered := false }] ∧ VR I' r v ∧ Q (.pan r) σ'))

theorem HCalls.mono {P : Program} {f : FuncId} {xs : List V} {σ : Store} {Q Q' : Res → Store → Prop} (h : HCalls P f xs σ Q) (hq : ∀ r σ', Q r σ' → Q' r σ') : HCalls P f xs σ Q' :=
  fun I w vs hs hv => (h I w vs hs hv).mono fun e w' ⟨hb, I', σ', h1, h2, h3⟩ => ⟨hb, I', σ', h1, h2, h3.imp (fun ⟨r, v, a, b, c⟩ => ⟨r, v, a, b, hq _ _ c⟩) (fun ⟨r, v, a, b, c⟩ => ⟨r, v, a, b, hq _ _ c⟩)⟩

/-- A returned value and the memory may be told as less, whatever world they stand for. -/
def Weakens (r : V) (σ : Store) (r' : V) (σ' : Store) : Prop :=
  ∀ I w v, StR σ I w → VR I r v → ∃ I', I.le I' ∧ StR σ' I' w ∧ VR I' r' v

theorem HCalls.weaken {P : Program} {f : FuncId} {xs : List V} {σ : Store} {Q Q' : Res → Store → Prop} (h : HCalls P f xs σ Q)
    (hr : ∀ r σ', Q (.ret r) σ' → ∃ r' σ'', Weakens r σ' r' σ'' ∧ Q' (.ret r') σ'') (hp : ∀ r σ', Q (.pan r) σ' → ∃ r' σ'', Weakens r σ' r' σ'' ∧ Q' (.pan r') σ'') : HCalls P f xs σ Q' :=
  fun I w vs hs hv => (h I w vs hs hv).mono fun e w' ⟨hb, I', σ', h1, h2, h3⟩ => by
    rcases h3 with ⟨r, v, a, b, c⟩ | ⟨r, v, a, b, c⟩
    · obtain ⟨r', σ'', hw, hq⟩ := hr r σ' c
      obtain ⟨J, j1, j2, j3⟩ := hw I' w' v h2 b
      exact ⟨hb, J, σ'', Imm.le_trans h1 j1, j2, .inl ⟨r', v, a, j3, hq⟩⟩
    · obtain ⟨r', σ'', hw, hq⟩ := hp r σ' c
      obtain ⟨J, j1, j2, j3⟩ := hw I' w' v h2 b
      exact ⟨hb, J, σ'', Imm.le_trans h1 j1, j2, .inr ⟨r', v, a, j3, hq⟩⟩

/-! Code. -/

inductive Ex where
  | normal
  | exit (id : Nat)
  | goto (l : Nat)
  | ret
  | pan (v : V)

def toQ (I : Imm) (w : World) (Q : Ex → List V → Store → Prop) : Exit → Act → World → Prop := fun e a w' =>
  a.defers = [] ∧ Bel w w' ∧ ∃ I' σ' env', I.le I' ∧ StR σ' I' w' ∧ LR I' env' a.tmps.toList ∧
   match e with
   | .normal => Q .normal env' σ'
   | .exit id => Q (.exit id) env' σ'
   | .goto l => Q (.goto l) env' σ'
   | .ret => Q .ret env' σ'
   | .panic chain => ∃ r v, chain = [{ v := v, recovered := false }] ∧ VR I' r v ∧ Q (.pan r) env' σ'
   | .outgrown => False

def HWp (P : Program) (c : Code) (Q : Ex → List V → Store → Prop) (env : List V) (σ : Store) : Prop :=
  ∀ I w a, StR σ I w → LR I env a.tmps.toList → a.defers = [] → c.wp P (toQ I w Q) a w

theorem toQ_base {I J : Imm} {w w1 : World} (hI : I.le J) (hw : Bel w w1) {Q : Ex → List V → Store → Prop} {e : Exit} {a : Act} {w' : World} (h : toQ J w1 Q e a w') : toQ I w Q e a w' := by
  obtain ⟨h1, h2, I', σ', env', h3, h4, h5, h6⟩ := h
  exact ⟨h1, hw.trans h2, I', σ', env', Imm.le_trans hI h3, h4, h5, h6⟩

theorem toQ_mono {I : Imm} {w : World} {Q Q' : Ex → List V → Store → Prop} (hq : ∀ e env σ, Q e env σ → Q' e env σ) {e : Exit} {a : Act} {w' : World} (h : toQ I w Q e a w') : toQ I w Q' e a w' := by
  obtain ⟨h1, h2, I', σ', env', h3, h4, h5, h6⟩ := h
  refine ⟨h1, h2, I', σ', env', h3, h4, h5, ?_⟩
  cases e with
  | panic chain => obtain ⟨r, v, a, b, c⟩ := h6; exact ⟨r, v, a, b, hq _ _ _ c⟩
  | outgrown => exact h6
  | normal => exact hq _ _ _ h6
  | exit => exact hq _ _ _ h6
  | goto => exact hq _ _ _ h6
  | ret => exact hq _ _ _ h6

theorem HWp.mono {P : Program} {c : Code} {Q Q' : Ex → List V → Store → Prop} {env : List V} {σ : Store} (h : HWp P c Q env σ) (hq : ∀ e env σ, Q e env σ → Q' e env σ) : HWp P c Q' env σ :=
  fun I w a hs he hd => wp_mono (h I w a hs he hd) fun _ _ _ => toQ_mono hq

/-- What is known may be forgotten. -/
def LeV (x y : V) : Prop := y = x ∨ y = .top
def LeEnv (xs ys : List V) : Prop := xs.length = ys.length ∧ ∀ (j : Nat) y, ys[j]? = some y → y = .top ∨ xs[j]? = some y
theorem LeEnv.refl (xs : List V) : LeEnv xs xs := ⟨rfl, fun _ _ h => .inr h⟩
theorem LeEnv.nil : LeEnv [] [] := LeEnv.refl []
theorem LeEnv.same {xs ys : List V} {x : V} (h : LeEnv xs ys) : LeEnv (x :: xs) (x :: ys) :=
  ⟨by simp [h.1], fun j y hy => by cases j with | zero => exact .inr hy | succ j => simp at hy ⊢; exact h.2 j y hy⟩
theorem LeEnv.top {xs ys : List V} {x : V} (h : LeEnv xs ys) : LeEnv (x :: xs) (.top :: ys) :=
  ⟨by simp [h.1], fun j y hy => by cases j with | zero => left; simpa using hy.symm | succ j => simp at hy ⊢; exact h.2 j y hy⟩
theorem LR.le {I : Imm} {xs ys : List V} {vs : List Value} (h : LR I xs vs) (hle : LeEnv xs ys) : LR I ys vs :=
  ⟨hle.1 ▸ h.len, fun j y v hy hv => by
    rcases hle.2 j y hy with e | e
    · rw [e]; exact .top v
    · exact h.at_ j y v e hv⟩
theorem HWp.le {P : Program} {c : Code} {Q : Ex → List V → Store → Prop} {env env' : List V} {σ : Store} (hle : LeEnv env env') (h : HWp P c Q env' σ) : HWp P c Q env σ :=
  fun I w a hs he hd => h I w a hs (he.le hle) hd
theorem HWp.sub {P : Program} {c : Code} {Q : Ex → List V → Store → Prop} {env : List V} {σ τ : Store} (hs : ∀ b k, τ b = some k → σ b = some k) (h : HWp P c Q env τ) : HWp P c Q env σ :=
  fun I w a hst he hd => h I w a (hst.sub hs) he hd

theorem HWp.skip {P : Program} {Q : Ex → List V → Store → Prop} {env : List V} {σ : Store} (h : Q .normal env σ) : HWp P .skip Q env σ :=
  fun I w a hs he hd => wp_skip ⟨hd, Bel.refl _, I, σ, env, Imm.le_refl I, hs, he, h⟩
theorem HWp.label {P : Program} {l : Nat} {Q : Ex → List V → Store → Prop} {env : List V} {σ : Store} (h : Q .normal env σ) : HWp P (.label l) Q env σ :=
  fun I w a hs he hd => wp_label ⟨hd, Bel.refl _, I, σ, env, Imm.le_refl I, hs, he, h⟩
theorem HWp.exit {P : Program} {id : Nat} {Q : Ex → List V → Store → Prop} {env : List V} {σ : Store} (h : Q (.exit id) env σ) : HWp P (.exit id) Q env σ :=
  fun I w a hs he hd => wp_exit ⟨hd, Bel.refl _, I, σ, env, Imm.le_refl I, hs, he, h⟩
theorem HWp.goto {P : Program} {l : Nat} {Q : Ex → List V → Store → Prop} {env : List V} {σ : Store} (h : Q (.goto l) env σ) : HWp P (.goto l) Q env σ :=
  fun I w a hs he hd => wp_goto ⟨hd, Bel.refl _, I, σ, env, Imm.le_refl I, hs, he, h⟩
theorem HWp.ret {P : Program} {Q : Ex → List V → Store → Prop} {env : List V} {σ : Store} (h : Q .ret env σ) : HWp P .ret Q env σ :=
  fun I w a hs he hd => wp_ret ⟨hd, Bel.refl _, I, σ, env, Imm.le_refl I, hs, he, h⟩

/-- Behind a normal end comes what is next. -/
def Ex.then (next : List V → Store → Prop) (Q : Ex → List V → Store → Prop) : Ex → List V → Store → Prop
  | .normal => next
  | e => Q e
def Ex.inBlock (id : Nat) (Q : Ex → List V → Store → Prop) : Ex → List V → Store → Prop
  | .exit id' => if id' = id then Q .normal else Q (.exit id')
  | e => Q e

theorem HWp.seq {P : Program} {x y : Code} {Q : Ex → List V → Store → Prop} {env : List V} {σ : Store} (h : HWp P x (Ex.then (fun env σ => HWp P y Q env σ) Q) env σ) : HWp P (.seq x y) Q env σ := by
  intro I w a hs he hd
  refine wp_seq (wp_mono (h I w a hs he hd) ?_)
  intro e a1 w1 hq
  obtain ⟨h1, h2, I', σ', env', h3, h4, h5, h6⟩ := hq
  cases e with
  | normal => exact wp_mono (h6 I' w1 a1 h4 h5 h1) fun _ _ _ => toQ_base h3 h2
  | exit id => exact ⟨h1, h2, I', σ', env', h3, h4, h5, h6⟩
  | goto l => exact ⟨h1, h2, I', σ', env', h3, h4, h5, h6⟩
  | ret => exact ⟨h1, h2, I', σ', env', h3, h4, h5, h6⟩
  | panic ch => exact ⟨h1, h2, I', σ', env', h3, h4, h5, h6⟩
  | outgrown => exact h6.elim

theorem HWp.block {P : Program} {id : Nat} {c : Code} {Q : Ex → List V → Store → Prop} {env : List V} {σ : Store} (h : HWp P c (Ex.inBlock id Q) env σ) : HWp P (.block id c) Q env σ := by
  intro I w a hs he hd
  refine wp_block (wp_mono (h I w a hs he hd) ?_)
  intro e a1 w1 hq
  obtain ⟨h1, h2, I', σ', env', h3, h4, h5, h6⟩ := hq
  cases e with
  | exit id' =>
    simp only [Exit.inBlock, Ex.inBlock] at h6 ⊢
    split
    · rename_i e; rw [if_pos e] at h6; exact ⟨h1, h2, I', σ', env', h3, h4, h5, h6⟩
    · rename_i e; rw [if_neg e] at h6; exact ⟨h1, h2, I', σ', env', h3, h4, h5, h6⟩
  | normal => exact ⟨h1, h2, I', σ', env', h3, h4, h5, h6⟩
  | goto l => exact ⟨h1, h2, I', σ', env', h3, h4, h5, h6⟩
  | ret => exact ⟨h1, h2, I', σ', env', h3, h4, h5, h6⟩
  | panic ch => exact ⟨h1, h2, I', σ', env', h3, h4, h5, h6⟩
  | outgrown => exact h6.elim

/-- The value of an operand. -/
def evalV (env : List V) : Operand → V
  | .tmp t => env.getD t .top
  | .const v => .val v
  | .global g => .val (.pointer (some ⟨g, 0, none⟩))
  | .func f => .fn (.func f) [] []

theorem evalV_ok {I : Imm} {env : List V} {a : Act} (h : LR I env a.tmps.toList) (x : Operand) : VR I (evalV env x) (a.eval x) := by
  cases x with
  | tmp t => simp only [evalV, Act.eval]; have := h.getD t undef; simpa [Array.getD_eq_getD_getElem?, List.getD_eq_getElem?_getD] using this
  | const v => exact .val v
  | global g => exact .val _
  | func f => exact .fn _ _ _ _ _ rfl (fun j c v h => by simp at h) rfl (fun j c v h => by simp at h)

theorem HWp.cond {P : Program} {c : Operand} {x y : Code} {t : Bool} {Q : Ex → List V → Store → Prop} {env : List V} {σ : Store} (hc : evalV env c = .val (.bool t))
    (ht : t = true → HWp P x Q env σ) (hf : t = false → HWp P y Q env σ) : HWp P (.cond c x y) Q env σ := by
  intro I w a hs he hd
  have hv := evalV_ok he c
  rw [hc] at hv
  exact wp_cond_split hv.inv_val (fun e => ht e I w a hs he hd) (fun e => hf e I w a hs he hd)

/-- One memory holds what another one does, and maybe more. -/
def Store.le (σ τ : Store) : Prop := ∀ b k, σ b = some k → τ b = some k
theorem Store.le_refl (σ : Store) : σ.le σ := fun _ _ h => h

/-- A loop: what holds at its head ('inv'), and what each round lowers. -/
theorem HWp.loop {P : Program} {c : Code} {Q : Ex → List V → Store → Prop} {α : Type} (mk : α → List V) (inv : α → Store → Prop) (μ : α → Store → Nat) (a0 : α) {env : List V} {σ : Store}
    (h0 : LeEnv env (mk a0)) (hi : inv a0 σ)
    (round : ∀ a σ, inv a σ → HWp P c (Ex.then (fun env' σ' => ∃ a' τ, LeEnv env' (mk a') ∧ τ.le σ' ∧ inv a' τ ∧ μ a' τ < μ a σ) Q) (mk a) σ) : HWp P (.loop c) Q env σ := by
  intro I w a hs he hd b k cs
  have key : ∀ n x σ1 I w a, μ x σ1 = n → inv x σ1 → StR σ1 I w → LR I (mk x) a.tmps.toList → a.defers = [] →
      ∃ e a' w', toQ I w Q e a' w' ∧ Arrives P (lone (b.at a (.code c :: .inLoop c :: k)) cs w) b k cs e a' w' := by
    intro n
    induction n using Nat.strongRecOn with
    | _ n ih =>
      intro x σ1 I w a hn hinv hs he hd
      obtain ⟨e, a2, w2, hq, harr⟩ := round x σ1 hinv I w a hs he hd b (.inLoop c :: k) cs
      obtain ⟨h1, h2, I', σ', env', h3, h4, h5, h6⟩ := hq
      cases e with
      | normal =>
        obtain ⟨x', τ, hle, hsub, hinv', hlt⟩ := h6
        obtain ⟨e3, a3, w3, hq3, harr3⟩ := ih (μ x' τ) (hn ▸ hlt) x' τ I' w2 a2 rfl hinv' (h4.sub hsub) (h5.le hle) h1
        exact ⟨e3, a3, w3, toQ_base h3 h2 hq3, .of_steps (Steps.trans harr (.one step_inLoop)) harr3⟩
      | exit id => exact ⟨_, a2, w2, ⟨h1, h2, I', σ', env', h3, h4, h5, h6⟩, .pass (x := .inLoop c) rfl (fun _ _ => .inl (by simp)) harr⟩
      | goto l => exact ⟨_, a2, w2, ⟨h1, h2, I', σ', env', h3, h4, h5, h6⟩, .pass (x := .inLoop c) rfl (fun _ _ => .inl (by simp)) harr⟩
      | ret => exact ⟨_, a2, w2, ⟨h1, h2, I', σ', env', h3, h4, h5, h6⟩, .pass (x := .inLoop c) rfl (fun _ _ => .inl (by simp)) harr⟩
      | panic ch => exact ⟨_, a2, w2, ⟨h1, h2, I', σ', env', h3, h4, h5, h6⟩, .pass (x := .inLoop c) rfl (fun _ _ => .inl (by simp)) harr⟩
      | outgrown => exact h6.elim
  obtain ⟨e, a', w', hq, harr⟩ := key _ a0 σ I w a rfl hi hs (he.le h0) hd
  exact ⟨e, a', w', hq, .of_steps (.one step_loop) harr⟩

end Go.Proofs.Ytaldikplfcoahaa
