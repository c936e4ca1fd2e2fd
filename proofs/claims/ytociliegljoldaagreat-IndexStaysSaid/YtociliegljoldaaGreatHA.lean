import Derived.ProofKit
import Derived.ChangeKeysEq
import Derived.Laws.StructEq
/- Own framework, part a: abstract values, the relation to the model's values, owned memory, calls and code over them. -/
namespace Go.Proofs.YtociliegljoldaaGreat
set_option linter.unusedSimpArgs false
set_option linter.unusedVariables false
open Go.RowKit

inductive V where
  | val (v : Value)
  | ptr (b off : Nat)
  | sl (b off len cap : Nat)
  | lst (k : Nat) (xs : List V)
  | ro (cs : List V)
  | agg (cs : List V)
  | tup (cs : List V)
  | fn (f : Fn) (first captured : List V)
  | ifc (t : TypeId) (v : V)
  | cnd (b : Bool) (v : V)
  | top

instance : Inhabited V := ⟨.top⟩

def V.cells : V → List V
  | .agg cs => cs
  | .val v => v.cells.toList.map .val
  | x => [x]

/-- May be stored into one cell. -/
def V.one : V → Bool
  | .val (.agg _) | .val (.tuple _) | .agg _ | .tup _ | .cnd _ _ | .top => false
  | _ => true

/-- Not an unknown. -/
def V.plain : V → Bool
  | .cnd _ _ | .top => false
  | _ => true

abbrev Imm := Nat → Option Obj
def Imm.le (I J : Imm) : Prop := ∀ b o, I b = some o → J b = some o
theorem Imm.le_refl (I : Imm) : I.le I := fun _ _ h => h
theorem Imm.le_trans {I J K : Imm} (h : I.le J) (k : J.le K) : I.le K := fun b o e => k b o (h b o e)

inductive VR (I : Imm) : V → Value → Prop where
  | val (v : Value) : VR I (.val v) v
  | ptr (b off : Nat) : VR I (.ptr b off) (.pointer (some ⟨b, off, none⟩))
  | sl (b off len cap : Nat) : VR I (.sl b off len cap) (.slice (some ⟨b, off, none⟩) len cap)
  | lnil (k : Nat) : VR I (.lst k []) (.slice none 0 0)
  | lst0 (k : Nat) (a : Addr) : VR I (.lst k []) (.slice (some a) 0 0)
  | lst (k : Nat) (xs : List V) (b off cap : Nat) (arr : Array Value) (el : TypeId) (fr : Nat × Nat) (h : I b = some (.cells arr el fr)) (hc : xs.length ≤ cap)
      (hm : cap ≤ maxLen) (hb : off + xs.length * k ≤ arr.size) (hk : ∀ x ∈ xs, x.cells.length = k)
      (hx : ∀ (i j : Nat) x c v, xs[i]? = some x → x.cells[j]? = some c → arr[off + i * k + j]? = some v → VR I c v) :
      VR I (.lst k xs) (.slice (some ⟨b, off, none⟩) xs.length cap)
  | ro (cs : List V) (b off : Nat) (arr : Array Value) (el : TypeId) (fr : Nat × Nat) (h : I b = some (.cells arr el fr)) (hb : off + cs.length ≤ arr.size)
      (hx : ∀ (j : Nat) c v, cs[j]? = some c → arr[off + j]? = some v → VR I c v) : VR I (.ro cs) (.pointer (some ⟨b, off, none⟩))
  | agg (cs : List V) (vs : Array Value) (hl : cs.length = vs.size) (hx : ∀ (j : Nat) c v, cs[j]? = some c → vs[j]? = some v → VR I c v) : VR I (.agg cs) (.agg vs)
  | tup (cs : List V) (vs : Array Value) (hl : cs.length = vs.size) (hx : ∀ (j : Nat) c v, cs[j]? = some c → vs[j]? = some v → VR I c v) : VR I (.tup cs) (.tuple vs)
  | fn (f : Fn) (ps qs : List V) (us ws : Array Value) (hl : ps.length = us.size) (hx : ∀ (j : Nat) c v, ps[j]? = some c → us[j]? = some v → VR I c v)
      (kl : qs.length = ws.size) (kx : ∀ (j : Nat) c v, qs[j]? = some c → ws[j]? = some v → VR I c v) : VR I (.fn f ps qs) (.func f us ws)
  | ifc (t : TypeId) (x : V) (v : Value) (h : VR I x v) : VR I (.ifc t x) (.iface t v)
  | cndT (x : V) (v : Value) (h : VR I x v) : VR I (.cnd true x) v
  | cndF (x : V) : VR I (.cnd false x) undef
  | top (v : Value) : VR I .top v

theorem VR.mono {I J : Imm} (hJ : I.le J) {x : V} {v : Value} (h : VR I x v) : VR J x v := by
  induction h with
  | val v => exact .val v
  | ptr b off => exact .ptr b off
  | sl b off len cap => exact .sl b off len cap
  | lnil k => exact .lnil k
  | lst0 k a => exact .lst0 k a
  | lst k xs b off cap arr el fr h hc hm hb hk _ ih => exact .lst k xs b off cap arr el fr (hJ _ _ h) hc hm hb hk ih
  | ro cs b off arr el fr h hb _ ih => exact .ro cs b off arr el fr (hJ _ _ h) hb ih
  | agg cs vs hl _ ih => exact .agg cs vs hl ih
  | tup cs vs hl _ ih => exact .tup cs vs hl ih
  | fn f ps qs us ws hl _ kl _ ih1 ih2 => exact .fn f ps qs us ws hl ih1 kl ih2
  | ifc t x v _ ih => exact .ifc t x v ih
  | cndT x v _ ih => exact .cndT x v ih
  | cndF x => exact .cndF x
  | top v => exact .top v

/-- Pointwise. -/
structure LR (I : Imm) (xs : List V) (vs : List Value) : Prop where
  len : xs.length = vs.length
  at_ : ∀ (j : Nat) x v, xs[j]? = some x → vs[j]? = some v → VR I x v

theorem LR.mono {I J : Imm} (hJ : I.le J) {xs : List V} {vs : List Value} (h : LR I xs vs) : LR J xs vs := ⟨h.len, fun j x v a b => (h.at_ j x v a b).mono hJ⟩
theorem LR.nil (I : Imm) : LR I [] [] := ⟨rfl, fun j x v h => by simp at h⟩
theorem LR.cons {I : Imm} {x : V} {v : Value} {xs : List V} {vs : List Value} (h : VR I x v) (hs : LR I xs vs) : LR I (x :: xs) (v :: vs) :=
  ⟨by simp [hs.len], fun j a b ha hb => by
    cases j with
    | zero => simp at ha hb; subst ha; subst hb; exact h
    | succ j => simp at ha hb; exact hs.at_ j a b ha hb⟩
theorem LR.head {I : Imm} {x : V} {v : Value} {xs : List V} {vs : List Value} (h : LR I (x :: xs) (v :: vs)) : VR I x v := h.at_ 0 x v rfl rfl
theorem LR.tail {I : Imm} {x : V} {v : Value} {xs : List V} {vs : List Value} (h : LR I (x :: xs) (v :: vs)) : LR I xs vs :=
  ⟨by simpa using h.len, fun j a b ha hb => h.at_ (j + 1) a b (by simpa using ha) (by simpa using hb)⟩
theorem LR.set {I : Imm} {xs : List V} {vs : List Value} (h : LR I xs vs) (d : Nat) {x : V} {v : Value} (hv : VR I x v) : LR I (xs.set d x) (vs.set d v) :=
  ⟨by simp [h.len], fun j a b ha hb => by
    rw [List.getElem?_set] at ha hb
    by_cases e : d = j
    · simp only [e, if_true] at ha hb
      have hl := h.len
      by_cases hj : j < xs.length
      · rw [if_pos hj] at ha; rw [if_pos (by omega)] at hb
        simp at ha hb; subst ha; subst hb; exact hv
      · rw [if_neg hj] at ha; cases ha
    · simp only [e, if_false] at ha hb; exact h.at_ j a b ha hb⟩
theorem LR.getD {I : Imm} {xs : List V} {vs : List Value} (h : LR I xs vs) (j : Nat) (u : Value) : VR I (xs.getD j .top) (vs.getD j u) := by
  have hl := h.len
  by_cases hj : j < xs.length
  · exact h.at_ j _ _ (by simp [hj]) (by rw [List.getD_eq_getElem?_getD, List.getElem?_eq_getElem (by omega)]; rfl)
  · rw [List.getD_eq_getElem?_getD, List.getElem?_eq_none (by omega)]; exact .top _
theorem LR.map {I : Imm} {α : Type} {f : α → V} {g : α → Value} (h : ∀ a, VR I (f a) (g a)) (l : List α) : LR I (l.map f) (l.map g) :=
  ⟨by simp, fun j x v hx hv => by
    simp only [List.getElem?_map] at hx hv
    cases e : l[j]? with
    | none => simp [e] at hx
    | some a => simp [e] at hx hv; subst hx; subst hv; exact h a⟩
theorem LR.append {I : Imm} {xs ys : List V} {vs ws : List Value} (h : LR I xs vs) (k : LR I ys ws) : LR I (xs ++ ys) (vs ++ ws) :=
  ⟨by simp [h.len, k.len], fun j x v hx hv => by
    have hl := h.len
    by_cases hj : j < xs.length
    · rw [List.getElem?_append_left hj] at hx; rw [List.getElem?_append_left (by omega)] at hv; exact h.at_ j x v hx hv
    · rw [List.getElem?_append_right (by omega)] at hx; rw [List.getElem?_append_right (by omega)] at hv
      rw [hl] at hx; exact k.at_ _ x v hx hv⟩
theorem LR.take {I : Imm} {xs : List V} {vs : List Value} (h : LR I xs vs) (n : Nat) : LR I (xs.take n) (vs.take n) :=
  ⟨by simp [h.len], fun j x v hx hv => by
    rw [List.getElem?_take] at hx hv
    by_cases hj : j < n
    · simp [hj] at hx hv; exact h.at_ j x v hx hv
    · simp [hj] at hx⟩
theorem LR.drop {I : Imm} {xs : List V} {vs : List Value} (h : LR I xs vs) (n : Nat) : LR I (xs.drop n) (vs.drop n) :=
  ⟨by simp [h.len], fun j x v hx hv => by
    rw [List.getElem?_drop] at hx hv; exact h.at_ _ x v hx hv⟩
theorem LR.tops (I : Imm) (vs : List Value) : LR I (List.replicate vs.length .top) vs :=
  ⟨by simp, fun j x v hx _ => by rw [List.getElem?_replicate] at hx; split at hx <;> simp at hx; subst hx; exact .top v⟩

theorem VR.inv_agg {I : Imm} {cs : List V} {v : Value} (h : VR I (.agg cs) v) : ∃ vs, v = .agg vs ∧ LR I cs vs.toList := by
  cases h with | agg _ vs hl hx => exact ⟨vs, rfl, by simpa using hl, fun j x v a b => hx j x v a (by simpa using b)⟩
theorem VR.inv_tup {I : Imm} {cs : List V} {v : Value} (h : VR I (.tup cs) v) : ∃ vs, v = .tuple vs ∧ LR I cs vs.toList := by
  cases h with | tup _ vs hl hx => exact ⟨vs, rfl, by simpa using hl, fun j x v a b => hx j x v a (by simpa using b)⟩
theorem VR.inv_fn {I : Imm} {f : Fn} {ps qs : List V} {v : Value} (h : VR I (.fn f ps qs) v) : ∃ us ws, v = .func f us ws ∧ LR I ps us.toList ∧ LR I qs ws.toList := by
  cases h with | fn _ _ _ us ws hl hx kl kx => exact ⟨us, ws, rfl, ⟨by simpa using hl, fun j x v a b => hx j x v a (by simpa using b)⟩, ⟨by simpa using kl, fun j x v a b => kx j x v a (by simpa using b)⟩⟩
theorem VR.inv_val {I : Imm} {u v : Value} (h : VR I (.val u) v) : v = u := by cases h; rfl
theorem VR.mk_agg {I : Imm} {cs : List V} {vs : List Value} (h : LR I cs vs) : VR I (.agg cs) (.agg vs.toArray) :=
  .agg _ _ (by simpa using h.len) fun j c v a b => h.at_ j c v a (by simpa using b)
theorem VR.mk_tup {I : Imm} {cs : List V} {vs : List Value} (h : LR I cs vs) : VR I (.tup cs) (.tuple vs.toArray) :=
  .tup _ _ (by simpa using h.len) fun j c v a b => h.at_ j c v a (by simpa using b)

theorem Value.cells_of_ne_agg {v : Value} (h : ∀ cs, v ≠ .agg cs) : v.cells = #[v] := by
  cases v <;> first | rfl | exact absurd rfl (h _)

/-- The cells of a value. -/
theorem VR.cells {I : Imm} {x : V} {v : Value} (h : VR I x v) (hp : x.plain = true) : LR I x.cells v.cells.toList := by
  cases h with
  | val v =>
    simp only [V.cells]
    have := LR.map (I := I) (f := V.val) (g := id) (fun a => VR.val a) v.cells.toList
    simpa using this
  | agg _ vs hl hx => exact ⟨by simpa [V.cells, Value.cells] using hl, fun j c v a b => hx j c v a (by simpa [Value.cells] using b)⟩
  | cndT => simp [V.plain] at hp
  | cndF => simp [V.plain] at hp
  | top => simp [V.plain] at hp
  | ptr b off => exact LR.cons (VR.ptr b off) (LR.nil I)
  | sl b off len cap => exact LR.cons (.sl b off len cap) (.nil I)
  | lnil k => exact LR.cons (.lnil k) (.nil I)
  | lst0 k a => exact LR.cons (.lst0 k a) (.nil I)
  | lst k xs b off cap arr el fr h hc hm hb hk hx => exact LR.cons (.lst k xs b off cap arr el fr h hc hm hb hk hx) (.nil I)
  | ro cs b off arr el fr h hb hx => exact LR.cons (.ro cs b off arr el fr h hb hx) (.nil I)
  | tup cs vs hl hx => exact LR.cons (.tup cs vs hl hx) (.nil I)
  | fn f ps qs us ws hl hx kl kx => exact LR.cons (.fn f ps qs us ws hl hx kl kx) (.nil I)
  | ifc t x v h => exact LR.cons (.ifc t x v h) (.nil I)

theorem VR.one {I : Imm} {x : V} {v : Value} (h : VR I x v) (ho : x.one = true) : v.oneCell' = true := by
  cases h with
  | val v => cases v <;> first | rfl | exact absurd ho (by simp [V.one])
  | _ => first | rfl | exact absurd ho (by simp [V.one])

/-! Owned memory. -/

inductive Blk where
  | cells (cs : List V)
  | raw (o : Obj)

abbrev Store := Nat → Option Blk
def Store.set (σ : Store) (b : Nat) (k : Blk) : Store := fun c => if c = b then some k else σ c
def Store.del (σ : Store) (b : Nat) : Store := fun c => if c = b then none else σ c
theorem Store.set_same (σ : Store) (b : Nat) (k : Blk) : σ.set b k b = some k := by simp [Store.set]
theorem Store.set_other (σ : Store) {b c : Nat} (k : Blk) (h : c ≠ b) : σ.set b k c = σ c := by simp [Store.set, h]
theorem Store.set_set (σ : Store) (b : Nat) (k l : Blk) : (σ.set b k).set b l = σ.set b l := by funext c; simp only [Store.set]; split <;> rfl
theorem Store.del_set (σ : Store) (b : Nat) (k : Blk) (h : σ b = none) : (σ.set b k).del b = σ := by
  funext c; simp only [Store.set, Store.del]; split
  · rename_i e; rw [e, h]
  · rfl
theorem Store.set_comm (σ : Store) {b c : Nat} (k l : Blk) (h : b ≠ c) : (σ.set b k).set c l = (σ.set c l).set b k := by
  funext d; simp only [Store.set]; by_cases e : d = c <;> by_cases f : d = b <;> simp_all

def BlkR (I : Imm) : Blk → Obj → Prop
  | .cells cs, .cells arr _ fr => (∀ j, j < arr.size → (decide (fr.1 ≤ j) && decide (j < fr.2)) = false) ∧ LR I cs arr.toList
  | .raw o, o' => o' = o
  | _, _ => False

theorem BlkR.mono {I J : Imm} (hJ : I.le J) {k : Blk} {o : Obj} (h : BlkR I k o) : BlkR J k o := by
  cases k with
  | cells cs => cases o <;> first | exact ⟨h.1, h.2.mono hJ⟩ | exact h.elim
  | raw o => exact h

structure StR (σ : Store) (I : Imm) (w : World) : Prop where
  imm : ∀ b o, I b = some o → w.heap[b]? = some o
  own : ∀ b k, σ b = some k → ∃ o, w.heap[b]? = some o ∧ BlkR I k o
  sep : ∀ b k, σ b = some k → I b = none

/-- A part of the owned memory may be forgotten. -/
theorem StR.sub {σ τ : Store} {I : Imm} {w : World} (h : StR σ I w) (hs : ∀ b k, τ b = some k → σ b = some k) : StR τ I w :=
  ⟨h.imm, fun b k e => h.own b k (hs b k e), fun b k e => h.sep b k (hs b k e)⟩

theorem StR.fresh_own {σ : Store} {I : Imm} {w : World} (h : StR σ I w) : σ w.heap.size = none := by
  cases e : σ w.heap.size with
  | none => rfl
  | some k => obtain ⟨o, ho, _⟩ := h.own _ k e; simp at ho
theorem StR.fresh_imm {σ : Store} {I : Imm} {w : World} (h : StR σ I w) : I w.heap.size = none := by
  cases e : I w.heap.size with
  | none => rfl
  | some k => have := h.imm _ k e; simp at this

/-- A world of which all old blocks are as they were. -/
theorem StR.keeps {σ : Store} {I : Imm} {w w' : World} (h : StR σ I w) (hw : ∀ b, b < w.heap.size → w'.heap[b]? = w.heap[b]?) : StR σ I w' := by
  have lt : ∀ b o, w.heap[b]? = some o → b < w.heap.size := fun b o e => (Array.getElem?_eq_some_iff.1 e).1
  refine ⟨fun b o e => ?_, fun b k e => ?_, h.sep⟩
  · have h1 := h.imm b o e; rw [hw b (lt _ _ h1)]; exact h1
  · obtain ⟨o, h1, h2⟩ := h.own b k e; exact ⟨o, by rw [hw b (lt _ _ h1)]; exact h1, h2⟩

/-- One new block, owned. -/
theorem StR.alloc {σ : Store} {I : Imm} {w w' : World} {o : Obj} {k : Blk} (h : StR σ I w) (hw : ∀ b, b < w.heap.size → w'.heap[b]? = w.heap[b]?)
    (hn : w'.heap[w.heap.size]? = some o) (hk : BlkR I k o) : StR (σ.set w.heap.size k) I w' := by
  have h' := h.keeps hw
  refine ⟨h'.imm, fun b l e => ?_, fun b l e => ?_⟩
  · simp only [Store.set] at e
    split at e
    · rename_i eb; cases e; rw [eb]; exact ⟨o, hn, hk⟩
    · exact h'.own b l e
  · simp only [Store.set] at e
    split at e
    · rename_i eb; cases e; rw [eb]; exact h.fresh_imm
    · exact h.sep b l e

/-- One new block, never to be written. -/
theorem StR.allocImm {σ : Store} {I : Imm} {w w' : World} {o : Obj} (h : StR σ I w) (hw : ∀ b, b < w.heap.size → w'.heap[b]? = w.heap[b]?)
    (hn : w'.heap[w.heap.size]? = some o) : I.le (fun b => if b = w.heap.size then some o else I b) ∧ StR σ (fun b => if b = w.heap.size then some o else I b) w' := by
  have h' := h.keeps hw
  have hle : I.le (fun b => if b = w.heap.size then some o else I b) := fun b o' e => by
    have hb := (Array.getElem?_eq_some_iff.1 (h.imm b o' e)).1
    show (if _ then _ else _) = _; rw [if_neg (by omega)]; exact e
  refine ⟨hle, fun b o' e => ?_, fun b k e => ?_, fun b k e => ?_⟩
  · split at e
    · rename_i eb; cases e; rw [eb]; exact hn
    · exact h'.imm b o' e
  · obtain ⟨o', h1, h2⟩ := h'.own b k e; exact ⟨o', h1, h2.mono hle⟩
  · have hb := h.own b k e
    obtain ⟨o', h1, _⟩ := hb
    have := (Array.getElem?_eq_some_iff.1 h1).1
    show (if _ then _ else _) = _; rw [if_neg (by omega)]; exact h.sep b k e

/-- An owned block is never written again. -/
theorem StR.freeze {σ : Store} {I : Imm} {w : World} {b : Nat} {k : Blk} (h : StR σ I w) (hb : σ b = some k) :
    ∃ o, w.heap[b]? = some o ∧ BlkR I k o ∧ I.le (fun c => if c = b then some o else I c) ∧ StR (σ.del b) (fun c => if c = b then some o else I c) w := by
  obtain ⟨o, ho, hk⟩ := h.own b k hb
  have hle : I.le (fun c => if c = b then some o else I c) := fun c o' e => by
    by_cases ec : c = b
    · rw [ec, h.sep b k hb] at e; cases e
    · show (if _ then _ else _) = _; rw [if_neg ec]; exact e
  refine ⟨o, ho, hk, hle, fun c o' e => ?_, fun c l e => ?_, fun c l e => ?_⟩
  · split at e
    · rename_i ec; cases e; rw [ec]; exact ho
    · exact h.imm c o' e
  · simp only [Store.del] at e; split at e
    · cases e
    · obtain ⟨o', h1, h2⟩ := h.own c l e; exact ⟨o', h1, h2.mono hle⟩
  · simp only [Store.del] at e; split at e
    · cases e
    · rename_i ec; show (if _ then _ else _) = _; rw [if_neg ec]; exact h.sep c l e

/-! Calls. -/

/-- What a call may change outside of the memory that is told: new blocks, and draws. -/
structure Bel (w w' : World) : Prop where
  b : Below 0 w w'
  fr : ∀ a : Addr, a.block < w.heap.size → w'.frozen? a = w.frozen? a
theorem Bel.refl (w : World) : Bel w w := ⟨Below.refl _ _, fun _ _ => rfl⟩
theorem Bel.trans {a b c : World} (h : Bel a b) (k : Bel b c) : Bel a c := ⟨h.b.trans k.b, fun x hx => (k.fr x (Nat.lt_of_lt_of_le hx h.b.size)).trans (h.fr x hx)⟩
theorem Bel.drew {a w : World} (h : Bel a w) : Bel a w.drew := ⟨h.b.drew, h.fr⟩
theorem Bel.allocO {a w : World} (h : Bel a w) (o : Obj) : Bel a (w.alloc o) := ⟨h.b.alloc (Nat.zero_le _) _, fun x hx => (World.frozen?_alloc_old _ _ _ (by have := h.b.size; omega)).trans (h.fr x hx)⟩
theorem Bel.alloc {a w : World} (h : Bel a w) (c : Array Value) (t : TypeId) : Bel a (w.alloc (.cells c t)) := h.allocO _
theorem Bel.setCell {a w : World} (h : Bel a w) (p : Addr) (u : Value) : Bel a (w.setCell p u) := ⟨h.b.setCell (Nat.zero_le _) u, fun x hx => (World.frozen?_setCell _ _ _ _).trans (h.fr x hx)⟩


inductive Res where
  | ret (v : V)
  | pan (v : V)

def HCalls (P : Program) (f : FuncId) (xs : List V) (σ : Store) (Q : Res → Store → Prop) : Prop :=
  ∀ (I : Imm) (w : World) (vs : Array Value), StR σ I w → LR I xs vs.toList →
    Calls P f vs w fun e w' => Bel w w' ∧ ∃ I' σ', I.le I' ∧ StR σ' I' w' ∧
      ((∃ r v, e = .returned v ∧ VR I' r v ∧ Q (.ret r) σ') ∨ (∃ r v, e = .panicked [{ v := v, recovered := false }] ∧ VR I' r v ∧ Q (.pan r) σ'))

theorem HCalls.mono {P : Program} {f : FuncId} {xs : List V} {σ : Store} {Q Q' : Res → Store → Prop} (h : HCalls P f xs σ Q) (hq : ∀ r σ', Q r σ' → Q' r σ') : HCalls P f xs σ Q' :=
  fun I w vs hs hv => (h I w vs hs hv).mono fun e w' ⟨hb, I', σ', h1, h2, h3⟩ => ⟨hb, I', σ', h1, h2, h3.imp (fun ⟨r, v, a, b, c⟩ => ⟨r, v, a, b, hq _ _ c⟩) (fun ⟨r, v, a, b, c⟩ => ⟨r, v, a, b, hq _ _ c⟩)⟩

/-- A returned value and the memory may be told as less, whatever world they stand for. -/
def Weakens (r : V) (σ : Store) (r' : V) (σ' : Store) : Prop :=
  ∀ I w v, StR σ I w → VR I r v → ∃ I', I.le I' ∧ StR σ' I' w ∧ VR I' r' v

theorem HCalls.weaken {P : Program} {f : FuncId} {xs : List V} {σ : Store} {Q Q' : Res → Store → Prop} (h : HCalls P f xs σ Q)
    (hr : ∀ r σ', Q (.ret r) σ' → ∃ r' σ'', Weakens r σ' r' σ'' ∧ Q' (.ret r') σ'') (hp : ∀ r σ', Q (.pan r) σ' → ∃ r' σ'', Weakens r σ' r' σ'' ∧ Q' (.pan r') σ'') : HCalls P f xs σ Q' :=
  fun I w vs hs hv => (h I w vs hs hv).mono fun e w' ⟨hb, I', σ', h1, h2, h3⟩ => by
    rcases h3 with ⟨r, v, a, b, c⟩ | ⟨r, v, a, b, c⟩
    · obtain ⟨r', σ'', hw, hq⟩ := hr r σ' c
      obtain ⟨J, j1, j2, j3⟩ := hw I' w' v h2 b
      exact ⟨hb, J, σ'', Imm.le_trans h1 j1, j2, .inl ⟨r', v, a, j3, hq⟩⟩
    · obtain ⟨r', σ'', hw, hq⟩ := hp r σ' c
      obtain ⟨J, j1, j2, j3⟩ := hw I' w' v h2 b
      exact ⟨hb, J, σ'', Imm.le_trans h1 j1, j2, .inr ⟨r', v, a, j3, hq⟩⟩

/-! Code. -/

inductive Ex where
  | normal
  | exit (id : Nat)
  | goto (l : Nat)
  | ret
  | pan (v : V)

def toQ (ds : List Deferred) (I : Imm) (w : World) (Q : Ex → List V → Store → Prop) : Exit → Act → World → Prop := fun e a w' =>
  a.defers = ds ∧ Bel w w' ∧ ∃ I' σ' env', I.le I' ∧ StR σ' I' w' ∧ LR I' env' a.tmps.toList ∧
   match e with
   | .normal => Q .normal env' σ'
   | .exit id => Q (.exit id) env' σ'
   | .goto l => Q (.goto l) env' σ'
   | .ret => Q .ret env' σ'
   | .panic chain => ∃ r v, chain = [{ v := v, recovered := false }] ∧ VR I' r v ∧ Q (.pan r) env' σ'
   | .outgrown => False

def HWp (P : Program) (c : Code) (Q : Ex → List V → Store → Prop) (env : List V) (σ : Store) : Prop :=
  ∀ ds I w a, StR σ I w → LR I env a.tmps.toList → a.defers = ds → c.wp P (toQ ds I w Q) a w

theorem toQ_base {ds : List Deferred} {I J : Imm} {w w1 : World} (hI : I.le J) (hw : Bel w w1) {Q : Ex → List V → Store → Prop} {e : Exit} {a : Act} {w' : World} (h : toQ ds J w1 Q e a w') : toQ ds I w Q e a w' := by
  obtain ⟨h1, h2, I', σ', env', h3, h4, h5, h6⟩ := h
  exact ⟨h1, hw.trans h2, I', σ', env', Imm.le_trans hI h3, h4, h5, h6⟩

theorem toQ_mono {ds : List Deferred} {I : Imm} {w : World} {Q Q' : Ex → List V → Store → Prop} (hq : ∀ e env σ, Q e env σ → Q' e env σ) {e : Exit} {a : Act} {w' : World} (h : toQ ds I w Q e a w') : toQ ds I w Q' e a w' := by
  obtain ⟨h1, h2, I', σ', env', h3, h4, h5, h6⟩ := h
  refine ⟨h1, h2, I', σ', env', h3, h4, h5, ?_⟩
  cases e with
  | panic chain => obtain ⟨r, v, a, b, c⟩ := h6; exact ⟨r, v, a, b, hq _ _ _ c⟩
  | outgrown => exact h6
  | normal => exact hq _ _ _ h6
  | exit => exact hq _ _ _ h6
  | goto => exact hq _ _ _ h6
  | ret => exact hq _ _ _ h6

theorem HWp.mono {P : Program} {c : Code} {Q Q' : Ex → List V → Store → Prop} {env : List V} {σ : Store} (h : HWp P c Q env σ) (hq : ∀ e env σ, Q e env σ → Q' e env σ) : HWp P c Q' env σ :=
  fun ds I w a hs he hd => wp_mono (h ds I w a hs he hd) fun _ _ _ => toQ_mono hq

/-- What is known may be forgotten. -/
def LeV (x y : V) : Prop := y = x ∨ y = .top
def LeEnv (xs ys : List V) : Prop := xs.length = ys.length ∧ ∀ (j : Nat) y, ys[j]? = some y → y = .top ∨ xs[j]? = some y
theorem LeEnv.refl (xs : List V) : LeEnv xs xs := ⟨rfl, fun _ _ h => .inr h⟩
theorem LeEnv.nil : LeEnv [] [] := LeEnv.refl []
theorem LeEnv.same {xs ys : List V} {x : V} (h : LeEnv xs ys) : LeEnv (x :: xs) (x :: ys) :=
  ⟨by simp [h.1], fun j y hy => by cases j with | zero => exact .inr hy | succ j => simp at hy ⊢; exact h.2 j y hy⟩
theorem LeEnv.top {xs ys : List V} {x : V} (h : LeEnv xs ys) : LeEnv (x :: xs) (.top :: ys) :=
  ⟨by simp [h.1], fun j y hy => by cases j with | zero => left; simpa using hy.symm | succ j => simp at hy ⊢; exact h.2 j y hy⟩
theorem LR.le {I : Imm} {xs ys : List V} {vs : List Value} (h : LR I xs vs) (hle : LeEnv xs ys) : LR I ys vs :=
  ⟨hle.1 ▸ h.len, fun j y v hy hv => by
    rcases hle.2 j y hy with e | e
    · rw [e]; exact .top v
    · exact h.at_ j y v e hv⟩
theorem HWp.le {P : Program} {c : Code} {Q : Ex → List V → Store → Prop} {env env' : List V} {σ : Store} (hle : LeEnv env env') (h : HWp P c Q env' σ) : HWp P c Q env σ :=
  fun ds I w a hs he hd => h ds I w a hs (he.le hle) hd
theorem HWp.sub {P : Program} {c : Code} {Q : Ex → List V → Store → Prop} {env : List V} {σ τ : Store} (hs : ∀ b k, τ b = some k → σ b = some k) (h : HWp P c Q env τ) : HWp P c Q env σ :=
  fun ds I w a hst he hd => h ds I w a (hst.sub hs) he hd

theorem HWp.skip {P : Program} {Q : Ex → List V → Store → Prop} {env : List V} {σ : Store} (h : Q .normal env σ) : HWp P .skip Q env σ :=
  fun ds I w a hs he hd => wp_skip ⟨hd, Bel.refl _, I, σ, env, Imm.le_refl I, hs, he, h⟩
theorem HWp.label {P : Program} {l : Nat} {Q : Ex → List V → Store → Prop} {env : List V} {σ : Store} (h : Q .normal env σ) : HWp P (.label l) Q env σ :=
  fun ds I w a hs he hd => wp_label ⟨hd, Bel.refl _, I, σ, env, Imm.le_refl I, hs, he, h⟩
theorem HWp.exit {P : Program} {id : Nat} {Q : Ex → List V → Store → Prop} {env : List V} {σ : Store} (h : Q (.exit id) env σ) : HWp P (.exit id) Q env σ :=
  fun ds I w a hs he hd => wp_exit ⟨hd, Bel.refl _, I, σ, env, Imm.le_refl I, hs, he, h⟩
theorem HWp.goto {P : Program} {l : Nat} {Q : Ex → List V → Store → Prop} {env : List V} {σ : Store} (h : Q (.goto l) env σ) : HWp P (.goto l) Q env σ :=
  fun ds I w a hs he hd => wp_goto ⟨hd, Bel.refl _, I, σ, env, Imm.le_refl I, hs, he, h⟩
theorem HWp.ret {P : Program} {Q : Ex → List V → Store → Prop} {env : List V} {σ : Store} (h : Q .ret env σ) : HWp P .ret Q env σ :=
  fun ds I w a hs he hd => wp_ret ⟨hd, Bel.refl _, I, σ, env, Imm.le_refl I, hs, he, h⟩

/-- Behind a normal end comes what is next. -/
def Ex.then (next : List V → Store → Prop) (Q : Ex → List V → Store → Prop) : Ex → List V → Store → Prop
  | .normal => next
  | e => Q e
def Ex.inBlock (id : Nat) (Q : Ex → List V → Store → Prop) : Ex → List V → Store → Prop
  | .exit id' => if id' = id then Q .normal else Q (.exit id')
  | e => Q e

theorem HWp.seq {P : Program} {x y : Code} {Q : Ex → List V → Store → Prop} {env : List V} {σ : Store} (h : HWp P x (Ex.then (fun env σ => HWp P y Q env σ) Q) env σ) : HWp P (.seq x y) Q env σ := by
  intro ds I w a hs he hd
  refine wp_seq (wp_mono (h ds I w a hs he hd) ?_)
  intro e a1 w1 hq
  obtain ⟨h1, h2, I', σ', env', h3, h4, h5, h6⟩ := hq
  cases e with
  | normal => exact wp_mono (h6 ds I' w1 a1 h4 h5 h1) fun _ _ _ => toQ_base h3 h2
  | exit id => exact ⟨h1, h2, I', σ', env', h3, h4, h5, h6⟩
  | goto l => exact ⟨h1, h2, I', σ', env', h3, h4, h5, h6⟩
  | ret => exact ⟨h1, h2, I', σ', env', h3, h4, h5, h6⟩
  | panic ch => exact ⟨h1, h2, I', σ', env', h3, h4, h5, h6⟩
  | outgrown => exact h6.elim

theorem HWp.block {P : Program} {id : Nat} {c : Code} {Q : Ex → List V → Store → Prop} {env : List V} {σ : Store} (h : HWp P c (Ex.inBlock id Q) env σ) : HWp P (.block id c) Q env σ := by
  intro ds I w a hs he hd
  refine wp_block (wp_mono (h ds I w a hs he hd) ?_)
  intro e a1 w1 hq
  obtain ⟨h1, h2, I', σ', env', h3, h4, h5, h6⟩ := hq
  cases e with
  | exit id' =>
    simp only [Exit.inBlock, Ex.inBlock] at h6 ⊢
    split
    · rename_i e; rw [if_pos e] at h6; exact ⟨h1, h2, I', σ', env', h3, h4, h5, h6⟩
    · rename_i e; rw [if_neg e] at h6; exact ⟨h1, h2, I', σ', env', h3, h4, h5, h6⟩
  | normal => exact ⟨h1, h2, I', σ', env', h3, h4, h5, h6⟩
  | goto l => exact ⟨h1, h2, I', σ', env', h3, h4, h5, h6⟩
  | ret => exact ⟨h1, h2, I', σ', env', h3, h4, h5, h6⟩
  | panic ch => exact ⟨h1, h2, I', σ', env', h3, h4, h5, h6⟩
  | outgrown => exact h6.elim

/-- The value of an operand. -/
def evalV (env : List V) : Operand → V
  | .tmp t => env.getD t .top
  | .const v => .val v
  | .global g => .val (.pointer (some ⟨g, 0, none⟩))
  | .func f => .fn (.func f) [] []

theorem evalV_ok {I : Imm} {env : List V} {a : Act} (h : LR I env a.tmps.toList) (x : Operand) : VR I (evalV env x) (a.eval x) := by
  cases x with
  | tmp t => simp only [evalV, Act.eval]; have := h.getD t undef; simpa [Array.getD_eq_getD_getElem?, List.getD_eq_getElem?_getD] using this
  | const v => exact .val v
  | global g => exact .val _
  | func f => exact .fn _ _ _ _ _ rfl (fun j c v h => by simp at h) rfl (fun j c v h => by simp at h)

theorem HWp.cond {P : Program} {c : Operand} {x y : Code} {t : Bool} {Q : Ex → List V → Store → Prop} {env : List V} {σ : Store} (hc : evalV env c = .val (.bool t))
    (ht : t = true → HWp P x Q env σ) (hf : t = false → HWp P y Q env σ) : HWp P (.cond c x y) Q env σ := by
  intro ds I w a hs he hd
  have hv := evalV_ok he c
  rw [hc] at hv
  exact wp_cond_split hv.inv_val (fun e => ht e ds I w a hs he hd) (fun e => hf e ds I w a hs he hd)

/-- One memory holds what another one does, and maybe more. -/
def Store.le (σ τ : Store) : Prop := ∀ b k, σ b = some k → τ b = some k
theorem Store.le_refl (σ : Store) : σ.le σ := fun _ _ h => h

/-- A loop: what holds at its head ('inv'), and what each round lowers. -/
theorem HWp.loop {P : Program} {c : Code} {Q : Ex → List V → Store → Prop} {α : Type} (mk : α → List V) (inv : α → Store → Prop) (μ : α → Store → Nat) (a0 : α) {env : List V} {σ : Store}
    (h0 : LeEnv env (mk a0)) (hi : inv a0 σ)
    (round : ∀ a σ, inv a σ → HWp P c (Ex.then (fun env' σ' => ∃ a' τ, LeEnv env' (mk a') ∧ τ.le σ' ∧ inv a' τ ∧ μ a' τ < μ a σ) Q) (mk a) σ) : HWp P (.loop c) Q env σ := by
  intro ds I w a hs he hd b k cs
  have key : ∀ n x σ1 I w a, μ x σ1 = n → inv x σ1 → StR σ1 I w → LR I (mk x) a.tmps.toList → a.defers = ds →
      ∃ e a' w', toQ ds I w Q e a' w' ∧ Arrives P (lone (b.at a (.code c :: .inLoop c :: k)) cs w) b k cs e a' w' := by
    intro n
    induction n using Nat.strongRecOn with
    | _ n ih =>
      intro x σ1 I w a hn hinv hs he hd
      obtain ⟨e, a2, w2, hq, harr⟩ := round x σ1 hinv ds I w a hs he hd b (.inLoop c :: k) cs
      obtain ⟨h1, h2, I', σ', env', h3, h4, h5, h6⟩ := hq
      cases e with
      | normal =>
        obtain ⟨x', τ, hle, hsub, hinv', hlt⟩ := h6
        obtain ⟨e3, a3, w3, hq3, harr3⟩ := ih (μ x' τ) (hn ▸ hlt) x' τ I' w2 a2 rfl hinv' (h4.sub hsub) (h5.le hle) h1
        exact ⟨e3, a3, w3, toQ_base h3 h2 hq3, .of_steps (Steps.trans harr (.one step_inLoop)) harr3⟩
      | exit id => exact ⟨_, a2, w2, ⟨h1, h2, I', σ', env', h3, h4, h5, h6⟩, .pass (x := .inLoop c) rfl (fun _ _ => .inl (by simp)) harr⟩
      | goto l => exact ⟨_, a2, w2, ⟨h1, h2, I', σ', env', h3, h4, h5, h6⟩, .pass (x := .inLoop c) rfl (fun _ _ => .inl (by simp)) harr⟩
      | ret => exact ⟨_, a2, w2, ⟨h1, h2, I', σ', env', h3, h4, h5, h6⟩, .pass (x := .inLoop c) rfl (fun _ _ => .inl (by simp)) harr⟩
      | panic ch => exact ⟨_, a2, w2, ⟨h1, h2, I', σ', env', h3, h4, h5, h6⟩, .pass (x := .inLoop c) rfl (fun _ _ => .inl (by simp)) harr⟩
      | outgrown => exact h6.elim
  obtain ⟨e, a', w', hq, harr⟩ := key _ a0 σ I w a rfl hi hs (he.le h0) hd
  exact ⟨e, a', w', hq, .of_steps (.one step_loop) harr⟩

end Go.Proofs.YtociliegljoldaaGreat

/- Own framework, part b: what one operation does to abstract values and owned memory, and that the model does so. -/
namespace Go.Proofs.YtociliegljoldaaGreat
set_option linter.unusedSimpArgs false
set_option linter.unusedVariables false
open Go.RowKit

/-- Is it a struct's or an array's type? -/
def aggD : TypeDesc → Bool | .struct _ | .array _ _ => true | _ => false
def kindB (P : Program) (t : TypeId) : Option Bool := (P.underlying t).map aggD

def zeroV (P : Program) (t : TypeId) : Option (List V) := ((P.info? t).bind (·.zero)).map fun z => z.cells.toList.map V.val

def setL (cs : List V) (off : Nat) : List V → List V
  | [] => cs
  | y :: ys => setL (cs.set off y) (off + 1) ys

theorem setL_length (cs : List V) (off : Nat) (ys : List V) : (setL cs off ys).length = cs.length := by
  induction ys generalizing cs off with
  | nil => rfl
  | cons y ys ih => simp [setL, ih]

/-- What lies at a place is read as a variable of the type. -/
def loadL (P : Program) (t : TypeId) (cs : List V) (off : Nat) (K : V → Prop) : Prop :=
  match kindB P t with
  | some true => off + P.cellsOf t ≤ cs.length ∧ K (.agg ((cs.drop off).take (P.cellsOf t)))
  | some false => match cs[off]? with | none => False | some c => K c
  | none => False

def loadV (P : Program) (t : TypeId) (a : V) (σ : Store) (K : V → Store → Prop) : Prop :=
  match a with
  | .ptr b off => match σ b with | some (.cells cs) => loadL P t cs off (fun x => K x σ) | _ => False
  | .ro cs => loadL P t cs 0 (fun x => K x σ)
  | _ => False

def storeV (P : Program) (t : TypeId) (a x : V) (σ : Store) (K : V → Store → Prop) : Prop :=
  match a with
  | .ptr b off => match σ b with
    | some (.cells cs) => x.plain = true ∧ x.cells.length = P.cellsOf t ∧ (P.info? t).isSome = true ∧ (∀ c ∈ x.cells, c.one = true) ∧ off + x.cells.length ≤ cs.length ∧ K .top (σ.set b (.cells (setL cs off x.cells)))
    | _ => False
  | _ => False

def newV (cs : List V) (σ : Store) (K : V → Store → Prop) : Prop := ∀ b, σ b = none → K (.ptr b 0) (σ.set b (.cells cs))
def allocV (P : Program) (t : TypeId) (σ : Store) (K : V → Store → Prop) : Prop :=
  match zeroV P t with | some cs => newV cs σ K | none => False
def boxV (x : V) (σ : Store) (K : V → Store → Prop) : Prop := x.plain = true ∧ newV x.cells σ K

def fillV (place : Nat → Option (Nat × Nat)) (cs : List V) : List (Nat × V) → Option (List V)
  | [] => some cs
  | (i, x) :: rest =>
    match place i with
    | none => none
    | some (off, size) => if x.plain = true ∧ x.cells.length = size ∧ off + size ≤ cs.length then fillV place (setL cs off x.cells) rest else none

def placesB (P : Program) (t : TypeId) : Option (Nat → Option (Nat × Nat)) :=
  match P.underlying t with
  | some (.struct fields) => if fields.toList.all (fun f => (P.info? f.type).isSome) then some fun i => (fields[i]?).map fun f => (f.offset, P.cellsOf f.type) else none
  | some (.array _ e) => if (P.info? e).isSome then some fun i => some (i * P.cellsOf e, P.cellsOf e) else none
  | _ => none

def buildV (P : Program) (t : TypeId) (parts : List (Nat × V)) (σ : Store) (K : V → Store → Prop) : Prop :=
  match placesB P t, zeroV P t with
  | some place, some z => match fillV place z parts with | some cs => K (.agg cs) σ | none => False
  | _, _ => False

def repL (z : List V) (n : Nat) : List V := (List.range n).map fun i => z.getD (i % z.length) .top

def buildSliceV (P : Program) (t : TypeId) (len : Nat) (parts : List (Nat × V)) (σ : Store) (K : V → Store → Prop) : Prop :=
  match P.underlying t with
  | some (.slice e) => (P.info? e).isSome = true ∧ len * P.cellsOf e ≤ 2 ^ 24 ∧ match zeroV P e with
    | some z => match fillV (fun i => some (i * P.cellsOf e, P.cellsOf e)) (repL z (len * P.cellsOf e)) parts with
      | some cs => ∀ b, σ b = none → K (.sl b 0 len len) (σ.set b (.cells cs))
      | none => False
    | none => False
  | _ => False

/-- The scalars of a comparison with '==', by the operand's own type. -/
def eqV (P : Program) (t : TypeId) (x y : V) : Option Bool :=
  match P.underlying t, x, y with
  | some .bool, .val (.bool a), .val (.bool b) => some (a == b)
  | some (.pointer _), .val (.pointer none), .val (.pointer none) => some true
  | some (.pointer _), .ptr _ _, .val (.pointer none) => some false
  | some (.pointer _), .val (.pointer none), .ptr _ _ => some false
  | some (.pointer _), .ro _, .val (.pointer none) => some false
  | some (.pointer _), .val (.pointer none), .ro _ => some false
  | some (.slice _), .val (.slice none _ _), .val (.slice none _ _) => some true
  | some (.slice _), .sl _ _ _ _, .val (.slice none _ _) => some false
  | some (.slice _), .val (.slice none _ _), .sl _ _ _ _ => some false
  | some (.slice _), .lst _ (_ :: _), .val (.slice none _ _) => some false
  | some (.func _ _ _), .val .nilFunc, .val .nilFunc => some true
  | some (.func _ _ _), .fn _ _ _, .val .nilFunc => some false
  | some (.interface _), .ifc _ _, .val .nilIface => some false
  | some (.func _ _ _), .val .nilFunc, .fn _ _ _ => some false
  | some (.interface _), .val .nilIface, .ifc _ _ => some false
  | _, _, _ => none

/-- One cell of kind g: 0 a number, 1 a bool, 2 a string. -/
def eqPrimV (g : Nat) (x y : V) : Option Bool :=
  match g, x, y with
  | 0, .val (.int k a), .val (.int k' b) => if k = k' then some (a == b) else none
  | 1, .val (.bool a), .val (.bool b) => some (a == b)
  | 2, .val (.string a), .val (.string b) => some (a == b)
  | _, _, _ => none

/-- The kinds of the cells of a type all of whose leaves are numbers, bools, strings, and none of whose fields is blank. -/
def leafs (P : Program) : Nat → TypeId → Option (List Nat)
  | 0, _ => none
  | d + 1, t =>
    match P.underlying t with
    | some (.int _) => some [0]
    | some .bool => some [1]
    | some .string => some [2]
    | some (.struct fs) => if P.stoodInHeld t then none else leafFields (leafs P d) P [] fs.toList
    | some (.array n e) => match leafs P d e with | some g => if g.length = P.cellsOf e then some (List.replicate n g).flatten else none | none => none
    | _ => none
where
  leafFields (lf : TypeId → Option (List Nat)) (P : Program) (acc : List Nat) : List Field → Option (List Nat)
    | [] => some acc
    | f :: fs => if f.name = "_" ∨ f.offset ≠ acc.length then none else match lf f.type with
      | none => none
      | some g => if g.length = P.cellsOf f.type then leafFields lf P (acc ++ g) fs else none

def allEq : List Nat → List V → List V → Option Bool
  | [], [], [] => some true
  | g :: gs, x :: xs, y :: ys => match eqPrimV g x y, allEq gs xs ys with | some a, some b => some (a && b) | _, _ => none
  | _, _, _ => none

/-- Numbers. -/
def binI (op : BinOp) (k : IntKind) (a b : Int) (K : V → Prop) : Prop :=
  match op with
  | .add => K (.val (.int k (k.wrap (a + b))))
  | .sub => K (.val (.int k (k.wrap (a - b))))
  | .mul => K (.val (.int k (k.wrap (a * b))))
  | .quo => b ≠ 0 ∧ K (.val (.int k (k.wrap (a.tdiv b))))
  | .rem => b ≠ 0 ∧ K (.val (.int k (a.tmod b)))
  | .and => K (.val (.int k (k.wrap (BitVec.ofInt k.bits a &&& BitVec.ofInt k.bits b).toNat)))
  | .or => K (.val (.int k (k.wrap (BitVec.ofInt k.bits a ||| BitVec.ofInt k.bits b).toNat)))
  | .xor => K (.val (.int k (k.wrap (BitVec.ofInt k.bits a ^^^ BitVec.ofInt k.bits b).toNat)))
  | .andNot => K (.val (.int k (k.wrap (BitVec.ofInt k.bits a &&& ~~~ BitVec.ofInt k.bits b).toNat)))
  | .eql => K (.val (.bool (a == b)))
  | .neq => K (.val (.bool (a != b)))
  | .lss => K (.val (.bool (decide (a < b))))
  | .leq => K (.val (.bool (decide (a ≤ b))))
  | .gtr => K (.val (.bool (decide (a > b))))
  | .geq => K (.val (.bool (decide (a ≥ b))))
  | _ => False

def shiftI (op : BinOp) (k : IntKind) (a b : Int) (K : V → Prop) : Prop :=
  match op with
  | .shl => 0 ≤ b ∧ K (.val (.int k (k.wrap (a * 2 ^ (min b.toNat k.bits)))))
  | .shr => 0 ≤ b ∧ K (.val (.int k (a.fdiv (2 ^ (min b.toNat k.bits)))))
  | _ => False

def binS (op : BinOp) (a b : ByteArray) (K : V → Prop) : Prop :=
  match op with
  | .add => a.size + b.size ≤ 9223372036854775807 ∧ K (.val (.string (a ++ b)))
  | .eql => K (.val (.bool (a.toList == b.toList)))
  | .neq => K (.val (.bool (!(a.toList == b.toList))))
  | .lss => K (.val (.bool (Op.bytesLess a.toList b.toList)))
  | .leq => K (.val (.bool (Op.bytesLess a.toList b.toList || a.toList == b.toList)))
  | .gtr => K (.val (.bool (!(Op.bytesLess a.toList b.toList || a.toList == b.toList))))
  | .geq => K (.val (.bool (!(Op.bytesLess a.toList b.toList))))
  | _ => False

def isShift : BinOp → Bool | .shl | .shr => true | _ => false

def binV (P : Program) (op : BinOp) (t : TypeId) (x y : V) (σ : Store) (K : V → Store → Prop) : Prop :=
  match x, y with
  | .val (.int k a), .val (.int k' b) => if isShift op = true then shiftI op k a b (fun x => K x σ) else k = k' ∧ binI op k a b (fun x => K x σ)
  | .val (.string a), .val (.string b) => binS op a b (fun x => K x σ)
  | .agg xs, .agg ys => kindB P t = some true ∧ P.eqGuardType P.depth t = false ∧ match leafs P 50 t with
    | some gs => (match allEq gs xs ys with
      | some r => (match op with | .eql => K (.val (.bool r)) σ | .neq => K (.val (.bool (!r))) σ | _ => False)
      | none => False)
    | none => False
  | .lst _ [], .val (.slice none _ _) => (∃ e, P.underlying t = some (.slice e)) ∧ (op = .eql ∨ op = .neq) ∧ ∀ b : Bool, K (.val (.bool b)) σ
  | x, y => match eqV P t x y with
    | some r => match op with | .eql => K (.val (.bool r)) σ | .neq => K (.val (.bool (!r))) σ | _ => False
    | none => False

def unV (op : UnOp) (x : V) (σ : Store) (K : V → Store → Prop) : Prop :=
  match op, x with
  | .not, .val (.bool b) => K (.val (.bool (!b))) σ
  | .neg, .val (.int k n) => K (.val (.int k (k.wrap (0 - n)))) σ
  | .xor, .val (.int k n) => K (.val (.int k (k.wrap (BitVec.ofInt k.bits (if k.signed then -1 else k.max) ^^^ BitVec.ofInt k.bits n).toNat))) σ
  | _, _ => False

def V.unF : V → V | .cnd g y => if g = true then y else .top | x => x
def boolV : V → Option (Bool × Bool) | .val (.bool p) => some (true, p) | .cnd g (.val (.bool p)) => some (g, p) | _ => none

def pickV (c a b : V) (σ : Store) (K : V → Store → Prop) : Prop :=
  match c with
  | .val (.bool t) => match boolV a, boolV b with
    | some (ga, p), some (gb, q) => (t = true → ga = true) ∧ (t = false → gb = true) ∧ K (.val (.bool (if t then p else q))) σ
    | _, _ => (t = true → K a.unF σ) ∧ (t = false → K b.unF σ)
  | _ => False

def nilCheckV (x : V) (σ : Store) (K : V → Store → Prop) : Prop :=
  match x with
  | .ptr _ _ | .ro _ => K x σ
  | .fn (.func _) _ _ => K x σ
  | .ifc _ _ => K x σ
  | _ => False

def byteV (b : UInt8) : V := .val (.int .u8 b.toNat)
def convertV (P : Program) (src dst : TypeId) (x : V) (σ : Store) (K : V → Store → Prop) : Prop :=
  (P.underlying src).isSome = true ∧ match P.underlying dst, x with
  | some (.int k), .val (.int _ n) => K (.val (.int k (k.wrap n))) σ
  | some (.slice e), .val (.string s) => P.underlying src = some .string ∧ P.underlying e = some (.int .u8) ∧ s.size ≤ maxLen ∧ K (.lst 1 (s.data.toList.map byteV)) σ
  | some .string, .lst k xs => k = 1 ∧ ∃ l : List UInt8, xs = l.map byteV ∧ (∃ e, P.underlying src = some (.slice e) ∧ P.underlying e = some (.int .u8)) ∧ K (.val (.string ⟨l.toArray⟩)) σ
  | some .string, .val (.slice none 0 0) => (∃ e, P.underlying src = some (.slice e) ∧ P.underlying e = some (.int .u8)) ∧ K (.val (.string ByteArray.empty)) σ
  | _, _ => False

def ptrAdd (x : V) (n : Nat) : Option V :=
  match x with
  | .ptr b off => some (.ptr b (off + n))
  | .ro cs => if n ≤ cs.length then some (.ro (cs.drop n)) else none
  | _ => none

def fieldAddrV (P : Program) (s : TypeId) (x : V) (i : Nat) (σ : Store) (K : V → Store → Prop) : Prop :=
  match P.underlying s with
  | some (.struct fields) => match fields[i]? with
    | some f => (P.info? f.type).isSome = true ∧ P.cellsOf f.type ≠ 0 ∧ match ptrAdd x f.offset with | some y => K y σ | none => False
    | none => False
  | _ => False

def fieldV (P : Program) (s : TypeId) (x : V) (i : Nat) (σ : Store) (K : V → Store → Prop) : Prop :=
  match P.underlying s, x with
  | some (.struct fields), .agg cs => match fields[i]? with
    | some f => loadL P f.type cs f.offset (fun x => K x σ)
    | none => False
  | _, _ => False

/-- The address of an element. -/
def indexAddrV (P : Program) (t : TypeId) (x i : V) (σ : Store) (K : V → Store → Prop) : Prop :=
  match i with
  | .val (.int _ n) => 0 ≤ n ∧ match P.underlying t with
    | some (.slice e) => (P.info? e).isSome = true ∧ (match x with
      | .sl b off len _ => n < len ∧ K (.ptr b (off + n.toNat * P.cellsOf e)) σ
      | .lst k xs => k = P.cellsOf e ∧ n < xs.length ∧ K (.ro (xs.getD n.toNat .top).cells) σ
      | _ => False)
    | some (.array len e) => (P.info? e).isSome = true ∧ n < len ∧ (match ptrAdd x (n.toNat * P.cellsOf e) with | some y => K y σ | none => False)
    | _ => False
  | _ => False

def indexV (P : Program) (t : TypeId) (x i : V) (σ : Store) (K : V → Store → Prop) : Prop :=
  match i with
  | .val (.int _ n) => 0 ≤ n ∧ match P.underlying t, x with
    | some (.array len e), .agg cs => (P.info? e).isSome = true ∧ n < len ∧ loadL P e cs (n.toNat * P.cellsOf e) (fun x => K x σ)
    | some .string, .val (.string s) => n < s.size ∧ K (.val (.int .u8 (s.data.toList.getD n.toNat 0).toNat)) σ
    | _, _ => False
  | _ => False

def extractV (x : V) (i : Nat) (σ : Store) (K : V → Store → Prop) : Prop :=
  match x with
  | .tup cs => match cs[i]? with | none => False | some c => K c σ
  | _ => False

def numOf (d : Nat) : Option V → Option Int
  | none => some d
  | some (.val (.int _ n)) => some n
  | _ => none

/-- 'x[lo:hi:max]': the bounds are as they should. -/
def sliceOk (len cap : Nat) (lo hi mx : Option V) (K : Nat → Nat → Nat → Prop) : Prop :=
  match numOf 0 lo, numOf len hi, numOf cap mx with
  | some l, some h, some m => 0 ≤ l ∧ l ≤ h ∧ h ≤ m ∧ m ≤ cap ∧ (mx.isSome = true → hi.isSome = true) ∧ K l.toNat h.toNat m.toNat
  | _, _, _ => False

def sliceV (P : Program) (t : TypeId) (x : V) (lo hi mx : Option V) (σ : Store) (K : V → Store → Prop) : Prop :=
  match P.underlying t with
  | some (.slice e) => (P.info? e).isSome = true ∧ (match x with
    | .sl b off len cap => sliceOk len cap lo hi mx fun l h m => K (.sl b (if m = l then off else off + l * P.cellsOf e) (h - l) (m - l)) σ
    | .lst k xs => k = P.cellsOf e ∧ (match mx with
      | none => sliceOk xs.length xs.length lo hi none fun l h _ => K (.lst k ((xs.drop l).take (h - l))) σ
      | some m => sliceOk xs.length xs.length lo hi (some m) fun l h _ => K (.lst k ((xs.drop l).take (h - l))) σ)
    | .val (.slice none 0 0) => sliceOk 0 0 lo hi mx fun _ _ _ => K (.val (.slice none 0 0)) σ
    | _ => False)
  | some .string => (match x with
    | .val (.string s) => mx = none ∧ sliceOk s.size s.size lo hi none fun l h _ => K (.val (.string (s.extract l h))) σ
    | _ => False)
  | some (.array n e) => (P.info? e).isSome = true ∧ (match x with
    | .ptr b off => sliceOk n n lo hi mx fun l h m => K (.sl b (if m = l then off else off + l * P.cellsOf e) (h - l) (m - l)) σ
    | _ => False)
  | _ => False

def makeSliceV (P : Program) (t : TypeId) (l c : V) (σ : Store) (K : V → Store → Prop) : Prop :=
  match P.underlying t, l, c with
  | some (.slice e), .val (.int _ n), .val (.int _ m) => (P.info? e).isSome = true ∧ 0 ≤ n ∧ n ≤ m ∧ m * P.bytesOf e ≤ 140737488355328 ∧ m ≤ 140737488355328 ∧ (match zeroV P e with
    | some z => ∀ b, σ b = none → K (.sl b 0 n.toNat m.toNat) (σ.set b (.cells (repL z (m.toNat * P.cellsOf e))))
    | none => False)
  | _, _, _ => False

def lenV (P : Program) (t : TypeId) (x : V) (σ : Store) (K : V → Store → Prop) : Prop :=
  match P.underlying t, x with
  | some .string, .val (.string s) => K (.val (.int .i64 s.size)) σ
  | some (.array n _), _ => K (.val (.int .i64 n)) σ
  | some (.slice _), .val (.slice none n _) => K (.val (.int .i64 n)) σ
  | some (.slice _), .sl _ _ n _ => K (.val (.int .i64 n)) σ
  | some (.slice _), .lst _ xs => K (.val (.int .i64 xs.length)) σ
  | _, _ => False

/-- The elements that a slice (or a text) holds, cell by cell. -/
def rowV (k : Nat) (x : V) (σ : Store) (K : Nat → List V → Prop) : Prop :=
  match x with
  | .val (.slice none 0 0) => K 0 []
  | .sl b off len _ => match σ b with | some (.cells cs) => off + len * k ≤ cs.length ∧ K len ((cs.drop off).take (len * k)) | _ => False
  | .lst k' xs => k' = k ∧ K xs.length (xs.flatMap V.cells)
  | .val (.string s) => k = 1 ∧ K s.size (s.data.toList.map fun b => V.val (.int .u8 b.toNat))
  | _ => False

def noInt : TypeDesc → Prop | .int _ => False | _ => True

def appendV (P : Program) (t u : TypeId) (x y : V) (σ : Store) (K : V → Store → Prop) : Prop :=
  match P.underlying t, P.underlying u with
  | some (.slice e), some d => noInt d ∧ (P.info? e).isSome = true ∧ P.cellsOf e ≠ 0 ∧ rowV (P.cellsOf e) y σ fun m news =>
    (∀ c ∈ news, c.one = true) ∧ match x with
    | .sl b off n cap => (match σ b with
      | some (.cells cs) => off + cap * P.cellsOf e ≤ cs.length ∧ n ≤ cap ∧ cap ≤ maxLen ∧
        (n + m ≤ cap → K (.sl b off (n + m) cap) (σ.set b (.cells (setL cs (off + n * P.cellsOf e) news)))) ∧
        (cap < n + m → n + m ≤ maxLen ∧ (n + m) * P.bytesOf e ≤ 140737488355328 ∧ (zeroV P e).map List.length = some (P.cellsOf e) ∧
          ∀ b' cap', σ b' = none → n + m ≤ cap' → cap' ≤ maxLen → K (.sl b' 0 (n + m) cap') (σ.set b' (.cells ((cs.drop off).take (n * P.cellsOf e) ++ news ++ List.replicate ((cap' - (n + m)) * P.cellsOf e) .top))))
      | _ => False)
    | .val (.slice none 0 0) => (m = 0 → K (.val (.slice none 0 0)) σ) ∧ (0 < m → m ≤ maxLen ∧ m * P.bytesOf e ≤ 140737488355328 ∧ (zeroV P e).map List.length = some (P.cellsOf e) ∧
          ∀ b' cap', σ b' = none → m ≤ cap' → cap' ≤ maxLen → K (.sl b' 0 m cap') (σ.set b' (.cells (news ++ List.replicate ((cap' - m) * P.cellsOf e) .top))))
    | .lst _ _ => m = 0 ∧ K x σ
    | _ => False
  | _, _ => False

/-- append(nil, make([]E, n)...). -/
def appendN (P : Program) (t : TypeId) (x y : V) (σ : Store) (K : V → Store → Prop) : Prop :=
  match P.underlying t, x, y with
  | some (.slice e), .val (.slice none 0 0), .val (.int _ n) => (P.info? e).isSome = true ∧ P.cellsOf e ≠ 0 ∧ 0 ≤ n ∧ n.toNat ≤ maxLen ∧ n.toNat * P.bytesOf e ≤ 140737488355328 ∧ (zeroV P e).map List.length = some (P.cellsOf e) ∧
    (n = 0 → K (.val (.slice none 0 0)) σ) ∧ (0 < n → ∀ b' cap', σ b' = none → n.toNat ≤ cap' → cap' ≤ maxLen → K (.sl b' 0 n.toNat cap') (σ.set b' (.cells (List.replicate (cap' * P.cellsOf e) .top))))
  | _, _, _ => False
def capV (P : Program) (t : TypeId) (x : V) (σ : Store) (K : V → Store → Prop) : Prop :=
  match P.underlying t, x with
  | some (.slice _), .val (.slice none 0 0) => K (.val (.int .i64 0)) σ
  | some (.slice _), .sl _ _ _ cap => K (.val (.int .i64 cap)) σ
  | _, _ => False

def minI (l : List V) : Option V :=
  match l with
  | [.val (.int k a), .val (.int k' b)] => if k = k' then some (.val (.int k (if b < a then b else a))) else none
  | _ => none
def maxI (l : List V) : Option V :=
  match l with
  | [.val (.int k a), .val (.int k' b)] => if k = k' then some (.val (.int k (if b > a then b else a))) else none
  | _ => none

def builtinV (P : Program) (b : Builtin) (ts : List TypeId) (xs : List V) (σ : Store) (K : V → Store → Prop) : Prop :=
  match b, ts, xs with
  | .len, t :: _, [x] => lenV P t x σ K
  | .append, [t, u], [x, y] => (match P.underlying u with | some (.int _) => appendN P t x y σ K | _ => appendV P t u x y σ K)
  | .min, _, xs => match minI xs with | some x => K x σ | none => False
  | .max, _, xs => match maxI xs with | some x => K x σ | none => False
  | .cap, t :: _, [x] => capV P t x σ K
  | _, _, _ => False

/-- A function with a body, by whose name the model does nothing of its own. -/
def entersB (P : Program) (f : FuncId) : Bool := match P.funcs[f]? with | some fn => !(fn.name == "runtime.NumGoroutine") && fn.body.isSome | none => false

def callV (P : Program) (f : V) (xs : List V) (σ : Store) (K KP : V → Store → Prop) : Prop :=
  match f with
  | .fn (.func g) ps qs => entersB P g = true ∧ HCalls P g (ps ++ xs ++ qs) σ (fun r σ' => match r with | .ret x => K x σ' | .pan x => KP x σ')
  | _ => False

def panicV (x : V) (σ : Store) (KP : V → Store → Prop) : Prop := match x with | .ifc _ _ => KP x σ | _ => False

/-- Only where it is that type. -/
def typeAssertV (P : Program) (a : TypeId) (ok : Bool) (x : V) (σ : Store) (K : V → Store → Prop) : Prop :=
  match x with
  | .ifc t y => t = a ∧ (match P.underlying a with | some (.interface _) => False | some _ => K (if ok = true then .tup [y, .val (.bool true)] else y) σ | none => False)
  | _ => False

def opV (P : Program) (ρ : Operand → V) (o : Oper) (σ : Store) (K KP : V → Store → Prop) : Prop :=
  match o.op with
  | .move x | .assign x => K (ρ x) σ
  | .pick c a b => pickV (ρ c) (ρ a) (ρ b) σ K
  | .alloc t => allocV P t σ K
  | .box _ x => boxV (ρ x) σ K
  | .build t parts => buildV P t (parts.toList.map fun (i, x) => (i, ρ x)) σ K
  | .buildSlice t n parts => buildSliceV P t n (parts.toList.map fun (i, x) => (i, ρ x)) σ K
  | .load t a => loadV P t (ρ a) σ K
  | .store t a x => storeV P t (ρ a) (ρ x) σ K
  | .nilCheck x => nilCheckV (ρ x) σ K
  | .binOp op t x y _ => binV P op t (ρ x) (ρ y) σ K
  | .unOp op _ x => unV op (ρ x) σ K
  | .convert s d x => convertV P s d (ρ x) σ K
  | .makeInterface t x => (match P.underlying t with | some (.interface _) => False | some _ => K (.ifc t (ρ x)) σ | none => False)
  | .makeFunc f first captured => K (.fn f (first.toList.map ρ) (captured.toList.map ρ)) σ
  | .makeSlice t l c => makeSliceV P t (ρ l) (ρ c) σ K
  | .slice t x lo hi mx => sliceV P t (ρ x) (lo.map ρ) (hi.map ρ) (mx.map ρ) σ K
  | .fieldAddr s x i => fieldAddrV P s (ρ x) i σ K
  | .field s x i => fieldV P s (ρ x) i σ K
  | .indexAddr t x i => indexAddrV P t (ρ x) (ρ i) σ K
  | .index t x i => indexV P t (ρ x) (ρ i) σ K
  | .extract x i => extractV (ρ x) i σ K
  | .call c => (match c.callee with
    | .value f => callV P (ρ f) (c.args.toList.map ρ) σ K KP
    | .builtin b => builtinV P b c.argTypes.toList (c.args.toList.map ρ) σ K
    | .invoke _ _ => False)
  | .panic x => panicV (ρ x) σ KP
  | .typeAssert x _ a ok => typeAssertV P a ok (ρ x) σ K
  | _ => False

end Go.Proofs.YtociliegljoldaaGreat

/- Own framework, part c: the model does what part b says, operation by operation. -/
namespace Go.Proofs.YtociliegljoldaaGreat
set_option linter.unusedSimpArgs false
set_option linter.unusedVariables false
open Go.RowKit

/-- What the model's run of an operation comes to, told over abstract values. -/
def Upon (P : Program) (I : Imm) (w : World) (K KP : V → Store → Prop) : Result Next → Prop
  | .ok (.value v) w' => Bel w w' ∧ ∃ I' x σ', I.le I' ∧ StR σ' I' w' ∧ VR I' x v ∧ K x σ'
  | .ok .skip w' => Bel w w' ∧ ∃ I' σ', I.le I' ∧ StR σ' I' w' ∧ K .top σ'
  | .ok (.enter f args) w' => Bel w w' ∧ Calls P f args w' fun e w'' => Bel w' w'' ∧ ∃ I' σ', I.le I' ∧ StR σ' I' w'' ∧
      ((∃ r v, e = .returned v ∧ VR I' r v ∧ K r σ') ∨ (∃ r v, e = .panicked [{ v := v, recovered := false }] ∧ VR I' r v ∧ KP r σ'))
  | .halt (.panic v) w' => Bel w w' ∧ ∃ I' x σ', I.le I' ∧ StR σ' I' w' ∧ VR I' x v ∧ KP x σ'
  | _ => False

section
variable {P : Program} {I : Imm} {w : World} {K KP : V → Store → Prop} {σ : Store}

theorem Upon.val {x : V} {v : Value} (hs : StR σ I w) (hx : VR I x v) (hk : K x σ) : Upon P I w K KP (.ok (.value v) w) :=
  ⟨Bel.refl _, I, x, σ, Imm.le_refl I, hs, hx, hk⟩

theorem below_alloc (w : World) {c : Array Value} {t : TypeId} : Bel w (w.alloc (.cells c t)) := (Bel.refl w).alloc c t

theorem blkR_new {cs : List V} {vs : List Value} (t : TypeId) (h : LR I cs vs) : BlkR I (.cells cs) (.cells vs.toArray t) :=
  ⟨fun j _ => by simp, by simpa using h⟩

/-- A new row. -/
theorem StR.new {cs : List V} {vs : Array Value} (hs : StR σ I w) (t : TypeId) (h : LR I cs vs.toList) : StR (σ.set w.heap.size (.cells cs)) I (w.alloc (.cells vs t)) :=
  hs.alloc (fun b hb => Below.heap_alloc w _ b hb) (heap_alloc_new w _) (by
    have := blkR_new (I := I) t h; simpa using this)

theorem loadB {cs : List V} {b : Nat} (hs : StR σ I w) (hb : σ b = some (.cells cs)) {j : Nat} {c : V} (hj : cs[j]? = some c) : ∃ v, w.cell? ⟨b, j, none⟩ = some v ∧ VR I c v := by
  obtain ⟨o, ho, hk⟩ := hs.own b _ hb
  cases o with
  | cells arr el fr =>
    obtain ⟨_, hlr⟩ := hk
    have hl := hlr.len
    have hlt : j < cs.length := (List.getElem?_eq_some_iff.1 hj).1
    have hja : j < arr.size := by simpa [hl] using hlt
    refine ⟨arr[j], by simp [World.cell?, ho, hja], hlr.at_ j c _ hj (by simp [hja])⟩
  | _ => exact hk.elim

theorem cellsB {cs : List V} {b : Nat} (hs : StR σ I w) (hb : σ b = some (.cells cs)) : ∃ vs : List Value, LR I cs vs ∧ ∀ (j : Nat) v, vs[j]? = some v → w.cell? ⟨b, j, none⟩ = some v := by
  obtain ⟨o, ho, hk⟩ := hs.own b _ hb
  cases o with
  | cells arr el fr => exact ⟨arr.toList, hk.2, fun j v hv => by simp [World.cell?, ho]; simpa using hv⟩
  | _ => exact hk.elim

theorem run_isAgg {t : TypeId} {d : TypeDesc} (h : P.underlying t = some d) : (isAgg t).run P w = .ok (aggD d) w := by
  simp only [isAgg, Sem.run_bind, run_underlying h, Result.andThen_ok]
  cases d <;> rfl

theorem info_of_und {t : TypeId} {d : TypeDesc} (h : P.underlying t = some d) : ∃ i, P.info? t = some i := by
  unfold Program.underlying at h
  cases e : P.info? t with
  | some i => exact ⟨i, rfl⟩
  | none => simp [e] at h

theorem run_sizeOf' {t : TypeId} (h : (P.info? t).isSome = true) : (sizeOf t).run P w = .ok (P.cellsOf t) w := by
  cases e : P.info? t with
  | none => simp [e] at h
  | some i => simp [sizeOf, typeInfo, e, Program.cellsOf]

theorem run_sizeOf_und {t : TypeId} {d : TypeDesc} (h : P.underlying t = some d) : (sizeOf t).run P w = .ok (P.cellsOf t) w := by
  obtain ⟨i, hi⟩ := info_of_und h; exact run_sizeOf' (by simp [hi])

theorem kindB_some {t : TypeId} {b : Bool} (h : kindB P t = some b) : ∃ d, P.underlying t = some d ∧ aggD d = b := by
  unfold kindB at h
  cases e : P.underlying t with
  | none => simp [e] at h
  | some d => refine ⟨d, rfl, ?_⟩; simpa [e] using h

/-- Reading a variable at a place whose cells are known. -/
theorem run_loadVar {t : TypeId} {b o off : Nat} {cs : List V} {vs : List Value} {KL : V → Prop} (hl : LR I cs vs) (hc : ∀ (j : Nat) v, vs[j]? = some v → w.cell? ⟨b, o + j, none⟩ = some v)
    (h : loadL P t cs off KL) : ∃ v x, (loadVar t ⟨b, o + off, none⟩).run P w = .ok v w ∧ VR I x v ∧ KL x := by
  unfold loadL at h
  split at h
  · rename_i hk
    obtain ⟨d, hd, hb⟩ := kindB_some hk
    obtain ⟨hle, hK⟩ := h
    have hlen := hl.len
    refine ⟨.agg (((vs.drop off).take (P.cellsOf t)).toArray), _, ?_, VR.mk_agg ((hl.drop off).take _), hK⟩
    simp only [loadVar, Sem.run_bind, run_isAgg hd, Result.andThen_ok, hb, if_true, run_sizeOf_und hd, Sem.run_pure]
    have hn : ((vs.drop off).take (P.cellsOf t)).length = P.cellsOf t := by simp; omega
    have hrun := run_loadCells_list (P := P) w ⟨b, o + off, none⟩ ((vs.drop off).take (P.cellsOf t)) (fun j v hv => by
      rw [Addr.add_lit, Nat.add_assoc]
      apply hc
      rw [List.getElem?_take] at hv
      split at hv
      · rw [List.getElem?_drop] at hv; exact hv
      · cases hv)
    rw [hn] at hrun
    rw [hrun]; rfl
  · rename_i hk
    obtain ⟨d, hd, hb⟩ := kindB_some hk
    split at h
    · exact h.elim
    · rename_i c hc'
      have hlen := hl.len
      have hlt := (List.getElem?_eq_some_iff.1 hc').1
      refine ⟨vs[off]'(by omega), c, ?_, hl.at_ off c _ hc' (by simp [show off < vs.length by omega]), h⟩
      have h0 := hc off _ (List.getElem?_eq_getElem (show off < vs.length by omega))
      simp only [loadVar, Sem.run_bind, run_isAgg hd, Result.andThen_ok, hb, Bool.false_eq_true, if_false, run_load, h0]
  · exact h.elim

theorem inv_ro {cs : List V} {v : Value} (h : VR I (.ro cs) v) : ∃ b off arr el fr, v = .pointer (some ⟨b, off, none⟩) ∧ I b = some (.cells arr el fr) ∧ off + cs.length ≤ arr.size ∧ LR I cs ((arr.toList.drop off).take cs.length) := by
  cases h with
  | ro _ b off arr el fr h hb hx =>
    refine ⟨b, off, arr, el, fr, rfl, h, hb, by simp; omega, fun j x v hx' hv => hx j x v hx' ?_⟩
    rw [List.getElem?_take] at hv
    split at hv
    · rw [List.getElem?_drop] at hv; simpa using hv
    · cases hv

theorem loadV_run {t : TypeId} {a : V} {va : Value} (hs : StR σ I w) (ha : VR I a va) (h : loadV P t a σ K) : ∃ ad v x, va = .pointer (some ad) ∧ (loadVar t ad).run P w = .ok v w ∧ VR I x v ∧ K x σ := by
  unfold loadV at h
  split at h
  · rename_i b off
    cases ha
    split at h
    · rename_i cs hb
      obtain ⟨vs, hl, hc⟩ := cellsB hs hb
      obtain ⟨v, x, hrun, hx, hk⟩ := run_loadVar (w := w) (b := b) (o := 0) hl (fun j v hv => by rw [Nat.zero_add]; exact hc _ v hv) h
      rw [Nat.zero_add] at hrun
      exact ⟨_, v, x, rfl, hrun, hx, hk⟩
    · exact h.elim
  · obtain ⟨b, off, arr, el, fr, rfl, hi, hb, hl⟩ := inv_ro ha
    have hh := hs.imm b _ hi
    obtain ⟨v, x, hrun, hx, hk⟩ := run_loadVar (w := w) (b := b) (o := off) hl (fun j v hv => by
      rw [List.getElem?_take] at hv
      split at hv
      · rw [List.getElem?_drop] at hv; simp [World.cell?, hh]; simpa using hv
      · cases hv) h
    exact ⟨_, v, x, rfl, hrun, hx, hk⟩
  · exact h.elim

theorem load_ok {t : TypeId} {a : V} {v : Value} (hs : StR σ I w) (ha : VR I a v) (h : loadV P t a σ K) : Upon P I w K KP ((do pure (.value (← Instr.loadAt t v)) : Sem Next).run P w) := by
  obtain ⟨ad, u, x, rfl, hrun, hx, hk⟩ := loadV_run hs ha h
  simp only [Instr.loadAt, Instr.sureAddr, Sem.run_bind, Sem.run_pure, Result.andThen_ok, hrun]
  exact Upon.val hs hx hk

theorem new_ok {t : TypeId} {cs : List V} {v : Value} (hs : StR σ I w) (hl : LR I cs v.cells.toList) (h : newV cs σ K) : Upon P I w K KP ((do pure (.value (.pointer (some (← newVar t v)))) : Sem Next).run P w) := by
  simp only [newVar, newRow, Sem.run_bind, run_newObj, Result.andThen_ok, Sem.run_pure]
  exact ⟨below_alloc w, I, _, _, Imm.le_refl I, hs.new t hl, .ptr _ _, h _ hs.fresh_own⟩

theorem LR.vals (I : Imm) (vs : List Value) : LR I (vs.map V.val) vs := by
  have := LR.map (I := I) (f := V.val) (g := id) (fun a => VR.val a) vs
  simpa using this

theorem zeroV_run {t : TypeId} {cs : List V} (h : zeroV P t = some cs) : ∃ z, (zeroValue t).run P w = .ok z w ∧ LR I cs z.cells.toList ∧ cs.length = z.cells.size := by
  unfold zeroV at h
  cases e : P.info? t with
  | none => simp [e] at h
  | some i =>
    simp only [e, Option.bind_some, Option.map_eq_some_iff] at h
    obtain ⟨z, hz, rfl⟩ := h
    exact ⟨z, by simp [zeroValue, typeInfo, e, hz], LR.vals I _, by simp⟩

theorem alloc_ok {t : TypeId} (hs : StR σ I w) (h : allocV P t σ K) : Upon P I w K KP ((do pure (.value (← Instr.alloc t true (.tuple #[]))) : Sem Next).run P w) := by
  unfold allocV at h
  split at h
  · rename_i cs hz
    obtain ⟨z, hrun, hl, _⟩ := zeroV_run (I := I) (w := w) hz
    have := new_ok (P := P) (t := t) (KP := KP) hs hl h
    simp only [Instr.alloc, Sem.run_bind, hrun, Result.andThen_ok] at this ⊢
    exact this
  · exact h.elim

theorem box_ok {t : TypeId} {x : V} {v : Value} (hs : StR σ I w) (hx : VR I x v) (h : boxV x σ K) : Upon P I w K KP ((do pure (.value (← Instr.box t v)) : Sem Next).run P w) := by
  have := new_ok (P := P) (t := t) (KP := KP) hs (hx.cells h.1) h.2
  simp only [Instr.box, Sem.run_bind, Result.andThen_ok] at this ⊢
  exact this

theorem LR.setL {cs : List V} {vs : List Value} (h : LR I cs vs) : ∀ (ys : List V) (us : List Value) (off : Nat), LR I ys us → LR I (setL cs off ys) (us.zipIdx.foldl (fun cs (c, j) => cs.set (off + j) c) vs) := by
  intro ys
  induction ys generalizing cs vs with
  | nil => intro us off hu; obtain rfl : us = [] := List.eq_nil_of_length_eq_zero (by simpa using hu.len.symm); exact h
  | cons y ys ih =>
    intro us off hu
    cases us with
    | nil => have := hu.len; simp at this
    | cons u us =>
      simp only [Go.Proofs.YtociliegljoldaaGreat.setL, List.zipIdx_cons, List.foldl_cons, Nat.add_zero]
      have := ih (h.set off hu.head) us (off + 1) hu.tail
      rw [show us.zipIdx (0 + 1) = us.zipIdx.map (fun p => (p.1, p.2 + 1)) by rw [Nat.zero_add, List.zipIdx_eq_map_add]; simp [Nat.add_comm]] 
      rw [List.foldl_map]
      simpa [Nat.add_assoc, Nat.add_comm 1] using this

/-- The cells of a literal. -/
theorem fill_ok (place : Nat → Option (Nat × Nat)) : ∀ (parts : List (Nat × V)) (ps : List (Nat × Value)) (cs : List V) (vs : Array Value) (out : List V), LR I cs vs.toList →
    (parts.length = ps.length ∧ ∀ (j : Nat) p q, parts[j]? = some p → ps[j]? = some q → p.1 = q.1 ∧ VR I p.2 q.2) → fillV place cs parts = some out →
    ∃ us, Instr.fill place vs ps = some us ∧ LR I out us.toList := by
  intro parts
  induction parts with
  | nil =>
    intro ps cs vs out hl hp h
    have : ps = [] := List.eq_nil_of_length_eq_zero (by simpa using hp.1.symm)
    subst this
    simp only [fillV, Option.some.injEq] at h
    subst h
    exact ⟨vs, rfl, hl⟩
  | cons p parts ih =>
    intro ps cs vs out hl hp h
    cases ps with
    | nil => simp at hp
    | cons q ps =>
      obtain ⟨i, x⟩ := p
      obtain ⟨i', u⟩ := q
      have h0 := hp.2 0 _ _ rfl rfl
      simp only at h0
      obtain ⟨rfl, hx⟩ := h0
      unfold fillV at h
      unfold Instr.fill
      cases e : place i with
      | none => simp [e] at h
      | some os =>
        obtain ⟨off, size⟩ := os
        simp only [e] at h ⊢
        split at h
        · rename_i hc
          obtain ⟨hc1, hc2, hc3⟩ := hc
          have hxc := hx.cells hc1
          have hxl := hxc.len
          have hll := hl.len
          simp only [Array.length_toList] at hxl hll
          rw [if_neg (by simp; omega)]
          refine ih ps _ _ out ?_ ⟨by simpa using hp.1, fun j p q a b => hp.2 (j + 1) p q (by simpa using a) (by simpa using b)⟩ h
          have := hl.setL _ _ off hxc
          rw [← Array.foldl_toList, Array.toList_zipIdx]
          clear ih
          generalize u.cells.toList.zipIdx = l at this ⊢
          have key : ∀ (l : List (Value × Nat)) (vs : Array Value), (l.foldl (fun cs (c, j) => cs.setIfInBounds (off + j) c) vs).toList = l.foldl (fun cs (c, j) => cs.set (off + j) c) vs.toList := by
            intro l
            induction l with
            | nil => intro vs; rfl
            | cons a l ih => intro vs; simp only [List.foldl_cons]; rw [ih]; simp
          rw [key]
          exact this
        · cases h

theorem parts_map {ρ : Operand → V} {ρc : Operand → Value} (hρ : ∀ x, VR I (ρ x) (ρc x)) (parts : Array (Nat × Operand)) :
    (parts.toList.map fun (i, x) => (i, ρ x)).length = ((parts.map fun (i, x) => (i, ρc x)).toList).length ∧
    ∀ (j : Nat) p q, (parts.toList.map fun (i, x) => (i, ρ x))[j]? = some p → ((parts.map fun (i, x) => (i, ρc x)).toList)[j]? = some q → p.1 = q.1 ∧ VR I p.2 q.2 := by
  refine ⟨by simp, fun j p q hp hq => ?_⟩
  simp only [Array.toList_map, List.getElem?_map] at hp hq
  cases e : parts.toList[j]? with
  | none => simp [e] at hp
  | some a => simp [e] at hp hq; subst hp; subst hq; exact ⟨rfl, hρ _⟩

theorem mapM_size {fields : List Field} (h : fields.all (fun f => (P.info? f.type).isSome) = true) : (fields.mapM fun f => (do pure (f.offset, ← sizeOf f.type) : Sem (Nat × Nat))).run P w = .ok (fields.map fun f => (f.offset, P.cellsOf f.type)) w := by
  induction fields with
  | nil => simp [List.mapM_nil]
  | cons f fs ih =>
    simp only [List.all_cons, Bool.and_eq_true] at h
    simp only [List.mapM_cons, Sem.run_bind, run_sizeOf' h.1, Result.andThen_ok, Sem.run_pure, ih h.2, List.map_cons]

theorem build_ok {t : TypeId} {ρ : Operand → V} {ρc : Operand → Value} (hρ : ∀ x, VR I (ρ x) (ρc x)) (parts : Array (Nat × Operand)) (hs : StR σ I w)
    (h : buildV P t (parts.toList.map fun (i, x) => (i, ρ x)) σ K) : Upon P I w K KP ((do pure (.value (← Instr.build t (parts.map fun (i, x) => (i, ρc x)))) : Sem Next).run P w) := by
  unfold buildV at h
  split at h
  · rename_i place z hpl hz
    obtain ⟨zv, hrun, hl, hlen⟩ := zeroV_run (I := I) (w := w) hz
    split at h
    · rename_i cs hf
      obtain ⟨us, hfill, hlr⟩ := fill_ok (I := I) place _ _ _ zv.cells _ hl (parts_map hρ parts) hf
      simp only [Instr.build, Sem.run_bind, hrun, Result.andThen_ok]
      unfold placesB at hpl
      split at hpl
      · rename_i fields hu
        split at hpl
        · rename_i hall
          simp only [Option.some.injEq] at hpl
          simp only [run_underlying hu, Result.andThen_ok, Sem.run_bind]
          have hm := mapM_size (P := P) (w := w) hall
          rw [Array.mapM_eq_mapM_toList]
          simp only [Sem.run_map, hm, Result.andThen_ok]
          have hpe : (fun i => (fields.toList.map fun f => (f.offset, P.cellsOf f.type)).toArray[i]?) = place := by subst hpl; funext i; simp
          rw [hpe, hfill]
          exact Upon.val hs (.agg _ _ (by simpa using hlr.len) fun j c v a b => hlr.at_ j c v a (by simpa using b)) h
        · cases hpl
      · rename_i n e hu
        split at hpl
        · rename_i hi
          simp only [Option.some.injEq] at hpl
          simp only [run_underlying hu, Result.andThen_ok, Sem.run_bind, run_sizeOf' hi]
          subst hpl
          simp only [hfill]
          exact Upon.val hs (.agg _ _ (by simpa using hlr.len) fun j c v a b => hlr.at_ j c v a (by simpa using b)) h
        · cases hpl
      · cases hpl
    · exact h.elim
  · exact h.elim

end
end Go.Proofs.YtociliegljoldaaGreat

/- Own framework, part d: the model does what part b says, more operations. -/
namespace Go.Proofs.YtociliegljoldaaGreat
set_option linter.unusedSimpArgs false
set_option linter.unusedVariables false
open Go.RowKit

section
variable {P : Program} {I : Imm} {w : World} {K KP : V → Store → Prop} {σ : Store}

theorem LR.toArray {cs : List V} {vs : Array Value} (h : LR I cs vs.toList) : cs.length = vs.size := by simpa using h.len

theorem repL_ok {z : List V} {zs : Array Value} (hl : LR I z zs.toList) (n : Nat) : LR I (repL z n) ((Array.range n).map (fun i => zs[i % zs.size]!)).toList := by
  have hlen := hl.len
  refine ⟨by simp [repL], fun j x v hx hv => ?_⟩
  simp only [repL, List.getElem?_map, Array.toList_map, Array.toList_range] at hx hv
  cases e : (List.range n)[j]? with
  | none => simp [e] at hx
  | some a =>
    simp only [e, Option.map_some, Option.some.injEq] at hx hv
    subst hx; subst hv
    have := hl.getD (a % z.length) default
    simp only [Array.length_toList] at hlen
    rw [hlen] at this ⊢
    simpa [List.getD_eq_getElem?_getD, Array.getElem!_eq_getD, Array.getD_eq_getD_getElem?] using this

theorem buildSlice_ok {t : TypeId} {n : Nat} {ρ : Operand → V} {ρc : Operand → Value} (hρ : ∀ x, VR I (ρ x) (ρc x)) (parts : Array (Nat × Operand)) (hs : StR σ I w)
    (h : buildSliceV P t n (parts.toList.map fun (i, x) => (i, ρ x)) σ K) : Upon P I w K KP ((do pure (.value (← Instr.buildSlice t n (parts.map fun (i, x) => (i, ρc x)))) : Sem Next).run P w) := by
  unfold buildSliceV at h
  split at h
  · rename_i e hu
    obtain ⟨hi, hsz, h⟩ := h
    split at h
    · rename_i z hz
      obtain ⟨zv, hrun, hl, hlen⟩ := zeroV_run (I := I) (w := w) hz
      split at h
      · rename_i cs hf
        by_cases h0 : n * P.cellsOf e = 0
        · have hrl : LR I (repL z (n * P.cellsOf e)) ((Array.range (n * P.cellsOf e)).map (fun i => (#[] : Array Value)[i % (#[] : Array Value).size]!)).toList := by
            rw [h0]; exact ⟨by simp [repL], fun j x v hx _ => by simp [repL] at hx⟩
          obtain ⟨us, hfill, hlr⟩ := fill_ok (I := I) _ _ _ _ _ _ hrl (parts_map hρ parts) hf
          simp only [Instr.buildSlice, Sem.run_bind, run_underlying hu, Result.andThen_ok, run_sizeOf' hi, if_neg (show ¬ (n * P.cellsOf e > 2 ^ 24) by omega), Sem.run_pure, if_pos h0, hfill, newRow, run_newObj]
          exact ⟨below_alloc w, I, _, _, Imm.le_refl I, hs.new e hlr, .sl _ _ _ _, h _ hs.fresh_own⟩
        · have hrl := repL_ok hl (n * P.cellsOf e)
          obtain ⟨us, hfill, hlr⟩ := fill_ok (I := I) _ _ _ _ _ _ hrl (parts_map hρ parts) hf
          simp only [Instr.buildSlice, Sem.run_bind, run_underlying hu, Result.andThen_ok, run_sizeOf' hi, if_neg (show ¬ (n * P.cellsOf e > 2 ^ 24) by omega), Sem.run_pure, if_neg h0, hrun, hfill, newRow, run_newObj]
          exact ⟨below_alloc w, I, _, _, Imm.le_refl I, hs.new e hlr, .sl _ _ _ _, h _ hs.fresh_own⟩
      · exact h.elim
    · exact h.elim
  · exact h.elim

theorem world_lt {b : Nat} {o : Obj} (h : w.heap[b]? = some o) : b < w.heap.size := (Array.getElem?_eq_some_iff.1 h).1

/-- One store into an owned block. -/
theorem StR.setCell {cs : List V} {b j : Nat} {x : V} {v : Value} (hs : StR σ I w) (hb : σ b = some (.cells cs)) (hx : VR I x v) :
    StR (σ.set b (.cells (cs.set j x))) I (w.setCell ⟨b, j, none⟩ v) := by
  obtain ⟨o, ho, hk⟩ := hs.own b _ hb
  cases o with
  | cells arr el fr =>
    have hne : ∀ c, c ≠ b → (w.setCell ⟨b, j, none⟩ v).heap[c]? = w.heap[c]? := fun c hc => Below.heap_setCell w ⟨b, j, none⟩ v c hc
    have hnew : (w.setCell ⟨b, j, none⟩ v).heap[b]? = some (.cells (arr.setIfInBounds j v) el fr) := by
      simp [World.setCell, Array.getElem?_modify, ho]
    refine ⟨fun c o' e => ?_, fun c k e => ?_, fun c k e => ?_⟩
    · by_cases hc : c = b
      · rw [hc, hs.sep b _ hb] at e; cases e
      · rw [hne c hc]; exact hs.imm c o' e
    · simp only [Store.set] at e
      split at e
      · rename_i hc; cases e; rw [hc]
        refine ⟨_, hnew, fun i hi => hk.1 i (by simpa using hi), ?_⟩
        have := hk.2.set j hx
        simpa using this
      · rename_i hc; obtain ⟨o', h1, h2⟩ := hs.own c k e; exact ⟨o', by rw [hne c hc]; exact h1, h2⟩
    · simp only [Store.set] at e
      split at e
      · rename_i hc; rw [hc]; exact hs.sep b _ hb
      · exact hs.sep c k e
  | _ => exact hk.elim

theorem below_setCell (w : World) (a : Addr) (v : Value) : Bel w (w.setCell a v) := (Bel.refl w).setCell a v

theorem frozenB {cs : List V} {b j : Nat} (hs : StR σ I w) (hb : σ b = some (.cells cs)) (hj : j < cs.length) : w.frozen? ⟨b, j, none⟩ = false := by
  obtain ⟨o, ho, hk⟩ := hs.own b _ hb
  cases o with
  | cells arr el fr =>
    have hl := hk.2.len
    simp only [Array.length_toList] at hl
    simp only [World.frozen?, ho]
    exact hk.1 j (by omega)
  | _ => exact hk.elim

theorem run_storeCells_own {b : Nat} : ∀ (ys : List V) (us : List Value) (off i : Nat) (cs : List V) (σ : Store) (w : World), StR σ I w → σ b = some (.cells cs) → LR I ys us →
    (∀ c ∈ ys, c.one = true) → off + i + ys.length ≤ cs.length → ∃ w', (storeCells ⟨b, off, none⟩ us i).run P w = .ok () w' ∧ StR (σ.set b (.cells (setL cs (off + i) ys))) I w' ∧ Bel w w' := by
  intro ys
  induction ys with
  | nil =>
    intro us off i cs σ w hs hb hl _ _
    obtain rfl : us = [] := List.eq_nil_of_length_eq_zero (by simpa using hl.len.symm)
    refine ⟨w, rfl, ?_, Bel.refl _⟩
    simp only [setL]
    refine hs.sub fun c k e => ?_
    simp only [Store.set] at e; split at e
    · rename_i hc; rw [hc, hb, ← e]
    · exact e
  | cons y ys ih =>
    intro us off i cs σ w hs hb hl h1 hlen
    cases us with
    | nil => have := hl.len; simp at this
    | cons u us =>
      simp only [List.length_cons] at hlen
      have hj : off + i < cs.length := by omega
      obtain ⟨v0, hc0, _⟩ := loadB hs hb (List.getElem?_eq_getElem hj)
      have hs' := hs.setCell (j := off + i) hb hl.head
      obtain ⟨w', hrun, hst, hbel⟩ := ih us off (i + 1) (cs.set (off + i) y) _ _ hs' (Store.set_same _ _ _) hl.tail (fun c hc => h1 c (List.mem_cons_of_mem _ hc)) (by simp; omega)
      refine ⟨w', ?_, ?_, (below_setCell w _ u).trans hbel⟩
      · simp only [storeCells, Sem.run_bind, Addr.add_lit]
        rw [run_store P w _ u _ (hl.head.one (h1 y (List.mem_cons_self ..)))]
        simp only [hc0, frozenB hs hb hj, Bool.false_eq_true, if_false, Result.andThen_ok]
        exact hrun
      · rw [Store.set_set] at hst
        simpa [setL, Nat.add_assoc] using hst

theorem store_ok {t : TypeId} {a x : V} {va vx : Value} (hs : StR σ I w) (ha : VR I a va) (hx : VR I x vx) (h : storeV P t a x σ K) :
    Upon P I w K KP ((do Instr.storeAt t va vx; pure .skip : Sem Next).run P w) := by
  unfold storeV at h
  split at h
  · rename_i b off
    cases ha
    split at h
    · rename_i cs hb
      obtain ⟨h1, h2, h3, h4, h5, h6⟩ := h
      have hc := hx.cells h1
      have hcl := hc.len
      simp only [Array.length_toList] at hcl
      obtain ⟨w', hrun, hst, hbel⟩ := run_storeCells_own (P := P) (I := I) (b := b) x.cells _ off 0 cs σ w hs hb hc h4 (by omega)
      simp only [Instr.storeAt, Instr.sureAddr, storeVar, Sem.run_bind, Sem.run_pure, Result.andThen_ok, run_sizeOf' h3, Sem.run_ite]
      rw [if_neg (by simp; omega)]
      simp only [Sem.run_pure, Result.andThen_ok, hrun]
      exact ⟨hbel, I, _, Imm.le_refl I, by simpa using hst, h6⟩
    · exact h.elim
  · exact h.elim

end
end Go.Proofs.YtociliegljoldaaGreat

/- Own framework, part e: '==' on structs and arrays of plain data. -/
namespace Go.Proofs.YtociliegljoldaaGreat
set_option linter.unusedSimpArgs false
set_option linter.unusedVariables false
open Go.RowKit

section
variable {P : Program} {I : Imm} {w : World} {K KP : V → Store → Prop} {σ : Store}

/-- A value of a type out of its cells. -/
def asVal (P : Program) (t : TypeId) (us : List Value) : Value := match kindB P t with | some true => .agg us.toArray | _ => us.headD undef

theorem allEq_len : ∀ {gs : List Nat} {xs ys : List V} {r : Bool}, allEq gs xs ys = some r → xs.length = gs.length ∧ ys.length = gs.length
  | [], [], [], _, _ => ⟨rfl, rfl⟩
  | [], [], _ :: _, _, h => by simp [allEq] at h
  | [], _ :: _, _, _, h => by simp [allEq] at h
  | _ :: _, [], _, _, h => by simp [allEq] at h
  | _ :: _, _ :: _, [], _, h => by simp [allEq] at h
  | g :: gs, x :: xs, y :: ys, r, h => by
    simp only [allEq] at h
    split at h
    · rename_i a b h1 h2; have := allEq_len h2; simp [this]
    · cases h

theorem allEq_split : ∀ {gs : List Nat} (hs : List Nat) {xs ys : List V} {r : Bool}, allEq (gs ++ hs) xs ys = some r →
    ∃ r1 r2, allEq gs (xs.take gs.length) (ys.take gs.length) = some r1 ∧ allEq hs (xs.drop gs.length) (ys.drop gs.length) = some r2 ∧ r = (r1 && r2)
  | [], hs, xs, ys, r, h => ⟨true, r, by simp [allEq], by simpa using h, by simp⟩
  | g :: gs, hs, [], ys, r, h => by simp [allEq] at h
  | g :: gs, hs, _ :: _, [], r, h => by simp [allEq] at h
  | g :: gs, hs, x :: xs, y :: ys, r, h => by
    simp only [List.cons_append, allEq] at h
    split at h
    · rename_i a b h1 h2
      obtain ⟨r1, r2, e1, e2, e3⟩ := allEq_split hs h2
      simp only [Option.some.injEq] at h
      refine ⟨a && r1, r2, by simp [allEq, h1, e1], by simpa using e2, ?_⟩
      rw [← h, e3, Bool.and_assoc]
    · cases h

theorem run_part_cells {t : TypeId} {us : Array Value} {off : Nat} {k : Bool} (hk : kindB P t = some k) (h : off + P.cellsOf t ≤ us.size) (h1 : k = false → P.cellsOf t = 1) :
    (part t us off).run P w = .ok (asVal P t ((us.toList.drop off).take (P.cellsOf t))) w := by
  obtain ⟨d, hd, hb⟩ := kindB_some hk
  simp only [part, Sem.run_bind, run_isAgg hd, Result.andThen_ok, hb]
  cases k with
  | true =>
    simp only [if_true, run_sizeOf_und hd, Result.andThen_ok, Sem.run_bind, Sem.run_pure, asVal, hk]
    congr 2
    apply Array.ext'
    simp [List.take_drop, Nat.add_comm]
  | false =>
    have := h1 rfl
    have hlt : off < us.size := by omega
    simp only [Bool.false_eq_true, if_false, asVal, hk, Array.getElem?_eq_getElem hlt, Sem.run_pure, this]
    congr 1
    rw [List.headD_eq_head?_getD, List.head?_take, List.head?_drop]
    simp [hlt]

theorem leafs_kind {d : Nat} {t : TypeId} {gs : List Nat} (h : leafs P d t = some gs) : ∃ k, kindB P t = some k ∧ (k = false → gs.length = 1) := by
  cases d with
  | zero => simp [leafs] at h
  | succ d =>
    unfold leafs at h
    unfold kindB
    cases hu : P.underlying t with
    | none => simp [hu] at h
    | some k =>
      refine ⟨aggD k, rfl, ?_⟩
      cases k <;> simp only [hu] at h <;> simp only [aggD] <;> first
        | (simp at h; done)
        | (intro; simp at h; subst h; rfl)
        | (intro hh; cases hh)

theorem equalIn_ok : ∀ (d : Nat) (t : TypeId) (gs : List Nat), leafs P d t = some gs → ∀ (D : Nat) (xs ys : List V) (us vs : List Value) (r : Bool) (w : World), d ≤ D → LR I xs us → LR I ys vs →
    allEq gs xs ys = some r → (Op.equalIn D t (asVal P t us) (asVal P t vs)).run P w = .ok r w := by
  intro d
  induction d with
  | zero => intro t gs h; simp [leafs] at h
  | succ d ih =>
    intro t gs h D xs ys us vs r w hD hx hy he
    obtain ⟨D, rfl⟩ : ∃ E, D = E + 1 := ⟨D - 1, by omega⟩
    have hlen := allEq_len he
    have hxl := hx.len
    have hyl := hy.len
    unfold leafs at h
    cases hu : P.underlying t with
    | none => simp [hu] at h
    | some k =>
      have prim : ∀ g, gs = [g] → aggD k = false → ∃ x y u v, xs = [x] ∧ ys = [y] ∧ us = [u] ∧ vs = [v] ∧ VR I x u ∧ VR I y v ∧ eqPrimV g x y = some r ∧ asVal P t us = u ∧ asVal P t vs = v := by
        intro g hg hk
        subst hg
        simp only [List.length_cons, List.length_nil, Nat.zero_add] at hlen
        obtain ⟨x, rfl⟩ := List.length_eq_one_iff.1 hlen.1
        obtain ⟨y, rfl⟩ := List.length_eq_one_iff.1 hlen.2
        obtain ⟨u, rfl⟩ := List.length_eq_one_iff.1 (hxl.symm.trans hlen.1)
        obtain ⟨v, rfl⟩ := List.length_eq_one_iff.1 (hyl.symm.trans hlen.2)
        refine ⟨x, y, u, v, rfl, rfl, rfl, rfl, hx.head, hy.head, ?_, by simp [asVal, kindB, hu, hk], by simp [asVal, kindB, hu, hk]⟩
        simp only [allEq] at he
        cases e : eqPrimV g x y with
        | none => simp [e] at he
        | some a => simp [e] at he; rw [he]
      cases k with
      | int q =>
        simp only [hu, Option.some.injEq] at h
        obtain ⟨x, y, u, v, rfl, rfl, rfl, rfl, h1, h2, h3, h4, h5⟩ := prim 0 h.symm rfl
        rw [h4, h5]
        unfold eqPrimV at h3
        split at h3 <;> (try (exfalso; omega)) <;> (try cases h3)
        cases h1; cases h2
        split at h3
        · rename_i e; subst e; simp only [Option.some.injEq] at h3; subst h3; simp [Op.equalIn, run_underlying hu]
        · cases h3
      | bool =>
        simp only [hu, Option.some.injEq] at h
        obtain ⟨x, y, u, v, rfl, rfl, rfl, rfl, h1, h2, h3, h4, h5⟩ := prim 1 h.symm rfl
        rw [h4, h5]
        unfold eqPrimV at h3
        split at h3 <;> first | (exfalso; omega) | (cases h3; cases h1; cases h2; simp [Op.equalIn, run_underlying hu]; done) | cases h3
      | string =>
        simp only [hu, Option.some.injEq] at h
        obtain ⟨x, y, u, v, rfl, rfl, rfl, rfl, h1, h2, h3, h4, h5⟩ := prim 2 h.symm rfl
        rw [h4, h5]
        unfold eqPrimV at h3
        split at h3 <;> first | (exfalso; omega) | (cases h3; cases h1; cases h2; simp [Op.equalIn, run_underlying hu]; done) | cases h3
      | struct fs =>
        simp only [hu] at h
        split at h
        · cases h
        · rename_i hst
          have hfo : P.fieldsOf t = fs := by simp [Program.fieldsOf, hu]
          have hka : kindB P t = some true := by simp [kindB, hu, aggD]
          simp only [asVal, hka]
          rw [run_equalIn_struct w D t us.toArray vs.toArray (by rw [hfo]; exact hu) (by simpa using hst), hfo]
          -- the fields, one behind the other
          have key : ∀ (fl : List Field) (acc : List Nat) (r1 : Bool), leafs.leafFields (leafs P d) P acc fl = some gs →
              allEq (gs.drop acc.length) (xs.drop acc.length) (ys.drop acc.length) = some r1 → (Op.eqFields D us.toArray vs.toArray fl).run P w = .ok r1 w := by
            intro fl
            induction fl with
            | nil =>
              intro acc r1 hl ha
              simp only [leafs.leafFields, Option.some.injEq] at hl
              subst hl
              rw [List.drop_eq_nil_of_le (Nat.le_refl _), List.drop_eq_nil_of_le (by omega), List.drop_eq_nil_of_le (by omega)] at ha
              simp only [allEq, Option.some.injEq] at ha
              subst ha
              simp [Op.eqFields]
            | cons f fl ihf =>
              intro acc r1 hl ha
              simp only [leafs.leafFields] at hl
              split at hl
              · cases hl
              · rename_i hname
                split at hl
                · cases hl
                · rename_i g hg
                  split at hl
                  · rename_i hgl
                    have hname' : f.name ≠ "_" ∧ f.offset = acc.length := by
                      refine ⟨fun e => hname (.inl e), ?_⟩
                      by_cases e : f.offset = acc.length
                      · exact e
                      · exact absurd (Or.inr e) hname
                    -- gs begins with acc ++ g
                    have hpre : ∃ rest, gs = acc ++ g ++ rest := by
                      have : ∀ (fl : List Field) (acc : List Nat), leafs.leafFields (leafs P d) P acc fl = some gs → ∃ rest, gs = acc ++ rest := by
                        intro fl
                        induction fl with
                        | nil => intro acc h; simp only [leafs.leafFields, Option.some.injEq] at h; exact ⟨[], by simp [h]⟩
                        | cons f fl ih2 =>
                          intro acc h
                          simp only [leafs.leafFields] at h
                          split at h
                          · cases h
                          · split at h
                            · cases h
                            · split at h
                              · obtain ⟨r, hr⟩ := ih2 _ h; exact ⟨_, by rw [hr, List.append_assoc]⟩
                              · cases h
                      exact this fl _ hl
                    obtain ⟨rest, hgs⟩ := hpre
                    have hdrop : gs.drop acc.length = g ++ rest := by rw [hgs, List.append_assoc, List.drop_left]
                    rw [hdrop] at ha
                    obtain ⟨ra, rb, e1, e2, e3⟩ := allEq_split rest ha
                    have hbig : acc.length + g.length ≤ gs.length := by rw [hgs]; simp
                    obtain ⟨k, hk, hk1⟩ := leafs_kind hg
                    have hf1 : k = false → P.cellsOf f.type = 1 := fun e => by rw [← hgl]; exact hk1 e
                    have p1 := run_part_cells (P := P) (w := w) (us := us.toArray) (off := f.offset) hk (by rw [hname'.2, ← hgl]; simp; omega) hf1
                    have p2 := run_part_cells (P := P) (w := w) (us := vs.toArray) (off := f.offset) hk (by rw [hname'.2, ← hgl]; simp; omega) hf1
                    have hrun := ih f.type g hg D _ _ _ _ ra w (by omega) ((hx.drop acc.length).take g.length) ((hy.drop acc.length).take g.length) e1
                    rw [hname'.2, ← hgl] at p1 p2
                    simp only [Op.eqFields, hname'.1, ne_eq, not_false_eq_true, if_true, Sem.run_bind, hname'.2, p1, p2, Result.andThen_ok, hrun]
                    have hrest := ihf (acc ++ g) rb hl (by
                      have e4 : gs.drop (acc ++ g).length = rest := by rw [hgs, List.drop_left]
                      rw [e4]
                      simpa [List.drop_drop, Nat.add_comm] using e2)
                    cases ra
                    · simp [e3]
                    · simp only [Bool.not_true, Bool.false_eq_true, if_false, hrest, e3, Bool.true_and]
                  · cases hl
          refine key fs.toList [] r h (by simpa using he)
      | array n e =>
        simp only [hu] at h
        split at h
        · rename_i g hg
          split at h
          · rename_i hgl
            simp only [Option.some.injEq] at h
            have hka : kindB P t = some true := by simp [kindB, hu, aggD]
            obtain ⟨k, hk, hk1⟩ := leafs_kind hg
            have hf1 : k = false → P.cellsOf e = 1 := fun e => by rw [← hgl]; exact hk1 e
            obtain ⟨dd, hdd, _⟩ := kindB_some hk
            obtain ⟨i, hi⟩ := info_of_und hdd
            simp only [asVal, hka]
            have hnx : gs.length = n * g.length := by rw [← h]; simp
            rw [run_equalIn_array w D us.toArray vs.toArray hu hi]
            have key : ∀ (m j : Nat) (r1 : Bool), j + m = n → allEq ((List.replicate m g).flatten) (xs.drop (j * g.length)) (ys.drop (j * g.length)) = some r1 →
                (Op.eqItems D e (P.cellsOf e) us.toArray vs.toArray (List.range' j m)).run P w = .ok r1 w := by
              intro m
              induction m with
              | zero =>
                intro j r1 hj ha
                have := allEq_len ha
                simp only [List.replicate_zero, List.flatten_nil, List.length_nil] at this ha
                rw [List.eq_nil_of_length_eq_zero this.1, List.eq_nil_of_length_eq_zero this.2] at ha
                simp only [allEq, Option.some.injEq] at ha
                subst ha
                simp [Op.eqItems]
              | succ m ihm =>
                intro j r1 hj ha
                rw [List.replicate_succ, List.flatten_cons] at ha
                have hl2 := allEq_len ha
                simp only [List.length_append, List.length_drop] at hl2
                have hmul : (j + 1) * g.length ≤ n * g.length := Nat.mul_le_mul_right _ (by omega)
                rw [Nat.add_mul, Nat.one_mul] at hmul
                obtain ⟨ra, rb, e1, e2, e3⟩ := allEq_split _ ha
                have p1 := run_part_cells (P := P) (w := w) (us := us.toArray) (off := j * P.cellsOf e) hk (by rw [← hgl]; simp; omega) hf1
                have p2 := run_part_cells (P := P) (w := w) (us := vs.toArray) (off := j * P.cellsOf e) hk (by rw [← hgl]; simp; omega) hf1
                have hrun := ih e g hg D _ _ _ _ ra w (by omega) ((hx.drop (j * g.length)).take g.length) ((hy.drop (j * g.length)).take g.length) e1
                rw [← hgl] at p1 p2
                have hrest := ihm (j + 1) rb (by omega) (by simpa [List.drop_drop, Nat.add_mul, Nat.add_comm] using e2)
                simp only [List.range'_succ, Op.eqItems, Sem.run_bind, ← hgl, p1, p2, Result.andThen_ok, hrun]
                rw [← hgl] at hrest
                cases ra
                · simp [e3]
                · simp only [Bool.not_true, Bool.false_eq_true, if_false, hrest, e3, Bool.true_and]
            have := key n 0 r (by omega) (by rw [h]; simpa using he)
            rw [List.range_eq_range']
            exact this
          · cases h
        · cases h
      | _ => simp [hu] at h

end
end Go.Proofs.YtociliegljoldaaGreat

