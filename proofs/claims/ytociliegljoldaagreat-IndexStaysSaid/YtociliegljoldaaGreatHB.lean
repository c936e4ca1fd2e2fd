import Derived.Test.YtociliegljoldaaGreatHA
import Derived.Laws.IdiomStrings
import Derived.Laws.NewFold
import Derived.Orders
/- Own framework, part f: the model does what part b says: all of it. -/
namespace Go.Proofs.YtociliegljoldaaGreat
set_option linter.unusedSimpArgs false
set_option linter.unusedVariables false
open Go.RowKit

section
variable {P : Program} {I : Imm} {w : World} {K KP : V → Store → Prop} {σ : Store}

theorem Upon.valRun {x : V} {v : Value} {s : Sem Value} (hs : StR σ I w) (hr : s.run P w = .ok v w) (hx : VR I x v) (hk : K x σ) : Upon P I w K KP ((do pure (.value (← s)) : Sem Next).run P w) := by
  simp only [Sem.run_bind, hr, Result.andThen_ok, Sem.run_pure]
  exact Upon.val hs hx hk

theorem eqV_run' (d : Nat) {t : TypeId} {x y : V} {u v : Value} {r : Bool} (hx : VR I x u) (hy : VR I y v) (h : eqV P t x y = some r) : (Op.equalIn (d + 1) t u v).run P w = .ok r w := by
  unfold eqV at h
  split at h
  all_goals first
    | cases h
    | skip
  all_goals (rename_i hu)
  all_goals (cases hx; cases hy)
  all_goals (simp only [Op.equalIn, Sem.run_bind, run_underlying hu, Result.andThen_ok, Sem.run_pure, Option.isNone])

theorem eqV_run {t : TypeId} {x y : V} {u v : Value} {r : Bool} (hx : VR I x u) (hy : VR I y v) (h : eqV P t x y = some r) : (Op.equal t u v).run P w = .ok r w :=
  eqV_run' 9999 hx hy h

theorem eqGuard_skip {op : BinOp} {t : TypeId} {a b : Operand} {u v : Value} (h : ∀ c d, ¬ (u = .agg c ∧ v = .agg d)) (h' : ¬ (u = .nilIface ∧ v = .nilIface)) : (eqGuard op t a b u v).run P w = .ok () w := by
  unfold eqGuard
  cases op <;> first
    | rfl
    | (simp only [Bool.not_true, Bool.false_eq_true, if_false]
       split
       · exact (h' ⟨rfl, rfl⟩).elim
       · exact (h _ _ ⟨rfl, rfl⟩).elim
       · rfl)

theorem bin_ok {op : BinOp} {t : TypeId} {a b : Operand} {x y : V} {u v : Value} (hs : StR σ I w) (hx : VR I x u) (hy : VR I y v) (h : binV P op t x y σ K) :
    Upon P I w K KP ((do pure (.value (← (do eqGuard op t a b u v; binOp op t u v : Sem Value))) : Sem Next).run P w) := by
  unfold binV at h
  split at h
  · -- numbers
    rename_i k m k' n
    cases hx; cases hy
    have hg : (eqGuard op t a b (.int k m) (.int k' n)).run P w = .ok () w := eqGuard_skip (by simp) (by simp)
    split at h
    · rename_i hsh
      cases op <;> simp [isShift] at hsh
      all_goals
        simp only [shiftI] at h
        refine Upon.valRun hs ?_ (.val _) h.2
        simp only [Sem.run_bind, hg, Result.andThen_ok, binOp, Op.shift]
        rw [if_neg (by omega)]
        rfl
    · rename_i hsh
      obtain ⟨rfl, h⟩ := h
      cases op <;> simp only [binI] at h <;> first | exact h.elim | skip
      all_goals first | (exfalso; exact hsh rfl) | skip
      all_goals first
        | (refine Upon.valRun hs ?_ (.val _) h
           simp only [Sem.run_bind, hg, Result.andThen_ok, binOp, ne_eq, not_true, if_false, Op.intArith, Op.intBits, Op.intCmp]
           rfl)
        | (refine Upon.valRun hs ?_ (.val _) h.2
           simp only [Sem.run_bind, hg, Result.andThen_ok, binOp, ne_eq, not_true, if_false, Op.intDiv]
           rw [if_neg h.1]
           rfl)
  · -- texts
    rename_i m n
    cases hx; cases hy
    have hg : (eqGuard op t a b (.string m) (.string n)).run P w = .ok () w := eqGuard_skip (by simp) (by simp)
    cases op <;> simp only [binS] at h <;> first | exact h.elim | skip
    all_goals first
      | (refine Upon.valRun hs ?_ (.val _) h
         simp only [Sem.run_bind, hg, Result.andThen_ok, binOp, Op.stringOp]
         rfl)
      | (refine Upon.valRun hs ?_ (.val _) h.2
         simp only [Sem.run_bind, hg, Result.andThen_ok, binOp, Op.stringOp]
         rw [if_neg (by have := h.1; simp [IntKind.max, IntKind.signed, IntKind.bits]; omega)]
         rfl)
  · -- structs, arrays
    rename_i xs ys
    obtain ⟨hk, hm, h⟩ := h
    obtain ⟨us, rfl, hu⟩ := hx.inv_agg
    obtain ⟨vs, rfl, hv⟩ := hy.inv_agg
    split at h
    · rename_i gs hgs
      split at h
      · rename_i r hr
        have hrun : (Op.equalIn 10000 t (.agg us) (.agg vs)).run P w = .ok r w := by
          have := equalIn_ok (P := P) (I := I) 50 t gs hgs 10000 xs ys us.toList vs.toList r w (by omega) hu hv hr
          simpa [asVal, hk] using this
        have hg := run_eqGuard_agg (P := P) w op t a b us vs hm
        cases op <;> first | exact h.elim | skip
        · refine Upon.valRun hs ?_ (.val _) h
          simp only [Sem.run_bind, hg, Result.andThen_ok]
          rw [run_eql_struct, hrun]; rfl
        · refine Upon.valRun hs ?_ (.val _) h
          simp only [Sem.run_bind, hg, Result.andThen_ok]
          rw [run_neq_struct, hrun]; rfl
      · exact h.elim
    · exact h.elim
  · -- an empty list and nil
    obtain ⟨⟨e, he⟩, hop, h⟩ := h
    have hg : (eqGuard op t a b u v).run P w = .ok () w := by
      cases hx <;> cases hy <;> exact eqGuard_skip (by simp) (by simp)
    have hr : ∃ r, (Op.equal t u v).run P w = .ok r w := by
      have hd : ∀ d, ∃ r, (Op.equalIn (d + 1) t u v).run P w = .ok r w := fun d => by
        cases hx <;> cases hy <;> (simp only [Op.equalIn, Sem.run_bind, run_underlying he, Result.andThen_ok, Sem.run_pure, Option.isNone]; exact ⟨_, rfl⟩)
      exact hd 9999
    obtain ⟨r, hr⟩ := hr
    rcases hop with rfl | rfl
    · have hb : binOp .eql t u v = (do pure (.bool (← Op.equal t u v))) := by cases hx <;> cases hy <;> rfl
      refine Upon.valRun hs ?_ (.val _) (h r)
      simp only [Sem.run_bind, hg, Result.andThen_ok, hb, hr, Sem.run_pure]
    · have hb : binOp .neq t u v = (do pure (.bool (!(← Op.equal t u v)))) := by cases hx <;> cases hy <;> rfl
      refine Upon.valRun hs ?_ (.val _) (h (!r))
      simp only [Sem.run_bind, hg, Result.andThen_ok, hb, hr, Sem.run_pure]
  · -- the rest
    split at h
    · rename_i r hr
      have hrun := eqV_run (P := P) (w := w) hx hy hr
      have hg : (eqGuard op t a b u v).run P w = .ok () w := by
        unfold eqV at hr
        split at hr
        all_goals first
          | cases hr
          | skip
        all_goals (cases hx; cases hy)
        all_goals (exact eqGuard_skip (by simp) (by simp))
      cases op <;> first | exact h.elim | skip
      · have hb : binOp .eql t u v = (do pure (.bool (← Op.equal t u v))) := by
          unfold eqV at hr
          split at hr
          all_goals first
            | cases hr
            | skip
          all_goals (cases hx; cases hy; rfl)
        refine Upon.valRun hs ?_ (.val _) h
        simp only [Sem.run_bind, hg, Result.andThen_ok, hb, hrun, Sem.run_pure]
      · have hb : binOp .neq t u v = (do pure (.bool (!(← Op.equal t u v)))) := by
          unfold eqV at hr
          split at hr
          all_goals first
            | cases hr
            | skip
          all_goals (cases hx; cases hy; rfl)
        refine Upon.valRun hs ?_ (.val _) h
        simp only [Sem.run_bind, hg, Result.andThen_ok, hb, hrun, Sem.run_pure]
    · exact h.elim

theorem un_ok {op : UnOp} {x : V} {u : Value} (hs : StR σ I w) (hx : VR I x u) (h : unV op x σ K) : Upon P I w K KP ((do pure (.value (← Op.unary op u)) : Sem Next).run P w) := by
  unfold unV at h
  split at h
  · cases hx; exact Upon.valRun hs rfl (.val _) h
  · cases hx; exact Upon.valRun hs rfl (.val _) h
  · cases hx; exact Upon.valRun hs rfl (.val _) h
  · exact h.elim

theorem VR.unF {x : V} {v : Value} (h : VR I x v) : VR I x.unF v := by
  cases h with
  | cndT x v h => simpa [V.unF] using h
  | cndF x => simp only [V.unF, Bool.false_eq_true, if_false]; exact .top _
  | val v => exact .val v
  | ptr b off => exact .ptr b off
  | sl b off len cap => exact .sl b off len cap
  | lnil k => exact .lnil k
  | lst0 k a => exact .lst0 k a
  | lst k xs b off cap arr el fr h hc hm hb hk hx => exact .lst k xs b off cap arr el fr h hc hm hb hk hx
  | ro cs b off arr el fr h hb hx => exact .ro cs b off arr el fr h hb hx
  | agg cs vs hl hx => exact .agg cs vs hl hx
  | tup cs vs hl hx => exact .tup cs vs hl hx
  | fn f ps qs us ws hl hx kl kx => exact .fn f ps qs us ws hl hx kl kx
  | ifc t x v h => exact .ifc t x v h
  | top v => exact .top v

theorem boolV_ok {a : V} {v : Value} {g p : Bool} (h : boolV a = some (g, p)) (ha : VR I a v) (hg : g = true) : v = .bool p := by
  unfold boolV at h
  split at h
  · cases h; cases ha; rfl
  · cases h; subst hg
    cases ha with | cndT _ _ ha => cases ha; rfl
  · cases h

theorem pick_ok {c a b : V} {vc va vb : Value} (hs : StR σ I w) (hc : VR I c vc) (ha : VR I a va) (hb : VR I b vb) (h : pickV c a b σ K) :
    Upon P I w K KP ((do pure (.value (if ← asBool vc then va else vb)) : Sem Next).run P w) := by
  unfold pickV at h
  split at h
  · rename_i t
    cases hc
    simp only [asBool, Sem.run_bind, Sem.run_pure, Result.andThen_ok]
    split at h
    · rename_i ga p gb q e1 e2
      obtain ⟨h1, h2, h⟩ := h
      refine Upon.val hs ?_ h
      cases t
      · have := boolV_ok e2 hb (h2 rfl); subst this; exact .val _
      · have := boolV_ok e1 ha (h1 rfl); subst this; exact .val _
    · cases t
      · exact Upon.val hs hb.unF (h.2 rfl)
      · exact Upon.val hs ha.unF (h.1 rfl)
  · exact h.elim

theorem nil_ok {ρc : Operand → Value} {y : Operand} {x : V} (hs : StR σ I w) (hx : VR I x (ρc y)) (h : nilCheckV x σ K) (dst : Option Tmp) (type : TypeId) (pos : String) (after : Array Edge) (guard : Option (Nat × Bool)) :
    Upon P I w K KP ((execOp ρc ⟨dst, .nilCheck y, type, pos, after, guard⟩).run P w) := by
  simp only [execOp]
  generalize ρc y = u at hx
  unfold nilCheckV at h
  split at h
  · cases hx; exact Upon.val hs (.ptr _ _) h
  · cases hx with | ro _ b off arr el fr h1 h2 h3 => exact Upon.val hs (.ro _ b off arr el fr h1 h2 h3) h
  · cases hx with | fn _ _ _ us ws hl hx kl kx => exact Upon.val hs (.fn _ _ _ us ws hl hx kl kx) h
  · cases hx with | ifc _ _ v hv => exact Upon.val hs (.ifc _ _ v hv) h
  · exact h.elim

theorem convert_ok {s d : TypeId} {x : V} {u : Value} (hs : StR σ I w) (hx : VR I x u) (h : convertV P s d x σ K) : Upon P I w K KP ((do pure (.value (← convert s d u)) : Sem Next).run P w) := by
  unfold convertV at h
  obtain ⟨h0, h⟩ := h
  obtain ⟨sd, hsd⟩ := Option.isSome_iff_exists.1 h0
  split at h
  · rename_i hd
    cases hx
    refine Upon.valRun hs ?_ (.val _) h
    simp only [convert, Sem.run_bind, run_underlying hsd, run_underlying hd, Result.andThen_ok]
    cases sd <;> rfl
  · rename_i e str hd
    obtain ⟨h1, he, hsz, hk⟩ := h
    cases hx
    have hrun := run_bytes_of_string (P := P) w s d e str h1 hd he
    simp only [Sem.run_bind, hrun, Result.andThen_ok, Sem.run_pure]
    generalize hcap : grownCap w str.size 0 e = cap
    have hge : str.size ≤ cap := by rw [← hcap]; exact grownCap_ge w _ _ _
    have hle : cap ≤ maxLen := by rw [← hcap]; exact grownCap_le_maxLen w _ _ _ hsz
    have hbel : Bel w (w.drew.alloc (.cells (bytesRow str cap) e ((bytesRow str cap).size, (bytesRow str cap).size + 1))) := ((Bel.refl w).drew).allocO _
    have hnew := heap_alloc_new w.drew (.cells (bytesRow str cap) e ((bytesRow str cap).size, (bytesRow str cap).size + 1))
    obtain ⟨hI, hst⟩ := hs.allocImm (w' := w.drew.alloc (.cells (bytesRow str cap) e ((bytesRow str cap).size, (bytesRow str cap).size + 1))) (fun b hb => Below.heap_alloc w.drew _ b hb) hnew
    refine ⟨hbel, _, _, σ, hI, hst, ?_, hk⟩
    have hv := VR.lst (I := fun b => if b = w.heap.size then some (.cells (bytesRow str cap) e ((bytesRow str cap).size, (bytesRow str cap).size + 1)) else I b) 1 (str.data.toList.map byteV) w.heap.size 0 cap (bytesRow str cap) e ((bytesRow str cap).size, (bytesRow str cap).size + 1) (by simp) (by simpa using hge) hle (by simp [bytesRow])
      (fun x hx => by obtain ⟨b, _, rfl⟩ := List.mem_map.1 hx; rfl) (fun i j x c v hx hc hv => by
        rw [List.getElem?_map, Option.map_eq_some_iff] at hx
        obtain ⟨b, hb, rfl⟩ := hx
        have hj : j = 0 := by have := (List.getElem?_eq_some_iff.1 hc).1; simp [byteV, V.cells, Value.cells] at this; exact this
        subst hj
        simp [byteV, V.cells, Value.cells] at hc
        subst hc
        have hi := (List.getElem?_eq_some_iff.1 hb).1
        simp only [Array.length_toList] at hi
        rw [Nat.zero_add, Nat.mul_one, Nat.add_zero, bytesRow, Array.getElem?_append_left (by simpa using hi)] at hv
        simp at hv hb
        rw [hb] at hv
        simp at hv
        rw [← hv]
        exact .val _)
    have e1 : (str.data.toList.map byteV).length = str.size := by simp
    rw [e1] at hv
    exact hv
  · rename_i k xs hd
    obtain ⟨rfl, l, hl, ⟨e, h1, he⟩, hk⟩ := h
    cases hx with
    | lnil =>
      have : l = [] := by cases l with | nil => rfl | cons a l => cases hl
      subst this
      refine Upon.valRun hs ?_ (.val _) hk
      rw [run_convert_bytes_string w s d e none 0 0 h1 he hd]; rfl
    | lst0 _ a =>
      have : l = [] := by cases l with | nil => rfl | cons a l => cases hl
      subst this
      refine Upon.valRun hs ?_ (.val _) hk
      exact run_convert_bytes_back w s d e a 0 [] h1 he hd (fun j hj => by simp at hj)
    | lst _ _ b off cap arr el fr g1 g2 g3 g4 g5 g6 =>
      subst hl
      refine Upon.valRun hs ?_ (.val _) hk
      have hb := hs.imm b _ g1
      rw [List.length_map]
      refine run_convert_bytes_back w s d e ⟨b, off, none⟩ cap l h1 he hd (fun j hj => ?_)
      rw [Addr.add_lit]
      have hlt : off + j < arr.size := by simp at g4; omega
      have := g6 j 0 (byteV l[j]) (byteV l[j]) arr[off + j] (by simp [hj]) rfl (by simp [hlt])
      simp only [World.cell?, hb]
      have hv := this.inv_val
      simp [hlt, hv]
  · rename_i hd
    obtain ⟨⟨e, h1, he⟩, hk⟩ := h
    cases hx
    refine Upon.valRun hs ?_ (.val _) hk
    rw [run_convert_bytes_string w s d e none 0 0 h1 he hd]; rfl
  · exact h.elim

theorem assert_ok {a xt : TypeId} {ok : Bool} {x : V} {u : Value} (hs : StR σ I w) (hx : VR I x u) (h : typeAssertV P a ok x σ K) : Upon P I w K KP ((do pure (.value (← Instr.typeAssert u xt a ok)) : Sem Next).run P w) := by
  unfold typeAssertV at h
  split at h
  · rename_i t y
    obtain ⟨rfl, h⟩ := h
    cases hx with
    | ifc _ _ v hv =>
      split at h
      · exact h.elim
      · rename_i d hd hu
        refine Upon.valRun (v := if ok then .tuple #[v, .bool true] else v) hs ?_ ?_ h
        · simp only [Instr.typeAssert, Sem.run_bind, run_underlying hu, Result.andThen_ok]
          cases d <;> first | exact absurd rfl (hd _) | (simp only [if_true, Sem.run_pure]; done) | (cases ok <;> rfl)
        · cases ok
          · exact hv
          · exact VR.mk_tup (LR.cons hv (LR.cons (.val _) (LR.nil _)))
      · exact h.elim
  · exact h.elim

theorem iface_ok {t : TypeId} {x : V} {u : Value} (hs : StR σ I w) (hx : VR I x u) (h : match P.underlying t with | some (.interface _) => False | some _ => K (.ifc t x) σ | none => False) :
    Upon P I w K KP ((do pure (.value (← Instr.makeInterface t u)) : Sem Next).run P w) := by
  split at h
  · exact h.elim
  · rename_i d hd hu
    refine Upon.valRun hs ?_ (.ifc _ _ _ hx) h
    simp only [Instr.makeInterface, Sem.run_bind, run_underlying hu, Result.andThen_ok]
    cases d <;> first | rfl | exact absurd rfl (hd _)
  · exact h.elim

theorem func_ok {f : Fn} {ρ : Operand → V} {ρc : Operand → Value} (hρ : ∀ x, VR I (ρ x) (ρc x)) {first captured : Array Operand} (hs : StR σ I w) (h : K (.fn f (first.toList.map ρ) (captured.toList.map ρ)) σ) :
    Upon P I w K KP ((do pure (.value (← Instr.makeFunc f (first.map ρc) (captured.map ρc))) : Sem Next).run P w) := by
  refine Upon.valRun hs rfl ?_ h
  have h1 := LR.map hρ first.toList
  have h2 := LR.map hρ captured.toList
  exact .fn _ _ _ _ _ (by simp) (fun j c v a b => h1.at_ j c v a (by simpa using b)) (by simp) (fun j c v a b => h2.at_ j c v a (by simpa using b))

theorem ptrAdd_ok {x y : V} {n : Nat} {u : Value} (hx : VR I x u) (h : ptrAdd x n = some y) : ∃ b off, u = .pointer (some ⟨b, off, none⟩) ∧ VR I y (.pointer (some ⟨b, off + n, none⟩)) := by
  unfold ptrAdd at h
  split at h
  · cases hx; simp only [Option.some.injEq] at h; subst h; exact ⟨_, _, rfl, .ptr _ _⟩
  · split at h
    · rename_i hn
      simp only [Option.some.injEq] at h; subst h
      cases hx with
      | ro cs b off arr el fr h1 h2 h3 =>
        refine ⟨b, off, rfl, .ro _ b (off + n) arr el fr h1 (by simp; omega) fun j c v a e => h3 (n + j) c v (by rw [List.getElem?_drop] at a; exact a) (by rw [← Nat.add_assoc]; exact e)⟩
    · cases h
  · cases h

theorem fieldAddr_ok {s : TypeId} {x : V} {i : Nat} {u : Value} (hs : StR σ I w) (hx : VR I x u) (h : fieldAddrV P s x i σ K) : Upon P I w K KP ((do pure (.value (← Instr.fieldAt s u i)) : Sem Next).run P w) := by
  unfold fieldAddrV at h
  split at h
  · rename_i fields hu
    split at h
    · rename_i f hf
      obtain ⟨h1, h2, h⟩ := h
      split at h
      · rename_i y hy
        obtain ⟨b, off, rfl, hy'⟩ := ptrAdd_ok hx hy
        refine Upon.valRun hs ?_ hy' h
        simp only [Instr.fieldAt, Sem.run_bind, run_underlying hu, Result.andThen_ok, hf, Instr.sureAddr, Sem.run_pure, fieldPlace, run_sizeOf' h1, if_neg h2, Addr.add_lit]
      · exact h.elim
    · exact h.elim
  · exact h.elim

theorem part_ok {t : TypeId} {cs : List V} {us : Array Value} {off : Nat} {KL : V → Prop} (hl : LR I cs us.toList) (h : loadL P t cs off KL) : ∃ v x, (part t us off).run P w = .ok v w ∧ VR I x v ∧ KL x := by
  unfold loadL at h
  have hlen := hl.len
  simp only [Array.length_toList] at hlen
  split at h
  · rename_i hk
    obtain ⟨d, hd, hb⟩ := kindB_some hk
    refine ⟨.agg (us.extract off (off + P.cellsOf t)), _, ?_, ?_, h.2⟩
    · simp only [part, Sem.run_bind, run_isAgg hd, Result.andThen_ok, hb, if_true, run_sizeOf_und hd, Sem.run_pure]
    · have := VR.mk_agg ((hl.drop off).take (P.cellsOf t))
      have e : ((us.toList.drop off).take (P.cellsOf t)).toArray = us.extract off (off + P.cellsOf t) := by
        apply Array.ext'; simp [List.take_drop, Nat.add_comm]
      rwa [e] at this
  · rename_i hk
    obtain ⟨d, hd, hb⟩ := kindB_some hk
    split at h
    · exact h.elim
    · rename_i c hj
      have hlt := (List.getElem?_eq_some_iff.1 hj).1
      refine ⟨us[off], c, ?_, hl.at_ off c _ hj (by simp [show off < us.size by omega]), h⟩
      simp only [part, Sem.run_bind, run_isAgg hd, Result.andThen_ok, hb, Bool.false_eq_true, if_false, Array.getElem?_eq_getElem (show off < us.size by omega), Sem.run_pure]
  · exact h.elim

theorem field_ok {s : TypeId} {x : V} {i : Nat} {u : Value} (hs : StR σ I w) (hx : VR I x u) (h : fieldV P s x i σ K) : Upon P I w K KP ((do pure (.value (← Instr.field s u i)) : Sem Next).run P w) := by
  unfold fieldV at h
  split at h
  · rename_i fields cs hu
    split at h
    · rename_i f hf
      obtain ⟨us, rfl, hl⟩ := hx.inv_agg
      obtain ⟨v, y, hrun, hy, hk⟩ := part_ok (P := P) (w := w) hl h
      refine Upon.valRun hs ?_ hy hk
      simp only [Instr.field, Sem.run_bind, run_underlying hu, Result.andThen_ok, hf, asAgg, Sem.run_pure, hrun]
    · exact h.elim
  · exact h.elim

theorem index_ok {t : TypeId} {x i : V} {u v : Value} (hs : StR σ I w) (hx : VR I x u) (hi : VR I i v) (h : indexV P t x i σ K) : Upon P I w K KP ((do pure (.value (← Instr.index t u v)) : Sem Next).run P w) := by
  unfold indexV at h
  split at h
  · rename_i k n
    cases hi
    obtain ⟨h0, h⟩ := h
    split at h
    · rename_i len e cs hu
      obtain ⟨h1, h2, h⟩ := h
      obtain ⟨us, rfl, hl⟩ := hx.inv_agg
      obtain ⟨y, z, hrun, hz, hk⟩ := part_ok (P := P) (w := w) hl h
      refine Upon.valRun hs ?_ hz hk
      simp only [Instr.index, asIntOf, Sem.run_bind, Sem.run_pure, Result.andThen_ok, run_underlying hu, Sem.run_ite, if_pos (show 0 ≤ n ∧ n < (len : Int) from ⟨h0, h2⟩), run_sizeOf' h1, hrun]
    · rename_i s hu
      cases hx
      refine Upon.valRun hs ?_ (.val _) h.2
      have hlt : n.toNat < s.size := by omega
      simp only [Instr.index, asIntOf, Sem.run_bind, Sem.run_pure, Result.andThen_ok, run_underlying hu, if_pos h0]
      have e : s[n.toNat]? = some s[n.toNat] := by simp [hlt]
      rw [e]
      simp only [Sem.run_pure]
      congr 3
      simp [List.getD_eq_getElem?_getD, hlt]
      rfl
    · exact h.elim
  · exact h.elim

theorem indexAddr_ok {t : TypeId} {x i : V} {u v : Value} (hs : StR σ I w) (hx : VR I x u) (hi : VR I i v) (h : indexAddrV P t x i σ K) : Upon P I w K KP ((do pure (.value (← Instr.indexAt t u v)) : Sem Next).run P w) := by
  unfold indexAddrV at h
  split at h
  · rename_i k n
    cases hi
    obtain ⟨h0, h⟩ := h
    split at h
    · rename_i e hu
      obtain ⟨h1, h⟩ := h
      split at h
      · rename_i b off len cap
        cases hx
        refine Upon.valRun hs ?_ (.ptr _ _) h.2
        simp only [Instr.indexAt, asIntOf, Sem.run_bind, Sem.run_pure, Result.andThen_ok, run_underlying hu, if_pos (show 0 ≤ n ∧ n < (len : Int) from ⟨h0, h.1⟩), run_sizeOf' h1, Addr.add_lit]
      · rename_i k xs
        obtain ⟨rfl, h2, h⟩ := h
        cases hx with
        | lnil => simp at h2; omega
        | lst0 => simp at h2; omega
        | lst _ _ b off cap arr el fr g1 g2 g3 g4 g5 g6 =>
          have hlt : n.toNat < xs.length := by omega
          have hget : xs[n.toNat]? = some (xs.getD n.toNat .top) := by simp [hlt]
          have hck := g5 _ (List.mem_of_getElem? hget)
          have hmul : (n.toNat + 1) * P.cellsOf e ≤ xs.length * P.cellsOf e := Nat.mul_le_mul_right _ (by omega)
          rw [Nat.add_mul, Nat.one_mul] at hmul
          refine Upon.valRun hs ?_ (.ro _ b (off + n.toNat * P.cellsOf e) arr el fr g1 (by omega) fun j c v a e => g6 n.toNat j _ c v hget a e) h
          simp only [Instr.indexAt, asIntOf, Sem.run_bind, Sem.run_pure, Result.andThen_ok, run_underlying hu, if_pos (show 0 ≤ n ∧ n < (xs.length : Int) from ⟨h0, h2⟩), run_sizeOf' h1, Addr.add_lit]
      · exact h.elim
    · rename_i len e hu
      obtain ⟨h1, h2, h⟩ := h
      split at h
      · rename_i y hy
        obtain ⟨b, off, rfl, hy'⟩ := ptrAdd_ok hx hy
        refine Upon.valRun hs ?_ hy' h
        simp only [Instr.indexAt, asIntOf, Sem.run_bind, Sem.run_pure, Result.andThen_ok, run_underlying hu, Instr.sureAddr, if_pos (show 0 ≤ n ∧ n < (len : Int) from ⟨h0, h2⟩), run_sizeOf' h1, Addr.add_lit]
      · exact h.elim
    · exact h.elim
  · exact h.elim

theorem extract_ok {x : V} {i : Nat} {u : Value} (hs : StR σ I w) (hx : VR I x u) (h : extractV x i σ K) : Upon P I w K KP ((do pure (.value (← Instr.extract u i)) : Sem Next).run P w) := by
  unfold extractV at h
  split at h
  · rename_i cs
    obtain ⟨vs, rfl, hl⟩ := hx.inv_tup
    split at h
    · exact h.elim
    · rename_i c hj
      have hlt := (List.getElem?_eq_some_iff.1 hj).1
      have hlen := hl.len
      simp only [Array.length_toList] at hlen
      refine Upon.valRun hs ?_ (hl.at_ i c vs[i] hj (by simp [show i < vs.size by omega])) h
      simp only [Instr.extract, Array.getElem?_eq_getElem (show i < vs.size by omega), Sem.run_pure]
  · exact h.elim

end
end Go.Proofs.YtociliegljoldaaGreat

/- Own framework, part g: slices: cutting, making, appending; calls; all operations. -/
namespace Go.Proofs.YtociliegljoldaaGreat
set_option linter.unusedSimpArgs false
set_option linter.unusedVariables false
open Go.RowKit

section
variable {P : Program} {I : Imm} {w : World} {K KP : V → Store → Prop} {σ : Store}

/-- An operand that may be absent. -/
def OptR (I : Imm) (x : Option V) (v : Option Value) : Prop := (x = none ∧ v = none) ∨ ∃ a u, x = some a ∧ v = some u ∧ VR I a u

theorem OptR.map {ρ : Operand → V} {ρc : Operand → Value} (hρ : ∀ x, VR I (ρ x) (ρc x)) (o : Option Operand) : OptR I (o.map ρ) (o.map ρc) := by
  cases o with
  | none => exact .inl ⟨rfl, rfl⟩
  | some x => exact .inr ⟨_, _, rfl, rfl, hρ x⟩

theorem numOf_run {d : Nat} {x : Option V} {v : Option Value} {n : Int} (h : OptR I x v) (hn : numOf d x = some n) : (x = none ∧ v = none ∧ n = d) ∨ ∃ k, v = some (.int k n) ∧ x.isSome = true := by
  rcases h with ⟨rfl, rfl⟩ | ⟨a, u, rfl, rfl, hau⟩
  · left; simp [numOf] at hn; exact ⟨rfl, rfl, hn.symm⟩
  · right
    unfold numOf at hn
    split at hn
    · rename_i e; cases e
    · rename_i k m e
      simp only [Option.some.injEq] at hn e
      subst hn; subst e; cases hau
      exact ⟨k, rfl, rfl⟩
    · cases hn

theorem run_sliceBound {k : IntKind} {n : Int} {y : Nat} {code : BoundsCode} (h0 : 0 ≤ n) (h1 : n ≤ y) : (Instr.sliceBound (.int k n) y code).run P w = .ok n.toNat w := by
  simp only [Instr.sliceBound, asIntOf, Sem.run_bind, Sem.run_pure, Result.andThen_ok, Sem.run_ite, if_pos (show 0 ≤ n ∧ n ≤ (y : Int) from ⟨h0, h1⟩)]

theorem run_sliceBounds {isS : Bool} {len cap : Nat} {lo hi mx : Option V} {lo' hi' mx' : Option Value} {KK : Nat → Nat → Nat → Prop} (hlo : OptR I lo lo') (hhi : OptR I hi hi') (hmx : OptR I mx mx')
    (h : sliceOk len cap lo hi mx KK) : ∃ l h m, (Instr.sliceBounds isS len cap lo' hi' mx').run P w = .ok (l, h, m) w ∧ KK l h m ∧ l ≤ h ∧ h ≤ m ∧ m ≤ cap := by
  unfold sliceOk at h
  split at h
  · rename_i l h' m el eh em
    obtain ⟨h0, h1, h2, h3, h4, hk⟩ := h
    refine ⟨l.toNat, h'.toNat, m.toNat, ?_, hk, by omega, by omega, by omega⟩
    rcases numOf_run hmx em with ⟨e1, rfl, rfl⟩ | ⟨km, rfl, hms⟩
    · rcases numOf_run hhi eh with ⟨_, rfl, rfl⟩ | ⟨kh, rfl, _⟩
      · rcases numOf_run hlo el with ⟨_, rfl, rfl⟩ | ⟨kl, rfl, _⟩
        · simp only [Instr.sliceBounds, Sem.run_bind, Sem.run_pure, Result.andThen_ok]; rfl
        · have b1 := run_sliceBound (P := P) (w := w) (k := kl) (n := l) (y := len) (code := .sliceB) (by omega) (by omega)
          simp only [Instr.sliceBounds, Sem.run_bind, Sem.run_pure, Result.andThen_ok, Option.isSome_none, Bool.false_eq_true, if_false, b1]; rfl
      · have b2 := fun c => run_sliceBound (P := P) (w := w) (k := kh) (n := h') (y := cap) (code := c) (by omega) (by omega)
        rcases numOf_run hlo el with ⟨_, rfl, rfl⟩ | ⟨kl, rfl, _⟩
        · simp only [Instr.sliceBounds, Sem.run_bind, Sem.run_pure, Result.andThen_ok, b2]; rfl
        · have b1 := run_sliceBound (P := P) (w := w) (k := kl) (n := l) (y := h'.toNat) (code := .sliceB) (by omega) (by omega)
          simp only [Instr.sliceBounds, Sem.run_bind, Sem.run_pure, Result.andThen_ok, Option.isSome_none, Bool.false_eq_true, if_false, b2, b1]; rfl
    · have b3 := fun c => run_sliceBound (P := P) (w := w) (k := km) (n := m) (y := cap) (code := c) (by omega) (by omega)
      rcases numOf_run hhi eh with ⟨e2, rfl, rfl⟩ | ⟨kh, rfl, _⟩
      · have := h4 hms; rw [e2] at this; cases this
      · have b2 := fun c => run_sliceBound (P := P) (w := w) (k := kh) (n := h') (y := m.toNat) (code := c) (by omega) (by omega)
        rcases numOf_run hlo el with ⟨_, rfl, rfl⟩ | ⟨kl, rfl, _⟩
        · simp only [Instr.sliceBounds, Sem.run_bind, Sem.run_pure, Result.andThen_ok, b3, b2]; rfl
        · have b1 := run_sliceBound (P := P) (w := w) (k := kl) (n := l) (y := h'.toNat) (code := .slice3C) (by omega) (by omega)
          simp only [Instr.sliceBounds, Sem.run_bind, Sem.run_pure, Result.andThen_ok, Option.isSome_some, if_true, b3, b2, b1]
  · exact h.elim

theorem addr_lit_ite (b off l s : Nat) (c : Prop) [Decidable c] : (if c then (⟨b, off, none⟩ : Addr) else (⟨b, off, none⟩ : Addr).add (l * s)) = ⟨b, if c then off else off + l * s, none⟩ := by
  split
  · rfl
  · rw [Addr.add_lit]

theorem slice_ok {t : TypeId} {x : V} {u : Value} {lo hi mx : Option V} {lo' hi' mx' : Option Value} (hs : StR σ I w) (hx : VR I x u) (hlo : OptR I lo lo') (hhi : OptR I hi hi') (hmx : OptR I mx mx')
    (h : sliceV P t x lo hi mx σ K) : Upon P I w K KP ((do pure (.value (← Instr.sliceAt t u lo' hi' mx')) : Sem Next).run P w) := by
  unfold sliceV at h
  split at h
  · rename_i e hu
    obtain ⟨h1, h⟩ := h
    split at h
    · rename_i b off len cap
      cases hx
      obtain ⟨l, hh, m, hrun, hk, _⟩ := run_sliceBounds (P := P) (w := w) (isS := true) hlo hhi hmx h
      refine Upon.valRun hs ?_ (.sl _ _ _ _) hk
      simp only [Instr.sliceAt, Instr.slice, Sem.run_bind, run_underlying hu, Result.andThen_ok, hrun, run_sizeOf' h1, Sem.run_pure, Option.map_some]
      congr 2
      split
      · rfl
      · rw [Addr.add_lit]
    · rename_i k xs
      obtain ⟨rfl, h⟩ := h
      split at h
      · -- no third bound
        obtain rfl : mx' = none := by rcases hmx with ⟨_, rfl⟩ | ⟨_, _, e, _⟩ <;> simp_all
        cases hx with
        | lnil =>
          obtain ⟨l, hh, m, hrun, hk, h2, h3, h4⟩ := run_sliceBounds (P := P) (w := w) (isS := true) hlo hhi (.inl ⟨rfl, rfl⟩) h
          simp only [List.length_nil] at h4 hrun
          obtain rfl : m = 0 := by omega
          obtain rfl : hh = 0 := by omega
          obtain rfl : l = 0 := by omega
          refine Upon.valRun hs ?_ (.lnil (P.cellsOf e)) hk
          simp only [Instr.sliceAt, Instr.slice, Sem.run_bind, run_underlying hu, Result.andThen_ok, hrun, run_sizeOf' h1, Sem.run_pure]
          rfl
        | lst0 _ a =>
          obtain ⟨l, hh, m, hrun, hk, h2, h3, h4⟩ := run_sliceBounds (P := P) (w := w) (isS := true) hlo hhi (.inl ⟨rfl, rfl⟩) h
          simp only [List.length_nil] at h4 hrun
          obtain rfl : m = 0 := by omega
          obtain rfl : hh = 0 := by omega
          obtain rfl : l = 0 := by omega
          refine Upon.valRun hs ?_ (.lst0 (P.cellsOf e) a) hk
          simp only [Instr.sliceAt, Instr.slice, Sem.run_bind, run_underlying hu, Result.andThen_ok, hrun, run_sizeOf' h1, Sem.run_pure]
          rfl
        | lst _ _ b off cap arr el fr g1 g2 g3 g4 g5 g6 =>
          -- the same bounds serve the greater capacity
          have hcap : sliceOk xs.length cap lo hi none (fun l h m => m = cap ∧ l ≤ h ∧ h ≤ xs.length ∧ K (.lst (P.cellsOf e) ((xs.drop l).take (h - l))) σ) := by
            unfold sliceOk at h ⊢
            split at h
            · rename_i a b c ea eb ec
              simp only [numOf, Option.some.injEq] at ec
              have : numOf cap none = some (cap : Int) := rfl
              simp only [ea, eb, this]
              obtain ⟨q0, q1, q2, q3, q4, q5⟩ := h
              refine ⟨q0, q1, by omega, by omega, by simp, by omega, by omega, by omega, q5⟩
            · exact h.elim
          obtain ⟨l, hh, m, hrun, ⟨rfl, h2, h3, hk⟩, _⟩ := run_sliceBounds (P := P) (w := w) (isS := true) hlo hhi (.inl ⟨rfl, rfl⟩) hcap
          have hlen : ((xs.drop l).take (hh - l)).length = hh - l := by simp; omega
          have hoff : off + (if m = l then 0 else l * P.cellsOf e) + (hh - l) * P.cellsOf e ≤ arr.size := by
            have h5 : l * P.cellsOf e + (hh - l) * P.cellsOf e ≤ xs.length * P.cellsOf e := by rw [← Nat.add_mul]; exact Nat.mul_le_mul_right _ (by omega)
            split
            · rename_i e0; have : hh - l = 0 := by omega
              rw [this]; omega
            · omega
          have hvr := VR.lst (I := I) (P.cellsOf e) ((xs.drop l).take (hh - l)) b (off + (if m = l then 0 else l * P.cellsOf e)) (m - l) arr el fr g1 (by rw [hlen]; omega) (by omega) (by rw [hlen]; exact hoff)
            (fun x hx => g5 x (List.mem_of_mem_drop (List.mem_of_mem_take hx)))
            (fun i j x c v hx hc hv => by
              rw [List.getElem?_take] at hx
              split at hx
              · rename_i hi'
                rw [List.getElem?_drop] at hx
                rw [if_neg (by omega)] at hv
                exact g6 (l + i) j x c v hx hc (by rw [show off + (l + i) * P.cellsOf e + j = off + l * P.cellsOf e + i * P.cellsOf e + j by rw [Nat.add_mul]; omega]; exact hv)
              · cases hx)
          rw [hlen] at hvr
          refine Upon.valRun hs ?_ hvr hk
          simp only [Instr.sliceAt, Instr.slice, Sem.run_bind, run_underlying hu, Result.andThen_ok, hrun, run_sizeOf' h1, Sem.run_pure, Option.map_some]
          congr 2
          split
          · rfl
          · rw [Addr.add_lit]
      · -- a third bound, within the length
        rename_i mv
        cases hx with
        | lnil =>
          obtain ⟨l, hh, m, hrun, hk, h2, h3, h4⟩ := run_sliceBounds (P := P) (w := w) (isS := true) hlo hhi hmx h
          simp only [List.length_nil] at h4 hrun
          obtain rfl : m = 0 := by omega
          obtain rfl : hh = 0 := by omega
          obtain rfl : l = 0 := by omega
          refine Upon.valRun hs ?_ (.lnil (P.cellsOf e)) hk
          simp only [Instr.sliceAt, Instr.slice, Sem.run_bind, run_underlying hu, Result.andThen_ok, hrun, run_sizeOf' h1, Sem.run_pure]
          rfl
        | lst0 _ a =>
          obtain ⟨l, hh, m, hrun, hk, h2, h3, h4⟩ := run_sliceBounds (P := P) (w := w) (isS := true) hlo hhi hmx h
          simp only [List.length_nil] at h4 hrun
          obtain rfl : m = 0 := by omega
          obtain rfl : hh = 0 := by omega
          obtain rfl : l = 0 := by omega
          refine Upon.valRun hs ?_ (.lst0 (P.cellsOf e) a) hk
          simp only [Instr.sliceAt, Instr.slice, Sem.run_bind, run_underlying hu, Result.andThen_ok, hrun, run_sizeOf' h1, Sem.run_pure]
          rfl
        | lst _ _ b off cap arr el fr g1 g2 g3 g4 g5 g6 =>
          have hcap : sliceOk xs.length cap lo hi (some mv) (fun l h m => m ≤ xs.length ∧ l ≤ h ∧ h ≤ m ∧ K (.lst (P.cellsOf e) ((xs.drop l).take (h - l))) σ) := by
            unfold sliceOk at h ⊢
            split at h
            · rename_i a b c ea eb ec
              have ec' : numOf cap (some mv) = some c := by rw [← ec]; cases mv <;> first | rfl | (rename_i z; cases z <;> rfl)
              simp only [ea, eb, ec']
              obtain ⟨q0, q1, q2, q3, q4, q5⟩ := h
              refine ⟨q0, q1, q2, by omega, q4, by omega, by omega, by omega, q5⟩
            · exact h.elim
          obtain ⟨l, hh, m, hrun, ⟨h9, h2, h3, hk⟩, _⟩ := run_sliceBounds (P := P) (w := w) (isS := true) hlo hhi hmx hcap
          have hlen : ((xs.drop l).take (hh - l)).length = hh - l := by simp; omega
          have hoff : off + (if m = l then 0 else l * P.cellsOf e) + (hh - l) * P.cellsOf e ≤ arr.size := by
            have h5 : l * P.cellsOf e + (hh - l) * P.cellsOf e ≤ xs.length * P.cellsOf e := by rw [← Nat.add_mul]; exact Nat.mul_le_mul_right _ (by omega)
            split
            · rename_i e0; have : hh - l = 0 := by omega
              rw [this]; omega
            · omega
          have hvr := VR.lst (I := I) (P.cellsOf e) ((xs.drop l).take (hh - l)) b (off + (if m = l then 0 else l * P.cellsOf e)) (m - l) arr el fr g1 (by rw [hlen]; omega) (by omega) (by rw [hlen]; exact hoff)
            (fun x hx => g5 x (List.mem_of_mem_drop (List.mem_of_mem_take hx)))
            (fun i j x c v hx hc hv => by
              rw [List.getElem?_take] at hx
              split at hx
              · rename_i hi'
                rw [List.getElem?_drop] at hx
                rw [if_neg (by omega)] at hv
                exact g6 (l + i) j x c v hx hc (by rw [show off + (l + i) * P.cellsOf e + j = off + l * P.cellsOf e + i * P.cellsOf e + j by rw [Nat.add_mul]; omega]; exact hv)
              · cases hx)
          rw [hlen] at hvr
          refine Upon.valRun hs ?_ hvr hk
          simp only [Instr.sliceAt, Instr.slice, Sem.run_bind, run_underlying hu, Result.andThen_ok, hrun, run_sizeOf' h1, Sem.run_pure, Option.map_some]
          congr 2
          split
          · rfl
          · rw [Addr.add_lit]
    · cases hx
      obtain ⟨l, hh, m, hrun, hk, h2, h3, h4⟩ := run_sliceBounds (P := P) (w := w) (isS := true) hlo hhi hmx h
      obtain rfl : m = 0 := by omega
      obtain rfl : hh = 0 := by omega
      obtain rfl : l = 0 := by omega
      refine Upon.valRun hs ?_ (.val _) hk
      simp only [Instr.sliceAt, Instr.slice, Sem.run_bind, run_underlying hu, Result.andThen_ok, hrun, run_sizeOf' h1, Sem.run_pure]
      rfl
    · exact h.elim
  · rename_i hu
    split at h
    · rename_i s
      cases hx
      obtain ⟨rfl, h⟩ := h
      obtain rfl : mx' = none := by rcases hmx with ⟨_, rfl⟩ | ⟨_, _, e, _⟩ <;> simp_all
      obtain ⟨l, hh, m, hrun, hk, h2, h3, h4⟩ := run_sliceBounds (P := P) (w := w) (isS := false) hlo hhi (.inl ⟨rfl, rfl⟩) h
      refine Upon.valRun hs ?_ (.val _) hk
      simp only [Instr.sliceAt, Instr.slice, Sem.run_bind, run_underlying hu, Result.andThen_ok, Option.isSome_none, Bool.false_eq_true, if_false, Sem.run_pure, hrun]
    · exact h.elim
  · rename_i n e hu
    obtain ⟨h1, h⟩ := h
    split at h
    · rename_i b off
      cases hx
      obtain ⟨l, hh, m, hrun, hk, h2, h3, h4⟩ := run_sliceBounds (P := P) (w := w) (isS := false) hlo hhi hmx h
      refine Upon.valRun hs ?_ (.sl _ _ _ _) hk
      simp only [Instr.sliceAt, Sem.run_bind, run_underlying hu, Result.andThen_ok, Instr.sureAddr, Sem.run_pure, hrun, run_sizeOf' h1]
      rw [addr_lit_ite]
    · exact h.elim
  · exact h.elim

end
end Go.Proofs.YtociliegljoldaaGreat

/- Own framework, part h: make, len, append, calls; the theorem on every operation. -/
namespace Go.Proofs.YtociliegljoldaaGreat
set_option linter.unusedSimpArgs false
set_option linter.unusedVariables false
open Go.RowKit

section
variable {P : Program} {I : Imm} {w : World} {K KP : V → Store → Prop} {σ : Store}

theorem run_typeInfo_und {t : TypeId} {i : TypeInfo} (h : P.info? t = some i) : (typeInfo t).run P w = .ok i w := by simp [typeInfo, h]

theorem makeSlice_ok {t : TypeId} {l c : V} {u v : Value} (hs : StR σ I w) (hl : VR I l u) (hc : VR I c v) (h : makeSliceV P t l c σ K) : Upon P I w K KP ((do pure (.value (← Instr.makeSlice t u v)) : Sem Next).run P w) := by
  unfold makeSliceV at h
  split at h
  · rename_i e k n k' m hu
    cases hl; cases hc
    obtain ⟨h1, h2, h3, h4, h5, h⟩ := h
    split at h
    · rename_i z hz
      obtain ⟨zv, hrun, hzl, hlen⟩ := zeroV_run (I := I) (w := w) hz
      obtain ⟨i, hi⟩ := Option.isSome_iff_exists.1 h1
      have hby : P.bytesOf e = i.bytes := by simp [Program.bytesOf, hi]
      rw [hby] at h4
      have wn : IntKind.i64.wrap n = n := by simp only [IntKind.wrap, IntKind.signed, IntKind.bits]; simp; omega
      have wm : IntKind.i64.wrap m = m := by simp only [IntKind.wrap, IntKind.signed, IntKind.bits]; simp; omega
      have hbm : (i.bytes : Int) * m ≤ 140737488355328 := by rw [Int.mul_comm]; exact h4
      by_cases h0 : m.toNat * P.cellsOf e = 0
      · have hnew : LR I (repL z (m.toNat * P.cellsOf e)) ((Array.range (m.toNat * P.cellsOf e)).map (fun i => (#[] : Array Value)[i % (#[] : Array Value).size]!)).toList := by
          rw [h0]; exact ⟨by simp [repL], fun j x v hx _ => by simp [repL] at hx⟩
        simp only [Instr.makeSlice, Sem.run_bind, run_underlying hu, Result.andThen_ok, asInt, asIntOf, Sem.run_pure, run_typeInfo_und hi, wn, wm, Sem.run_ite, run_askRoom, run_sizeOf' h1, newRow, run_newObj, if_pos h0]
        rw [if_neg (by simp; omega)]
        exact ⟨below_alloc w, I, _, _, Imm.le_refl I, hs.new e hnew, .sl _ _ _ _, h _ hs.fresh_own⟩
      · have hnew := repL_ok hzl (m.toNat * P.cellsOf e)
        simp only [Instr.makeSlice, Sem.run_bind, run_underlying hu, Result.andThen_ok, asInt, asIntOf, Sem.run_pure, run_typeInfo_und hi, wn, wm, Sem.run_ite, run_askRoom, run_sizeOf' h1, newRow, run_newObj, if_neg h0, hrun]
        rw [if_neg (by simp; omega)]
        exact ⟨below_alloc w, I, _, _, Imm.le_refl I, hs.new e hnew, .sl _ _ _ _, h _ hs.fresh_own⟩
    · exact h.elim
  · exact h.elim

theorem len_ok {t : TypeId} {ts : Array TypeId} {x : V} {u : Value} {ty : TypeId} (ht : ts[0]? = some t) (hs : StR σ I w) (hx : VR I x u) (h : lenV P t x σ K) :
    Upon P I w K KP ((do pure (.value (← Builtin.len_ ts ty #[u])) : Sem Next).run P w) := by
  unfold lenV at h
  split at h
  · rename_i s hu; cases hx
    refine Upon.valRun hs ?_ (.val _) h
    simp [Builtin.len_, ht, run_underlying hu, goInt]
  · rename_i n e hu
    refine Upon.valRun hs ?_ (.val _) h
    simp [Builtin.len_, ht, run_underlying hu, goInt]
  · rename_i e n c hu; cases hx
    refine Upon.valRun hs ?_ (.val _) h
    simp [Builtin.len_, ht, run_underlying hu, goInt]
  · rename_i e b off n c hu; cases hx
    refine Upon.valRun hs ?_ (.val _) h
    simp [Builtin.len_, ht, run_underlying hu, goInt]
  · rename_i e k xs hu
    have : ∃ a c, u = .slice a xs.length c := by cases hx <;> exact ⟨_, _, rfl⟩
    obtain ⟨a, c, rfl⟩ := this
    refine Upon.valRun hs ?_ (.val _) h
    simp [Builtin.len_, ht, run_underlying hu, goInt]
  · exact h.elim

/-- The cells of rows, one behind the other. -/
theorem flat_LR {k : Nat} {arr : Array Value} : ∀ (xs : List V) (off : Nat), (∀ x ∈ xs, x.cells.length = k) → off + xs.length * k ≤ arr.size →
    (∀ (i j : Nat) x c v, xs[i]? = some x → x.cells[j]? = some c → arr[off + i * k + j]? = some v → VR I c v) → LR I (xs.flatMap V.cells) ((arr.toList.drop off).take (xs.length * k)) := by
  intro xs
  induction xs with
  | nil => intro off _ _ _; simp; exact LR.nil I
  | cons x xs ih =>
    intro off hk hb hx
    simp only [List.length_cons, Nat.add_mul, Nat.one_mul] at hb
    have h1 : LR I x.cells ((arr.toList.drop off).take k) := by
      have hxl := hk x (List.mem_cons_self ..)
      refine ⟨by simp; omega, fun j c v hc hv => ?_⟩
      rw [List.getElem?_take] at hv
      split at hv
      · rw [List.getElem?_drop] at hv
        exact hx 0 j x c v rfl hc (by simpa using hv)
      · cases hv
    have h2 := ih (off + k) (fun y hy => hk y (List.mem_cons_of_mem _ hy)) (by omega) (fun i j y c v hy hc hv => hx (i + 1) j y c v (by simpa using hy) hc (by rw [Nat.add_mul, Nat.one_mul]; rw [show off + (i * k + k) + j = off + k + i * k + j by omega]; exact hv))
    have := h1.append h2
    rw [List.flatMap_cons]
    have e : (arr.toList.drop off).take ((x :: xs).length * k) = (arr.toList.drop off).take k ++ (arr.toList.drop (off + k)).take (xs.length * k) := by
      rw [List.length_cons, Nat.add_mul, Nat.one_mul, Nat.add_comm (xs.length * k) k, List.take_add, List.drop_drop]
    rw [e]; exact this

/-- What is appended. -/
theorem row_ok {k : Nat} {y : V} {u : Value} {KK : Nat → List V → Prop} (hs : StR σ I w) (hy : VR I y u) (h : rowV k y σ KK) :
    ∃ (m : Nat) (news : List V) (vals : List Value), KK m news ∧ LR I news vals ∧ news.length = m * k ∧ (∀ w', (Builtin.lenOf u).run P w' = .ok m w') ∧
      (∀ w', (∀ b, b < w.heap.size → w'.heap[b]? = w.heap[b]?) → (Builtin.firstCells k m u).run P w' = .ok vals.toArray w') := by
  unfold rowV at h
  split at h
  · cases hy
    exact ⟨0, [], [], h, LR.nil I, by simp, fun _ => rfl, fun _ _ => rfl⟩
  · rename_i b off len cap
    cases hy
    split at h
    · rename_i cs hb
      obtain ⟨h1, h⟩ := h
      obtain ⟨vs, hl, hc⟩ := cellsB hs hb
      have hlen := hl.len
      refine ⟨len, _, (vs.drop off).take (len * k), h, (hl.drop off).take _, by simp; omega, fun _ => rfl, fun w' hw' => ?_⟩
      have hn : ((vs.drop off).take (len * k)).length = len * k := by simp; omega
      have hrun := run_loadCells_list (P := P) w' ⟨b, off, none⟩ ((vs.drop off).take (len * k)) (fun j v hv => by
        rw [Addr.add_lit]
        rw [List.getElem?_take] at hv
        split at hv
        · rw [List.getElem?_drop] at hv
          have hcell := hc _ v hv
          have hlt : b < w.heap.size := by obtain ⟨o, ho, _⟩ := hs.own b _ hb; exact world_lt ho
          simp only [World.cell?, hw' b hlt] at hcell ⊢; exact hcell
        · cases hv)
      rw [hn] at hrun
      exact hrun
    · exact h.elim
  · rename_i k' xs
    obtain ⟨rfl, h⟩ := h
    cases hy with
    | lnil => exact ⟨0, [], [], h, LR.nil I, by simp, fun _ => rfl, fun _ _ => rfl⟩
    | lst0 _ a => exact ⟨0, [], [], h, LR.nil I, by simp, fun _ => rfl, fun w' _ => by have := run_loadCells_list (P := P) w' a [] (fun j v hv => by simp at hv); simp only [Builtin.firstCells, Nat.zero_mul]; exact this⟩
    | lst _ _ b off cap arr el fr g1 g2 g3 g4 g5 g6 =>
      have hl := flat_LR xs off g5 g4 g6
      have hlen := hl.len
      have hn : ((arr.toList.drop off).take (xs.length * k')).length = xs.length * k' := by simp; omega
      refine ⟨xs.length, _, _, h, hl, by rw [hlen, hn], fun _ => rfl, fun w' hw' => ?_⟩
      have hh := hs.imm b _ g1
      have hrun := run_loadCells_list (P := P) w' ⟨b, off, none⟩ ((arr.toList.drop off).take (xs.length * k')) (fun j v hv => by
        rw [Addr.add_lit]
        rw [List.getElem?_take] at hv
        split at hv
        · rw [List.getElem?_drop] at hv
          simp only [World.cell?, hw' b (world_lt hh), hh]
          simpa using hv
        · cases hv)
      rw [hn] at hrun
      exact hrun
  · rename_i s
    cases hy
    obtain ⟨rfl, h⟩ := h
    refine ⟨s.size, _, s.data.toList.map (fun b => .int .u8 b.toNat), h, LR.map (fun b => VR.val _) _, by simp, fun _ => rfl, fun w' _ => ?_⟩
    simp only [Builtin.firstCells, Sem.run_pure]
    congr 1
    have : s.extract 0 s.size = s := by
      simp
    rw [this]
    apply Array.ext'; simp
  · exact h.elim

/-- The new row of an append that grows. -/
theorem grow_run {t u e : TypeId} {d : TypeDesc} {i : TypeInfo} {ty : TypeId} (hu : P.underlying t = some (.slice e)) (hd : P.underlying u = some d) (hnd : ∀ k, d ≠ .int k) (hi : P.info? e = some i)
    {z : Value} (hz : i.zero = some z) {base : Option Addr} {n cap m : Nat} {y : Value} {olds vals : List Value} (hb : cap < n + m) (hm : n + m ≤ maxLen) (hby : (n + m) * i.bytes ≤ 140737488355328)
    (hlen : ∀ w', (Builtin.lenOf y).run P w' = .ok m w') (hold : (Builtin.firstCells i.size n (.slice base n cap)).run P w.drew = .ok olds.toArray w.drew)
    (hnew : (Builtin.firstCells i.size m y).run P w.drew = .ok vals.toArray w.drew) :
    (Builtin.append_ #[t, u] ty #[.slice base n cap, y]).run P w =
      .ok (.slice (some ⟨w.heap.size, 0, none⟩) (n + m) (grownCap w (n + m) cap e)) (w.drew.alloc (.cells (olds.toArray ++ vals.toArray ++ Builtin.zeroCells z.cells (grownCap w (n + m) cap e - (n + m))) e)) := by
  have hn : ¬ (n + m ≤ cap) := by omega
  have hz' : (match d with | TypeDesc.int k => true | _ => false) = false := by
    cases d <;> first | rfl | exact absurd rfl (hnd _)
  have h48 : ¬ (Builtin.nextslicecap (n + m) cap * i.bytes > 2 ^ 48) := by
    have := growslice_fits (need := n + m) (old := cap) (bytes := i.bytes) hb (by omega)
    omega
  have h63 : ¬ (((n + m : Nat) : Int) > IntKind.i64.max ∧ i.bytes = 0) := by
    intro h; have := h.1; simp [IntKind.max, IntKind.signed, IntKind.bits] at this; simp only [maxLen] at hm; omega
  simp only [Builtin.append_, List.getElem?_toArray, List.getElem?_cons_zero, List.getElem?_cons_succ, Sem.run_bind, run_underlying hu, run_underlying hd, Result.andThen_ok, sizeOf, run_typeInfo_und hi, Sem.run_pure, hz', Bool.false_eq_true, if_false, hlen,
    if_neg hn, false_or]
  rw [if_neg h63]
  simp only [Sem.run_bind, run_typeInfo_und hi, Result.andThen_ok, zeroValue]
  rw [if_neg h48]
  simp only [run_choose_drew, Question.forced, Bool.false_eq_true, if_false, Result.andThen_ok, Sem.run_bind, run_askRoom, hold, hnew, Bool.not_false, if_true, run_typeInfo_und hi, hz, Sem.run_pure, newRow, run_newObj]
  rfl

theorem room_run {t u e : TypeId} {d : TypeDesc} {i : TypeInfo} {ty : TypeId} (hu : P.underlying t = some (.slice e)) (hd : P.underlying u = some d) (hnd : ∀ k, d ≠ .int k) (hi : P.info? e = some i)
    {b off n cap m : Nat} {y : Value} {vals : List Value} (hb : n + m ≤ cap) (hlen : ∀ w', (Builtin.lenOf y).run P w' = .ok m w')
    (hnew : (Builtin.firstCells i.size m y).run P w = .ok vals.toArray w) {w' : World} (hst : (storeCells ⟨b, off + n * i.size, none⟩ vals).run P w = .ok () w') :
    (Builtin.append_ #[t, u] ty #[.slice (some ⟨b, off, none⟩) n cap, y]).run P w = .ok (.slice (some ⟨b, off, none⟩) (n + m) cap) w' := by
  have hz' : (match d with | TypeDesc.int k => true | _ => false) = false := by
    cases d <;> first | rfl | exact absurd rfl (hnd _)
  simp only [Builtin.append_, List.getElem?_toArray, List.getElem?_cons_zero, List.getElem?_cons_succ, Sem.run_bind, run_underlying hu, run_underlying hd, Result.andThen_ok, sizeOf, run_typeInfo_und hi, Sem.run_pure, hz', Bool.false_eq_true, if_false, hlen,
    if_pos hb, Bool.not_false, if_true, hnew, Addr.add_lit, hst]

theorem stay_run {t u e : TypeId} {d : TypeDesc} {i : TypeInfo} {ty : TypeId} (hu : P.underlying t = some (.slice e)) (hd : P.underlying u = some d) (hnd : ∀ k, d ≠ .int k) (hi : P.info? e = some i)
    {a : Option Addr} {n cap : Nat} {y : Value} {vals : List Value} (hb : n ≤ cap) (hlen : ∀ w', (Builtin.lenOf y).run P w' = .ok 0 w')
    (hnew : (Builtin.firstCells i.size 0 y).run P w = .ok vals.toArray w) (hv : vals = []) :
    (Builtin.append_ #[t, u] ty #[.slice a n cap, y]).run P w = .ok (.slice a n cap) w := by
  subst hv
  have hz' : (match d with | TypeDesc.int k => true | _ => false) = false := by
    cases d <;> first | rfl | exact absurd rfl (hnd _)
  simp only [Builtin.append_, List.getElem?_toArray, List.getElem?_cons_zero, List.getElem?_cons_succ, Sem.run_bind, run_underlying hu, run_underlying hd, Result.andThen_ok, sizeOf, run_typeInfo_und hi, Sem.run_pure, hz', Bool.false_eq_true, if_false, hlen,
    Nat.add_zero, if_pos hb, Bool.not_false, if_true, hnew]
  cases a <;> rfl

theorem LR.spare {xs : List V} {vs : List Value} (h : LR I xs vs) (zs : List Value) (n : Nat) (hn : zs.length = n) : LR I (xs ++ List.replicate n .top) (vs ++ zs) := by
  subst hn; exact h.append (LR.tops I zs)

theorem append_ok {t u : TypeId} {x y : V} {va vy : Value} {ty : TypeId} (hs : StR σ I w) (hx : VR I x va) (hy : VR I y vy) (h : appendV P t u x y σ K) :
    Upon P I w K KP ((do pure (.value (← Builtin.append_ #[t, u] ty #[va, vy])) : Sem Next).run P w) := by
  unfold appendV at h
  split at h
  · rename_i e d hu hd
    obtain ⟨hnd, h1, h2, h⟩ := h
    have hnd' : ∀ k, d ≠ .int k := fun k e => by subst e; exact hnd
    obtain ⟨i, hi⟩ := Option.isSome_iff_exists.1 h1
    have hsz : P.cellsOf e = i.size := by simp [Program.cellsOf, hi]
    have hby : P.bytesOf e = i.bytes := by simp [Program.bytesOf, hi]
    rw [hsz] at h2 h
    rw [hby] at h
    have hrow := row_ok (P := P) hs hy h
    clear h
    obtain ⟨m, news, vals, ⟨hone, h⟩, hl, hln, hlen, hfc⟩ := hrow
    have hvl := hl.len
    -- a new row
    have grow : ∀ (n cap : Nat) (base : Option Addr) (oldV : List V) (olds : List Value), va = .slice base n cap → cap < n + m → n + m ≤ maxLen → (n + m) * i.bytes ≤ 140737488355328 → (zeroV P e).map List.length = some i.size →
        LR I oldV olds → olds.length = n * i.size → (Builtin.firstCells i.size n (.slice base n cap)).run P w.drew = .ok olds.toArray w.drew →
        (∀ b' cap', σ b' = none → n + m ≤ cap' → cap' ≤ maxLen → K (.sl b' 0 (n + m) cap') (σ.set b' (.cells (oldV ++ news ++ List.replicate ((cap' - (n + m)) * i.size) .top)))) →
        Upon P I w K KP ((do pure (.value (← Builtin.append_ #[t, u] ty #[va, vy])) : Sem Next).run P w) := by
      intro n cap base oldV olds hva hc hm hbb hzs hol hon hfo hK
      subst hva
      have hz : ∃ z, i.zero = some z ∧ z.cells.size = i.size := by
        unfold zeroV at hzs
        simp only [hi, Option.bind_some, Option.map_map, Option.map_eq_some_iff] at hzs
        obtain ⟨z, hz, hq⟩ := hzs; exact ⟨z, hz, by simpa using hq⟩
      obtain ⟨z, hz, hzn⟩ := hz
      have hrun := grow_run (P := P) (w := w) (ty := ty) hu hd hnd' hi hz hc hm hbb hlen hfo (hfc w.drew (fun b _ => rfl))
      simp only [Sem.run_bind, hrun, Result.andThen_ok, Sem.run_pure]
      have hge := grownCap_ge w (n + m) cap e
      have hle := grownCap_le_maxLen w (n + m) cap e hm
      have hkeep : ∀ b, b < w.heap.size → (w.drew.alloc (.cells (olds.toArray ++ vals.toArray ++ Builtin.zeroCells z.cells (grownCap w (n + m) cap e - (n + m))) e)).heap[b]? = w.heap[b]? := fun b hb => Below.heap_alloc w.drew _ b hb
      refine ⟨((Bel.refl w).drew).alloc _ _, I, _, _, Imm.le_refl I, ?_, .sl _ _ _ _, hK w.heap.size _ hs.fresh_own hge hle⟩
      refine hs.alloc hkeep (heap_alloc_new w.drew _) ⟨fun j _ => by simp, ?_⟩
      have := (hol.append hl).spare (Builtin.zeroCells z.cells (grownCap w (n + m) cap e - (n + m))).toList ((grownCap w (n + m) cap e - (n + m)) * i.size) (by simp [Builtin.zeroCells, hzn])
      simpa using this
    split at h
    · rename_i b off n cap
      cases hx
      split at h
      · rename_i cs hb
        obtain ⟨q1, q2, q3, q4, q5⟩ := h
        obtain ⟨vs, hvs, hc⟩ := cellsB hs hb
        have hvsl := hvs.len
        have hmulle : n * i.size ≤ cap * i.size := Nat.mul_le_mul_right _ q2
        by_cases hroom : n + m ≤ cap
        · have hmul : (n + m) * i.size ≤ cap * i.size := Nat.mul_le_mul_right _ hroom
          rw [Nat.add_mul] at hmul
          obtain ⟨w', hst, hstr, hbel⟩ := run_storeCells_own (P := P) (I := I) (b := b) news vals (off + n * i.size) 0 cs σ w hs hb hl hone (by rw [hln]; omega)
          have hrun := room_run (P := P) (w := w) (ty := ty) hu hd hnd' hi hroom hlen (hfc w (fun _ _ => rfl)) hst
          simp only [Sem.run_bind, hrun, Result.andThen_ok, Sem.run_pure]
          exact ⟨hbel, I, _, _, Imm.le_refl I, by simpa using hstr, .sl _ _ _ _, q4 hroom⟩
        · have q := q5 (by omega)
          obtain ⟨p1, p2, p3, p4⟩ := q
          refine grow n cap _ _ ((vs.drop off).take (n * i.size)) rfl (by omega) p1 p2 p3 ((hvs.drop off).take _) (by simp; omega) ?_ p4
          have hn : ((vs.drop off).take (n * i.size)).length = n * i.size := by simp; omega
          have hrun := run_loadCells_list (P := P) w.drew ⟨b, off, none⟩ ((vs.drop off).take (n * i.size)) (fun j v hv => by
            rw [Addr.add_lit]
            rw [List.getElem?_take] at hv
            split at hv
            · rw [List.getElem?_drop] at hv; exact hc _ v hv
            · cases hv)
          rw [hn] at hrun
          exact hrun
      · exact h.elim
    · cases hx
      by_cases hm0 : m = 0
      · subst hm0
        have hv0 : vals = [] := List.eq_nil_of_length_eq_zero (by rw [← hvl, hln]; simp)
        have hrun := stay_run (P := P) (w := w) (ty := ty) hu hd hnd' hi (a := none) (n := 0) (cap := 0) (Nat.le_refl _) hlen (hfc w (fun _ _ => rfl)) hv0
        exact Upon.valRun hs hrun (.val _) (h.1 rfl)
      · obtain ⟨p1, p2, p3, p4⟩ := h.2 (by omega)
        refine grow 0 0 none [] [] rfl (by omega) (by omega) (by rw [Nat.zero_add]; exact p2) p3 (LR.nil I) (by simp) rfl (fun b' cap' a b c => ?_)
        have := p4 b' cap' a (by omega) c
        simpa using this
    · rename_i k xs
      obtain ⟨rfl, h⟩ := h
      have hv0 : vals = [] := List.eq_nil_of_length_eq_zero (by rw [← hvl, hln]; simp)
      have : ∃ a c, va = .slice a xs.length c ∧ xs.length ≤ c := by cases hx <;> first | exact ⟨_, _, rfl, by assumption⟩ | exact ⟨_, _, rfl, Nat.le_refl _⟩
      obtain ⟨a, c, rfl, hc⟩ := this
      exact Upon.valRun hs (stay_run (P := P) (w := w) (ty := ty) hu hd hnd' hi hc hlen (hfc w (fun _ _ => rfl)) hv0) hx h
    · exact h.elim
  · exact h.elim

theorem appendN_ok {t u : TypeId} {k : IntKind} {x y : V} {va vy : Value} {ty : TypeId} (hd : P.underlying u = some (.int k)) (hs : StR σ I w) (hx : VR I x va) (hy : VR I y vy) (h : appendN P t x y σ K) :
    Upon P I w K KP ((do pure (.value (← Builtin.append_ #[t, u] ty #[va, vy])) : Sem Next).run P w) := by
  unfold appendN at h
  split at h
  · rename_i e kk n hu
    obtain ⟨h1, h2, h3, h4, h5, h6, h7, h8⟩ := h
    obtain ⟨i, hi⟩ := Option.isSome_iff_exists.1 h1
    have hsz : P.cellsOf e = i.size := by simp [Program.cellsOf, hi]
    have hby : P.bytesOf e = i.bytes := by simp [Program.bytesOf, hi]
    rw [hsz] at h2 h6 h8
    rw [hby] at h5
    have e1 := hx.inv_val
    have e2 := hy.inv_val
    subst e1 e2
    obtain ⟨z, hz, hzn⟩ : ∃ z, i.zero = some z ∧ z.cells.size = i.size := by
      unfold zeroV at h6
      simp only [hi, Option.bind_some, Option.map_map, Option.map_eq_some_iff] at h6
      obtain ⟨z, hz, hq⟩ := h6; exact ⟨z, hz, by simpa using hq⟩
    have hmx : maxLen = 9223372036854775807 := rfl
    have hw : IntKind.i64.wrap n = n := by
      simp only [IntKind.wrap, IntKind.signed, IntKind.bits]; simp; omega
    have hnn : n = ((n.toNat : Nat) : Int) := by omega
    have hneg : ¬ (n < 0) := by omega
    have hmul : n * (i.bytes : Int) = ((n.toNat * i.bytes : Nat) : Int) := by rw [hnn]; simp
    have hbig : ¬ (n * (i.bytes : Int) > 2 ^ 48) := by
      rw [hmul, show (2 : Int) ^ 48 = 281474976710656 from by decide]; omega
    by_cases hn0 : n = 0
    · subst hn0
      refine Upon.valRun hs ?_ (.val _) (h7 rfl)
      simp only [Builtin.append_, List.getElem?_toArray, List.getElem?_cons_zero, List.getElem?_cons_succ, Sem.run_bind, run_underlying hu, run_underlying hd, Result.andThen_ok, sizeOf, run_typeInfo_und hi, Sem.run_pure, asInt, asIntOf, hw]
      simp [hw, run_typeInfo_und hi]
    · have hpos : 0 < n.toNat := by omega
      have hneed : ¬ (0 + n.toNat ≤ 0) := by omega
      have h48 : ¬ (Builtin.nextslicecap (0 + n.toNat) 0 * i.bytes > 2 ^ 48) := by
        have := growslice_fits (need := 0 + n.toNat) (old := 0) (bytes := i.bytes) (by omega) (by rw [Nat.zero_add]; omega)
        omega
      have h63 : ¬ (((0 + n.toNat : Nat) : Int) > IntKind.i64.max ∧ (True ∨ i.bytes = 0)) := by
        intro q; have := q.1; simp [IntKind.max, IntKind.signed, IntKind.bits] at this; omega
      have hns : ¬ (n.toNat * i.size = 0) := by
        intro q; rcases Nat.mul_eq_zero.1 q with q | q <;> omega
      have hrun : (Builtin.append_ #[t, u] ty #[.slice none 0 0, .int kk n]).run P w = .ok (.slice (some ⟨w.heap.size, 0, none⟩) (0 + n.toNat) (grownCap w (0 + n.toNat) 0 e)) (w.drew.alloc (.cells ((#[] : Array Value) ++ Builtin.zeroCells z.cells n.toNat ++ Builtin.zeroCells z.cells (grownCap w (0 + n.toNat) 0 e - (0 + n.toNat))) e)) := by
        simp only [Builtin.append_, List.getElem?_toArray, List.getElem?_cons_zero, List.getElem?_cons_succ, Sem.run_bind, run_underlying hu, run_underlying hd, Result.andThen_ok, sizeOf, run_typeInfo_und hi, Sem.run_pure, asInt, asIntOf, hw, if_true, if_neg hneg]
        rw [if_neg hbig]
        simp only [Sem.run_bind, Sem.run_pure, Result.andThen_ok, if_neg hneed, run_typeInfo_und hi]
        rw [if_neg h63]
        simp only [Sem.run_bind, run_typeInfo_und hi, Result.andThen_ok, zeroValue]
        rw [if_neg h48]
        simp only [run_choose_drew, Question.forced, Bool.false_eq_true, if_false, Result.andThen_ok, Sem.run_bind, run_askRoom, run_typeInfo_und hi, hz, Sem.run_pure, newRow, run_newObj, Builtin.firstCells, Bool.not_true, if_neg hns]
        rfl
      simp only [Sem.run_bind, hrun, Result.andThen_ok, Sem.run_pure]
      have hge := grownCap_ge w (0 + n.toNat) 0 e
      have hle := grownCap_le_maxLen w (0 + n.toNat) 0 e (by omega)
      have hk := h8 (by omega) w.heap.size (grownCap w (0 + n.toNat) 0 e) hs.fresh_own (by omega) hle
      rw [Nat.zero_add] at hk hge hle ⊢
      refine ⟨((Bel.refl w).drew).alloc _ _, I, _, _, Imm.le_refl I, ?_, .sl _ _ _ _, hk⟩
      refine hs.alloc (fun b hb => Below.heap_alloc w.drew _ b hb) (heap_alloc_new w.drew _) ⟨fun j _ => by simp, ?_⟩
      have := (LR.nil I).spare ((#[] : Array Value) ++ Builtin.zeroCells z.cells n.toNat ++ Builtin.zeroCells z.cells (grownCap w n.toNat 0 e - n.toNat)).toList (grownCap w n.toNat 0 e * i.size) (by
        simp [Builtin.zeroCells, hzn]
        rw [← Nat.add_mul]; congr 1; omega)
      simpa using this
  · exact h.elim
theorem cap_ok {t : TypeId} {ts : Array TypeId} {x : V} {u : Value} {ty : TypeId} (ht : ts[0]? = some t) (hs : StR σ I w) (hx : VR I x u) (h : capV P t x σ K) :
    Upon P I w K KP ((do pure (.value (← Builtin.cap_ ts ty #[u])) : Sem Next).run P w) := by
  unfold capV at h
  split at h
  · rename_i e hu; cases hx
    refine Upon.valRun hs ?_ (.val _) h
    simp [Builtin.cap_, ht, run_underlying hu, goInt]
  · rename_i e b off n c hu; cases hx
    refine Upon.valRun hs ?_ (.val _) h
    simp [Builtin.cap_, ht, run_underlying hu, goInt]
  · exact h.elim

end
end Go.Proofs.YtociliegljoldaaGreat

/- Own framework, part i: every operation; a list of operations in the text's order; code; a call out of its body. -/
namespace Go.Proofs.YtociliegljoldaaGreat
set_option linter.unusedSimpArgs false
set_option linter.unusedVariables false
open Go.RowKit

section
variable {P : Program} {I : Imm} {w : World} {K KP : V → Store → Prop} {σ : Store}

theorem run_enter {g : FuncId} {args : Array Value} (h : entersB P g = true) : (callFunc g args).run P w = .ok (.enter g args) w := by
  unfold entersB at h
  cases e : P.funcs[g]? with
  | none => simp [e] at h
  | some fn =>
    simp only [e, Bool.and_eq_true, Bool.not_eq_true'] at h
    obtain ⟨h1, h2⟩ := h
    have h3 : fn.body.isNone = false := by cases hb : fn.body <;> simp_all
    simp only [callFunc, Sem.run_bind, run_program, Result.andThen_ok, e, h1, Bool.false_eq_true, if_false, h3, Sem.run_pure]

theorem call_ok {f : V} {xs : List V} {u : Value} {vs : Array Value} (hs : StR σ I w) (hf : VR I f u) (hx : LR I xs vs.toList) (h : callV P f xs σ K KP) :
    Upon P I w K KP ((do let d ← Deferred.ofValue u vs; invoke d.target d.args : Sem Next).run P w) := by
  unfold callV at h
  split at h
  · rename_i g ps qs
    obtain ⟨us, ws, rfl, hps, hqs⟩ := hf.inv_fn
    obtain ⟨he, hc⟩ := h
    simp only [Deferred.ofValue, Sem.run_bind, Sem.run_pure, Result.andThen_ok, invoke, run_enter he]
    refine ⟨Bel.refl _, (hc I w (us ++ vs ++ ws) hs (by simpa using (hps.append hx).append hqs)).mono fun e w' ⟨hb, I', σ', h1, h2, h3⟩ => ⟨hb, I', σ', h1, h2, h3⟩⟩
  · exact h.elim

theorem panic_ok {x : V} {u : Value} (hs : StR σ I w) (hx : VR I x u) (h : panicV x σ KP) : Upon P I w K KP ((do pure (.value (← Instr.panic u)) : Sem Next).run P w) := by
  unfold panicV at h
  split at h
  · cases hx with
    | ifc t x v hv =>
      simp only [Instr.panic, goPanic, Sem.run_bind, Sem.run_halt, Result.andThen_halt]
      exact ⟨Bel.refl _, I, _, σ, Imm.le_refl I, hs, .ifc _ _ _ hv, h⟩
  · exact h.elim

theorem maps_eq {ρ : Operand → V} {ρc : Operand → Value} {args : Array Operand} {xs : List V} (h : args.toList.map ρ = xs) : ∃ as : List Operand, args = as.toArray ∧ as.map ρ = xs := ⟨args.toList, by simp, h⟩

theorem builtin_ok {b : Builtin} {ts : Array TypeId} {ty : TypeId} {cs : Array Bool} {ρ : Operand → V} {ρc : Operand → Value} {args : Array Operand} (hs : StR σ I w) (hρ : ∀ x ∈ args, VR I (ρ x) (ρc x))
    (h : builtinV P b ts.toList (args.toList.map ρ) σ K) : Upon P I w K KP ((builtin b ts ty cs (args.map ρc)).run P w) := by
  obtain ⟨args⟩ := args
  obtain ⟨ts⟩ := ts
  unfold builtinV at h
  simp only [] at h
  split at h
  · rename_i t rest x e2
    obtain ⟨a, rfl, rfl⟩ := List.map_eq_singleton_iff.1 e2
    have := len_ok (P := P) (K := K) (KP := KP) (ts := (t :: rest).toArray) (t := t) (ty := ty) rfl hs (hρ a (by simp)) h
    simpa [builtin] using this
  · rename_i t u x y e2
    cases args with
    | nil => simp at e2
    | cons a as =>
      cases as with
      | nil => simp at e2
      | cons b as =>
        cases as with
        | cons c as => simp at e2
        | nil =>
          simp only [List.map_cons, List.map_nil, List.cons.injEq, and_true] at e2
          obtain ⟨rfl, rfl⟩ := e2
          split at h
          · rename_i k hk
            have := appendN_ok (P := P) (K := K) (KP := KP) (ty := ty) hk hs (hρ a (by simp)) (hρ b (by simp)) h
            simpa [builtin] using this
          · have := append_ok (P := P) (K := K) (KP := KP) (ty := ty) hs (hρ a (by simp)) (hρ b (by simp)) h
            simpa [builtin] using this
  · split at h
    · rename_i x hm
      unfold minI at hm
      split at hm
      · rename_i k m k' n e2
        split at hm
        · rename_i ek; subst ek
          simp only [Option.some.injEq] at hm; subst hm
          cases args with
          | nil => simp at e2
          | cons a as =>
            cases as with
            | nil => simp at e2
            | cons b as =>
              cases as with
              | cons c as => simp at e2
              | nil =>
                simp only [List.map_cons, List.map_nil, List.cons.injEq, and_true] at e2
                have h1 := hρ a (by simp); have h2 := hρ b (by simp)
                rw [e2.1] at h1; rw [e2.2] at h2
                have e1' := h1.inv_val; have e2' := h2.inv_val
                refine Upon.valRun hs ?_ (.val _) h
                simp [Builtin.min_, e1', e2', Builtin.min2]
        · cases hm
      · cases hm
    · exact h.elim
  · split at h
    · rename_i x hm
      unfold maxI at hm
      split at hm
      · rename_i k m k' n e2
        split at hm
        · rename_i ek; subst ek
          simp only [Option.some.injEq] at hm; subst hm
          cases args with
          | nil => simp at e2
          | cons a as =>
            cases as with
            | nil => simp at e2
            | cons b as =>
              cases as with
              | cons c as => simp at e2
              | nil =>
                simp only [List.map_cons, List.map_nil, List.cons.injEq, and_true] at e2
                have h1 := hρ a (by simp); have h2 := hρ b (by simp)
                rw [e2.1] at h1; rw [e2.2] at h2
                have e1' := h1.inv_val; have e2' := h2.inv_val
                refine Upon.valRun hs ?_ (.val _) h
                simp [Builtin.max_, e1', e2', Builtin.max2]
        · cases hm
      · cases hm
    · exact h.elim
  · rename_i t rest x e2
    obtain ⟨a, rfl, rfl⟩ := List.map_eq_singleton_iff.1 e2
    have := cap_ok (P := P) (K := K) (KP := KP) (ts := (t :: rest).toArray) (t := t) (ty := ty) rfl hs (hρ a (by simp)) h
    simpa [builtin] using this
  · exact h.elim

theorem LR.mapMem {I : Imm} {α : Type} {f : α → V} {g : α → Value} {l : List α} (h : ∀ a ∈ l, VR I (f a) (g a)) : LR I (l.map f) (l.map g) := by
  induction l with
  | nil => exact LR.nil I
  | cons a l ih => exact LR.cons (h a (List.mem_cons_self ..)) (ih fun b hb => h b (List.mem_cons_of_mem _ hb))

/-- EVERY OPERATION. -/
theorem opV_ok {ρ : Operand → V} {ρc : Operand → Value} (hρ : ∀ x, VR I (ρ x) (ρc x)) (o : Oper) (hs : StR σ I w) (h : opV P ρ o σ K KP) : Upon P I w K KP ((execOp ρc o).run P w) := by
  obtain ⟨dst, op, type, pos, after, guard⟩ := o
  unfold opV at h
  cases op <;> simp only [] at h <;> first | exact h.elim | skip
  case move x => exact Upon.val hs (hρ x) h
  case assign x => exact Upon.val hs (hρ x) h
  case pick c a b => exact pick_ok hs (hρ c) (hρ a) (hρ b) h
  case alloc t => exact alloc_ok hs h
  case box t x => exact box_ok hs (hρ x) h
  case build t parts => exact build_ok hρ parts hs h
  case buildSlice t n parts => exact buildSlice_ok hρ parts hs h
  case load t a => exact load_ok hs (hρ a) h
  case store t a x => exact store_ok hs (hρ a) (hρ x) h
  case nilCheck x => exact nil_ok hs (hρ x) h _ _ _ _ _
  case binOp op t x y _ => exact bin_ok hs (hρ x) (hρ y) h
  case unOp op _ x => exact un_ok hs (hρ x) h
  case convert s d x => exact convert_ok hs (hρ x) h
  case makeInterface t x => exact iface_ok hs (hρ x) h
  case makeFunc f first captured => exact func_ok hρ hs h
  case makeSlice t l c => exact makeSlice_ok hs (hρ l) (hρ c) h
  case slice t x lo hi mx => exact slice_ok hs (hρ x) (OptR.map hρ lo) (OptR.map hρ hi) (OptR.map hρ mx) h
  case fieldAddr s x i => exact fieldAddr_ok hs (hρ x) h
  case field s x i => exact field_ok hs (hρ x) h
  case indexAddr t x i => exact indexAddr_ok hs (hρ x) (hρ i) h
  case index t x i => exact index_ok hs (hρ x) (hρ i) h
  case extract x i => exact extract_ok hs (hρ x) h
  case panic x => exact panic_ok hs (hρ x) h
  case typeAssert x xt a ok => exact assert_ok hs (hρ x) h
  case call c =>
    split at h
    · rename_i f hf
      have := call_ok (P := P) (K := K) (KP := KP) (vs := c.args.map ρc) hs (hρ f) (by simpa using LR.map hρ c.args.toList) h
      simp only [execOp, resolve, hf]
      exact this
    · rename_i b hb
      have := builtin_ok (P := P) (K := K) (KP := KP) (ty := type) (cs := c.args.map fun | .const _ => true | _ => false) hs (fun x _ => hρ x) h
      simp only [execOp, resolve, hb, Sem.run_bind, Sem.run_pure, Result.andThen_ok, invoke]
      exact this
    · exact h.elim

theorem Upon.wp {ds : List Deferred} {Q : Ex → List V → Store → Prop} {I0 : Imm} {w0 : World} {o : Oper} {a : Act} {next : Act → World → Prop} {env : List V} (hI0 : I0.le I) (hw0 : Bel w0 w) (he : LR I env a.tmps.toList) (hd : a.defers = ds) {r : Result Next}
    (hu : Upon P I w K KP r)
    (hk : ∀ I' w' x v σ', I.le I' → Bel w w' → StR σ' I' w' → VR I' x v → K x σ' → next (a.put o.dst v) w') (hp : ∀ p σ', KP p σ' → Q (.pan p) env σ') : o.upon P a next (toQ ds I0 w0 Q) r := by
  cases r with
  | ok n w' =>
    cases n with
    | value v => obtain ⟨h1, I', x, σ', h2, h3, h4, h5⟩ := hu; exact hk I' w' x v σ' h2 h1 h3 h4 h5
    | skip => obtain ⟨h1, I', σ', h2, h3, h5⟩ := hu; exact hk I' w' _ undef σ' h2 h1 h3 (.top _) h5
    | enter f args =>
      obtain ⟨h1, hc⟩ := hu
      refine hc.mono fun e w'' ⟨hb, I', σ', h2, h3, h4⟩ => ?_
      rcases h4 with ⟨r, v, rfl, hv, hr⟩ | ⟨r, v, rfl, hv, hr⟩
      · exact hk I' w'' r v σ' h2 (h1.trans hb) h3 hv hr
      · exact ⟨hd, (hw0.trans h1).trans hb, I', σ', env, Imm.le_trans hI0 h2, h3, he.mono h2, r, v, rfl, hv, hp r σ' hr⟩
    | _ => exact hu.elim
  | halt h w' =>
    cases h with
    | panic v =>
      obtain ⟨h1, I', x, σ', h2, h3, h4, h5⟩ := hu
      exact ⟨hd, hw0.trans h1, I', σ', env, Imm.le_trans hI0 h2, h3, he.mono h2, x, v, rfl, h4, hp x σ' h5⟩
    | _ => exact hu.elim

end

/-! What an operation does hangs on its operands alone. -/

theorem parts_congr {ρ ρ' : Operand → V} {ps : Array (Nat × Operand)} (h : ∀ x ∈ ps.map (·.2), ρ x = ρ' x) : (ps.toList.map fun (i, x) => (i, ρ x)) = ps.toList.map fun (i, x) => (i, ρ' x) :=
  List.map_congr_left fun p hm => by
    obtain ⟨i, x⟩ := p
    simp only [h x (Array.mem_map.2 ⟨(i, x), by simpa using hm, rfl⟩)]

theorem opV_congr {P : Program} {ρ ρ' : Operand → V} (o : Oper) (h : ∀ x ∈ o.op.operands, ρ x = ρ' x) (σ : Store) (K KP : V → Store → Prop) : opV P ρ o σ K KP = opV P ρ' o σ K KP := by
  obtain ⟨dst, op, type, pos, after, guard⟩ := o
  cases op <;> simp only [Op.operands] at h <;> simp only [opV]
  case build t ps => rw [parts_congr fun x hx => h x (by simpa using hx)]
  case buildSlice t n ps => rw [parts_congr fun x hx => h x (by simpa using hx)]
  case makeFunc fn first captured =>
    rw [List.map_congr_left (l := first.toList) fun x hx => h x (by simp at hx; simp [hx]), List.map_congr_left (l := captured.toList) fun x hx => h x (by simp at hx; simp [hx])]
  case call c =>
    have ha : c.args.toList.map ρ = c.args.toList.map ρ' := List.map_congr_left fun x hx => h x (by simp at hx; simp [Call.operands, hx])
    rw [ha]
    cases hc : c.callee with
    | value f => simp only []; rw [h f (by simp [Call.operands, hc])]
    | builtin b => rfl
    | invoke r m => rfl
  case slice t x lo hi mx => cases lo <;> cases hi <;> cases mx <;> simp_all
  all_goals (first | rfl | (simp_all; done))

section
variable {P : Program} {I : Imm} {w : World} {K KP : V → Store → Prop} {σ : Store}
/-! A list of operations, in the text's order. -/

def putV (env : List V) (d : Option Tmp) (x : V) : List V := match d with | some d => env.set d x | none => env
/-- What a value that may be absent is where it is there; and when. -/
def V.strip : V → V | .cnd _ y => y | x => x
def V.flag : V → Bool | .cnd g _ => g | _ => true
theorem VR.strip {x : V} {v : Value} (h : VR I x v) (hf : x.flag = true) : VR I x.strip v := by
  cases h with
  | cndT x v h => exact h
  | cndF x => simp [V.flag] at hf
  | val v => exact .val v
  | ptr b off => exact .ptr b off
  | sl b off len cap => exact .sl b off len cap
  | lnil k => exact .lnil k
  | lst0 k a => exact .lst0 k a
  | lst k xs b off cap arr el fr h hc hm hb hk hx => exact .lst k xs b off cap arr el fr h hc hm hb hk hx
  | ro cs b off arr el fr h hb hx => exact .ro cs b off arr el fr h hb hx
  | agg cs vs hl hx => exact .agg cs vs hl hx
  | tup cs vs hl hx => exact .tup cs vs hl hx
  | fn f ps qs us ws hl hx kl kx => exact .fn f ps qs us ws hl hx kl kx
  | ifc t x v h => exact .ifc t x v h
  | top v => exact .top v

/-- When an operation under a guard is carried out. -/
def condOf (g : V) (want : Bool) : Option Bool := match g with
  | .val (.bool b) => some (b == want)
  | .cnd a (.val (.bool b)) => some (a && (b == want))
  | _ => none

/-- An operation under a guard: either both ways are gone, or it is quiet and its value is told under the guard. -/
def guardC (c : Bool) (flags : List Bool) (op : (V → Store → Prop) → Prop) (σ : Store) (K : V → Store → Prop) : Prop :=
  (c = true → ∀ f ∈ flags, f = true) ∧ (((c = true → op K) ∧ (c = false → K (.val undef) σ)) ∨ ∃ x, (c = true → op (fun y τ => y = x ∧ τ = σ)) ∧ K (.cnd c x) σ)
def guardV (g : V) (want : Bool) (flags : List Bool) (op : (V → Store → Prop) → Prop) (σ : Store) (K : V → Store → Prop) : Prop :=
  match condOf g want with
  | some c => guardC c flags op σ K
  | none => False

def yieldV (slots : List (Option Tmp)) (env : List V) (j : Nat) : V := match slots[j]? with | some (some t) => env.getD t .top | _ => .top

/-- What must be there, if an operation under a guard is carried out; a choice looks at one of its two values alone. -/
def isPick : Op → Bool | .pick _ _ _ => true | _ => false
def flagsOf (env : List V) (o : Op) : List Bool := match o with
  | .pick c _ _ => [(evalV env c).flag]
  | o => o.operands.toList.map fun x => (evalV env x).flag
def opG (P : Program) (env : List V) (o : Oper) (σ : Store) (K KP : V → Store → Prop) : Prop := match o.op with
  | .pick c a b => pickV (evalV env c).strip (evalV env a) (evalV env b) σ K
  | _ => opV P (fun x => (evalV env x).strip) o σ K KP
theorem opG_op {P : Program} {env : List V} {o : Oper} {σ : Store} {K KP : V → Store → Prop} (h : isPick o.op = false) : opG P env o σ K KP = opV P (fun x => (evalV env x).strip) o σ K KP := by
  obtain ⟨d, op, t, p, af, g⟩ := o
  cases op <;> first | rfl | cases h
theorem flagsOf_op {env : List V} {o : Op} (h : isPick o = false) : flagsOf env o = o.operands.toList.map fun x => (evalV env x).flag := by
  cases o <;> first | rfl | cases h
theorem isPick_is {o : Op} (h : isPick o = true) : ∃ c a b, o = .pick c a b := by
  cases o <;> first | exact ⟨_, _, _, rfl⟩ | cases h

def vcOps (P : Program) (slots : List (Option Tmp)) (K : List V → Store → Prop) (KP : V → List V → Store → Prop) : List Oper → List V → Store → Prop
  | [], env, σ => K env σ
  | o :: rest, env, σ =>
    match o.guard with
    | none => opV P (evalV env) o σ (fun x σ' => vcOps P slots K KP rest (putV env o.dst x) σ') (fun p σ' => KP p env σ')
    | some (j, want) => guardV (yieldV slots env j) want (flagsOf env o.op) (fun K => opG P env o σ K (fun p σ' => KP p env σ')) σ (fun x σ' => vcOps P slots K KP rest (putV env o.dst x) σ')

theorem putV_ok {env : List V} {a : Act} (he : LR I env a.tmps.toList) (d : Option Tmp) {x : V} {v : Value} (hx : VR I x v) : LR I (putV env d x) (a.put d v).tmps.toList := by
  cases d with
  | none => exact he
  | some d => simp only [putV, Act.put, Array.toList_setIfInBounds]; exact he.set d hx

theorem put_defers' (a : Act) (d : Option Tmp) (v : Value) : (a.put d v).defers = a.defers := by cases d <;> rfl

theorem LR.at_slot {env : List V} {vs : List Value} (he : LR I env vs) (t : Nat) (h : env.getD t .top ≠ .top) : ∃ v, vs[t]? = some v ∧ VR I (env.getD t .top) v := by
  have hl := he.len
  by_cases ht : t < env.length
  · have h1 : env[t]? = some (env.getD t .top) := by rw [List.getD_eq_getElem?_getD, List.getElem?_eq_getElem ht]; rfl
    exact ⟨vs[t]'(by omega), by simp [show t < vs.length by omega], he.at_ t _ _ h1 (by simp [show t < vs.length by omega])⟩
  · rw [List.getD_eq_getElem?_getD, List.getElem?_eq_none (by omega)] at h; exact absurd rfl h

/-- Whether an operation under a guard is carried out. -/
theorem wanted_ok {all : List Oper} {env : List V} {a : Act} (he : LR I env a.tmps.toList) {o : Oper} {j : Nat} {want c : Bool} (hg : o.guard = some (j, want)) (h : condOf (yieldV (all.map (·.dst)) env j) want = some c) :
    Region.wanted o (yielded all.toArray a.tmps) = c := by
  have key : ∀ v, (yielded all.toArray a.tmps j = match v with | Value.bool b => some b | _ => none) → VR I (yieldV (all.map (·.dst)) env j) v → Region.wanted o (yielded all.toArray a.tmps) = c := by
    intro v hy hv
    unfold condOf at h
    split at h
    · rename_i b hb
      simp only [hb] at hv
      cases hv
      simp only [Option.some.injEq] at h
      simp only [Region.wanted, hg, hy, ← h]
      cases b <;> cases want <;> rfl
    · rename_i x b hb
      simp only [hb] at hv
      simp only [Option.some.injEq] at h
      cases hv with
      | cndT _ _ hv =>
        cases hv
        simp only [Region.wanted, hg, hy, ← h, Bool.true_and]
        cases b <;> cases want <;> rfl
      | cndF =>
        simp only [Region.wanted, hg, hy, ← h, Bool.false_and, undef]
        rfl
    · cases h
  unfold yieldV at key h
  cases e : (all.map (·.dst))[j]? with
  | none => simp [e, condOf] at h
  | some d =>
    cases d with
    | none => simp [e, condOf] at h
    | some t =>
      simp only [e] at key h
      have hne : env.getD t .top ≠ .top := by intro q; rw [q] at h; simp [condOf] at h
      obtain ⟨v, hv, hvr⟩ := he.at_slot t hne
      refine key v ?_ hvr
      unfold yielded
      have e1 : (all.toArray[j]?).bind (·.dst) = some t := by
        simp only [List.getElem?_map, Option.map_eq_some_iff] at e
        obtain ⟨o', ho, hd⟩ := e
        simp [ho, hd]
      rw [e1]
      simp only [Array.getElem?_toList] at hv
      simp only [Option.bind_some, hv]
      cases v <;> rfl

/-- Operands that are there. -/
theorem strip_ok {P : Program} {I : Imm} {w : World} {K KP : V → Store → Prop} {σ : Store} {env : List V} {a : Act} (he : LR I env a.tmps.toList) (o : Oper) (hf : ∀ f ∈ flagsOf env o.op, f = true) (hs : StR σ I w)
    (h : opG P env o σ K KP) : Upon P I w K KP ((execOp a.eval o).run P w) := by
  cases hp : isPick o.op with
  | true =>
    obtain ⟨d, op, t, p, af, g⟩ := o
    obtain ⟨c, x, y, e⟩ := isPick_is hp
    simp only at e
    subst e
    have hc : (evalV env c).flag = true := hf _ (by simp [flagsOf])
    exact pick_ok hs ((evalV_ok he c).strip hc) (evalV_ok he x) (evalV_ok he y) h
  | false =>
  rw [opG_op hp] at h
  rw [flagsOf_op hp] at hf
  let ρ : Operand → V := fun x => if (evalV env x).flag = true then (evalV env x).strip else .top
  have hρ : ∀ x, VR I (ρ x) (a.eval x) := by
    intro x
    by_cases hx : (evalV env x).flag = true
    · simp only [ρ, if_pos hx]; exact (evalV_ok he x).strip hx
    · simp only [ρ, if_neg hx]; exact .top _
  refine opV_ok hρ o hs ?_
  rw [opV_congr (ρ' := fun x => (evalV env x).strip) o (fun x hx => ?_)]
  · exact h
  · have : (evalV env x).flag = true := hf _ (List.mem_map.2 ⟨x, by simpa using hx, rfl⟩)
    simp only [ρ, if_pos this]

theorem vcOps_ok {ds : List Deferred} (all : List Oper) {Q : Ex → List V → Store → Prop} {K : List V → Store → Prop} {KP : V → List V → Store → Prop} (hK : ∀ env σ, K env σ → Q .normal env σ) (hKP : ∀ p env σ, KP p env σ → Q (.pan p) env σ) :
    ∀ (l : List Oper) (env : List V) (σ : Store) (I0 I : Imm) (w0 w : World) (a : Act), I0.le I → Bel w0 w → StR σ I w → LR I env a.tmps.toList → a.defers = ds →
    vcOps P (all.map (·.dst)) K KP l env σ → wpList P all.toArray (toQ ds I0 w0 Q) l a w := by
  intro l
  induction l with
  | nil => intro env σ I0 I w0 w a hI hw hs he hd h; exact ⟨hd, hw, I, σ, env, hI, hs, he, hK _ _ h⟩
  | cons o rest ih =>
    intro env σ I0 I w0 w a hI hw hs he hd h
    unfold vcOps at h
    unfold wpList
    have nextOk : ∀ I' w' x v σ', I.le I' → Bel w w' → StR σ' I' w' → VR I' x v → vcOps P (all.map (·.dst)) K KP rest (putV env o.dst x) σ' → wpList P all.toArray (toQ ds I0 w0 Q) rest (a.put o.dst v) w' :=
      fun I' w' x v σ' h1 h2 h3 h4 h5 => ih _ σ' I0 I' w0 w' _ (Imm.le_trans hI h1) (hw.trans h2) h3 (putV_ok (he.mono h1) o.dst h4) (by rw [put_defers']; exact hd) h5
    split at h
    · rename_i hg
      rw [if_pos (by simp [Region.wanted, hg])]
      exact .inl (Upon.wp hI hw he hd (opV_ok (fun x => evalV_ok he x) o hs h) nextOk (fun p σ' h => hKP _ _ _ h))
    · rename_i j want hg
      unfold guardV at h
      split at h
      · rename_i c hc
        rw [wanted_ok he hg hc]
        obtain ⟨hf, h⟩ := h
        cases c with
        | true =>
          rw [if_pos rfl]
          rcases h with ⟨h1, _⟩ | ⟨x, h1, h2⟩
          · exact .inl (Upon.wp hI hw he hd (strip_ok he o (hf rfl) hs (h1 rfl)) nextOk (fun p σ' h => hKP _ _ _ h))
          · refine .inl (Upon.wp (Q := Q) hI hw he hd (strip_ok he o (hf rfl) hs (h1 rfl)) (fun I' w' y v σ' g1 g2 g3 g4 g5 => ?_) (fun p σ' h => hKP _ _ _ h))
            obtain ⟨rfl, rfl⟩ := g5
            exact nextOk I' w' _ v _ g1 g2 g3 (.cndT _ _ g4) h2
        | false =>
          rw [if_neg (by simp)]
          rcases h with ⟨_, h1⟩ | ⟨x, _, h2⟩
          · exact nextOk I w _ undef σ (Imm.le_refl I) (Bel.refl _) hs (.val _) (h1 rfl)
          · exact nextOk I w _ undef σ (Imm.le_refl I) (Bel.refl _) hs (.cndF _) h2
      · exact h.elim

theorem HWp.region {id : Nat} {ops : Array Oper} {Q : Ex → List V → Store → Prop} {env : List V}
    (h : vcOps P (ops.toList.map (·.dst)) (fun env σ => Q .normal env σ) (fun p env σ => Q (.pan p) env σ) ops.toList env σ) : HWp P (.region id ops false) Q env σ :=
  fun ds I w a hs he hd => wp_region_list (by
    have := vcOps_ok (P := P) ops.toList (Q := Q) (fun _ _ h => h) (fun _ _ _ h => h) ops.toList env σ I I w w a (Imm.le_refl I) (Bel.refl _) hs he hd h
    simpa using this)

end
end Go.Proofs.YtociliegljoldaaGreat

/- Own framework, part j: regions that draw their order. -/
namespace Go.Proofs.YtociliegljoldaaGreat
set_option linter.unusedSimpArgs false
set_option linter.unusedVariables false
open Go.RowKit

/-- Which must come ahead. -/
def targets (all : List Oper) (i : Nat) : List Nat := match all[i]? with | some o => (o.after.toList.filter (Region.binds .any ·)).map (·.on) | none => []

def befBit (all : List Oper) (i j : Nat) : Bool := ((Region.before all.toArray).getD j 0).testBit i

def relB (all : List Oper) (es : List Nat) (i j : Nat) : Bool :=
  !(targets all i).contains j && (befBit all i j || ((all.getD i default).apart all.toArray (all.getD j default) && !es.contains i))

def pairB (r : Nat → Nat → Bool) : List Nat → Bool
  | [] => true
  | i :: rest => rest.all (r i) && pairB r rest

/-- 'ord' is an order of all operations in which each waits for what must come ahead, and a pure one comes ahead of every effect for which it need not wait; two that are not apart are ordered; so are effects. -/
def orderB (all : List Oper) (es ord : List Nat) : Bool :=
  (List.range all.length).all (fun i => ord.contains i) && ord.all (fun i => decide (i < all.length)) && pairB (fun i j => i != j) ord &&
  (all.all fun o => match o.op with | .select _ _ => false | _ => true) && (List.range all.length).all (fun i => !(targets all i).contains i && (targets all i).all (fun t => decide (t < all.length))) &&
  pairB (relB all es) ord && ord.length == all.length

theorem pairB_spec {r : Nat → Nat → Bool} : ∀ {l : List Nat}, pairB r l = true → l.Pairwise (fun i j => r i j = true)
  | [], _ => .nil
  | i :: rest, h => by
    simp only [pairB, Bool.and_eq_true, List.all_eq_true] at h
    exact .cons h.1 (pairB_spec h.2)

/-- A bit of 'before' comes along an edge. -/
theorem before_bit (all : List Oper) : ∀ (j i : Nat), befBit all i j = true → i ∈ targets all j ∨ ∃ t ∈ targets all j, t < j ∧ befBit all i t = true := by
  unfold befBit Region.before targets
  rw [← Array.foldl_toList]
  simp only []
  have gen : ∀ (l done : List Oper) (acc : Array Nat), acc.size = done.length → ∀ (j i : Nat),
      ((l.foldl (fun acc o => acc.push (o.after.foldl (fun s e => if Region.binds .any e then s ||| 2 ^ e.on ||| acc.getD e.on 0 else s) 0)) acc).getD j 0).testBit i = true →
      (j < done.length ∧ (acc.getD j 0).testBit i = true) ∨ (done.length ≤ j ∧ ∃ o, l[j - done.length]? = some o ∧ (i ∈ (o.after.toList.filter (Region.binds .any ·)).map (·.on) ∨
        ∃ t ∈ (o.after.toList.filter (Region.binds .any ·)).map (·.on), t < j ∧ ((l.foldl (fun acc o => acc.push (o.after.foldl (fun s e => if Region.binds .any e then s ||| 2 ^ e.on ||| acc.getD e.on 0 else s) 0)) acc).getD t 0).testBit i = true)) := by
    intro l
    induction l with
    | nil =>
      intro done acc hsz j i h
      simp only [List.foldl_nil] at h
      by_cases hj : j < acc.size
      · exact .inl ⟨by omega, h⟩
      · rw [Array.getD_eq_getD_getElem?, Array.getElem?_eq_none (by omega)] at h; simp at h
    | cons o l ih =>
      intro done acc hsz j i h
      simp only [List.foldl_cons] at h ⊢
      have keep : ∀ (l : List Oper) (acc : Array Nat) (t : Nat), t < acc.size → (l.foldl (fun acc o => acc.push (o.after.foldl (fun s e => if Region.binds .any e then s ||| 2 ^ e.on ||| acc.getD e.on 0 else s) 0)) acc).getD t 0 = acc.getD t 0 := by
        intro l
        induction l with
        | nil => intro acc t _; rfl
        | cons o l ih2 => intro acc t ht; simp only [List.foldl_cons]; rw [ih2 _ t (by simp; omega)]; simp [Array.getD_eq_getD_getElem?, Array.getElem?_push, show t ≠ acc.size by omega]
      rcases ih (done ++ [o]) _ (by simp [hsz]) j i h with ⟨h1, h2⟩ | ⟨h1, o', h2, h3⟩
      · simp only [List.length_append, List.length_cons, List.length_nil] at h1
        by_cases hj : j < done.length
        · left; refine ⟨hj, ?_⟩
          simpa [Array.getD_eq_getD_getElem?, Array.getElem?_push, show j ≠ acc.size by omega] using h2
        · right
          obtain rfl : j = done.length := by omega
          refine ⟨Nat.le_refl _, o, by simp, ?_⟩
          have h4 : (o.after.foldl (fun s e => if Region.binds .any e then s ||| 2 ^ e.on ||| acc.getD e.on 0 else s) 0).testBit i = true := by
            simpa [Array.getD_eq_getD_getElem?, Array.getElem?_push, ← hsz] using h2
          have fold : ∀ (l : List Edge) (s : Nat), (l.foldl (fun s e => if Region.binds .any e then s ||| 2 ^ e.on ||| acc.getD e.on 0 else s) s).testBit i = true →
              s.testBit i = true ∨ ∃ e ∈ l, Region.binds .any e = true ∧ (e.on = i ∨ (acc.getD e.on 0).testBit i = true) := by
            intro l
            induction l with
            | nil => intro s h; exact .inl h
            | cons e l ih3 =>
              intro s h
              simp only [List.foldl_cons] at h
              rcases ih3 _ h with h | ⟨e', he', h5⟩
              · split at h
                · rename_i hb
                  simp only [Nat.testBit_or, Bool.or_eq_true, Nat.testBit_two_pow, decide_eq_true_eq] at h
                  rcases h with (h | h) | h
                  · exact .inl h
                  · exact .inr ⟨e, List.mem_cons_self .., hb, .inl h⟩
                  · exact .inr ⟨e, List.mem_cons_self .., hb, .inr h⟩
                · exact .inl h
              · exact .inr ⟨e', List.mem_cons_of_mem _ he', h5⟩
          rw [← Array.foldl_toList] at h4
          rcases fold _ _ h4 with h5 | ⟨e, he, hb, h5⟩
          · simp at h5
          · have hmem : e.on ∈ (o.after.toList.filter (Region.binds .any ·)).map (·.on) := List.mem_map.2 ⟨e, List.mem_filter.2 ⟨he, hb⟩, rfl⟩
            rcases h5 with rfl | h5
            · exact .inl hmem
            · right
              have hlt : e.on < acc.size := by
                rcases Nat.lt_or_ge e.on acc.size with h | h
                · exact h
                · rw [Array.getD_eq_getD_getElem?, Array.getElem?_eq_none h] at h5; simp at h5
              refine ⟨e.on, hmem, by omega, ?_⟩
              rw [keep _ _ _ (by simp; omega)]
              simpa [Array.getD_eq_getD_getElem?, Array.getElem?_push, show e.on ≠ acc.size by omega] using h5
      · right
        simp only [List.length_append, List.length_cons, List.length_nil] at h1 h2
        refine ⟨by omega, o', ?_, h3⟩
        rw [show j - done.length = (j - (done.length + 1)) + 1 by omega, List.getElem?_cons_succ]; exact h2
  intro j i h
  rcases gen all [] #[] rfl j i h with ⟨h1, _⟩ | ⟨_, o, h2, h3⟩
  · simp at h1
  · simp only [List.length_nil, Nat.sub_zero] at h2
    simp only [h2]
    exact h3

end Go.Proofs.YtociliegljoldaaGreat

/- Own framework, part k: regions that draw their order: one order serves all. -/
namespace Go.Proofs.YtociliegljoldaaGreat
set_option linter.unusedSimpArgs false
set_option linter.unusedVariables false
open Go.RowKit

/-- There is one, and with it one goes on. -/
def exV (A B : V → Prop) : Prop := ∃ x, A x ∧ B x
/-- The same under a guard. -/
def guardD (c : Bool) (flags : List Bool) (A B : V → Prop) : Prop := (c = true → ∀ f ∈ flags, f = true) ∧ ∃ x, (c = true → A x) ∧ B (.cnd c x)

/-- What an operation that only tells may count on: those of 'el' come ahead of all effects, so they meet the memory of the start. -/
structure Cls where
  el : List Nat
  s0 : Store
  c : Store → Prop
  fin : List Nat
  im : List Nat
/-- What an effect must leave: nothing, if all that only tell come ahead of it. -/
def Cls.e (C : Cls) (i : Nat) : Store → Prop := if C.fin.contains i = true then fun _ => True else C.c
def finB (all : List Oper) (es fin : List Nat) : Bool := fin.all fun e => (List.range all.length).all fun p => es.contains p || befBit all p e
def Cls.at_ (C : Cls) (i : Nat) (A : Store → Prop) : Prop := if C.el.contains i = true then A C.s0 else ∀ τ, C.c τ → A τ
def Cls.ok (C : Cls) (i : Nat) (σ : Store) : Prop := C.c σ ∧ (C.el.contains i = true → σ = C.s0)
theorem Cls.at_ok {C : Cls} {i : Nat} {A : Store → Prop} {σ : Store} (h : C.at_ i A) (hc : C.ok i σ) : A σ := by
  unfold Cls.at_ at h
  split at h
  · rename_i e; rw [hc.2 e]; exact h
  · exact h σ hc.1
def earlyB (all : List Oper) (es el : List Nat) : Bool := es.all fun e => el.all fun p => befBit all p e

/-- One operation of such a region: an effect (its number is in 'es'), or one that yields the same in every memory of the class C. -/
def stepD (P : Program) (slots : List (Option Tmp)) (es : List Nat) (C : Cls) (KP : V → Store → Prop) (i : Nat) (o : Oper) (env : List V) (σ : Store) (K : V → Store → Prop) : Prop :=
  if es.contains i = true then
    o.guard = none ∧ ∃ KE KPE, opV P (evalV env) o σ KE KPE ∧ (∀ x σ', KE x σ' → C.e i σ' ∧ K x σ') ∧ (∀ p σ', KPE p σ' → KP p σ')
  else if C.im.contains i = true then
    o.guard = none ∧ exV (fun x => C.at_ i fun τ => opV P (evalV env) o τ (fun y τ' => Weakens y τ' x τ) (fun _ _ => False)) (fun x => K x σ)
  else match o.guard with
    | none => exV (fun x => C.at_ i fun τ => opV P (evalV env) o τ (fun y τ' => y = x ∧ τ' = τ) (fun _ _ => False)) (fun x => K x σ)
    | some (j, want) => match condOf (yieldV slots env j) want with
      | some c => guardD c (flagsOf env o.op) (fun x => C.at_ i fun τ => opG P env o τ (fun y τ' => y = x ∧ τ' = τ) (fun _ _ => False)) (fun x => K x σ)
      | none => False

def vcDraw (P : Program) (all : List Oper) (slots : List (Option Tmp)) (es : List Nat) (C : Cls) (K : List V → Store → Prop) (KP : V → Store → Prop) : List Nat → List V → Store → Prop
  | [], env, σ => K env σ
  | i :: rest, env, σ => match all[i]? with
    | some o => stepD P slots es C KP i o env σ (fun x σ' => vcDraw P all slots es C K KP rest (putV env o.dst x) σ')
    | none => False

def drawV1 (P : Program) (all : List Oper) (env : List V) (σ : Store) (K : List V → Store → Prop) (KP : V → Store → Prop) : Prop :=
  P.follows .mixedOrders = true ∧ ∃ es ord C, orderB all es ord = true ∧ earlyB all es C.el = true ∧ finB all es C.fin = true ∧ C.s0 = σ ∧ C.c σ ∧ vcDraw P all (all.map (·.dst)) es C K KP ord env σ

section
variable {P : Program} {all : List Oper} {es : List Nat} {r : Nat → Nat → Bool} {C : Cls} {Q : Ex → List V → Store → Prop} {KN : List V → Store → Prop} {KP : V → Store → Prop}

theorem evalV_put {env : List V} {d : Option Tmp} {x : V} {y : Operand} (h : ∀ t, d = some t → y ≠ .tmp t) : evalV (putV env d x) y = evalV env y := by
  cases d with
  | none => rfl
  | some t =>
    cases y with
    | tmp u =>
      have : t ≠ u := fun e => h t rfl (by rw [e])
      simp only [evalV, putV, List.getD_eq_getElem?_getD]
      rw [List.getElem?_set_ne this]
    | _ => rfl

theorem yieldV_put {env : List V} {d : Option Tmp} {x : V} {j : Nat} (h : ∀ t, d = some t → (all[j]?).bind (·.dst) ≠ some t) : yieldV (all.map (·.dst)) (putV env d x) j = yieldV (all.map (·.dst)) env j := by
  cases d with
  | none => rfl
  | some t =>
    unfold yieldV
    cases e : (all.map (·.dst))[j]? with
    | none => rfl
    | some u =>
      cases u with
      | none => rfl
      | some u =>
        have : t ≠ u := fun q => h t rfl (by
          simp only [List.getElem?_map, Option.map_eq_some_iff] at e
          obtain ⟨o', ho, hd⟩ := e
          simp [ho, hd, q])
        simp only [putV, List.getD_eq_getElem?_getD]
        rw [List.getElem?_set_ne this]

theorem looks_op {o : Oper} {d : Option Tmp} (h : ∀ t, d = some t → t ∉ o.looksAt all.toArray) : ∀ x ∈ o.op.operands, ∀ t, d = some t → x ≠ .tmp t := by
  intro x hx t ht e
  refine h t ht ?_
  unfold Oper.looksAt
  refine List.mem_append.2 (.inl ?_)
  rw [List.mem_filterMap]
  exact ⟨x, by simpa using hx, by rw [e]⟩

theorem looks_guard {o : Oper} {d : Option Tmp} {j : Nat} {want : Bool} (hg : o.guard = some (j, want)) (h : ∀ t, d = some t → t ∉ o.looksAt all.toArray) : ∀ t, d = some t → (all[j]?).bind (·.dst) ≠ some t := by
  intro t ht e
  refine h t ht ?_
  unfold Oper.looksAt
  refine List.mem_append.2 (.inr ?_)
  simp only [hg, List.getElem?_toArray, e]
  simp

/-- An operation that does not look at a slot. -/
theorem stepD_put {i : Nat} {o : Oper} {env : List V} {σ : Store} {d : Option Tmp} {x : V} {K : V → Store → Prop} (h : ∀ t, d = some t → t ∉ o.looksAt all.toArray) :
    stepD P (all.map (·.dst)) es C KP i o (putV env d x) σ K ↔ stepD P (all.map (·.dst)) es C KP i o env σ K := by
  have h1 := looks_op h
  have e1 : ∀ τ K KP, opV P (evalV (putV env d x)) o τ K KP = opV P (evalV env) o τ K KP := fun τ K KP => opV_congr o (fun y hy => evalV_put (h1 y hy)) τ K KP
  have e2 : ∀ τ K KP, opG P (putV env d x) o τ K KP = opG P env o τ K KP := fun τ K KP => by
    cases hp : isPick o.op with
    | true =>
      obtain ⟨c, a, b, e⟩ := isPick_is hp
      have hc := evalV_put (env := env) (x := x) (h1 c (by rw [e]; simp [Op.operands]))
      have ha := evalV_put (env := env) (x := x) (h1 a (by rw [e]; simp [Op.operands]))
      have hb := evalV_put (env := env) (x := x) (h1 b (by rw [e]; simp [Op.operands]))
      unfold opG
      rw [e]
      simp only [hc, ha, hb]
    | false =>
      rw [opG_op hp, opG_op hp]
      exact opV_congr o (fun y hy => by rw [evalV_put (h1 y hy)]) τ K KP
  have e3 : flagsOf (putV env d x) o.op = flagsOf env o.op := by
    cases hp : isPick o.op with
    | true =>
      obtain ⟨c, a, b, e⟩ := isPick_is hp
      rw [e]
      have hc := evalV_put (env := env) (x := x) (h1 c (by rw [e]; simp [Op.operands]))
      unfold flagsOf
      simp only [hc]
    | false =>
      rw [flagsOf_op hp, flagsOf_op hp]
      exact List.map_congr_left fun y hy => by rw [evalV_put (h1 y (by simpa using hy))]
  unfold stepD
  split
  · simp only [e1]
  split
  · simp only [e1]
  · cases hg : o.guard with
    | none => simp only [e1]
    | some g =>
      obtain ⟨j, want⟩ := g
      simp only [yieldV_put (looks_guard hg h), e2, e3]

theorem putV_comm {env : List V} {d e : Option Tmp} {x y : V} (h : ∀ t, d = some t → e ≠ some t) : putV (putV env d x) e y = putV (putV env e y) d x := by
  cases d with
  | none => rfl
  | some t =>
    cases e with
    | none => rfl
    | some u =>
      have : t ≠ u := fun q => h t rfl (by rw [q])
      simp only [putV]
      exact List.set_comm _ _ this

/-- A pure operation told with its value. -/
theorem stepD_pure {p : Nat} {o : Oper} {env : List V} {σ : Store} {K : V → Store → Prop} (hp : es.contains p = false) (h : stepD P (all.map (·.dst)) es C KP p o env σ K) :
    ∃ x, K x σ ∧ ∀ (τ : Store) (K' : V → Store → Prop), K' x τ → stepD P (all.map (·.dst)) es C KP p o env τ K' := by
  unfold stepD at h
  rw [hp] at h
  simp only [Bool.false_eq_true, if_false] at h
  by_cases him : C.im.contains p = true
  · rw [if_pos him] at h
    obtain ⟨h0, x, h1, h2⟩ := h
    refine ⟨x, h2, fun τ K' hk => ?_⟩
    unfold stepD
    rw [hp]
    simp only [Bool.false_eq_true, if_false]
    rw [if_pos him]
    exact ⟨h0, x, h1, hk⟩
  rw [if_neg him] at h
  cases hg : o.guard with
  | none =>
    simp only [hg] at h
    obtain ⟨x, h1, h2⟩ := h
    refine ⟨x, h2, fun τ K' hk => ?_⟩
    unfold stepD
    rw [hp]
    simp only [Bool.false_eq_true, if_false, hg]
    rw [if_neg him]
    exact ⟨x, h1, hk⟩
  | some g =>
    obtain ⟨j, want⟩ := g
    simp only [hg] at h
    split at h
    · rename_i b hb
      obtain ⟨hf, x, h1, h2⟩ := h
      refine ⟨_, h2, fun τ K' hk => ?_⟩
      unfold stepD
      rw [hp]
      simp only [Bool.false_eq_true, if_false, hg, hb]
      rw [if_neg him]
      exact ⟨hf, x, h1, hk⟩
    · exact h.elim

theorem stepD_mono {i : Nat} {o : Oper} {env : List V} {σ : Store} {K K' : V → Store → Prop} (hk : ∀ x σ', K x σ' → K' x σ') (h : stepD P (all.map (·.dst)) es C KP i o env σ K) : stepD P (all.map (·.dst)) es C KP i o env σ K' := by
  unfold stepD at h ⊢
  split
  · rename_i hi
    rw [if_pos hi] at h
    obtain ⟨h0, KE, KPE, h1, h2, h3⟩ := h
    exact ⟨h0, KE, KPE, h1, fun x σ' hx => ⟨(h2 x σ' hx).1, hk _ _ (h2 x σ' hx).2⟩, h3⟩
  · rename_i hi
    rw [if_neg hi] at h
    by_cases him : C.im.contains i = true
    · rw [if_pos him] at h ⊢
      obtain ⟨h0, x, h1, h2⟩ := h
      exact ⟨h0, x, h1, hk _ _ h2⟩
    rw [if_neg him] at h ⊢
    cases hg : o.guard with
    | none => simp only [hg] at h ⊢; obtain ⟨x, h1, h2⟩ := h; exact ⟨x, h1, hk _ _ h2⟩
    | some g =>
      obtain ⟨j, want⟩ := g
      simp only [hg] at h ⊢
      split at h
      · obtain ⟨hf, x, h1, h2⟩ := h; exact ⟨hf, x, h1, hk _ _ h2⟩
      · exact h.elim

/-- Whoever waits for none of those ahead may go first. -/
theorem pull {i : Nat} {oi : Oper} (hi : all[i]? = some oi) : ∀ (R1 R2 : List Nat) (env : List V) (σ : Store), (∀ p ∈ R1, es.contains p = false ∧ ∀ op, all[p]? = some op → op.apart all.toArray oi = true) →
    vcDraw P all (all.map (·.dst)) es C KN KP (R1 ++ i :: R2) env σ → stepD P (all.map (·.dst)) es C KP i oi env σ (fun x σ' => vcDraw P all (all.map (·.dst)) es C KN KP (R1 ++ R2) (putV env oi.dst x) σ') := by
  intro R1
  induction R1 with
  | nil => intro R2 env σ _ h; simp only [List.nil_append, vcDraw, hi] at h; exact h
  | cons p R1 ih =>
    intro R2 env σ hall h
    simp only [List.cons_append] at h ⊢
    unfold vcDraw at h
    split at h
    · rename_i op hop
      obtain ⟨hpe, hap⟩ := hall p (List.mem_cons_self ..)
      obtain ⟨a1, a2, a3⟩ := Oper.apart_spec (hap op hop)
      obtain ⟨x, hx, hany⟩ := stepD_pure hpe h
      have hstep := ih R2 _ σ (fun q hq => hall q (List.mem_cons_of_mem _ hq)) hx
      rw [stepD_put a1] at hstep
      refine stepD_mono (fun y σ' hy => ?_) hstep
      unfold vcDraw
      simp only [hop]
      rw [stepD_put (a3)]
      refine hany σ' _ ?_
      rw [putV_comm (fun t ht e => a2 t e ht)]
      exact hy
    · exact h.elim

theorem relB_t {i j : Nat} (h : relB all es i j = true) : j ∉ targets all i := by
  simp only [relB, Bool.and_eq_true, Bool.not_eq_true', List.contains_eq_mem, decide_eq_false_iff_not] at h
  exact h.1
/-- What is left. -/
structure Left (all : List Oper) (r : Nat → Nat → Bool) (listed : Array Bool) (R : List Nat) : Prop where
  size : listed.size = all.length
  mem : ∀ i, i ∈ R ↔ i < all.length ∧ listed.getD i true = false
  nodup : R.Nodup
  rel : R.Pairwise (fun i j => r i j = true)
  self : ∀ i < all.length, i ∉ targets all i ∧ ∀ t ∈ targets all i, t < all.length
  closed : ∀ j < all.length, j ∉ R → ∀ t ∈ targets all j, t ∉ R

theorem Left.bef {listed : Array Bool} {R : List Nat} (h : Left all r listed R) : ∀ (j i : Nat), j < all.length → (∀ t ∈ targets all j, t ∉ R) → befBit all i j = true → i ∉ R := by
  intro j
  induction j using Nat.strongRecOn with
  | _ j ih =>
    intro i hj ht hb
    rcases before_bit all j i hb with h1 | ⟨t, h1, h2, h3⟩
    · exact ht i h1
    · have htl := (h.self j hj).2 t h1
      exact ih t h2 i htl (h.closed t htl (ht t h1)) h3

theorem targets_ready {listed : Array Bool} {R : List Nat} (h : Left all r listed R) {i : Nat} (hi : i ∈ Region.ready .any all.toArray listed) : i ∈ R ∧ ∀ t ∈ targets all i, t ∉ R := by
  rw [mem_ready] at hi
  obtain ⟨h0, o, ho, hall⟩ := hi
  simp only [List.getElem?_toArray] at ho
  have hlt : i < all.length := (List.getElem?_eq_some_iff.1 ho).1
  refine ⟨(h.mem i).2 ⟨hlt, h0⟩, fun t ht hR => ?_⟩
  unfold targets at ht
  simp only [ho] at ht
  obtain ⟨e, he, rfl⟩ := List.mem_map.1 ht
  have he' := List.mem_filter.1 he
  have h1 := hall e (by simpa using he'.1) he'.2
  have h2 := ((h.mem e.on).1 hR)
  have hs := h.size
  rw [Array.getD_eq_getD_getElem?, Array.getElem?_eq_getElem (by omega)] at h1 h2
  simp only [Option.getD_some] at h1 h2
  rw [h1] at h2; simp at h2

theorem ready_of_first {listed : Array Bool} {i : Nat} {R : List Nat} (hrr : ∀ i j, r i j = true → j ∉ targets all i) (h : Left all r listed (i :: R)) : i ∈ Region.ready .any all.toArray listed := by
  have hm := (h.mem i).1 (List.mem_cons_self ..)
  rw [mem_ready]
  refine ⟨hm.2, all[i]'hm.1, by simp [hm.1], fun e he hb => ?_⟩
  have htm : e.on ∈ targets all i := by
    unfold targets
    simp only [List.getElem?_eq_getElem hm.1]
    exact List.mem_map.2 ⟨e, List.mem_filter.2 ⟨by simpa using he, hb⟩, rfl⟩
  have hlt := (h.self i hm.1).2 _ htm
  have hnot : e.on ∉ i :: R := by
    intro hin
    rcases List.mem_cons.1 hin with hh | hh
    · rw [hh] at htm; exact (h.self i hm.1).1 htm
    · have hr := (List.pairwise_cons.1 h.rel).1 _ hh
      exact hrr _ _ hr htm
  have hs := h.size
  have := fun hx => hnot ((h.mem e.on).2 ⟨hlt, hx⟩)
  rw [Array.getD_eq_getD_getElem?, Array.getElem?_eq_getElem (by omega)] at this ⊢
  simp only [Option.getD_some] at this ⊢
  cases hl : listed[e.on]
  · exact absurd hl this
  · rfl

theorem Left.take {listed : Array Bool} {R1 R2 : List Nat} {i : Nat} (h : Left all r listed (R1 ++ i :: R2)) (ht : ∀ t ∈ targets all i, t ∉ R1 ++ i :: R2) : Left all r (listed.setIfInBounds i true) (R1 ++ R2) := by
  have hnd := h.nodup
  have hi := (h.mem i).1 (by simp)
  have hsub : (R1 ++ R2).Sublist (R1 ++ i :: R2) := List.Sublist.append (List.Sublist.refl _) (List.sublist_cons_self i R2)
  have hmem : ∀ j, j ∈ R1 ++ R2 ↔ j ∈ R1 ++ i :: R2 ∧ j ≠ i := by
    intro j
    have hni : i ∉ R1 ∧ i ∉ R2 := by
      rw [List.nodup_append] at hnd
      obtain ⟨_, h2, h3⟩ := hnd
      exact ⟨fun hin => h3 i hin i (List.mem_cons_self ..) rfl, (List.nodup_cons.1 h2).1⟩
    constructor
    · intro hj
      refine ⟨hsub.subset hj, fun e => ?_⟩
      subst e
      rcases List.mem_append.1 hj with q | q
      · exact hni.1 q
      · exact hni.2 q
    · rintro ⟨hj, hne⟩
      simp only [List.mem_append, List.mem_cons] at hj ⊢
      rcases hj with q | q | q
      · exact .inl q
      · exact absurd q hne
      · exact .inr q
  refine ⟨by simpa using h.size, fun j => ?_, hnd.sublist hsub, h.rel.sublist hsub, h.self, fun j hj hn t htj => ?_⟩
  · rw [hmem]
    by_cases e : j = i
    · subst e
      have hs := h.size
      simp [Array.getD_eq_getD_getElem?, Array.getElem?_setIfInBounds, show j < listed.size by omega]
    · rw [h.mem j, getD_set_ne true (Ne.symm e)]
      exact ⟨fun q => q.1, fun q => ⟨q, e⟩⟩
  · by_cases e : j = i
    · subst e; exact fun hin => ht t htj (hsub.subset hin)
    · exact fun hin => h.closed j hj (fun q => hn ((hmem j).2 ⟨q, e⟩)) t htj (hsub.subset hin)

theorem stepD_ok {ds : List Deferred} {I0 I : Imm} {w0 w : World} {a : Act} {env : List V} {σ : Store} {i : Nat} {o : Oper} {K : V → Store → Prop} {KK : Act → World → Prop} (ho : all[i]? = some o) (hI : I0.le I) (hw : Bel w0 w) (hs : StR σ I w)
    (he : LR I env a.tmps.toList) (hd : a.defers = ds) (hC : es.contains i = false → C.ok i σ) (hKP : ∀ p env σ, KP p σ → Q (.pan p) env σ) (h : stepD P (all.map (·.dst)) es C KP i o env σ K)
    (hk : ∀ I' w' x v σ', I.le I' → Bel w w' → StR σ' I' w' → VR I' x v → (es.contains i = true → C.e i σ') → (es.contains i = false → σ' = σ) → K x σ' → KK (a.put o.dst v) w') : wpOp P all.toArray (toQ ds I0 w0 Q) i KK a w := by
  unfold wpOp
  simp only [List.getElem?_toArray, ho]
  unfold stepD at h
  split at h
  · rename_i hes
    obtain ⟨hg, KE, KPE, h1, h2, h3⟩ := h
    rw [if_pos (by simp [Region.wanted, hg])]
    exact .inl (Upon.wp hI hw he hd (opV_ok (fun x => evalV_ok he x) o hs h1) (fun I' w' x v σ' g1 g2 g3 g4 g5 => hk I' w' x v σ' g1 g2 g3 g4 (fun _ => (h2 x σ' g5).1) (fun q => by rw [q] at hes; cases hes) (h2 x σ' g5).2) (fun p σ' g => hKP p env σ' (h3 p σ' g)))
  · rename_i hes
    have hes : es.contains i = false := by simpa using hes
    have hC := hC hes
    by_cases him : C.im.contains i = true
    · rw [if_pos him] at h
      obtain ⟨hg, x, h1, h2⟩ := h
      rw [if_pos (by simp [Region.wanted, hg])]
      refine .inl (Upon.wp (Q := Q) hI hw he hd (opV_ok (fun x => evalV_ok he x) o hs (Cls.at_ok h1 hC)) (fun I' w' y v σ' g1 g2 g3 g4 g5 => ?_) (fun p σ' g => g.elim))
      obtain ⟨J, j1, j2, j3⟩ := g5 I' w' v g3 g4
      exact hk J w' x v σ (Imm.le_trans g1 j1) g2 j2 j3 (fun q => by rw [hes] at q; cases q) (fun _ => rfl) h2
    rw [if_neg him] at h
    split at h
    · rename_i hg
      obtain ⟨x, h1, h2⟩ := h
      rw [if_pos (by simp [Region.wanted, hg])]
      refine .inl (Upon.wp (Q := Q) hI hw he hd (opV_ok (fun x => evalV_ok he x) o hs (Cls.at_ok h1 hC)) (fun I' w' y v σ' g1 g2 g3 g4 g5 => ?_) (fun p σ' g => g.elim))
      obtain ⟨rfl, rfl⟩ := g5
      exact hk I' w' _ v _ g1 g2 g3 g4 (fun q => by rw [hes] at q; cases q) (fun _ => rfl) h2
    · rename_i j want hg
      split at h
      · rename_i c hc
        obtain ⟨hf, x, h1, h2⟩ := h
        rw [wanted_ok he hg hc]
        cases c with
        | true =>
          rw [if_pos rfl]
          refine .inl (Upon.wp (Q := Q) hI hw he hd (strip_ok he o (hf rfl) hs (Cls.at_ok (h1 rfl) hC)) (fun I' w' y v σ' g1 g2 g3 g4 g5 => ?_) (fun p σ' g => g.elim))
          obtain ⟨rfl, rfl⟩ := g5
          exact hk I' w' _ v _ g1 g2 g3 (.cndT _ _ g4) (fun q => by rw [hes] at q; cases q) (fun _ => rfl) h2
        | false =>
          rw [if_neg (by simp)]
          exact hk I w _ undef σ (Imm.le_refl I) (Bel.refl _) hs (.cndF _) (fun q => by rw [hes] at q; cases q) (fun _ => rfl) h2
      · exact h.elim

theorem draw_any {ds : List Deferred} {I0 : Imm} {w0 : World} (hEl : ∀ e ∈ es, ∀ p ∈ C.el, befBit all p e = true) (hFi : ∀ e ∈ C.fin, ∀ p, p < all.length → es.contains p = false → befBit all p e = true) (hKN : ∀ env σ, KN env σ → Q .normal env σ) (hKP : ∀ p env σ, KP p σ → Q (.pan p) env σ) : ∀ (R : List Nat) (listed : Array Bool) (a : Act) (w : World) (I : Imm) (env : List V) (σ : Store) (n : Nat), R.length = n → Left all (relB all es) listed R → I0.le I → Bel w0 w → StR σ I w → LR I env a.tmps.toList → a.defers = ds →
    (∀ p ∈ R, es.contains p = false → C.c σ) → (∀ p ∈ R, C.el.contains p = true → σ = C.s0) → vcDraw P all (all.map (·.dst)) es C KN KP R env σ → wpAny P .any all.toArray (toQ ds I0 w0 Q) n listed a w := by
  intro R listed a w I env σ n
  induction n generalizing R listed a w I env σ with
  | zero =>
    intro hn hL hI hw hs he hd hC hE h
    obtain rfl : R = [] := List.eq_nil_of_length_eq_zero hn
    refine ⟨?_, hd, hw, I, σ, env, hI, hs, he, hKN _ _ h⟩
    cases hr : Region.ready .any all.toArray listed with
    | nil => rfl
    | cons i l =>
      have := (targets_ready hL (i := i) (by rw [hr]; exact List.mem_cons_self ..)).1
      simp at this
  | succ n ih =>
    intro hn hL hI hw hs he hd hC hE h
    refine ⟨fun h0 => ?_, fun i hi => ?_⟩
    · cases R with
      | nil => simp at hn
      | cons i R => have := ready_of_first (fun _ _ => relB_t) hL; rw [h0] at this; simp at this
    · obtain ⟨hiR, ht⟩ := targets_ready hL hi
      obtain ⟨R1, R2, rfl⟩ := List.append_of_mem hiR
      have hlt := ((hL.mem i).1 hiR).1
      have hoi : all[i]? = some all[i] := List.getElem?_eq_getElem hlt
      have hall : ∀ p ∈ R1, es.contains p = false ∧ ∀ op, all[p]? = some op → op.apart all.toArray all[i] = true := by
        intro p hp
        have hpair := hL.rel
        rw [List.pairwise_append] at hpair
        have hr := hpair.2.2 p hp i (List.mem_cons_self ..)
        simp only [relB, Bool.and_eq_true, Bool.or_eq_true, Bool.not_eq_true'] at hr
        have hnb : befBit all p i = false := by
          cases hb : befBit all p i with
          | false => rfl
          | true => exact absurd (List.mem_append.2 (.inl hp)) (hL.bef i p hlt ht hb)
        rw [hnb] at hr
        have hr2 := hr.2.resolve_left (by simp)
        refine ⟨hr2.2, fun op hop => ?_⟩
        have e1 : all.getD p default = op := by rw [List.getD_eq_getElem?_getD, hop]; rfl
        have e2 : all.getD i default = all[i] := by rw [List.getD_eq_getElem?_getD, hoi]; rfl
        rw [← e1, ← e2]; exact hr2.1
      have hstep := pull hoi R1 R2 env σ hall h
      refine stepD_ok hoi hI hw hs he hd (fun q => ⟨hC i hiR q, hE i hiR⟩) hKP hstep (fun I' w' x v σ' g1 g2 g3 g4 g5 g5' g6 => ?_)
      refine ih (R1 ++ R2) _ _ w' I' _ σ' (by simp at hn ⊢; omega) (hL.take ht) (Imm.le_trans hI g1) (hw.trans g2) g3 (putV_ok (he.mono g1) _ g4) (by rw [put_defers']; exact hd) (fun p hp hpe => ?_) (fun p hp hpe => ?_) g6
      all_goals
        have hpR : p ∈ R1 ++ i :: R2 := by
          rcases List.mem_append.1 hp with q | q
          · exact List.mem_append.2 (.inl q)
          · exact List.mem_append.2 (.inr (List.mem_cons_of_mem _ q))
      · cases hie : es.contains i with
        | false => rw [g5' hie]; exact hC p hpR hpe
        | true =>
          have g7 := g5 hie
          unfold Cls.e at g7
          split at g7
          · rename_i hf
            exact absurd hpR (hL.bef i p hlt ht (hFi i (by simpa using hf) p ((hL.mem p).1 hpR).1 hpe))
          · exact g7
      · cases hie : es.contains i with
        | false => rw [g5' hie]; exact hE p hpR hpe
        | true => exact absurd hpR (hL.bef i p hlt ht (hEl i (by simpa using hie) p (by simpa using hpe)))

theorem HWp.region_draw1 {id : Nat} {ops : Array Oper} {env : List V} {σ : Store} (h : drawV1 P ops.toList env σ (fun env σ => Q .normal env σ) (fun p σ => ∀ env, Q (.pan p) env σ)) : HWp P (.region id ops true) Q env σ := by
  obtain ⟨hm, es, ord, C, hord, hea, hfi, hs0, hC, h⟩ := h
  intro ds I w a hs he hd
  refine wp_region_any hm ?_
  simp only [orderB, Bool.and_eq_true, List.all_eq_true, List.mem_range, decide_eq_true_eq] at hord
  obtain ⟨⟨⟨⟨⟨⟨h1, h2⟩, h3⟩, h4⟩, h5⟩, h6⟩, h7⟩ := hord
  have hnd : ord.Nodup := (pairB_spec h3).imp (fun h => by simpa using h)
  have hmem : ∀ i, i ∈ ord ↔ i < ops.toList.length := fun i => ⟨fun hi => h2 i hi, fun hi => by have := h1 i hi; simpa using this⟩
  have hlen : ord.length = ops.size := by simpa using h7
  have hL : Left ops.toList (relB ops.toList es) (Array.replicate ops.size false) ord := by
    refine ⟨by simp, fun i => ?_, hnd, pairB_spec h6, fun i hi => ?_, fun j hj hn => absurd ((hmem j).2 hj) hn⟩
    · rw [hmem]
      constructor
      · intro hi; refine ⟨hi, ?_⟩
        simp only [Array.length_toList] at hi
        simp [Array.getD_eq_getD_getElem?, hi]
      · exact fun q => q.1
    · have := h5 i hi
      simp only [Bool.and_eq_true, Bool.not_eq_true', List.contains_eq_mem, decide_eq_false_iff_not, List.all_eq_true, decide_eq_true_eq] at this
      exact this
  have := draw_any (P := P) (Q := Q) (C := C) (I0 := I) (w0 := w) (fun e he p hp => by simp only [earlyB, List.all_eq_true] at hea; exact hea e he p hp) (fun e he p hp hpe => by
    simp only [finB, List.all_eq_true, List.mem_range, Bool.or_eq_true] at hfi
    rcases hfi e he p hp with q | q
    · rw [q] at hpe; cases hpe
    · exact q) (fun _ _ h => h) (fun p env σ h => h env) ord (Array.replicate ops.size false) a { w with drawn := w.drawn + 1 } I env σ ops.size hlen hL (Imm.le_refl I) (Bel.refl w).drew
    (hs.keeps fun _ _ => rfl) he hd (fun _ _ _ => hC) (fun _ _ _ => hs0.symm) h
  simpa using this

end
/-! Two places that are made, in whichever order. -/
def allocB (o : Oper) : Bool := match o.op, o.guard with | .alloc _, none => true | _, _ => false
def allocZ (P : Program) (o : Oper) : Option (List V) := match o.op with | .alloc t => zeroV P t | _ => none
def relB2 (all : List Oper) (es sw : List Nat) (i j : Nat) : Bool :=
  !(targets all i).contains j && (befBit all i j || ((all.getD i default).apart all.toArray (all.getD j default) && (!es.contains i || (sw.contains i && sw.contains j))))
def orderB2 (all : List Oper) (es sw ord : List Nat) : Bool :=
  (List.range all.length).all (fun i => ord.contains i) && ord.all (fun i => decide (i < all.length)) && pairB (fun i j => i != j) ord &&
  (all.all fun o => match o.op with | .select _ _ => false | _ => true) && (List.range all.length).all (fun i => !(targets all i).contains i && (targets all i).all (fun t => decide (t < all.length))) &&
  pairB (relB2 all es sw) ord && ord.length == all.length
/-- The ones that may change places: effects that make a place. -/
def swapsB (all : List Oper) (es sw : List Nat) : Bool := sw.all fun i => es.contains i && allocB (all.getD i default)
def drawV2 (P : Program) (all : List Oper) (env : List V) (σ : Store) (K : List V → Store → Prop) (KP : V → Store → Prop) : Prop :=
  P.follows .mixedOrders = true ∧ ∃ es sw ord c, orderB2 all es sw ord = true ∧ swapsB all es sw = true ∧ (sw.all fun i => (allocZ P (all.getD i default)).isSome) = true ∧ c σ ∧ (∀ σ b k, c σ → σ b = none → c (σ.set b k)) ∧
    vcDraw P all (all.map (·.dst)) es ⟨[], σ, c, [], []⟩ K KP ord env σ
section
variable {P : Program} {all : List Oper} {es sw : List Nat} {Q : Ex → List V → Store → Prop} {KN : List V → Store → Prop} {KP : V → Store → Prop} {s0 : Store} {c : Store → Prop}
theorem relB2_t {i j : Nat} (h : relB2 all es sw i j = true) : j ∉ targets all i := by
  simp only [relB2, Bool.and_eq_true, Bool.not_eq_true', List.contains_eq_mem, decide_eq_false_iff_not] at h
  exact h.1
theorem stepD_alloc {i : Nat} {o : Oper} {env : List V} {σ : Store} {K : V → Store → Prop} (hi : es.contains i = true) (ha : allocB o = true) :
    stepD P (all.map (·.dst)) es ⟨[], s0, c, [], []⟩ KP i o env σ K ↔ ∃ cs, allocZ P o = some cs ∧ ∀ b, σ b = none → c (σ.set b (.cells cs)) ∧ K (.ptr b 0) (σ.set b (.cells cs)) := by
  obtain ⟨t, ho, hg⟩ : ∃ t, o.op = .alloc t ∧ o.guard = none := by
    unfold allocB at ha
    split at ha
    · rename_i t h1 h2; exact ⟨t, h1, h2⟩
    · cases ha
  have hz : allocZ P o = zeroV P t := by unfold allocZ; rw [ho]
  have hop : ∀ (K' KP' : V → Store → Prop), opV P (evalV env) o σ K' KP' = allocV P t σ K' := fun K' KP' => by unfold opV; rw [ho]
  unfold stepD
  rw [if_pos hi, hz]
  constructor
  · rintro ⟨_, KE, KPE, h1, h2, _⟩
    rw [hop] at h1
    unfold allocV at h1
    cases e : zeroV P t with
    | none => rw [e] at h1; exact h1.elim
    | some cs =>
      rw [e] at h1
      refine ⟨cs, rfl, fun b hb => ?_⟩
      obtain ⟨q1, q2⟩ := h2 _ _ (h1 b hb)
      exact ⟨by simpa [Cls.e] using q1, q2⟩
  · rintro ⟨cs, e, h⟩
    refine ⟨hg, fun x σ' => ∃ b, σ b = none ∧ x = .ptr b 0 ∧ σ' = σ.set b (.cells cs), fun _ _ => False, ?_, ?_, fun _ _ h => h.elim⟩
    · rw [hop]
      unfold allocV
      rw [e]
      exact fun b hb => ⟨b, hb, rfl, rfl⟩
    · rintro x σ' ⟨b, hb, rfl, rfl⟩
      obtain ⟨q1, q2⟩ := h b hb
      exact ⟨by simpa [Cls.e] using q1, q2⟩
theorem pull2 (hm : ∀ σ b k, c σ → σ b = none → c (σ.set b k)) (hsw : ∀ p, sw.contains p = true → es.contains p = true ∧ ∀ op, all[p]? = some op → allocB op = true ∧ ∃ cs, allocZ P op = some cs) {i : Nat} {oi : Oper} (hi : all[i]? = some oi) :
    ∀ (R1 R2 : List Nat) (env : List V) (σ : Store), c σ → (∀ p ∈ R1, (es.contains p = false ∨ (sw.contains p = true ∧ sw.contains i = true)) ∧ ∀ op, all[p]? = some op → op.apart all.toArray oi = true) →
    vcDraw P all (all.map (·.dst)) es ⟨[], s0, c, [], []⟩ KN KP (R1 ++ i :: R2) env σ → stepD P (all.map (·.dst)) es ⟨[], s0, c, [], []⟩ KP i oi env σ (fun x σ' => vcDraw P all (all.map (·.dst)) es ⟨[], s0, c, [], []⟩ KN KP (R1 ++ R2) (putV env oi.dst x) σ') := by
  intro R1
  induction R1 with
  | nil => intro R2 env σ _ _ h; simp only [List.nil_append, vcDraw, hi] at h; exact h
  | cons p R1 ih =>
    intro R2 env σ hc hall h
    simp only [List.cons_append] at h ⊢
    unfold vcDraw at h
    split at h
    · rename_i op hop
      obtain ⟨hpe, hap⟩ := hall p (List.mem_cons_self ..)
      obtain ⟨a1, a2, a3⟩ := Oper.apart_spec (hap op hop)
      have hrec := fun σ hc env => ih R2 env σ hc (fun q hq => hall q (List.mem_cons_of_mem _ hq))
      rcases hpe with hpe | ⟨hps, his⟩
      · obtain ⟨x, hx, hany⟩ := stepD_pure hpe h
        have hstep := hrec σ hc _ hx
        rw [stepD_put a1] at hstep
        refine stepD_mono (fun y σ' hy => ?_) hstep
        unfold vcDraw
        simp only [hop]
        rw [stepD_put (a3)]
        refine hany σ' _ ?_
        rw [putV_comm (fun t ht e => a2 t e ht)]
        exact hy
      · obtain ⟨pe, pz⟩ := hsw p hps
        obtain ⟨ie, iz⟩ := hsw i his
        obtain ⟨pa, _⟩ := pz op hop
        obtain ⟨ia, ds, hds⟩ := iz oi hi
        rw [stepD_alloc pe pa] at h
        obtain ⟨cs, hcs, h⟩ := h
        rw [stepD_alloc ie ia]
        refine ⟨ds, hds, fun b' hb' => ⟨hm _ _ _ hc hb', ?_⟩⟩
        unfold vcDraw
        simp only [hop]
        rw [stepD_put (a3), stepD_alloc pe pa]
        refine ⟨cs, hcs, fun b hb => ?_⟩
        have hne : b ≠ b' := fun e => by rw [e, Store.set_same] at hb; cases hb
        rw [Store.set_other _ _ hne] at hb
        obtain ⟨q1, q2⟩ := h b hb
        have hstep := hrec _ q1 _ q2
        rw [stepD_put a1, stepD_alloc ie ia] at hstep
        obtain ⟨ds', e, hstep⟩ := hstep
        rw [hds] at e
        cases e
        obtain ⟨q3, q4⟩ := hstep b' (by rw [Store.set_other _ _ (Ne.symm hne)]; exact hb')
        rw [Store.set_comm _ _ _ hne] at q3 q4
        refine ⟨q3, ?_⟩
        rw [putV_comm (fun t ht e => a2 t e ht)]
        exact q4
    · exact h.elim
theorem draw_any2 {ds : List Deferred} {I0 : Imm} {w0 : World} (hm : ∀ σ b k, c σ → σ b = none → c (σ.set b k)) (hsw : ∀ p, sw.contains p = true → es.contains p = true ∧ ∀ op, all[p]? = some op → allocB op = true ∧ ∃ cs, allocZ P op = some cs)
    (hKN : ∀ env σ, KN env σ → Q .normal env σ) (hKP : ∀ p env σ, KP p σ → Q (.pan p) env σ) : ∀ (R : List Nat) (listed : Array Bool) (a : Act) (w : World) (I : Imm) (env : List V) (σ : Store) (n : Nat), R.length = n → Left all (relB2 all es sw) listed R → I0.le I → Bel w0 w → StR σ I w → LR I env a.tmps.toList → a.defers = ds →
    c σ → vcDraw P all (all.map (·.dst)) es ⟨[], s0, c, [], []⟩ KN KP R env σ → wpAny P .any all.toArray (toQ ds I0 w0 Q) n listed a w := by
  intro R listed a w I env σ n
  induction n generalizing R listed a w I env σ with
  | zero =>
    intro hn hL hI hw hs he hd hC h
    obtain rfl : R = [] := List.eq_nil_of_length_eq_zero hn
    refine ⟨?_, hd, hw, I, σ, env, hI, hs, he, hKN _ _ h⟩
    cases hr : Region.ready .any all.toArray listed with
    | nil => rfl
    | cons i l =>
      have := (targets_ready hL (i := i) (by rw [hr]; exact List.mem_cons_self ..)).1
      simp at this
  | succ n ih =>
    intro hn hL hI hw hs he hd hC h
    refine ⟨fun h0 => ?_, fun i hi => ?_⟩
    · cases R with
      | nil => simp at hn
      | cons i R => have := ready_of_first (fun _ _ => relB2_t) hL; rw [h0] at this; simp at this
    · obtain ⟨hiR, ht⟩ := targets_ready hL hi
      obtain ⟨R1, R2, rfl⟩ := List.append_of_mem hiR
      have hlt := ((hL.mem i).1 hiR).1
      have hoi : all[i]? = some all[i] := List.getElem?_eq_getElem hlt
      have hall : ∀ p ∈ R1, (es.contains p = false ∨ (sw.contains p = true ∧ sw.contains i = true)) ∧ ∀ op, all[p]? = some op → op.apart all.toArray all[i] = true := by
        intro p hp
        have hpair := hL.rel
        rw [List.pairwise_append] at hpair
        have hr := hpair.2.2 p hp i (List.mem_cons_self ..)
        simp only [relB2, Bool.and_eq_true, Bool.or_eq_true, Bool.not_eq_true'] at hr
        have hnb : befBit all p i = false := by
          cases hb : befBit all p i with
          | false => rfl
          | true => exact absurd (List.mem_append.2 (.inl hp)) (hL.bef i p hlt ht hb)
        rw [hnb] at hr
        have hr2 := hr.2.resolve_left (by simp)
        refine ⟨hr2.2, fun op hop => ?_⟩
        have e1 : all.getD p default = op := by rw [List.getD_eq_getElem?_getD, hop]; rfl
        have e2 : all.getD i default = all[i] := by rw [List.getD_eq_getElem?_getD, hoi]; rfl
        rw [← e1, ← e2]; exact hr2.1
      have hstep := pull2 hm hsw hoi R1 R2 env σ hC hall h
      refine stepD_ok hoi hI hw hs he hd (fun q => ⟨hC, fun q => by simp at q⟩) hKP hstep (fun I' w' x v σ' g1 g2 g3 g4 g5 g5' g6 => ?_)
      refine ih (R1 ++ R2) _ _ w' I' _ σ' (by simp at hn ⊢; omega) (hL.take ht) (Imm.le_trans hI g1) (hw.trans g2) g3 (putV_ok (he.mono g1) _ g4) (by rw [put_defers']; exact hd) ?_ g6
      cases hie : es.contains i with
      | false => rw [g5' hie]; exact hC
      | true => have g7 := g5 hie; simpa [Cls.e] using g7
theorem HWp.region_draw2 {id : Nat} {ops : Array Oper} {env : List V} {σ : Store} (h : drawV2 P ops.toList env σ (fun env σ => Q .normal env σ) (fun p σ => ∀ env, Q (.pan p) env σ)) : HWp P (.region id ops true) Q env σ := by
  obtain ⟨hmx, es, sw, ord, c, hord, hsw, hz, hC, hmono, h⟩ := h
  intro ds I w a hs he hd
  refine wp_region_any hmx ?_
  simp only [orderB2, Bool.and_eq_true, List.all_eq_true, List.mem_range, decide_eq_true_eq] at hord
  obtain ⟨⟨⟨⟨⟨⟨h1, h2⟩, h3⟩, h4⟩, h5⟩, h6⟩, h7⟩ := hord
  have hnd : ord.Nodup := (pairB_spec h3).imp (fun h => by simpa using h)
  have hmem : ∀ i, i ∈ ord ↔ i < ops.toList.length := fun i => ⟨fun hi => h2 i hi, fun hi => by have := h1 i hi; simpa using this⟩
  have hlen : ord.length = ops.size := by simpa using h7
  have hL : Left ops.toList (relB2 ops.toList es sw) (Array.replicate ops.size false) ord := by
    refine ⟨by simp, fun i => ?_, hnd, pairB_spec h6, fun i hi => ?_, fun j hj hn => absurd ((hmem j).2 hj) hn⟩
    · rw [hmem]
      constructor
      · intro hi; refine ⟨hi, ?_⟩
        simp only [Array.length_toList] at hi
        simp [Array.getD_eq_getD_getElem?, hi]
      · exact fun q => q.1
    · have := h5 i hi
      simp only [Bool.and_eq_true, Bool.not_eq_true', List.contains_eq_mem, decide_eq_false_iff_not, List.all_eq_true, decide_eq_true_eq] at this
      exact this
  have hsw2 : ∀ p, sw.contains p = true → es.contains p = true ∧ ∀ op, ops.toList[p]? = some op → allocB op = true ∧ ∃ cs, allocZ P op = some cs := fun p hp => by
    simp only [swapsB, List.all_eq_true, Bool.and_eq_true] at hsw hz
    have hp' : p ∈ sw := by simpa using hp
    refine ⟨(hsw p hp').1, fun op hop => ?_⟩
    have e : ops.toList.getD p default = op := by rw [List.getD_eq_getElem?_getD, hop]; rfl
    have q1 := (hsw p hp').2
    have q2 := hz p hp'
    rw [e] at q1 q2
    exact ⟨q1, Option.isSome_iff_exists.1 q2⟩
  have := draw_any2 (P := P) (Q := Q) (s0 := σ) (I0 := I) (w0 := w) hmono hsw2 (fun _ _ h => h) (fun p env σ h => h env) ord (Array.replicate ops.size false) a { w with drawn := w.drawn + 1 } I env σ ops.size hlen hL (Imm.le_refl I) (Bel.refl w).drew
    (hs.keeps fun _ _ => rfl) he hd hC h
  simpa using this
def drawV (P : Program) (all : List Oper) (env : List V) (σ : Store) (K : List V → Store → Prop) (KP : V → Store → Prop) : Prop := drawV1 P all env σ K KP ∨ drawV2 P all env σ K KP
theorem HWp.region_draw {id : Nat} {ops : Array Oper} {env : List V} {σ : Store} (h : drawV P ops.toList env σ (fun env σ => Q .normal env σ) (fun p σ => ∀ env, Q (.pan p) env σ)) : HWp P (.region id ops true) Q env σ :=
  h.elim HWp.region_draw1 HWp.region_draw2
end
end Go.Proofs.YtociliegljoldaaGreat

/- Own framework, part l: code as a condition; a call out of its body. -/
namespace Go.Proofs.YtociliegljoldaaGreat
set_option linter.unusedSimpArgs false
set_option linter.unusedVariables false
open Go.RowKit

def condV (c : V) (A B : Prop) : Prop := match c with | .val (.bool b) => (b = true → A) ∧ (b = false → B) | _ => False

def vc (P : Program) : Code → (Ex → List V → Store → Prop) → List V → Store → Prop
  | .skip, Q, env, σ => Q .normal env σ
  | .region _ ops draw, Q, env, σ => match draw with
    | true => drawV P ops.toList env σ (fun env σ => Q .normal env σ) (fun p σ => ∀ env, Q (.pan p) env σ)
    | false => vcOps P (ops.toList.map (·.dst)) (fun env σ => Q .normal env σ) (fun p env σ => Q (.pan p) env σ) ops.toList env σ
  | .seq a b, Q, env, σ => vc P a (Ex.then (fun env σ => vc P b Q env σ) Q) env σ
  | .cond c x y, Q, env, σ => condV (evalV env c) (vc P x Q env σ) (vc P y Q env σ)
  | .block id c, Q, env, σ => vc P c (Ex.inBlock id Q) env σ
  | .loop c, Q, env, σ => HWp P (.loop c) Q env σ
  | .exit id, Q, env, σ => Q (.exit id) env σ
  | .label _, Q, env, σ => Q .normal env σ
  | .goto l, Q, env, σ => Q (.goto l) env σ
  | .ret, Q, env, σ => Q .ret env σ
  | c, Q, env, σ => HWp P c Q env σ

theorem vc_ok {P : Program} : ∀ (c : Code) (Q : Ex → List V → Store → Prop) (env : List V) (σ : Store), vc P c Q env σ → HWp P c Q env σ := by
  intro c
  induction c with
  | skip => intro Q env σ h; exact HWp.skip h
  | region id ops draw =>
    intro Q env σ h
    cases draw with
    | true => exact HWp.region_draw h
    | false => exact HWp.region h
  | seq a b iha ihb => intro Q env σ h; exact HWp.seq ((iha _ _ _ h).mono fun e env σ hq => by cases e <;> first | exact ihb _ _ _ hq | exact hq)
  | cond c x y ihx ihy =>
    intro Q env σ h
    simp only [vc, condV] at h
    split at h
    · rename_i b hb; exact HWp.cond hb (fun e => ihx _ _ _ (h.1 e)) (fun e => ihy _ _ _ (h.2 e))
    · exact h.elim
  | block id c ih => intro Q env σ h; exact HWp.block (ih _ _ _ h)
  | loop c _ => intro Q env σ h; exact h
  | rangeFunc f params assign body _ _ => intro Q env σ h; exact h
  | exit id => intro Q env σ h; exact HWp.exit h
  | scope c _ => intro Q env σ h; exact h
  | label l => intro Q env σ h; exact HWp.label h
  | goto l => intro Q env σ h; exact HWp.goto h
  | ret => intro Q env σ h; exact HWp.ret h
  | refuse why => intro Q env σ h; exact h

/-- The loop's rule, its round as a condition. -/
theorem loopV {P : Program} {c : Code} {Q : Ex → List V → Store → Prop} {α : Type} (mk : α → List V) (inv : α → Store → Prop) (μ : α → Store → Nat) (a0 : α) {env : List V} {σ : Store}
    (h0 : LeEnv env (mk a0)) (hi : inv a0 σ)
    (round : ∀ a σ, inv a σ → vc P c (Ex.then (fun env' σ' => ∃ a' τ, LeEnv env' (mk a') ∧ τ.le σ' ∧ inv a' τ ∧ μ a' τ < μ a σ) Q) (mk a) σ) : HWp P (.loop c) Q env σ :=
  HWp.loop mk inv μ a0 h0 hi fun a σ h => vc_ok _ _ _ _ (round a σ h)

/-- The results of a call. -/
def resV (P : Program) (env : List V) (σ : Store) : List ResultVar → (List V → Prop) → Prop
  | [], K => K []
  | .tmp t :: rs, K => resV P env σ rs fun xs => K (env.getD t .top :: xs)
  | .cell a t :: rs, K => loadV P t (env.getD a .top) σ fun x _ => resV P env σ rs fun xs => K (x :: xs)

def oneOf (xs : List V) : V := match xs with | [x] => x | xs => .tup xs

def postV (P : Program) (rs : List ResultVar) (Q : Res → Store → Prop) : Ex → List V → Store → Prop
  | .normal, env, σ => resV P env σ rs fun xs => Q (.ret (oneOf xs)) σ
  | .ret, env, σ => resV P env σ rs fun xs => Q (.ret (oneOf xs)) σ
  | .pan p, _, σ => Q (.pan p) σ
  | _, _, _ => False

section
variable {P : Program} {I : Imm} {w : World} {K : V → Store → Prop} {σ : Store}

theorem resV_ok (hs : StR σ I w) {env : List V} {tmps : Array Value} (he : LR I env tmps.toList) : ∀ (rs : List ResultVar) (KK : List V → Prop), resV P env σ rs KK →
    ∃ vs xs, (rs.mapM (fun (r : ResultVar) => match r with
      | .tmp t => (pure (tmps.getD t undef) : Sem Value)
      | .cell a t => do loadVar t (← asAddr (tmps.getD a undef)))).run P w = .ok vs w ∧ LR I xs vs ∧ KK xs := by
  intro rs
  have hget : ∀ t : Nat, VR I (env.getD t .top) (tmps.getD t undef) := fun t => by
    have := he.getD t undef
    simpa [Array.getD_eq_getD_getElem?, List.getD_eq_getElem?_getD] using this
  induction rs with
  | nil => intro KK h; exact ⟨[], [], rfl, LR.nil I, h⟩
  | cons r rs ih =>
    intro KK h
    cases r with
    | tmp t =>
      simp only [resV] at h
      obtain ⟨vs, xs, h1, h2, h3⟩ := ih _ h
      refine ⟨tmps.getD t undef :: vs, env.getD t .top :: xs, ?_, LR.cons (hget t) h2, h3⟩
      simp only [List.mapM_cons, Sem.run_bind, Sem.run_pure, Result.andThen_ok, h1]
    | cell a t =>
      simp only [resV] at h
      obtain ⟨ad, v, x, e, hrun, hx, hk⟩ := loadV_run hs (hget a) h
      obtain ⟨vs, xs, h1, h2, h3⟩ := ih _ hk
      refine ⟨v :: vs, x :: xs, ?_, LR.cons hx h2, h3⟩
      simp only [List.mapM_cons, Sem.run_bind]
      rw [e]
      have ha : (asAddr (.pointer (some ad))).run P w = .ok ad w := rfl
      simp only [ha, Result.andThen_ok, hrun]
      rw [h1]
      rfl

theorem results_ok (hs : StR σ I w) {env : List V} {a : Act} {fn : Func} (he : LR I env a.tmps.toList) {Q : Res → Store → Prop} (h : resV P env σ fn.results.toList fun xs => Q (.ret (oneOf xs)) σ) :
    ∃ v r, (results fn a.tmps).run P w = .ok v w ∧ VR I r v ∧ Q (.ret r) σ := by
  obtain ⟨vs, xs, h1, h2, h3⟩ := resV_ok hs he _ _ h
  refine ⟨if hv : vs.toArray.size = 1 then vs.toArray[0] else .tuple vs.toArray, oneOf xs, ?_, ?_, h3⟩
  · unfold results
    simp only [Sem.run_bind]
    rw [Array.mapM_eq_mapM_toList]
    simp only [Sem.run_map, Sem.run_pure]
    have e : ∀ (r r' : Result (List Value)), r = r' → ((r.andThen fun a w' => Result.ok a.toArray w').andThen fun (a : Array Value) w' => Result.ok (if h : a.size = 1 then a[0] else Value.tuple a) w') =
      ((r'.andThen fun a w' => Result.ok a.toArray w').andThen fun (a : Array Value) w' => Result.ok (if h : a.size = 1 then a[0] else Value.tuple a) w') := fun r r' q => by rw [q]
    exact e _ _ h1
  · have hl := h2.len
    cases xs with
    | nil =>
      obtain rfl : vs = [] := List.eq_nil_of_length_eq_zero (by simpa using hl.symm)
      exact VR.mk_tup (LR.nil I)
    | cons x xs =>
      cases vs with
      | nil => simp at hl
      | cons v vs =>
        cases xs with
        | nil =>
          obtain rfl : vs = [] := List.eq_nil_of_length_eq_zero (by simpa using hl.symm)
          exact h2.head
        | cons y ys =>
          cases vs with
          | nil => simp at hl
          | cons u us =>
            rw [dif_neg (by simp)]
            exact VR.mk_tup h2
end

/-- A CALL, OUT OF ITS BODY. -/
theorem HCalls.of_vc {P : Program} {f : FuncId} {fn : Func} {c : Code} {xs : List V} {σ : Store} {Q : Res → Store → Prop} (hf : P.funcs[f]? = some fn) (hb : fn.body = some c)
    (h : vc P c (postV P fn.results.toList Q) (xs ++ List.replicate (fn.ntmps - xs.length) .top) σ) : HCalls P f xs σ Q := by
  intro I w vs hs hv
  refine calls_of_wp hf hb ?_
  have he : LR I (xs ++ List.replicate (fn.ntmps - xs.length) .top) (vs ++ Array.replicate (fn.ntmps - vs.size) undef).toList := by
    have hl := hv.len
    simp only [Array.length_toList] at hl
    have := hv.spare (List.replicate (fn.ntmps - vs.size) undef) (fn.ntmps - xs.length) (by simp [hl])
    simpa using this
  refine wp_mono (vc_ok c _ _ _ h [] I w _ hs he rfl) ?_
  intro e a w' ⟨h1, h2, I', σ', env', h3, h4, h5, h6⟩
  cases e with
  | normal => obtain ⟨v, r, g1, g2, g3⟩ := results_ok h4 h5 h6; exact ⟨h1, v, g1, h2, I', σ', h3, h4, .inl ⟨r, v, rfl, g2, g3⟩⟩
  | ret => obtain ⟨v, r, g1, g2, g3⟩ := results_ok h4 h5 h6; exact ⟨h1, v, g1, h2, I', σ', h3, h4, .inl ⟨r, v, rfl, g2, g3⟩⟩
  | panic chain => obtain ⟨r, v, rfl, g2, g3⟩ := h6; exact ⟨h1, h2, I', σ', h3, h4, .inr ⟨r, v, rfl, g2, g3⟩⟩
  | exit id => exact h6.elim
  | goto l => exact h6.elim
  | outgrown => exact h6.elim

end Go.Proofs.YtociliegljoldaaGreat

/- Own framework, part m: rules to walk by. -/
namespace Go.Proofs.YtociliegljoldaaGreat
set_option linter.unusedSimpArgs false
set_option linter.unusedVariables false
open Go.RowKit

abbrev I64 (n : Int) : V := .val (.int .i64 n)
abbrev BV (b : Bool) : V := .val (.bool b)
abbrev nilS : V := .val (.slice none 0 0)
abbrev nilP : V := .val (.pointer none)

section
variable {P : Program} {Q : Ex → List V → Store → Prop} {env : List V} {σ : Store} {K KP : V → Store → Prop}

theorem vc_seq {a b : Code} (h : vc P a (Ex.then (fun env σ => vc P b Q env σ) Q) env σ) : vc P (.seq a b) Q env σ := h
theorem vc_block {id : Nat} {c : Code} (h : vc P c (Ex.inBlock id Q) env σ) : vc P (.block id c) Q env σ := h
theorem vc_skip (h : Q .normal env σ) : vc P .skip Q env σ := h
theorem vc_sub {c : Code} {τ : Store} (hs : τ.le σ) (h : HWp P c Q env τ) : HWp P c Q env σ := HWp.sub hs h
theorem vc_exit {id : Nat} (h : Q (.exit id) env σ) : vc P (.exit id) Q env σ := h
theorem vc_ret (h : Q .ret env σ) : vc P .ret Q env σ := h
theorem vc_loop {c : Code} (h : HWp P (.loop c) Q env σ) : vc P (.loop c) Q env σ := h
theorem vc_cond {c : Operand} {x y : Code} {b : Bool} (hc : evalV env c = .val (.bool b)) (ht : b = true → vc P x Q env σ) (hf : b = false → vc P y Q env σ) : vc P (.cond c x y) Q env σ := by
  show condV _ _ _
  rw [hc]; exact ⟨ht, hf⟩
theorem vc_region {id : Nat} {l : List Oper}
    (h : ∀ (K : List V → Store → Prop) (KP : V → List V → Store → Prop), (∀ env σ, Q .normal env σ → K env σ) → (∀ p env σ, Q (.pan p) env σ → KP p env σ) → vcOps P (l.map (·.dst)) K KP l env σ) : vc P (.region id l.toArray false) Q env σ := by
  show vcOps _ _ _ _ _ _ _
  simpa using h _ _ (fun _ _ h => h) (fun _ _ _ h => h)
theorem vc_draw {id : Nat} {l : List Oper} (hm : P.follows .mixedOrders = true) (es ord el fin : List Nat) (C : Store → Prop) (ho : orderB l es ord = true) (he : earlyB l es el = true) (hf : finB l es fin = true) (hC : C σ)
    (h : ∀ (K : List V → Store → Prop) (KP : V → Store → Prop), (∀ env σ, Q .normal env σ → K env σ) → (∀ p σ, (∀ env, Q (.pan p) env σ) → KP p σ) → vcDraw P l (l.map (·.dst)) es ⟨el, σ, C, fin, []⟩ K KP ord env σ) : vc P (.region id l.toArray true) Q env σ := by
  show drawV _ _ _ _ _ _
  exact .inl ⟨hm, es, ord, ⟨el, σ, C, fin, []⟩, by simpa using ho, by simpa using he, by simpa using hf, rfl, hC, by simpa using h _ _ (fun _ _ h => h) (fun _ _ h => h)⟩
/-- The same; those of im are told as less at once. -/
theorem vc_draw3 {id : Nat} {l : List Oper} (hm : P.follows .mixedOrders = true) (es ord el fin im : List Nat) (C : Store → Prop) (ho : orderB l es ord = true) (he : earlyB l es el = true) (hf : finB l es fin = true) (hC : C σ)
    (h : ∀ (K : List V → Store → Prop) (KP : V → Store → Prop), (∀ env σ, Q .normal env σ → K env σ) → (∀ p σ, (∀ env, Q (.pan p) env σ) → KP p σ) → vcDraw P l (l.map (·.dst)) es ⟨el, σ, C, fin, im⟩ K KP ord env σ) : vc P (.region id l.toArray true) Q env σ := by
  show drawV _ _ _ _ _ _
  exact .inl ⟨hm, es, ord, ⟨el, σ, C, fin, im⟩, by simpa using ho, by simpa using he, by simpa using hf, rfl, hC, by simpa using h _ _ (fun _ _ h => h) (fun _ _ h => h)⟩
/-- The same; those of sw (effects that make a place) may change places with each other. -/
theorem vc_draw2 {id : Nat} {l : List Oper} (hm : P.follows .mixedOrders = true) (es sw ord : List Nat) (C : Store → Prop) (ho : orderB2 l es sw ord = true) (hs : swapsB l es sw = true) (hz : (sw.all fun i => (allocZ P (l.getD i default)).isSome) = true) (hC : C σ) (hmo : ∀ σ b k, C σ → σ b = none → C (σ.set b k))
    (h : ∀ (K : List V → Store → Prop) (KP : V → Store → Prop), (∀ env σ, Q .normal env σ → K env σ) → (∀ p σ, (∀ env, Q (.pan p) env σ) → KP p σ) → vcDraw P l (l.map (·.dst)) es ⟨[], σ, C, [], []⟩ K KP ord env σ) : vc P (.region id l.toArray true) Q env σ := by
  show drawV _ _ _ _ _ _
  exact .inr ⟨hm, es, sw, ord, C, by simpa using ho, by simpa using hs, by simpa using hz, hC, hmo, by simpa using h _ _ (fun _ _ h => h) (fun _ _ h => h)⟩

theorem then_normal {next : List V → Store → Prop} (h : next env σ) : Ex.then next Q .normal env σ := h
theorem then_exit {next : List V → Store → Prop} {id : Nat} (h : Q (.exit id) env σ) : Ex.then next Q (.exit id) env σ := h
theorem then_ret {next : List V → Store → Prop} (h : Q .ret env σ) : Ex.then next Q .ret env σ := h
theorem then_pan {next : List V → Store → Prop} {p : V} (h : Q (.pan p) env σ) : Ex.then next Q (.pan p) env σ := h
theorem inBlock_normal {id : Nat} (h : Q .normal env σ) : Ex.inBlock id Q .normal env σ := h
theorem inBlock_ret {id : Nat} (h : Q .ret env σ) : Ex.inBlock id Q .ret env σ := h
theorem inBlock_pan {id : Nat} {p : V} (h : Q (.pan p) env σ) : Ex.inBlock id Q (.pan p) env σ := h
theorem inBlock_exit {id : Nat} (h : Q .normal env σ) : Ex.inBlock id Q (.exit id) env σ := by simpa [Ex.inBlock] using h
theorem inBlock_exit' {id id' : Nat} (hn : id' ≠ id) (h : Q (.exit id') env σ) : Ex.inBlock id Q (.exit id') env σ := by simpa [Ex.inBlock, hn] using h

/-- A call that only tells. -/
def HPure (P : Program) (f : FuncId) (xs : List V) (x : V) : Prop := entersB P f = true ∧ ∀ σ, HCalls P f xs σ (fun r σ' => r = .ret x ∧ σ' = σ)

theorem callV_of {g : FuncId} {ps qs xs : List V} {R : Res → Store → Prop} (he : entersB P g = true) (h : HCalls P g (ps ++ xs ++ qs) σ R)
    (hr : ∀ x σ', R (.ret x) σ' → K x σ') (hp : ∀ x σ', R (.pan x) σ' → KP x σ') : callV P (.fn (.func g) ps qs) xs σ K KP :=
  ⟨he, h.mono fun r σ' q => by cases r with | ret x => exact hr x σ' q | pan x => exact hp x σ' q⟩
theorem callV_pure {g : FuncId} {ps qs xs : List V} {x : V} (h : HPure P g (ps ++ xs ++ qs) x) (k : K x σ) : callV P (.fn (.func g) ps qs) xs σ K KP :=
  callV_of h.1 (h.2 σ) (fun y σ' ⟨e, f⟩ => by cases e; subst f; exact k) (fun y σ' ⟨e, _⟩ => by cases e)

theorem Store.le_trans {σ τ υ : Store} (h : σ.le τ) (k : τ.le υ) : σ.le υ := fun b c e => k b c (h b c e)
theorem Store.le_set {σ τ : Store} {b : Nat} {k : Blk} (hb : τ b = none) (h : σ.le τ) : σ.le (τ.set b k) := fun c l e => by
  have := h c l e
  have hne : c ≠ b := fun q => by rw [q, hb] at this; cases this
  rw [Store.set_other _ _ hne]; exact this
theorem Store.le_reset {σ τ : Store} {b : Nat} {k : Blk} (hb : σ b = none) (h : σ.le τ) : σ.le (τ.set b k) := fun c l e => by
  have hne : c ≠ b := fun q => by rw [q, hb] at e; cases e
  rw [Store.set_other _ _ hne]; exact h c l e
theorem Store.keep {σ : Store} {b c : Nat} {l : Blk} (hb : σ b = none) (hc : σ c = some l) (k : Blk) : (σ.set b k) c = some l := by
  rw [Store.set_other _ _ (fun e => by rw [e, hb] at hc; cases hc)]; exact hc
theorem Store.none_of_le {σ τ : Store} {b : Nat} (h : σ.le τ) (hb : τ b = none) : σ b = none := by
  cases e : σ b with
  | none => rfl
  | some k => rw [h b k e] at hb; cases hb

theorem Weakens.le {x : V} {τ : Store} (h : σ.le τ) : Weakens x τ x σ := fun I w v hs hx => ⟨I, Imm.le_refl I, hs.sub h, hx⟩
theorem Weakens.trans {x y z : V} {τ υ : Store} (h : Weakens x σ y τ) (k : Weakens y τ z υ) : Weakens x σ z υ := fun I w v hs hx =>
  let ⟨J, j1, j2, j3⟩ := h I w v hs hx
  let ⟨L, l1, l2, l3⟩ := k J w v j2 j3
  ⟨L, Imm.le_trans j1 l1, l2, l3⟩

/-- The end of a call that only tells: x, and the memory as it was. -/
def Ends (x : V) (σ : Store) : Res → Store → Prop := fun r σ' => ∃ y, r = .ret y ∧ Weakens y σ' x σ
theorem HPure.of {f : FuncId} {xs : List V} {x : V} (he : entersB P f = true) (h : ∀ σ, HCalls P f xs σ (Ends x σ)) : HPure P f xs x := ⟨he, fun σ =>
  (h σ).weaken (fun r σ' ⟨y, e, hw⟩ => by cases e; exact ⟨x, σ, hw, rfl, rfl⟩) (fun r σ' ⟨y, e, _⟩ => by cases e)⟩
/-- A call that only tells, in one memory. -/
def HQuiet (P : Program) (f : FuncId) (xs : List V) (σ : Store) (x : V) : Prop := HCalls P f xs σ (fun r σ' => r = .ret x ∧ σ' = σ)
theorem HQuiet.of {f : FuncId} {xs : List V} {x : V} (h : HCalls P f xs σ (Ends x σ)) : HQuiet P f xs σ x :=
  h.weaken (fun r σ' ⟨y, e, hw⟩ => by cases e; exact ⟨x, σ, hw, rfl, rfl⟩) (fun r σ' ⟨y, e, _⟩ => by cases e)
theorem callV_quiet {g : FuncId} {ps qs xs : List V} {x : V} (he : entersB P g = true) (h : HQuiet P g (ps ++ xs ++ qs) σ x) (k : K x σ) : callV P (.fn (.func g) ps qs) xs σ K KP :=
  callV_of he h (fun y σ' ⟨e, f⟩ => by cases e; subst f; exact k) (fun y σ' ⟨e, _⟩ => by cases e)
theorem Ends.mk {x y : V} {τ : Store} (h : Weakens y τ x σ) : Ends x σ (.ret y) τ := ⟨y, rfl, h⟩
theorem Ends.le {x y : V} {τ : Store} (e : y = x) (h : σ.le τ) : Ends x σ (.ret y) τ := by subst e; exact .mk (Weakens.le h)

theorem guardC_q {c : Bool} {flags : List Bool} {op : (V → Store → Prop) → Prop} {x : V} (hf : c = true → ∀ f ∈ flags, f = true) (h : c = true → op (fun y τ => y = x ∧ τ = σ)) (k : K (.cnd c x) σ) : guardC c flags op σ K :=
  ⟨hf, .inr ⟨x, h, k⟩⟩
theorem guardC_ret {c : Bool} {flags : List Bool} {x : V} (hf : c = true → ∀ f ∈ flags, f = true) (k : K (.cnd c x) σ) : guardC c flags (fun K => K x σ) σ K := guardC_q hf (fun _ => ⟨rfl, rfl⟩) k
theorem guardC_split {c : Bool} {flags : List Bool} {op : (V → Store → Prop) → Prop} (hf : c = true → ∀ f ∈ flags, f = true) (h : c = true → op K) (k : c = false → K (.val undef) σ) : guardC c flags op σ K :=
  ⟨hf, .inl ⟨h, k⟩⟩
@[congr] theorem guardC_congr {c c' : Bool} {flags flags' : List Bool} {op op' : (V → Store → Prop) → Prop} {σ' : Store} (h1 : c = c') (h2 : flags = flags') (h3 : ∀ K, op K = op' K) (h4 : σ = σ') : guardC c flags op σ K = guardC c' flags' op' σ' K := by
  subst h1 h2 h4; rw [funext h3]
@[congr] theorem callV_congr {f f' : V} {xs xs' : List V} {σ' : Store} (h1 : f = f') (h2 : xs = xs') (h3 : σ = σ') : callV P f xs σ K KP = callV P f' xs' σ' K KP := by subst h1 h2 h3; rfl
@[congr] theorem appendV_congr {t u : TypeId} {x x' y y' : V} {σ' : Store} (h1 : x = x') (h2 : y = y') (h3 : σ = σ') : appendV P t u x y σ K = appendV P t u x' y' σ' K := by subst h1 h2 h3; rfl
@[congr] theorem exV_congr {A A' B : V → Prop} (h : ∀ x, A x = A' x) : exV A B = exV A' B := by rw [funext h]
@[congr] theorem guardD_congr {c c' : Bool} {flags flags' : List Bool} {A A' B : V → Prop} (h1 : c = c') (h2 : flags = flags') (h : ∀ x, A x = A' x) : guardD c flags A B = guardD c' flags' A' B := by subst h1 h2; rw [funext h]
theorem exV_eq {c : V} {B : V → Prop} : exV (fun x => c = x) B = B c := by simp [exV]
theorem exV_intro {A B : V → Prop} (x : V) (h : A x) (k : B x) : exV A B := ⟨x, h, k⟩
theorem guardD_ret {c : Bool} {flags : List Bool} {x : V} {B : V → Prop} (hf : c = true → ∀ f ∈ flags, f = true) (k : B (.cnd c x)) : guardD c flags (fun y => x = y) B := ⟨hf, x, fun _ => rfl, k⟩
theorem guardD_q {c : Bool} {flags : List Bool} {x : V} {A B : V → Prop} (hf : c = true → ∀ f ∈ flags, f = true) (h : c = true → A x) (k : B (.cnd c x)) : guardD c flags A B := ⟨hf, x, h, k⟩
theorem guardD_no {flags : List Bool} {A B : V → Prop} (k : B (.cnd false .top)) : guardD false flags A B := ⟨fun h => (by cases h), .top, fun h => (by cases h), k⟩
theorem guardC_no {flags : List Bool} {op : (V → Store → Prop) → Prop} (k : K (.cnd false .top) σ) : guardC false flags op σ K := ⟨fun h => (by cases h), .inr ⟨.top, fun h => (by cases h), k⟩⟩
theorem Store.set_id {b : Nat} {k : Blk} (h : σ b = some k) : σ.set b k = σ := by
  funext c
  by_cases e : c = b
  · rw [e, Store.set_same, h]
  · rw [Store.set_other _ _ e]
theorem flags_nil {c : Bool} : c = true → ∀ f ∈ ([] : List Bool), f = true := fun _ _ h => by cases h
theorem flags_same {c : Bool} {fs : List Bool} (h : c = true → ∀ f ∈ fs, f = true) : c = true → ∀ f ∈ c :: fs, f = true := fun hc f hf => by
  rcases List.mem_cons.1 hf with e | e
  · rw [e]; exact hc
  · exact h hc f e
theorem flags_true {c : Bool} {fs : List Bool} (h : c = true → ∀ f ∈ fs, f = true) : c = true → ∀ f ∈ true :: fs, f = true := fun hc f hf => by
  rcases List.mem_cons.1 hf with e | e
  · exact e
  · exact h hc f e

theorem flags_cons {c f : Bool} {fs : List Bool} (h1 : c = true → f = true) (h : c = true → ∀ f ∈ fs, f = true) : c = true → ∀ g ∈ f :: fs, g = true := fun hc g hg => by
  rcases List.mem_cons.1 hg with e | e
  · rw [e]; exact h1 hc
  · exact h hc g e
theorem gC_true {c : Bool} {fs : List Bool} {op : (V → Store → Prop) → Prop} : guardC (c) (true :: fs) op σ K = guardC (c) fs op σ K := by
  have e : ((c) = true → ∀ f ∈ true :: fs, f = true) = ((c) = true → ∀ f ∈ fs, f = true) := propext ⟨fun h hc f hf => h hc f (List.mem_cons_of_mem _ hf), fun h hc f hf => by
    rcases List.mem_cons.1 hf with q | q
    · exact q
    · exact h hc f q⟩
  simp only [guardC, e]
theorem gC_same {c : Bool} {fs : List Bool} {op : (V → Store → Prop) → Prop} : guardC (c) (c :: fs) op σ K = guardC (c) fs op σ K := by
  have e : ((c) = true → ∀ f ∈ c :: fs, f = true) = ((c) = true → ∀ f ∈ fs, f = true) := propext ⟨fun h hc f hf => h hc f (List.mem_cons_of_mem _ hf), fun h hc f hf => by
    rcases List.mem_cons.1 hf with q | q
    · rw [q]; clear h hf q; revert hc; cases c <;> simp
    · exact h hc f q⟩
  simp only [guardC, e]
theorem gC_and1 {x y : Bool} {fs : List Bool} {op : (V → Store → Prop) → Prop} : guardC (x && y) (x :: fs) op σ K = guardC (x && y) fs op σ K := by
  have e : ((x && y) = true → ∀ f ∈ x :: fs, f = true) = ((x && y) = true → ∀ f ∈ fs, f = true) := propext ⟨fun h hc f hf => h hc f (List.mem_cons_of_mem _ hf), fun h hc f hf => by
    rcases List.mem_cons.1 hf with q | q
    · rw [q]; clear h hf q; revert hc; cases x <;> cases y <;> simp
    · exact h hc f q⟩
  simp only [guardC, e]
theorem gC_and2 {x y : Bool} {fs : List Bool} {op : (V → Store → Prop) → Prop} : guardC (x && y) (y :: fs) op σ K = guardC (x && y) fs op σ K := by
  have e : ((x && y) = true → ∀ f ∈ y :: fs, f = true) = ((x && y) = true → ∀ f ∈ fs, f = true) := propext ⟨fun h hc f hf => h hc f (List.mem_cons_of_mem _ hf), fun h hc f hf => by
    rcases List.mem_cons.1 hf with q | q
    · rw [q]; clear h hf q; revert hc; cases x <;> cases y <;> simp
    · exact h hc f q⟩
  simp only [guardC, e]
theorem gC_and3 {x y z : Bool} {fs : List Bool} {op : (V → Store → Prop) → Prop} : guardC (x && y && z) (x :: fs) op σ K = guardC (x && y && z) fs op σ K := by
  have e : ((x && y && z) = true → ∀ f ∈ x :: fs, f = true) = ((x && y && z) = true → ∀ f ∈ fs, f = true) := propext ⟨fun h hc f hf => h hc f (List.mem_cons_of_mem _ hf), fun h hc f hf => by
    rcases List.mem_cons.1 hf with q | q
    · rw [q]; clear h hf q; revert hc; cases x <;> cases y <;> cases z <;> simp
    · exact h hc f q⟩
  simp only [guardC, e]
theorem gC_and4 {x y z w : Bool} {fs : List Bool} {op : (V → Store → Prop) → Prop} : guardC (x && y && z && w) (x :: fs) op σ K = guardC (x && y && z && w) fs op σ K := by
  have e : ((x && y && z && w) = true → ∀ f ∈ x :: fs, f = true) = ((x && y && z && w) = true → ∀ f ∈ fs, f = true) := propext ⟨fun h hc f hf => h hc f (List.mem_cons_of_mem _ hf), fun h hc f hf => by
    rcases List.mem_cons.1 hf with q | q
    · rw [q]; clear h hf q; revert hc; cases x <;> cases y <;> cases z <;> cases w <;> simp
    · exact h hc f q⟩
  simp only [guardC, e]
theorem gC_and5 {x y z w : Bool} {fs : List Bool} {op : (V → Store → Prop) → Prop} : guardC (x && y && z && w) ((x && y) :: fs) op σ K = guardC (x && y && z && w) fs op σ K := by
  have e : ((x && y && z && w) = true → ∀ f ∈ (x && y) :: fs, f = true) = ((x && y && z && w) = true → ∀ f ∈ fs, f = true) := propext ⟨fun h hc f hf => h hc f (List.mem_cons_of_mem _ hf), fun h hc f hf => by
    rcases List.mem_cons.1 hf with q | q
    · rw [q]; clear h hf q; revert hc; cases x <;> cases y <;> cases z <;> cases w <;> simp
    · exact h hc f q⟩
  simp only [guardC, e]
theorem gD_true {c : Bool} {fs : List Bool} {A B : V → Prop} : guardD (c) (true :: fs) A B = guardD (c) fs A B := by
  have e : ((c) = true → ∀ f ∈ true :: fs, f = true) = ((c) = true → ∀ f ∈ fs, f = true) := propext ⟨fun h hc f hf => h hc f (List.mem_cons_of_mem _ hf), fun h hc f hf => by
    rcases List.mem_cons.1 hf with q | q
    · exact q
    · exact h hc f q⟩
  simp only [guardD, e]
theorem gD_same {c : Bool} {fs : List Bool} {A B : V → Prop} : guardD (c) (c :: fs) A B = guardD (c) fs A B := by
  have e : ((c) = true → ∀ f ∈ c :: fs, f = true) = ((c) = true → ∀ f ∈ fs, f = true) := propext ⟨fun h hc f hf => h hc f (List.mem_cons_of_mem _ hf), fun h hc f hf => by
    rcases List.mem_cons.1 hf with q | q
    · rw [q]; clear h hf q; revert hc; cases c <;> simp
    · exact h hc f q⟩
  simp only [guardD, e]
theorem gD_and1 {x y : Bool} {fs : List Bool} {A B : V → Prop} : guardD (x && y) (x :: fs) A B = guardD (x && y) fs A B := by
  have e : ((x && y) = true → ∀ f ∈ x :: fs, f = true) = ((x && y) = true → ∀ f ∈ fs, f = true) := propext ⟨fun h hc f hf => h hc f (List.mem_cons_of_mem _ hf), fun h hc f hf => by
    rcases List.mem_cons.1 hf with q | q
    · rw [q]; clear h hf q; revert hc; cases x <;> cases y <;> simp
    · exact h hc f q⟩
  simp only [guardD, e]
theorem gD_and2 {x y : Bool} {fs : List Bool} {A B : V → Prop} : guardD (x && y) (y :: fs) A B = guardD (x && y) fs A B := by
  have e : ((x && y) = true → ∀ f ∈ y :: fs, f = true) = ((x && y) = true → ∀ f ∈ fs, f = true) := propext ⟨fun h hc f hf => h hc f (List.mem_cons_of_mem _ hf), fun h hc f hf => by
    rcases List.mem_cons.1 hf with q | q
    · rw [q]; clear h hf q; revert hc; cases x <;> cases y <;> simp
    · exact h hc f q⟩
  simp only [guardD, e]
theorem gD_and3 {x y z : Bool} {fs : List Bool} {A B : V → Prop} : guardD (x && y && z) (x :: fs) A B = guardD (x && y && z) fs A B := by
  have e : ((x && y && z) = true → ∀ f ∈ x :: fs, f = true) = ((x && y && z) = true → ∀ f ∈ fs, f = true) := propext ⟨fun h hc f hf => h hc f (List.mem_cons_of_mem _ hf), fun h hc f hf => by
    rcases List.mem_cons.1 hf with q | q
    · rw [q]; clear h hf q; revert hc; cases x <;> cases y <;> cases z <;> simp
    · exact h hc f q⟩
  simp only [guardD, e]
theorem gD_and4 {x y z w : Bool} {fs : List Bool} {A B : V → Prop} : guardD (x && y && z && w) (x :: fs) A B = guardD (x && y && z && w) fs A B := by
  have e : ((x && y && z && w) = true → ∀ f ∈ x :: fs, f = true) = ((x && y && z && w) = true → ∀ f ∈ fs, f = true) := propext ⟨fun h hc f hf => h hc f (List.mem_cons_of_mem _ hf), fun h hc f hf => by
    rcases List.mem_cons.1 hf with q | q
    · rw [q]; clear h hf q; revert hc; cases x <;> cases y <;> cases z <;> cases w <;> simp
    · exact h hc f q⟩
  simp only [guardD, e]
theorem gD_and5 {x y z w : Bool} {fs : List Bool} {A B : V → Prop} : guardD (x && y && z && w) ((x && y) :: fs) A B = guardD (x && y && z && w) fs A B := by
  have e : ((x && y && z && w) = true → ∀ f ∈ (x && y) :: fs, f = true) = ((x && y && z && w) = true → ∀ f ∈ fs, f = true) := propext ⟨fun h hc f hf => h hc f (List.mem_cons_of_mem _ hf), fun h hc f hf => by
    rcases List.mem_cons.1 hf with q | q
    · rw [q]; clear h hf q; revert hc; cases x <;> cases y <;> cases z <;> cases w <;> simp
    · exact h hc f q⟩
  simp only [guardD, e]
theorem guardC_ret0 {c : Bool} {x : V} (k : K (.cnd c x) σ) : guardC c [] (fun K => K x σ) σ K := guardC_ret flags_nil k
theorem guardD_ret0 {c : Bool} {x : V} {B : V → Prop} (k : B (.cnd c x)) : guardD c [] (fun y => x = y) B := guardD_ret flags_nil k
theorem guardC_q0 {c : Bool} {op : (V → Store → Prop) → Prop} {x : V} (h : c = true → op (fun y τ => y = x ∧ τ = σ)) (k : K (.cnd c x) σ) : guardC c [] op σ K := guardC_q flags_nil h k
theorem guardD_q0 {c : Bool} {x : V} {A B : V → Prop} (h : c = true → A x) (k : B (.cnd c x)) : guardD c [] A B := guardD_q flags_nil h k

theorem loadL_s {t : TypeId} {cs : List V} {off : Nat} {K : V → Prop} (h : kindB P t = some false) : loadL P t cs off K = match cs[off]? with | none => False | some c => K c := by simp only [loadL, h]; cases cs[off]? <;> rfl
theorem loadL_a {t : TypeId} {cs : List V} {off : Nat} {K : V → Prop} (h : kindB P t = some true) : loadL P t cs off K = (off + P.cellsOf t ≤ cs.length ∧ K (.agg ((cs.drop off).take (P.cellsOf t)))) := by simp only [loadL, h]
theorem cells_agg (cs : List V) : (V.agg cs).cells = cs := rfl
theorem cells_int (k : IntKind) (n : Int) : (V.val (.int k n)).cells = [V.val (.int k n)] := rfl
theorem cells_bool (b : Bool) : (V.val (.bool b)).cells = [V.val (.bool b)] := rfl
theorem cells_str (b : ByteArray) : (V.val (.string b)).cells = [V.val (.string b)] := rfl
theorem cells_float (k : FloatKind) (b : Nat) : (V.val (.float k b)).cells = [V.val (.float k b)] := rfl
theorem cells_nilp (a : Option Addr) : (V.val (.pointer a)).cells = [V.val (.pointer a)] := rfl
theorem cells_nils (a : Option Addr) (n c : Nat) : (V.val (.slice a n c)).cells = [V.val (.slice a n c)] := rfl
theorem cells_nilf : (V.val .nilFunc).cells = [V.val .nilFunc] := rfl
theorem cells_nili : (V.val .nilIface).cells = [V.val .nilIface] := rfl
theorem cells_nilm (r : Option Nat) : (V.val (.map r)).cells = [V.val (.map r)] := rfl
theorem cells_ptr (b o : Nat) : (V.ptr b o).cells = [V.ptr b o] := rfl
theorem cells_sl (b o n c : Nat) : (V.sl b o n c).cells = [V.sl b o n c] := rfl
theorem cells_lst (k : Nat) (xs : List V) : (V.lst k xs).cells = [V.lst k xs] := rfl
theorem cells_ro (xs : List V) : (V.ro xs).cells = [V.ro xs] := rfl
theorem cells_tup (xs : List V) : (V.tup xs).cells = [V.tup xs] := rfl
theorem cells_fn (f : Fn) (ps qs : List V) : (V.fn f ps qs).cells = [V.fn f ps qs] := rfl
theorem cells_ifc (t : TypeId) (x : V) : (V.ifc t x).cells = [V.ifc t x] := rfl

def idxOf (o : Option Nat) : Int := match o with | some i => i | none => -1

theorem notB_imp (b : Bool) : (b = false → (!b) = true) = True := by cases b <;> simp
theorem ite_and (b p : Bool) : (if b = true then p else false) = (b && p) := by cases b <;> rfl
theorem ite_or (b p : Bool) : (if b = true then true else p) = (b || p) := by cases b <;> rfl

/-! The rest of a region as a name, so that simp does not walk into it. -/
def vcK (P : Program) (slots : List (Option Tmp)) (K : List V → Store → Prop) (KP : V → List V → Store → Prop) (rest : List Oper) (dst : Option Tmp) (env : List V) : V → Store → Prop := fun x σ' => vcOps P slots K KP rest (putV env dst x) σ'
def vcKP (KP : V → List V → Store → Prop) (env : List V) : V → Store → Prop := fun p σ' => KP p env σ'
def vcDK (P : Program) (all : List Oper) (slots : List (Option Tmp)) (es : List Nat) (C : Cls) (K : List V → Store → Prop) (KP : V → Store → Prop) (rest : List Nat) (dst : Option Tmp) (env : List V) : V → Store → Prop := fun x σ' => vcDraw P all slots es C K KP rest (putV env dst x) σ'
def vcDB (K : V → Store → Prop) (σ : Store) : V → Prop := fun x => K x σ
theorem vcK_app {slots : List (Option Tmp)} {K : List V → Store → Prop} {KP : V → List V → Store → Prop} {rest : List Oper} {dst : Option Tmp} {x : V} : vcK P slots K KP rest dst env x σ = vcOps P slots K KP rest (putV env dst x) σ := rfl
theorem vcKP_app {KP : V → List V → Store → Prop} {x : V} : vcKP KP env x σ = KP x env σ := rfl
theorem vcDK_app {all : List Oper} {slots : List (Option Tmp)} {es : List Nat} {C : Cls} {K : List V → Store → Prop} {rest : List Nat} {dst : Option Tmp} {x : V} : vcDK P all slots es C K KP rest dst env x σ = vcDraw P all slots es C K KP rest (putV env dst x) σ := rfl
theorem vcDB_app {x : V} : vcDB K σ x = K x σ := rfl
theorem vcOps_nil {slots : List (Option Tmp)} {K : List V → Store → Prop} {KP : V → List V → Store → Prop} : vcOps P slots K KP [] env σ = K env σ := rfl
theorem vcOps_cons {slots : List (Option Tmp)} {K : List V → Store → Prop} {KP : V → List V → Store → Prop} {d : Option Tmp} {op : Op} {ty : TypeId} {pos : String} {af : Array Edge} {rest : List Oper} : vcOps P slots K KP (⟨d, op, ty, pos, af, none⟩ :: rest) env σ = opV P (evalV env) ⟨d, op, ty, pos, af, none⟩ σ (vcK P slots K KP rest d env) (vcKP KP env) := rfl
theorem vcOps_consg {slots : List (Option Tmp)} {K : List V → Store → Prop} {KP : V → List V → Store → Prop} {d : Option Tmp} {op : Op} {j : Nat} {w : Bool} {ty : TypeId} {pos : String} {af : Array Edge} {rest : List Oper} : vcOps P slots K KP (⟨d, op, ty, pos, af, some (j, w)⟩ :: rest) env σ = guardV (yieldV slots env j) w (flagsOf env op) (fun K => opG P env ⟨d, op, ty, pos, af, some (j, w)⟩ σ K (vcKP KP env)) σ (vcK P slots K KP rest d env) := rfl
theorem vcDraw_nil {all : List Oper} {slots : List (Option Tmp)} {es : List Nat} {C : Cls} {K : List V → Store → Prop} : vcDraw P all slots es C K KP [] env σ = K env σ := rfl
theorem vcDraw_cons {all : List Oper} {slots : List (Option Tmp)} {es : List Nat} {C : Cls} {K : List V → Store → Prop} {i : Nat} {rest : List Nat} : vcDraw P all slots es C K KP (i :: rest) env σ = match all[i]? with
    | some o => stepD P slots es C KP i o env σ (vcDK P all slots es C K KP rest o.dst env)
    | none => False := rfl
def effV (f : (V → Store → Prop) → (V → Store → Prop) → Prop) (c : Store → Prop) (K KP : V → Store → Prop) : Prop := ∃ KE KPE, f KE KPE ∧ (∀ x σ', KE x σ' → c σ' ∧ K x σ') ∧ (∀ p σ', KPE p σ' → KP p σ')
theorem effV_intro {f : (V → Store → Prop) → (V → Store → Prop) → Prop} {c : Store → Prop} {K KP : V → Store → Prop} (h : f (fun x σ' => c σ' ∧ K x σ') KP) : effV f c K KP := ⟨_, _, h, fun _ _ q => q, fun _ _ q => q⟩
theorem effV_true {f : (V → Store → Prop) → (V → Store → Prop) → Prop} {K KP : V → Store → Prop} (h : f K KP) : effV f (fun _ => True) K KP := ⟨_, _, h, fun _ _ q => ⟨trivial, q⟩, fun _ _ q => q⟩
@[congr] theorem effV_congr {f f' : (V → Store → Prop) → (V → Store → Prop) → Prop} {c : Store → Prop} {K KP : V → Store → Prop} (h : ∀ a b, f a b = f' a b) : effV f c K KP = effV f' c K KP := by
  rw [show f = f' from funext fun a => funext fun b => h a b]
def imV (A : V → Prop) : V → Prop := A
theorem stepD_eq {slots : List (Option Tmp)} {es : List Nat} {C : Cls} {i : Nat} {d : Option Tmp} {op : Op} {ty : TypeId} {pos : String} {af : Array Edge} : stepD P slots es C KP i ⟨d, op, ty, pos, af, none⟩ env σ K = if es.contains i = true then
    effV (fun KE KPE => opV P (evalV env) ⟨d, op, ty, pos, af, none⟩ σ KE KPE) (C.e i) K KP
  else if C.im.contains i = true then exV (imV fun x => C.at_ i fun τ => opV P (evalV env) ⟨d, op, ty, pos, af, none⟩ τ (fun y τ' => Weakens y τ' x τ) (fun _ _ => False)) (vcDB K σ)
  else exV (fun x => C.at_ i fun τ => opV P (evalV env) ⟨d, op, ty, pos, af, none⟩ τ (fun y τ' => y = x ∧ τ' = τ) (fun _ _ => False)) (vcDB K σ) := by
  simp only [stepD, vcDB, effV, imV]; simp; rfl
theorem stepD_eqg {slots : List (Option Tmp)} {es : List Nat} {C : Cls} {i : Nat} {d : Option Tmp} {op : Op} {j : Nat} {w : Bool} {ty : TypeId} {pos : String} {af : Array Edge} : stepD P slots es C KP i ⟨d, op, ty, pos, af, some (j, w)⟩ env σ K = if es.contains i = true then False else if C.im.contains i = true then False else match condOf (yieldV slots env j) w with
      | some c => guardD c (flagsOf env op) (fun x => C.at_ i fun τ => opG P env ⟨d, op, ty, pos, af, some (j, w)⟩ τ (fun y τ' => y = x ∧ τ' = τ) (fun _ _ => False)) (vcDB K σ)
      | none => False := by
  simp only [stepD, vcDB]
  split
  · simp
  · split
    · simp
    · rfl
theorem Cls.im_eq {el : List Nat} {s0 : Store} {c : Store → Prop} {fin im : List Nat} : Cls.im ⟨el, s0, c, fin, im⟩ = im := rfl
theorem Cls.at_eq {el : List Nat} {s0 : Store} {c : Store → Prop} {fin im : List Nat} {i : Nat} {A : Store → Prop} : Cls.at_ ⟨el, s0, c, fin, im⟩ i A = if el.contains i = true then A s0 else ∀ τ, c τ → A τ := rfl
theorem Cls.c_eq {el : List Nat} {s0 : Store} {c : Store → Prop} {fin im : List Nat} {σ : Store} : Cls.c ⟨el, s0, c, fin, im⟩ σ = c σ := rfl
theorem Cls.e_eq {el : List Nat} {s0 : Store} {c : Store → Prop} {fin im : List Nat} {i : Nat} : Cls.e ⟨el, s0, c, fin, im⟩ i = if fin.contains i = true then (fun _ => True) else c := rfl
theorem indexV_arr {t : TypeId} {k : IntKind} {n : Int} {cs : List V} : indexV P t (.agg cs) (.val (.int k n)) σ K = (0 ≤ n ∧ match P.underlying t with
    | some (.array len e) => (P.info? e).isSome = true ∧ n < len ∧ loadL P e cs (n.toNat * P.cellsOf e) (fun x => K x σ)
    | _ => False) := by
  unfold indexV
  cases h : P.underlying t with
  | none => rfl
  | some d => cases d <;> rfl
theorem indexV_str {t : TypeId} {k : IntKind} {n : Int} {s : ByteArray} : indexV P t (.val (.string s)) (.val (.int k n)) σ K = (0 ≤ n ∧ match P.underlying t with
    | some .string => n < s.size ∧ K (.val (.int .u8 (s.data.toList.getD n.toNat 0).toNat)) σ
    | _ => False) := by
  unfold indexV
  cases h : P.underlying t with
  | none => rfl
  | some d => cases d <;> rfl
theorem all_store {p : Prop} : (∀ _ : Store, p) = p := propext ⟨fun h => h (fun _ => none), fun h _ => h⟩
theorem exV_eq' {c : V} {B : V → Prop} : exV (fun x => c = x) B = B c := by simp [exV]

def flagsL (env : List V) : List Operand → List Bool
  | [] => []
  | x :: xs => (evalV env x).flag :: flagsL env xs
theorem flagsL_nil : flagsL env [] = [] := rfl
theorem flagsL_cons {x : Operand} {xs : List Operand} : flagsL env (x :: xs) = (evalV env x).flag :: flagsL env xs := rfl
theorem flagsL_map : ∀ l : List Operand, l.map (fun x => (evalV env x).flag) = flagsL env l
  | [] => rfl
  | x :: xs => by rw [List.map_cons, flagsL_map xs]; rfl
theorem flagsOf_eq {op : Op} (h : isPick op = false) : flagsOf env op = flagsL env op.operands.toList := (flagsOf_op h).trans (flagsL_map _)
theorem isPick_def {o : Op} : isPick o = (match o with | .pick _ _ _ => true | _ => false) := rfl
theorem opG_def {o : Oper} {K KP : V → Store → Prop} : opG P env o σ K KP = (match o.op with | .pick c a b => pickV (evalV env c).strip (evalV env a) (evalV env b) σ K | _ => opV P (fun x => (evalV env x).strip) o σ K KP) := rfl
theorem flagsOf_def {o : Op} : flagsOf env o = (match o with | .pick c _ _ => flagsL env [c] | o => flagsL env o.operands.toList) := by
  cases h : isPick o with
  | true => obtain ⟨c, a, b, rfl⟩ := isPick_is h; rfl
  | false => rw [flagsOf_eq h]; cases o <;> first | rfl | cases h
theorem callops_v {f : Operand} {args : Array Operand} {ts : Array TypeId} : Call.operands ⟨.value f, args, ts⟩ = (f :: args.toList).toArray := by simp [Call.operands]
theorem callops_b {f : Builtin} {args : Array Operand} {ts : Array TypeId} : Call.operands ⟨.builtin f, args, ts⟩ = args.toList.toArray := by simp [Call.operands]

theorem repL_11 {a : V} : repL [a] 1 = [a] := rfl
theorem repL_12 {a : V} : repL [a] 2 = [a, a] := by simp [repL, List.range_succ]
theorem repL_13 {a : V} : repL [a] 3 = [a, a, a] := by simp [repL, List.range_succ]
theorem repL_22 {a b : V} : repL [a, b] 2 = [a, b] := rfl
theorem repL_24 {a b : V} : repL [a, b] 4 = [a, b, a, b] := by simp [repL, List.range_succ]
theorem repL_33 {a b c : V} : repL [a, b, c] 3 = [a, b, c] := rfl
theorem sl_ops1 {a b : Operand} : (#[a] ++ (none : Option Operand).toArray ++ (some b).toArray ++ (none : Option Operand).toArray).toList = [a, b] := rfl
theorem sl_ops2 {a b : Operand} : (#[a] ++ (some b).toArray ++ (none : Option Operand).toArray ++ (none : Option Operand).toArray).toList = [a, b] := rfl
theorem sl_ops3 {a b c : Operand} : (#[a] ++ (some b).toArray ++ (some c).toArray ++ (none : Option Operand).toArray).toList = [a, b, c] := rfl
theorem sl_ops4 {a : Operand} : (#[a] ++ (none : Option Operand).toArray ++ (none : Option Operand).toArray ++ (none : Option Operand).toArray).toList = [a] := rfl
theorem sl_ops5 {a b c : Operand} : (#[a] ++ (none : Option Operand).toArray ++ (some b).toArray ++ (some c).toArray).toList = [a, b, c] := rfl
theorem sl_ops6 {a b c d : Operand} : (#[a] ++ (some b).toArray ++ (some c).toArray ++ (some d).toArray).toList = [a, b, c, d] := rfl

/-! Arithmetic. -/
theorem i64_in {n : Int} (h0 : -9223372036854775808 ≤ n) (h1 : n ≤ 9223372036854775807) : IntKind.i64.wrap n = n := by
  simp only [IntKind.wrap, IntKind.signed, IntKind.bits]; simp; omega
theorem i64_succ {i n : Nat} (h : i < n) (hn : n ≤ 9223372036854775807) : IntKind.i64.wrap ((i : Int) + 1) = ((i + 1 : Nat) : Int) := by rw [i64_in (by omega) (by omega)]; omega
theorem u8_in {n : Int} (h0 : 0 ≤ n) (h1 : n ≤ 255) : IntKind.u8.wrap n = n := by
  simp only [IntKind.wrap, IntKind.signed, IntKind.bits, Bool.false_and, Bool.false_eq_true, if_false]; omega
theorem u32_in {n : Int} (h0 : 0 ≤ n) (h1 : n ≤ 4294967295) : IntKind.u32.wrap n = n := by
  simp only [IntKind.wrap, IntKind.signed, IntKind.bits, Bool.false_and, Bool.false_eq_true, if_false]; omega
theorem u64_in {n : Int} (h0 : 0 ≤ n) (h1 : n ≤ 18446744073709551615) : IntKind.u64.wrap n = n := by
  simp only [IntKind.wrap, IntKind.signed, IntKind.bits, Bool.false_and, Bool.false_eq_true, if_false]; omega

def andI (k : IntKind) (a b : Int) : Int := (BitVec.ofInt k.bits a &&& BitVec.ofInt k.bits b).toNat
def orI (k : IntKind) (a b : Int) : Int := (BitVec.ofInt k.bits a ||| BitVec.ofInt k.bits b).toNat
def xorI (k : IntKind) (a b : Int) : Int := (BitVec.ofInt k.bits a ^^^ BitVec.ofInt k.bits b).toNat
theorem ofInt_nat {k : IntKind} {x : Nat} (h : x < 2 ^ k.bits) : (BitVec.ofInt k.bits (x : Int)).toNat = x := by
  rw [BitVec.ofInt_natCast, BitVec.toNat_ofNat]; exact Nat.mod_eq_of_lt h
theorem andI_nat {k : IntKind} {x y : Nat} (h : x < 2 ^ k.bits) (h' : y < 2 ^ k.bits) : andI k x y = ((x &&& y : Nat) : Int) := by
  unfold andI; rw [BitVec.toNat_and, ofInt_nat h, ofInt_nat h']
theorem orI_nat {k : IntKind} {x y : Nat} (h : x < 2 ^ k.bits) (h' : y < 2 ^ k.bits) : orI k x y = ((x ||| y : Nat) : Int) := by
  unfold orI; rw [BitVec.toNat_or, ofInt_nat h, ofInt_nat h']
theorem xorI_nat {k : IntKind} {x y : Nat} (h : x < 2 ^ k.bits) (h' : y < 2 ^ k.bits) : xorI k x y = ((x ^^^ y : Nat) : Int) := by
  unfold xorI; rw [BitVec.toNat_xor, ofInt_nat h, ofInt_nat h']
section
variable {t : TypeId} {k : IntKind} {a b : Int}
theorem bin_add : binV P .add t (.val (.int k a)) (.val (.int k b)) σ K = K (.val (.int k (k.wrap (a + b)))) σ := by simp [binV, isShift, binI]
theorem bin_sub : binV P .sub t (.val (.int k a)) (.val (.int k b)) σ K = K (.val (.int k (k.wrap (a - b)))) σ := by simp [binV, isShift, binI]
theorem bin_mul : binV P .mul t (.val (.int k a)) (.val (.int k b)) σ K = K (.val (.int k (k.wrap (a * b)))) σ := by simp [binV, isShift, binI]
theorem bin_quo : binV P .quo t (.val (.int k a)) (.val (.int k b)) σ K = (b ≠ 0 ∧ K (.val (.int k (k.wrap (a.tdiv b)))) σ) := by simp [binV, isShift, binI]
theorem bin_rem : binV P .rem t (.val (.int k a)) (.val (.int k b)) σ K = (b ≠ 0 ∧ K (.val (.int k (a.tmod b))) σ) := by simp [binV, isShift, binI]
theorem bin_and : binV P .and t (.val (.int k a)) (.val (.int k b)) σ K = K (.val (.int k (k.wrap (andI k a b)))) σ := by simp [binV, isShift, binI, andI]
theorem bin_or : binV P .or t (.val (.int k a)) (.val (.int k b)) σ K = K (.val (.int k (k.wrap (orI k a b)))) σ := by simp [binV, isShift, binI, orI]
theorem bin_xor : binV P .xor t (.val (.int k a)) (.val (.int k b)) σ K = K (.val (.int k (k.wrap (xorI k a b)))) σ := by simp [binV, isShift, binI, xorI]
theorem bin_eql : binV P .eql t (.val (.int k a)) (.val (.int k b)) σ K = K (BV (a == b)) σ := by simp [binV, isShift, binI]
theorem bin_neq : binV P .neq t (.val (.int k a)) (.val (.int k b)) σ K = K (BV (a != b)) σ := by simp [binV, isShift, binI]
theorem bin_lss : binV P .lss t (.val (.int k a)) (.val (.int k b)) σ K = K (BV (decide (a < b))) σ := by simp [binV, isShift, binI]
theorem bin_leq : binV P .leq t (.val (.int k a)) (.val (.int k b)) σ K = K (BV (decide (a ≤ b))) σ := by simp [binV, isShift, binI]
theorem bin_gtr : binV P .gtr t (.val (.int k a)) (.val (.int k b)) σ K = K (BV (decide (b < a))) σ := by simp [binV, isShift, binI]
theorem bin_geq : binV P .geq t (.val (.int k a)) (.val (.int k b)) σ K = K (BV (decide (b ≤ a))) σ := by simp [binV, isShift, binI]
theorem bin_shl {k' : IntKind} : binV P .shl t (.val (.int k a)) (.val (.int k' b)) σ K = (0 ≤ b ∧ K (.val (.int k (k.wrap (a * 2 ^ (min b.toNat k.bits))))) σ) := by simp [binV, isShift, shiftI]
theorem bin_shr {k' : IntKind} : binV P .shr t (.val (.int k a)) (.val (.int k' b)) σ K = (0 ≤ b ∧ K (.val (.int k (a.fdiv (2 ^ (min b.toNat k.bits))))) σ) := by simp [binV, isShift, shiftI]
end

section
variable {t : TypeId} {op : BinOp} {x y : V}
/-- What a comparison with '==' does where neither side is a number or a text. -/
def eqK (P : Program) (op : BinOp) (t : TypeId) (x y : V) (σ : Store) (K : V → Store → Prop) : Prop := match eqV P t x y with
  | some r => (match op with | .eql => K (.val (.bool r)) σ | .neq => K (.val (.bool (!r))) σ | _ => False)
  | none => False
theorem eqK_some {r : Bool} (h : eqV P t x y = some r) : eqK P op t x y σ K = (match op with | .eql => K (.val (.bool r)) σ | .neq => K (.val (.bool (!r))) σ | _ => False) := by unfold eqK; rw [h]
theorem eqK_def : eqK P op t x y σ K = (match eqV P t x y with
  | some r => (match op with | .eql => K (.val (.bool r)) σ | .neq => K (.val (.bool (!r))) σ | _ => False)
  | none => False) := rfl
theorem bin_ptr {b o : Nat} : binV P op t (.ptr b o) y σ K = eqK P op t (.ptr b o) y σ K := by cases y <;> rfl
theorem bin_ro {cs : List V} : binV P op t (.ro cs) y σ K = eqK P op t (.ro cs) y σ K := by cases y <;> rfl
theorem bin_sl {b o n c : Nat} : binV P op t (.sl b o n c) y σ K = eqK P op t (.sl b o n c) y σ K := by cases y <;> rfl
theorem bin_fn {f : Fn} {ps qs : List V} : binV P op t (.fn f ps qs) y σ K = eqK P op t (.fn f ps qs) y σ K := by cases y <;> rfl
theorem bin_ifc {u : TypeId} {z : V} : binV P op t (.ifc u z) y σ K = eqK P op t (.ifc u z) y σ K := by cases y <;> rfl
theorem bin_cons {k : Nat} {z : V} {zs : List V} : binV P op t (.lst k (z :: zs)) y σ K = eqK P op t (.lst k (z :: zs)) y σ K := by cases y <;> rfl
theorem bin_bool {a b : Bool} : binV P op t (.val (.bool a)) (.val (.bool b)) σ K = eqK P op t (.val (.bool a)) (.val (.bool b)) σ K := rfl
theorem bin_nilp : binV P op t (.val (.pointer none)) (.val (.pointer none)) σ K = eqK P op t (.val (.pointer none)) (.val (.pointer none)) σ K := rfl
theorem bin_nils {a b c d : Nat} : binV P op t (.val (.slice none a b)) (.val (.slice none c d)) σ K = eqK P op t (.val (.slice none a b)) (.val (.slice none c d)) σ K := rfl
theorem bin_nilf : binV P op t (.val .nilFunc) (.val .nilFunc) σ K = eqK P op t (.val .nilFunc) (.val .nilFunc) σ K := rfl
theorem bin_empty {k a b : Nat} : binV P op t (.lst k []) (.val (.slice none a b)) σ K = ((∃ e, P.underlying t = some (.slice e)) ∧ (op = .eql ∨ op = .neq) ∧ ∀ b : Bool, K (.val (.bool b)) σ) := rfl
end
theorem cond_val {b w : Bool} : condOf (BV b) w = some (b == w) := rfl
theorem cond_cnd {a b w : Bool} : condOf (.cnd a (BV b)) w = some (a && (b == w)) := rfl
theorem guardV_some {g : V} {w c : Bool} {flags : List Bool} {op : (V → Store → Prop) → Prop} (h : condOf g w = some c) : guardV g w flags op σ K = guardC c flags op σ K := by simp [guardV, h]
theorem guardV_eq {g : V} {w : Bool} {flags : List Bool} {op : (V → Store → Prop) → Prop} : guardV g w flags op σ K = match condOf g w with | some c => guardC c flags op σ K | none => False := rfl
end
end Go.Proofs.YtociliegljoldaaGreat

