/- Own framework, part f: the model does what part b says: all of it. -/
import Derived.Test.YtaldikplfcoahaaHe
namespace Go.Proofs.Ytaldikplfcoahaa
set_option linter.unusedSimpArgs false
set_option linter.unusedVariables false
open Go.RowKit

section
variable {P : Program} {I : Imm} {w : World} {K KP : V → Store → Prop} {σ : Store}

theorem Upon.valRun {x : V} {v : Value} {s : Sem Value} (hs : StR σ I w) (hr : s.run P w = .ok v w) (hx : VR I x v) (hk : K x σ) : Upon P I w K KP ((do pure (.value (← s)) : Sem Next).run P w) := by
  simp only [Sem.run_bind, hr, Result.andThen_ok, Sem.run_pure]
  exact Upon.val hs hx hk

theorem eqV_run' (d : Nat) {t : TypeId} {x y : V} {u v : Value} {r : Bool} (hx : VR I x u) (hy : VR I y v) (h : eqV P t x y = some r) : (Op.equalIn (d + 1) t u v).run P w = .ok r w := by
  unfold eqV at h
  split at h
  all_goals first
    | cases h
    | skip
  all_goals (rename_i hu)
  all_goals (cases hx; cases hy)
  all_goals (simp only [Op.equalIn, Sem.run_bind, run_underlying hu, Result.andThen_ok, Sem.run_pure, Option.isNone])

theorem eqV_run {t : TypeId} {x y : V} {u v : Value} {r : Bool} (hx : VR I x u) (hy : VR I y v) (h : eqV P t x y = some r) : (Op.equal t u v).run P w = .ok r w :=
  eqV_run' 9999 hx hy h

theorem eqGuard_skip {op : BinOp} {t : TypeId} {a b : Operand} {u v : Value} (h : ∀ c d, ¬ (u = .agg c ∧ v = .agg d)) (h' : ¬ (u = .nilIface ∧ v = .nilIface)) : (eqGuard op t a b u v).run P w = .ok () w := by
  unfold eqGuard
  cases op <;> first
    | rfl
    | (simp only [Bool.not_true, Bool.false_eq_true, if_false]
       split
       · exact (h' ⟨rfl, rfl⟩).elim
       · exact (h _ _ ⟨rfl, rfl⟩).elim
       · rfl)

theorem bin_ok {op : BinOp} {t : TypeId} {a b : Operand} {x y : V} {u v : Value} (hs : StR σ I w) (hx : VR I x u) (hy : VR I y v) (h : binV P op t x y σ K) :
    Upon P I w K KP ((do pure (.value (← (do eqGuard op t a b u v; binOp op t u v : Sem Value))) : Sem Next).run P w) := by
  unfold binV at h
  split at h
  · -- numbers
    rename_i k m k' n
    cases hx; cases hy
    have hg : (eqGuard op t a b (.int k m) (.int k' n)).run P w = .ok () w := eqGuard_skip (by simp) (by simp)
    split at h
    · rename_i hsh
      cases op <;> simp [isShift] at hsh
      all_goals
        simp only [shiftI] at h
        refine Upon.valRun hs ?_ (.val _) h.2
        simp only [Sem.run_bind, hg, Result.andThen_ok, binOp, Op.shift]
        rw [if_neg (by omega)]
        rfl
    · rename_i hsh
      obtain ⟨rfl, h⟩ := h
      cases op <;> simp only [binI] at h <;> first | exact h.elim | skip
      all_goals first | (exfalso; exact hsh rfl) | skip
      all_goals first
        | (refine Upon.valRun hs ?_ (.val _) h
           simp only [Sem.run_bind, hg, Result.andThen_ok, binOp, ne_eq, not_true, if_false, Op.intArith, Op.intBits, Op.intCmp]
           rfl)
        | (refine Upon.valRun hs ?_ (.val _) h.2
           simp only [Sem.run_bind, hg, Result.andThen_ok, binOp, ne_eq, not_true, if_false, Op.intDiv]
           rw [if_neg h.1]
           rfl)
  · -- texts
    rename_i m n
    cases hx; cases hy
    have hg : (eqGuard op t a b (.string m) (.string n)).run P w = .ok () w := eqGuard_skip (by simp) (by simp)
    cases op <;> simp only [binS] at h <;> first | exact h.elim | skip
    all_goals first
      | (refine Upon.valRun hs ?_ (.val _) h
         simp only [Sem.run_bind, hg, Result.andThen_ok, binOp, Op.stringOp]
         rfl)
      | (refine Upon.valRun hs ?_ (.val _) h.2
         simp only [Sem.run_bind, hg, Result.andThen_ok, binOp, Op.stringOp]
         rw [if_neg (by have := h.1; simp [IntKind.max, IntKind.signed, IntKind.bits]; omega)]
         rfl)
  · -- structs, arrays
    rename_i xs ys
    obtain ⟨hk, hm, h⟩ := h
    obtain ⟨us, rfl, hu⟩ := hx.inv_agg
    obtain ⟨vs, rfl, hv⟩ := hy.inv_agg
    split at h
    · rename_i gs hgs
      split at h
      · rename_i r hr
        have hrun : (Op.equalIn 10000 t (.agg us) (.agg vs)).run P w = .ok r w := by
          have := equalIn_ok (P := P) (I := I) 50 t gs hgs 10000 xs ys us.toList vs.toList r w (by omega) hu hv hr
          simpa [asVal, hk] using this
        have hg := run_eqGuard_agg (P := P) w op t a b us vs hm
        cases op <;> first | exact h.elim | skip
        · refine Upon.valRun hs ?_ (.val _) h
          simp only [Sem.run_bind, hg, Result.andThen_ok]
          rw [run_eql_struct, hrun]; rfl
        · refine Upon.valRun hs ?_ (.val _) h
          simp only [Sem.run_bind, hg, Result.andThen_ok]
          rw [run_neq_struct, hrun]; rfl
      · exact h.elim
    · exact h.elim
  · -- the rest
    split at h
    · rename_i r hr
      have hrun := eqV_run (P := P) (w := w) hx hy hr
      have hg : (eqGuard op t a b u v).run P w = .ok () w := by
        unfold eqV at hr
        split at hr
        all_goals first
          | cases hr
          | skip
        all_goals (cases hx; cases hy)
        all_goals (exact eqGuard_skip (by simp) (by simp))
      cases op <;> first | exact h.elim | skip
      · have hb : binOp .eql t u v = (do pure (.bool (← Op.equal t u v))) := by
          unfold eqV at hr
          split at hr
          all_goals first
            | cases hr
            | skip
          all_goals (cases hx; cases hy; rfl)
        refine Upon.valRun hs ?_ (.val _) h
        simp only [Sem.run_bind, hg, Result.andThen_ok, hb, hrun, Sem.run_pure]
      · have hb : binOp .neq t u v = (do pure (.bool (!(← Op.equal t u v)))) := by
          unfold eqV at hr
          split at hr
          all_goals first
            | cases hr
            | skip
          all_goals (cases hx; cases hy; rfl)
        refine Upon.valRun hs ?_ (.val _) h
        simp only [Sem.run_bind, hg, Result.andThen_ok, hb, hrun, Sem.run_pure]
    · exact h.elim

theorem un_ok {op : UnOp} {x : V} {u : Value} (hs : StR σ I w) (hx : VR I x u) (h : unV op x σ K) : Upon P I w K KP ((do pure (.value (← Op.unary op u)) : Sem Next).run P w) := by
  unfold unV at h
  split at h
  · cases hx; exact Upon.valRun hs rfl (.val _) h
  · cases hx; exact Upon.valRun hs rfl (.val _) h
  · cases hx; exact Upon.valRun hs rfl (.val _) h
  · exact h.elim

theorem VR.unF {x : V} {v : Value} (h : VR I x v) : VR I x.unF v := by
  cases h with
  | cndT x v h => simpa [V.unF] using h
  | cndF x => simp only [V.unF, Bool.false_eq_true, if_false]; exact .top _
  | val v => exact .val v
  | ptr b off => exact .ptr b off
  | sl b off len cap => exact .sl b off len cap
  | lnil k => exact .lnil k
  | lst0 k a => exact .lst0 k a
  | lst k xs b off cap arr el fr h hc hm hb hk hx => exact .lst k xs b off cap arr el fr h hc hm hb hk hx
  | ro cs b off arr el fr h hb hx => exact .ro cs b off arr el fr h hb hx
  | agg cs vs hl hx => exact .agg cs vs hl hx
  | tup cs vs hl hx => exact .tup cs vs hl hx
  | fn f ps qs us ws hl hx kl kx => exact .fn f ps qs us ws hl hx kl kx
  | ifc t x v h => exact .ifc t x v h
  | top v => exact .top v

theorem boolV_ok {a : V} {v : Value} {g p : Bool} (h : boolV a = some (g, p)) (ha : VR I a v) (hg : g = true) : v = .bool p := by
  unfold boolV at h
  split at h
  · cases h; cases ha; rfl
  · cases h; subst hg
    cases ha with | cndT _ _ ha => cases ha; rfl
  · cases h

theorem pick_ok {c a b : V} {vc va vb : Value} (hs : StR σ I w) (hc : VR I c vc) (ha : VR I a va) (hb : VR I b vb) (h : pickV c a b σ K) :
    Upon P I w K KP ((do pure (.value (if ← asBool vc then va else vb)) : Sem Next).run P w) := by
  unfold pickV at h
  split at h
  · rename_i t
    cases hc
    simp only [asBool, Sem.run_bind, Sem.run_pure, Result.andThen_ok]
    split at h
    · rename_i ga p gb q e1 e2
      obtain ⟨h1, h2, h⟩ := h
      refine Upon.val hs ?_ h
      cases t
      · have := boolV_ok e2 hb (h2 rfl); subst this; exact .val _
      · have := boolV_ok e1 ha (h1 rfl); subst this; exact .val _
    · cases t
      · exact Upon.val hs hb.unF (h.2 rfl)
      · exact Upon.val hs ha.unF (h.1 rfl)
  · exact h.elim

theorem nil_ok {ρc : Operand → Value} {y : Operand} {x : V} (hs : StR σ I w) (hx : VR I x (ρc y)) (h : nilCheckV x σ K) (dst : Option Tmp) (type : TypeId) (pos : String) (after : Array Edge) (guard : Option (Nat × Bool)) :
    Upon P I w K KP ((execOp ρc ⟨dst, .nilCheck y, type, pos, after, guard⟩).run P w) := by
  simp only [execOp]
  generalize ρc y = u at hx
  unfold nilCheckV at h
  split at h
  · cases hx; exact Upon.val hs (.ptr _ _) h
  · cases hx with | ro _ b off arr el fr h1 h2 h3 => exact Upon.val hs (.ro _ b off arr el fr h1 h2 h3) h
  · cases hx with | fn _ _ _ us ws hl hx kl kx => exact Upon.val hs (.fn _ _ _ us ws hl hx kl kx) h
  · cases hx with | ifc _ _ v hv => exact Upon.val hs (.ifc _ _ v hv) h
  · exact h.elim

theorem convert_ok {s d : TypeId} {x : V} {u : Value} (hs : StR σ I w) (hx : VR I x u) (h : convertV P s d x σ K) : Upon P I w K KP ((do pure (.value (← convert s d u)) : Sem Next).run P w) := by
  unfold convertV at h
  obtain ⟨h0, h⟩ := h
  obtain ⟨sd, hsd⟩ := Option.isSome_iff_exists.1 h0
  split at h
  · rename_i hd
    cases hx
    refine Upon.valRun hs ?_ (.val _) h
    simp only [convert, Sem.run_bind, run_underlying hsd, run_underlying hd, Result.andThen_ok]
    cases sd <;> rfl
  · exact h.elim

theorem iface_ok {t : TypeId} {x : V} {u : Value} (hs : StR σ I w) (hx : VR I x u) (h : match P.underlying t with | some (.interface _) => False | some _ => K (.ifc t x) σ | none => False) :
    Upon P I w K KP ((do pure (.value (← Instr.makeInterface t u)) : Sem Next).run P w) := by
  split at h
  · exact h.elim
  · rename_i d hd hu
    refine Upon.valRun hs ?_ (.ifc _ _ _ hx) h
    simp only [Instr.makeInterface, Sem.run_bind, run_underlying hu, Result.andThen_ok]
    cases d <;> first | rfl | exact absurd rfl (hd _)
  · exact h.elim

theorem func_ok {f : Fn} {ρ : Operand → V} {ρc : Operand → Value} (hρ : ∀ x, VR I (ρ x) (ρc x)) {first captured : Array Operand} (hs : StR σ I w) (h : K (.fn f (first.toList.map ρ) (captured.toList.map ρ)) σ) :
    Upon P I w K KP ((do pure (.value (← Instr.makeFunc f (first.map ρc) (captured.map ρc))) : Sem Next).run P w) := by
  refine Upon.valRun hs rfl ?_ h
  have h1 := LR.map hρ first.toList
  have h2 := LR.map hρ captured.toList
  exact .fn _ _ _ _ _ (by simp) (fun j c v a b => h1.at_ j c v a (by simpa using b)) (by simp) (fun j c v a b => h2.at_ j c v a (by simpa using b))

theorem ptrAdd_ok {x y : V} {n : Nat} {u : Value} (hx : VR I x u) (h : ptrAdd x n = some y) : ∃ b off, u = .pointer (some ⟨b, off, none⟩) ∧ VR I y (.pointer (some ⟨b, off + n, none⟩)) := by
  unfold ptrAdd at h
  split at h
  · cases hx; simp only [Option.some.injEq] at h; subst h; exact ⟨_, _, rfl, .ptr _ _⟩
  · split at h
    · rename_i hn
      simp only [Option.some.injEq] at h; subst h
      cases hx with
      | ro cs b off arr el fr h1 h2 h3 =>
        refine ⟨b, off, rfl, .ro _ b (off + n) arr el fr h1 (by simp; omega) fun j c v a e => h3 (n + j) c v (by rw [List.getElem?_drop] at a; exact a) (by rw [← Nat.add_assoc]; exact e)⟩
    · cases h
  · cases h

theorem fieldAddr_ok {s : TypeId} {x : V} {i : Nat} {u : Value} (hs : StR σ I w) (hx : VR I x u) (h : fieldAddrV P s x i σ K) : Upon P I w K KP ((do pure (.value (← Instr.fieldAt s u i)) : Sem Next).run P w) := by
  unfold fieldAddrV at h
  split at h
  · rename_i fields hu
    split at h
    · rename_i f hf
      obtain ⟨h1, h2, h⟩ := h
      split at h
      · rename_i y hy
        obtain ⟨b, off, rfl, hy'⟩ := ptrAdd_ok hx hy
        refine Upon.valRun hs ?_ hy' h
        simp only [Instr.fieldAt, Sem.run_bind, run_underlying hu, Result.andThen_ok, hf, Instr.sureAddr, Sem.run_pure, fieldPlace, run_sizeOf' h1, if_neg h2, Addr.add_lit]
      · exact h.elim
    · exact h.elim
  · exact h.elim

theorem part_ok {t : TypeId} {cs : List V} {us : Array Value} {off : Nat} {KL : V → Prop} (hl : LR I cs us.toList) (h : loadL P t cs off KL) : ∃ v x, (part t us off).run P w = .ok v w ∧ VR I x v ∧ KL x := by
  unfold loadL at h
  have hlen := hl.len
  simp only [Array.length_toList] at hlen
  split at h
  · rename_i hk
    obtain ⟨d, hd, hb⟩ := kindB_some hk
    refine ⟨.agg (us.extract off (off + P.cellsOf t)), _, ?_, ?_, h.2⟩
    · simp only [part, Sem.run_bind, run_isAgg hd, Result.andThen_ok, hb, if_true, run_sizeOf_und hd, Sem.run_pure]
    · have := VR.mk_agg ((hl.drop off).take (P.cellsOf t))
      have e : ((us.toList.drop off).take (P.cellsOf t)).toArray = us.extract off (off + P.cellsOf t) := by
        apply Array.ext'; simp [List.take_drop, Nat.add_comm]
      rwa [e] at this
  · rename_i hk
    obtain ⟨d, hd, hb⟩ := kindB_some hk
    split at h
    · exact h.elim
    · rename_i c hj
      have hlt := (List.getElem?_eq_some_iff.1 hj).1
      refine ⟨us[off], c, ?_, hl.at_ off c _ hj (by simp [show off < us.size by omega]), h⟩
      simp only [part, Sem.run_bind, run_isAgg hd, Result.andThen_ok, hb, Bool.false_eq_true, if_false, Array.getElem?_eq_getElem (show off < us.size by omega), Sem.run_pure]
  · exact h.elim

theorem field_ok {s : TypeId} {x : V} {i : Nat} {u : Value} (hs : StR σ I w) (hx : VR I x u) (h : fieldV P s x i σ K) : Upon P I w K KP ((do pure (.value (← Instr.field s u i)) : Sem Next).run P w) := by
  unfold fieldV at h
  split at h
  · rename_i fields cs hu
    split at h
    · rename_i f hf
      obtain ⟨us, rfl, hl⟩ := hx.inv_agg
      obtain ⟨v, y, hrun, hy, hk⟩ := part_ok (P := P) (w := w) hl h
      refine Upon.valRun hs ?_ hy hk
      simp only [Instr.field, Sem.run_bind, run_underlying hu, Result.andThen_ok, hf, asAgg, Sem.run_pure, hrun]
    · exact h.elim
  · exact h.elim

theorem index_ok {t : TypeId} {x i : V} {u v : Value} (hs : StR σ I w) (hx : VR I x u) (hi : VR I i v) (h : indexV P t x i σ K) : Upon P I w K KP ((do pure (.value (← Instr.index t u v)) : Sem Next).run P w) := by
  unfold indexV at h
  split at h
  · rename_i k n
    cases hi
    obtain ⟨h0, h⟩ := h
    split at h
    · rename_i len e cs hu
      obtain ⟨h1, h2, h⟩ := h
      obtain ⟨us, rfl, hl⟩ := hx.inv_agg
      obtain ⟨y, z, hrun, hz, hk⟩ := part_ok (P := P) (w := w) hl h
      refine Upon.valRun hs ?_ hz hk
      simp only [Instr.index, asIntOf, Sem.run_bind, Sem.run_pure, Result.andThen_ok, run_underlying hu, Sem.run_ite, if_pos (show 0 ≤ n ∧ n < (len : Int) from ⟨h0, h2⟩), run_sizeOf' h1, hrun]
    · rename_i s hu
      cases hx
      refine Upon.valRun hs ?_ (.val _) h.2
      have hlt : n.toNat < s.size := by omega
      simp only [Instr.index, asIntOf, Sem.run_bind, Sem.run_pure, Result.andThen_ok, run_underlying hu, if_pos h0]
      have e : s[n.toNat]? = some s[n.toNat] := by simp [hlt]
      rw [e]
      simp only [Sem.run_pure]
      congr 3
      simp [List.getD_eq_getElem?_getD, hlt]
      rfl
    · exact h.elim
  · exact h.elim

theorem indexAddr_ok {t : TypeId} {x i : V} {u v : Value} (hs : StR σ I w) (hx : VR I x u) (hi : VR I i v) (h : indexAddrV P t x i σ K) : Upon P I w K KP ((do pure (.value (← Instr.indexAt t u v)) : Sem Next).run P w) := by
  unfold indexAddrV at h
  split at h
  · rename_i k n
    cases hi
    obtain ⟨h0, h⟩ := h
    split at h
    · rename_i e hu
      obtain ⟨h1, h⟩ := h
      split at h
      · rename_i b off len cap
        cases hx
        refine Upon.valRun hs ?_ (.ptr _ _) h.2
        simp only [Instr.indexAt, asIntOf, Sem.run_bind, Sem.run_pure, Result.andThen_ok, run_underlying hu, if_pos (show 0 ≤ n ∧ n < (len : Int) from ⟨h0, h.1⟩), run_sizeOf' h1, Addr.add_lit]
      · rename_i k xs
        obtain ⟨rfl, h2, h⟩ := h
        cases hx with
        | lnil => simp at h2; omega
        | lst0 => simp at h2; omega
        | lst _ _ b off cap arr el fr g1 g2 g3 g4 g5 g6 =>
          have hlt : n.toNat < xs.length := by omega
          have hget : xs[n.toNat]? = some (xs.getD n.toNat .top) := by simp [hlt]
          have hck := g5 _ (List.mem_of_getElem? hget)
          have hmul : (n.toNat + 1) * P.cellsOf e ≤ xs.length * P.cellsOf e := Nat.mul_le_mul_right _ (by omega)
          rw [Nat.add_mul, Nat.one_mul] at hmul
          refine Upon.valRun hs ?_ (.ro _ b (off + n.toNat * P.cellsOf e) arr el fr g1 (by omega) fun j c v a e => g6 n.toNat j _ c v hget a e) h
          simp only [Instr.indexAt, asIntOf, Sem.run_bind, Sem.run_pure, Result.andThen_ok, run_underlying hu, if_pos (show 0 ≤ n ∧ n < (xs.length : Int) from ⟨h0, h2⟩), run_sizeOf' h1, Addr.add_lit]
      · exact h.elim
    · rename_i len e hu
      obtain ⟨h1, h2, h⟩ := h
      split at h
      · rename_i y hy
        obtain ⟨b, off, rfl, hy'⟩ := ptrAdd_ok hx hy
        refine Upon.valRun hs ?_ hy' h
        simp only [Instr.indexAt, asIntOf, Sem.run_bind, Sem.run_pure, Result.andThen_ok, run_underlying hu, Instr.sureAddr, if_pos (show 0 ≤ n ∧ n < (len : Int) from ⟨h0, h2⟩), run_sizeOf' h1, Addr.add_lit]
      · exact h.elim
    · exact h.elim
  · exact h.elim

theorem extract_ok {x : V} {i : Nat} {u : Value} (hs : StR σ I w) (hx : VR I x u) (h : extractV x i σ K) : Upon P I w K KP ((do pure (.value (← Instr.extract u i)) : Sem Next).run P w) := by
  unfold extractV at h
  split at h
  · rename_i cs
    obtain ⟨vs, rfl, hl⟩ := hx.inv_tup
    split at h
    · exact h.elim
    · rename_i c hj
      have hlt := (List.getElem?_eq_some_iff.1 hj).1
      have hlen := hl.len
      simp only [Array.length_toList] at hlen
      refine Upon.valRun hs ?_ (hl.at_ i c vs[i] hj (by simp [show i < vs.size by omega])) h
      simp only [Instr.extract, Array.getElem?_eq_getElem (show i < vs.size by omega), Sem.run_pure]
  · exact h.elim

end
end Go.Proofs.Ytaldikplfcoahaa
