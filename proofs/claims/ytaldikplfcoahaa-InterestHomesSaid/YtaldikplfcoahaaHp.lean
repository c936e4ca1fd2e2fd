/- Own framework, part p: several slices that a call builds, side by side; cut at their front. -/
import Derived.Test.YtaldikplfcoahaaHo
namespace Go.Proofs.Ytaldikplfcoahaa
set_option linter.unusedSimpArgs false
set_option linter.unusedVariables false
open Go.RowKit

section
variable {P : Program} {σ : Store} {K KP : V → Store → Prop}

/-- x is a slice in a block of this call (ob): n elements, cell by cell cs. -/
def Own (k : Nat) (σ0 τ : Store) (x : V) (cs : List V) (n : Nat) (ob : Option Nat) : Prop :=
  (x = nilS ∧ n = 0 ∧ cs = [] ∧ ob = none) ∨ ∃ b cap pre spare, ob = some b ∧ x = .sl b pre.length n cap ∧ σ0 b = none ∧ τ b = some (.cells (pre ++ cs ++ spare)) ∧ cs.length = n * k ∧ (cap - n) * k ≤ spare.length ∧ n ≤ cap ∧ cap ≤ maxLen

theorem Own.keep {k : Nat} {σ0 τ : Store} {x : V} {cs : List V} {n : Nat} {ob : Option Nat} (h : Own k σ0 τ x cs n ob) (hk : ∀ b l, ob = some b → τ b = some l → σ b = some l) : Own k σ0 σ x cs n ob := by
  rcases h with h | ⟨b, cap, pre, spare, h1, h2, h3, h4, h5⟩
  · exact .inl h
  · exact .inr ⟨b, cap, pre, spare, h1, h2, h3, hk b _ h1 h4, h5⟩

/-- Appending: the block is the old one or a new one; the others stay. -/
theorem Own.append {t u e : TypeId} {d : TypeDesc} {k : Nat} {σ0 τ : Store} {x y : V} {cs news : List V} {n m : Nat} {ob : Option Nat}
    (hu : P.underlying t = some (.slice e)) (hd : P.underlying u = some d) (hnd : noInt d) (hi : (P.info? e).isSome = true) (hk : P.cellsOf e = k) (hk0 : k ≠ 0) (hz : (zeroV P e).map List.length = some k)
    (hb : Own k σ0 τ x cs n ob) (hle : τ.le σ) (h0 : σ0.le σ) (hrow : ∀ KK : Nat → List V → Prop, KK m news → rowV k y σ KK) (hl : news.length = m * k) (h1 : ∀ c ∈ news, c.one = true) (hm : n + m ≤ maxLen) (hby : (n + m) * P.bytesOf e ≤ 140737488355328)
    (h : ∀ x' ob' σ', Own k σ0 σ' x' (cs ++ news) (n + m) ob' → (∀ c l, σ c = some l → some c ≠ ob → σ' c = some l) → (∀ c, ob' = some c → ob = some c ∨ σ c = none) → K x' σ') : appendV P t u x y σ K := by
  unfold appendV
  rw [hu, hd]
  show _ ∧ _ ∧ _ ∧ rowV (P.cellsOf e) y σ _
  rw [hk]
  refine ⟨hnd, hi, hk0, hrow _ ⟨h1, ?_⟩⟩
  -- a new row, in any case
  have grow : ∀ (b' cap' : Nat), cs.length = n * k → σ b' = none → n + m ≤ cap' → cap' ≤ maxLen → K (.sl b' 0 (n + m) cap') (σ.set b' (.cells (cs ++ news ++ List.replicate ((cap' - (n + m)) * k) .top))) := by
    intro b' cap' hcl hb' hc hcm
    refine h _ (some b') _ (.inr ⟨b', cap', [], _, rfl, rfl, Store.none_of_le h0 hb', Store.set_same _ _ _, ?_, by simp, hc, hcm⟩) (fun c l hc' _ => Store.keep hb' hc' _) (fun c q => by cases q; exact .inr hb')
    rw [List.length_append, hcl, hl, Nat.add_mul]
  rcases hb with ⟨rfl, rfl, rfl, rfl⟩ | ⟨b, cap, pre, spare, rfl, rfl, hb0, hτb, hcl, hsl, hnc, hcm⟩
  · refine ⟨fun hm0 => ?_, fun hm0 => ⟨by omega, by simpa using hby, hz, fun b' cap' hb' hc hcm => ?_⟩⟩
    · subst hm0
      obtain rfl : news = [] := List.eq_nil_of_length_eq_zero (by simpa using hl)
      exact h _ none _ (.inl ⟨rfl, rfl, rfl, rfl⟩) (fun c l q _ => q) (fun c q => by cases q)
    · have := grow b' cap' (by simp) hb' (by omega) hcm
      simpa using this
  · have hσb := hle b _ hτb
    simp only [hσb]
    have hsum : n * k + (cap - n) * k = cap * k := by rw [← Nat.add_mul]; congr 1; omega
    refine ⟨by simp only [List.length_append, hcl]; omega, hnc, hcm, fun hroom => ?_, fun hgrow => ⟨hm, hby, hz, fun b' cap' hb' hc hcm' => ?_⟩⟩
    · have hms : m * k ≤ spare.length := Nat.le_trans (Nat.mul_le_mul_right _ (by omega)) hsl
      have e : setL (pre ++ cs ++ spare) (pre.length + n * k) news = pre ++ (cs ++ news) ++ spare.drop news.length := by
        rw [← hcl, ← List.length_append, setL_append (pre ++ cs) news spare (by omega)]; simp
      rw [e]
      refine h _ (some b) _ (.inr ⟨b, cap, pre, _, rfl, rfl, hb0, Store.set_same _ _ _, ?_, ?_, hroom, hcm⟩) (fun c l q hne => ?_) (fun c q => .inl q)
      · rw [List.length_append, hcl, hl, Nat.add_mul]
      · rw [List.length_drop, hl, show cap - (n + m) = (cap - n) - m by omega, Nat.sub_mul]; omega
      · rw [Store.set_other _ _ (fun q => hne (by rw [q]))]; exact q
    · have e : ((pre ++ cs ++ spare).drop pre.length).take (n * k) = cs := by
        rw [List.append_assoc, List.drop_left, ← hcl, List.take_left]
      rw [e]
      exact grow b' cap' hcl hb' hc hcm'
/-- Cut by its first element. -/
theorem Own.tail {k : Nat} {σ0 τ : Store} {b off n cap : Nat} {c cs : List V} {ob : Option Nat} (h : Own k σ0 τ (.sl b off n cap) (c ++ cs) n ob) (hc : c.length = k) (hn : 1 ≤ n) :
    Own k σ0 τ (.sl b (if cap = 1 then off else off + 1 * k) (n - 1) (cap - 1)) cs (n - 1) ob := by
  rcases h with ⟨h, _⟩ | ⟨b', cap', pre, spare, h1, h2, h3, h4, h5, h6, h7, h8⟩
  · cases h
  · cases h2
    rw [List.length_append, hc] at h5
    have h5' : cs.length = (n - 1) * k := by rw [Nat.sub_mul, Nat.one_mul]; omega
    by_cases h1' : cap = 1
    · have hn1 : n = 1 := by omega
      subst h1' hn1
      have hcs : cs = [] := List.eq_nil_of_length_eq_zero (by simpa using h5')
      subst hcs
      rw [if_pos rfl]
      exact .inr ⟨b, 0, pre, c ++ spare, h1, rfl, h3, by rw [h4]; simp, by simp, by simp, Nat.le_refl _, by simp [maxLen_i]⟩
    · rw [if_neg h1']
      refine .inr ⟨b, cap - 1, pre ++ c, spare, h1, ?_, h3, by rw [h4]; simp, h5', ?_, by omega, by omega⟩
      · rw [List.length_append, hc, Nat.one_mul]
      · rw [show cap - 1 - (n - 1) = cap - n by omega]; exact h6
theorem Own.base_ne {k : Nat} {σ0 τ : Store} {x : V} {cs : List V} {n b : Nat} {l : Blk} (h : Own k σ0 τ x cs n (some b)) (hb : σ0 b = some l) : False := by
  rcases h with ⟨_, _, _, q⟩ | ⟨b', _, _, _, q, _, h3, _⟩
  · cases q
  · cases q; rw [h3] at hb; cases hb
/-- Cut at its end. -/
theorem Own.take {k : Nat} {σ0 τ : Store} {b off n cap m : Nat} {cs : List V} {ob : Option Nat} (h : Own k σ0 τ (.sl b off n cap) cs n ob) (hm : m ≤ n) : Own k σ0 τ (.sl b off m cap) (cs.take (m * k)) m ob := by
  rcases h with ⟨h, _⟩ | ⟨b', cap', pre, spare, h1, h2, h3, h4, h5, h6, h7, h8⟩
  · cases h
  · cases h2
    refine .inr ⟨b, cap, pre, cs.drop (m * k) ++ spare, h1, rfl, h3, ?_, ?_, ?_, by omega, h8⟩
    · rw [h4]; congr 2; rw [List.append_assoc, List.append_assoc]; congr 1; rw [← List.append_assoc, List.take_append_drop]
    · rw [List.length_take, h5]; exact Nat.min_eq_left (Nat.mul_le_mul_right _ hm)
    · rw [List.length_append, List.length_drop, h5]
      have e : (cap - m) * k = (n * k - m * k) + (cap - n) * k := by rw [← Nat.sub_mul, ← Nat.add_mul]; congr 1; omega
      omega
theorem flag_val {v : Value} : V.flag (.val v) = true := rfl
theorem flag_cnd {g : Bool} {x : V} : V.flag (.cnd g x) = g := rfl
theorem strip_val {v : Value} : V.strip (.val v) = .val v := rfl
theorem strip_cnd {g : Bool} {x : V} : V.strip (.cnd g x) = x := rfl
theorem Own.flag {k : Nat} {σ0 τ : Store} {x : V} {cs : List V} {n : Nat} {ob : Option Nat} (h : Own k σ0 τ x cs n ob) : x.flag = true ∧ x.strip = x := by
  rcases h with ⟨rfl, _⟩ | ⟨b, cap, pre, spare, _, rfl, _⟩ <;> exact ⟨rfl, rfl⟩
theorem Own.lenV {t e : TypeId} {k : Nat} {σ0 τ : Store} {x : V} {cs : List V} {n : Nat} {ob : Option Nat} (h : Own k σ0 τ x cs n ob) (hu : P.underlying t = some (.slice e)) {υ : Store} {K : V → Store → Prop} : lenV P t x υ K = K (I64 n) υ := by
  rcases h with ⟨rfl, rfl, _⟩ | ⟨b, cap, pre, spare, _, rfl, _⟩
  · unfold Go.Proofs.Ytaldikplfcoahaa.lenV; rw [hu]
  · unfold Go.Proofs.Ytaldikplfcoahaa.lenV; rw [hu]
/-- x[:m]. -/
theorem Own.upto {t e : TypeId} {k : Nat} {σ0 τ : Store} {x : V} {cs : List V} {n m : Nat} {ob : Option Nat} (h : Own k σ0 τ x cs n ob) (hu : P.underlying t = some (.slice e)) (hi : (P.info? e).isSome = true) (hk : P.cellsOf e = k) (hm : m ≤ n) :
    ∃ x', Own k σ0 τ x' (cs.take (m * k)) m ob ∧ ∀ (υ : Store) (K : V → Store → Prop), K x' υ → sliceV P t x none (some (I64 m)) none υ K := by
  rcases h with ⟨rfl, rfl, rfl, rfl⟩ | h
  · refine ⟨nilS, .inl ⟨rfl, by omega, by simp, rfl⟩, fun υ K hK => ?_⟩
    unfold sliceV; rw [hu]
    simp only [sliceOk, numOf]
    exact ⟨hi, by omega, by omega, by omega, by omega, by simp, hK⟩
  · obtain ⟨b, cap, pre, spare, h1, rfl, h3, h4, h5, h6, h7, h8⟩ := h
    refine ⟨_, (Own.take (.inr ⟨b, cap, pre, spare, h1, rfl, h3, h4, h5, h6, h7, h8⟩) hm), fun υ K hK => ?_⟩
    unfold sliceV; rw [hu]
    simp only [sliceOk, numOf]
    refine ⟨hi, by omega, by omega, by omega, by omega, by simp, ?_⟩
    simpa using hK
/-- What was built is told as a list, and its memory is gone. -/
theorem Own.weakens {k : Nat} {σ0 τ : Store} {x : V} {cs : List V} {n : Nat} {xs : List V} {ob : Option Nat} (hb : Own k σ0 τ x cs n ob) (hle : τ.le σ) (h0 : σ0.le σ) (hn : n = xs.length) (hc : cs = xs.flatMap V.cells) (hk : ∀ x ∈ xs, x.cells.length = k) :
    Weakens x σ (.lst k xs) σ0 := by
  intro I w v hs hv
  subst hn hc
  rcases hb with ⟨rfl, hx0, _, rfl⟩ | ⟨b, cap, pre, spare, rfl, rfl, hb0, hτb, hcl, hsl, hnc, hcm⟩
  · obtain rfl : xs = [] := List.eq_nil_of_length_eq_zero hx0
    cases hv
    exact ⟨I, Imm.le_refl I, hs.sub h0, .lnil k⟩
  · have hσb := hle b _ hτb
    obtain ⟨o, ho, hk', hI, hst⟩ := hs.freeze hσb
    refine ⟨_, hI, hst.sub (fun c l e => ?_), ?_⟩
    · have hcb : c ≠ b := fun q => by rw [q, hb0] at e; cases e
      simp only [Store.del, if_neg hcb]
      exact h0 c l e
    · cases hv
      cases o with
      | cells arr el fr =>
        have hl := hk'.2
        have hlen := hl.len
        simp only [List.length_append, Array.length_toList] at hlen
        refine .lst k xs b pre.length cap arr el fr (by simp) hnc hcm (by omega) hk fun i j x c v hx hc hv => ?_
        refine (hl.at_ (pre.length + i * k + j) c v ?_ (by simpa using hv)).mono hI
        have flat : ∀ (xs : List V) (i : Nat), (∀ x ∈ xs, x.cells.length = k) → xs[i]? = some x → (xs.flatMap V.cells)[i * k + j]? = some c := by
          intro xs
          induction xs with
          | nil => intro i _ h; simp at h
          | cons y ys ih =>
            intro i hall h
            have hy := hall y (List.mem_cons_self ..)
            rw [List.flatMap_cons]
            cases i with
            | zero =>
              simp only [List.getElem?_cons_zero, Option.some.injEq] at h
              subst h
              have hj := (List.getElem?_eq_some_iff.1 hc).1
              rw [Nat.zero_mul, Nat.zero_add, List.getElem?_append_left (by omega)]; exact hc
            | succ i =>
              simp only [List.getElem?_cons_succ] at h
              rw [List.getElem?_append_right (by rw [hy, Nat.add_mul]; omega), hy, Nat.add_mul, Nat.one_mul]
              rw [show i * k + k + j - k = i * k + j by omega]
              exact ih i (fun z hz => hall z (List.mem_cons_of_mem _ hz)) h
        have := flat xs i hk hx
        have hlt := (List.getElem?_eq_some_iff.1 this).1
        rw [List.append_assoc, List.getElem?_append_right (by omega), List.getElem?_append_left (by omega)]
        rw [show pre.length + i * k + j - pre.length = i * k + j by omega]; exact this
      | _ => exact hk'.elim
theorem guardC_yes {flags : List Bool} {op : (V → Store → Prop) → Prop} (hf : ∀ f ∈ flags, f = true) (h : op K) : guardC true flags op σ K := guardC_split (fun _ => hf) (fun _ => h) (fun e => by cases e)
theorem guardC_yes0 {op : (V → Store → Prop) → Prop} (h : op K) : guardC true [] op σ K := guardC_yes (by simp) h
end
end Go.Proofs.Ytaldikplfcoahaa
