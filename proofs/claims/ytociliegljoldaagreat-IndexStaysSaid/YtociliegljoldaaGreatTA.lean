import Derived.Test.YtociliegljoldaaGreatHB
import Derived.Test.YtociliegljoldaaGreatFt
import Derived.Test.YtociliegljoldaaGreatHC
/- Trees, plainly. -/
namespace Go.Proofs.YtociliegljoldaaGreat
set_option linter.unusedSimpArgs false
set_option linter.unusedVariables false

structure Tr where
  kinds : List Int
  edges : List (Int × Int)

abbrev edgeV (e : Int × Int) : V := .agg [I64 e.1, I64 e.2]
def Tr.es (t : Tr) : V := .lst 2 (t.edges.map edgeV)
abbrev Tr.cs (t : Tr) : List V := t.kinds.map I64 ++ [t.es]
abbrev Tr.v (t : Tr) : V := .agg (t.kinds.map I64 ++ [t.es])

/-- A tree as one may come in. -/
structure Tr.Ok (t : Tr) : Prop where
  k : t.kinds.length = 12
  e : t.edges.length ≤ 1000000

def Tr.kind (t : Tr) (n : Int) : Int := if 1 ≤ n ∧ n ≤ 12 then t.kinds.getD (n - 1).toNat 0 else 0
def isKd (k : Int) : Bool := decide (1 ≤ k) && decide (k ≤ 3)
def Tr.there (t : Tr) (n : Int) : Bool := isKd (t.kind n)
/-- The nodes that may be. -/
def nums : List Int := [1, 2, 3, 4, 5, 6, 7, 8, 9, 10, 11, 12]
def Tr.nodes (t : Tr) (k : Int) : List Int := nums.filter fun n => isKd k && (t.kind n == k)
def Tr.edge (t : Tr) (a b : Int) : Bool := t.edges.any fun e => (e == (a, b)) || (e == (b, a))
def Tr.adj (t : Tr) (a b : Int) : Bool := (b != a) && t.there b && t.there a && t.edge a b
def Tr.next (t : Tr) (a : Int) : List Int := nums.filter fun b => t.adj a b

abbrev ints (l : List Int) : V := .lst 1 (l.map I64)

end Go.Proofs.YtociliegljoldaaGreat

/- Plain: numbers as bytes, and back. -/
namespace Go.Proofs.YtociliegljoldaaGreat
set_option linter.unusedSimpArgs false
set_option linter.unusedVariables false

/-- The bytes of a number but its lowest one, that one's neighbour first. -/
def hiF : Nat → Nat → List UInt8
  | 0, _ => []
  | f + 1, n => if n = 0 then [] else UInt8.ofNat (n % 128 + 128) :: hiF f (n / 128)
def hiN (n : Nat) : List UInt8 := hiF 10 n
def numB (n : Nat) : List UInt8 := (UInt8.ofNat (n % 128) :: hiN (n / 128)).reverse
theorem hiF_more : ∀ (f n : Nat), n < 128 ^ f → hiF (f + 1) n = hiF f n
  | 0, n, h => by
    have : n = 0 := by simp at h; exact h
    subst this; rfl
  | f + 1, n, h => by
    rw [hiF, show hiF (f + 1) n = if n = 0 then [] else UInt8.ofNat (n % 128 + 128) :: hiF f (n / 128) from rfl]
    by_cases h0 : n = 0
    · rw [if_pos h0, if_pos h0]
    · rw [if_neg h0, if_neg h0, hiF_more f (n / 128) (by rw [Nat.div_lt_iff_lt_mul (by decide), ← Nat.pow_succ]; exact h)]
theorem hiN_step {n : Nat} (h : n < 18446744073709551616) (h0 : n ≠ 0) : hiN n = UInt8.ofNat (n % 128 + 128) :: hiN (n / 128) := by
  unfold hiN
  rw [hiF, if_neg h0, ← hiF_more 9 (n / 128) (by have : (128 : Nat) ^ 9 = 9223372036854775808 := by decide
                                                 omega)]
theorem hiN_zero : hiN 0 = [] := rfl
theorem hiN_len (n : Nat) : (hiN n).length ≤ 10 := by
  have : ∀ f m, (hiF f m).length ≤ f := by
    intro f
    induction f with
    | zero => intro m; simp [hiF]
    | succ f ih => intro m; rw [hiF]; split
                   · simp
                   · have := ih (m / 128); simp; omega
  exact this 10 n
theorem numB_len (n : Nat) : (numB n).length ≤ 11 := by have := hiN_len (n / 128); simp [numB]; omega

theorem byte_lo {n : Nat} (h : n < 256) : (UInt8.ofNat n).toNat = n := by simp; omega
/-- A number that stands at the front of bytes. -/
def decF (first : Bool) (n : Nat) : List UInt8 → Except (Int × List UInt8) (Nat × List UInt8)
  | [] => .error (8, [])
  | c :: r => if (first && c.toNat == 128) = true then .error (3, r) else if 144115188075855872 ≤ n then .error (3, r)
    else if c.toNat < 128 then .ok (n * 128 + c.toNat % 128, r) else decF false (n * 128 + c.toNat % 128) r
def decN (bs : List UInt8) : Except (Int × List UInt8) (Nat × List UInt8) := decF true 0 bs

theorem dec_hi : ∀ (k m : Nat) (tail : List UInt8), m < 128 ^ k → m < 144115188075855872 → decF true 0 ((hiN m).reverse ++ tail) = decF (m == 0) m tail := by
  intro k
  induction k with
  | zero =>
    intro m tail h _
    have : m = 0 := by simp at h; exact h
    subst this; rfl
  | succ k ih =>
    intro m tail h hm
    by_cases h0 : m = 0
    · subst h0; rfl
    · rw [hiN_step (by omega) h0, List.reverse_cons, List.append_assoc, ih (m / 128) _ (by rw [Nat.div_lt_iff_lt_mul (by decide), ← Nat.pow_succ]; exact h) (by omega)]
      rw [List.cons_append, List.nil_append, decF, byte_lo (by omega)]
      have e1 : ((m / 128 == 0) && (m % 128 + 128 == 128)) = false := by
        rw [Bool.and_eq_false_iff]
        by_cases hq : m / 128 = 0
        · right; simp; omega
        · left; simpa using hq
      have e2 : (m == 0) = false := by simpa using h0
      have e3 : m / 128 * 128 + (m % 128 + 128) % 128 = m := by omega
      rw [e1, e2, e3]
      rw [if_neg (by decide), if_neg (by omega), if_neg (by omega)]
theorem dec_num {n : Nat} (h : n < 18446744073709551616) (r : List UInt8) : decN (numB n ++ r) = .ok (n, r) := by
  unfold decN numB
  rw [List.reverse_cons, List.append_assoc, dec_hi 9 (n / 128) _ (by have : (128 : Nat) ^ 9 = 9223372036854775808 := by decide
                                                                     omega) (by omega)]
  rw [List.cons_append, List.nil_append, decF, byte_lo (by omega)]
  have e1 : ((n / 128 == 0) && (n % 128 == 128)) = false := by
    rw [Bool.and_eq_false_iff]; right; simp; omega
  rw [e1, if_neg (by decide), if_neg (by omega), if_pos (by omega)]
  congr 2; omega
theorem num_dec : ∀ (bs : List UInt8) (first : Bool) (acc n : Nat) (r : List UInt8), (first = true ↔ acc = 0) → acc < 18446744073709551616 → decF first acc bs = .ok (n, r) →
    n < 18446744073709551616 ∧ ∃ ds, bs = ds ++ r ∧ (hiN acc).reverse ++ ds = numB n := by
  intro bs
  induction bs with
  | nil => intro first acc n r _ _ h; cases h
  | cons c bs ih =>
    intro first acc n r hf ha h
    rw [decF] at h
    split at h
    · cases h
    · rename_i h1
      split at h
      · cases h
      · rename_i h2
        have hc : c.toNat < 256 := c.toNat_lt
        split at h
        · rename_i h3
          simp only [Except.ok.injEq, Prod.mk.injEq] at h
          obtain ⟨rfl, rfl⟩ := h
          refine ⟨by omega, [c], rfl, ?_⟩
          have e1 : (acc * 128 + c.toNat % 128) / 128 = acc := by omega
          have e2 : UInt8.ofNat ((acc * 128 + c.toNat % 128) % 128) = c := by
            rw [show (acc * 128 + c.toNat % 128) % 128 = c.toNat by omega]; exact UInt8.ofNat_toNat
          unfold numB
          rw [e1, e2, List.reverse_cons]
        · rename_i h3
          have hpos : acc * 128 + c.toNat % 128 ≠ 0 := by
            intro e
            have ha0 : acc = 0 := by omega
            have hc8 : c.toNat = 128 := by omega
            rw [hf.2 ha0, hc8] at h1
            exact h1 rfl
          obtain ⟨g1, ds, g2, g3⟩ := ih false _ n r ⟨fun q => (by cases q), fun q => absurd q hpos⟩ (by omega) h
          refine ⟨g1, c :: ds, by rw [g2]; rfl, ?_⟩
          rw [← g3, hiN_step (by omega) hpos]
          have e1 : (acc * 128 + c.toNat % 128) / 128 = acc := by omega
          have e2 : UInt8.ofNat ((acc * 128 + c.toNat % 128) % 128 + 128) = c := by
            rw [show (acc * 128 + c.toNat % 128) % 128 + 128 = c.toNat by omega]; exact UInt8.ofNat_toNat
          rw [e1, e2, List.reverse_cons, List.append_assoc]
          rfl
theorem num_of_dec {bs r : List UInt8} {n : Nat} (h : decN bs = .ok (n, r)) : n < 18446744073709551616 ∧ bs = numB n ++ r := by
  obtain ⟨h1, ds, h2, h3⟩ := num_dec bs true 0 n r ⟨fun _ => rfl, fun _ => rfl⟩ (by decide) h
  rw [hiN_zero] at h3
  exact ⟨h1, by rw [h2, ← h3]; rfl⟩
end Go.Proofs.YtociliegljoldaaGreat

namespace Go.Proofs.YtociliegljoldaaGreat
set_option linter.unusedSimpArgs false
set_option linter.unusedVariables false
open Go.Proofs
attribute [local irreducible] vc vcOps vcDraw vcK vcKP vcDK vcDB HWp HCalls postV Ex.then Ex.inBlock stepD callV appendV guardC guardD exV effV opV loadV storeV indexAddrV indexV sliceV

set_option maxRecDepth 10000


theorem any_idx {α : Type} (p : α → Bool) (l : List α) : decide (0 ≤ idxOf (l.findIdx? p)) = l.any p := by
  cases h : l.findIdx? p with
  | none => rw [List.findIdx?_eq_none_iff] at h; have : l.any p = false := by simpa using h
            simp [idxOf, this]
  | some i =>
    have hi := h
    rw [List.findIdx?_eq_some_iff_getElem] at h; obtain ⟨hl, hp, _⟩ := h
    have : l.any p = true := List.any_eq_true.2 ⟨l[i], List.getElem_mem hl, hp⟩
    simp [idxOf, this]


/-- append at elements of type int, k cells each. -/
theorem append_int {σ0 τ σ : Store} {x y : V} {cs news : List V} {n m : Nat} {K : V → Store → Prop} (hb : Bld 1 σ0 τ x cs n) (hle : τ.le σ) (hrow : ∀ KK : Nat → List V → Prop, KK m news → rowV 1 y σ KK) (hl : news.length = m * 1) (h1 : ∀ c ∈ news, c.one = true) (hm : n + m ≤ 1000000000)
    (h : ∀ x' τ' σ', Bld 1 σ0 τ' x' (cs ++ news) (n + m) → τ'.le σ' → (∀ b, σ b = none → σ' b ≠ none → ∃ cap', x' = .sl b 0 (n + m) cap') → K x' σ') : appendV Tryz.prog 81 81 x y σ K := by
  have hby : Tryz.prog.bytesOf 3 ≤ 1000 := by rw [show Tryz.prog.bytesOf 3 = 8 from by kernel_rfl]; decide
  refine Bld.append Tryz.underlying81 Tryz.underlying81 (by exact trivial) in3 ce3 (by decide) zl3 hb hle hrow hl h1 (by rw [maxLen_i]; omega) ?_ h
  exact Nat.le_trans (Nat.mul_le_mul hm hby) (by decide)

end Go.Proofs.YtociliegljoldaaGreat

namespace Go.Proofs.YtociliegljoldaaGreat
set_option linter.unusedSimpArgs false
set_option linter.unusedVariables false
open Go.Proofs
attribute [local irreducible] vc vcOps vcDraw vcK vcKP vcDK vcDB HWp HCalls postV Ex.then Ex.inBlock stepD callV appendV guardC guardD exV effV opV loadV storeV indexAddrV indexV sliceV
set_option maxRecDepth 10000

theorem getD_map {α : Type} (f : α → V) (l : List α) (i : Nat) (h : i < l.length) : (l.map f).getD i .top = f l[i] := by simp [h]

theorem index_int (l : List Int) (v : Int) (hl : l.length ≤ 9223372036854775807) : HPure Tryz.prog 171 [.lst 1 (l.map I64), I64 v] (I64 (idxOf (l.findIdx? (v == ·)))) := by
  (refine HPure.of en171 fun σ => ?_); (refine HCalls.of_vc Tryz.func171 rfl ?_; rw [Tryz.ntmps171, Tryz.results171]; simp only [List.length_cons, List.length_nil, Nat.reduceAdd, Nat.reduceSub, List.replicate, List.cons_append, List.nil_append])
  (repeat (first | refine Stp.s ?_ | refine inBlock_exit' (by decide) ?_ | ((first | refine vc_region fun K KP hK hKP => ?_ | refine Stg.s ?_ | refine guardD_ret0 ?_ | refine exV_intro _ rfl ?_); (try simp only [go_sem, loadL_a, List.length_map]); try ((first | refine hK _ _ ?_ | refine hKP _ _ _ ?_ | refine hKP _ _ (fun _ => ?_)); clear hK hKP K KP))))
  refine vc_loop (loopV (fun (i : Nat) => [.lst 1 (l.map I64), I64 v, .top, .top, I64 0, .top, .lst 1 (l.map I64), I64 l.length, I64 i, .top, .top, .top, .top, .top, .top, .top, .top, .top, .top]) (fun i τ => i ≤ l.length ∧ τ = σ ∧ ∀ x ∈ l.take i, (v == x) = false) (fun i _ => l.length - i) 0 (by repeat (first | exact LeEnv.nil | refine LeEnv.same ?_ | refine LeEnv.top ?_)) ⟨Nat.zero_le _, rfl, by simp⟩ ?_)
  rintro i τ ⟨hi, rfl, hno⟩
  (repeat (first | refine Stp.s ?_ | refine inBlock_exit' (by decide) ?_ | ((first | refine vc_region fun K KP hK hKP => ?_ | refine Stg.s ?_ | refine guardD_ret0 ?_ | refine exV_intro _ rfl ?_); (try simp only [go_sem, loadL_a]); try ((first | refine hK _ _ ?_ | refine hKP _ _ _ ?_ | refine hKP _ _ (fun _ => ?_)); clear hK hKP K KP))))
  refine vc_cond rfl (fun hc1 => ?_) (fun hc1 => ?_)
  · have hlt : i < l.length := by simpa using hc1
    (repeat (first | refine Stp.s ?_ | refine inBlock_exit' (by decide) ?_ | ((first | refine vc_region fun K KP hK hKP => ?_ | refine Stg.s ?_ | refine guardD_ret0 ?_ | refine exV_intro _ rfl ?_); (try simp only [go_sem, loadL_a, Int.toNat_natCast, List.length_map, getD_map I64 l i hlt]); try ((first | refine hK _ _ ?_ | refine hKP _ _ _ ?_ | refine hKP _ _ (fun _ => ?_)); clear hK hKP K KP))))
    refine ⟨by omega, by omega, ?_⟩
    ((try simp only [go_sem, loadL_a]); refine hK _ _ ?_; clear hK hKP K KP; repeat (first | refine Stp.s ?_ | refine inBlock_exit' (by decide) ?_ | ((first | refine vc_region fun K KP hK hKP => ?_ | refine Stg.s ?_ | refine guardD_ret0 ?_ | refine exV_intro _ rfl ?_); (try simp only [go_sem, loadL_a]); try ((first | refine hK _ _ ?_ | refine hKP _ _ _ ?_ | refine hKP _ _ (fun _ => ?_)); clear hK hKP K KP))))
    refine vc_cond rfl (fun hp => ?_) (fun hp => ?_)
    · (repeat (first | refine Stp.s ?_ | refine inBlock_exit' (by decide) ?_ | ((first | refine vc_region fun K KP hK hKP => ?_ | refine Stg.s ?_ | refine guardD_ret0 ?_ | refine exV_intro _ rfl ?_); (try simp only [go_sem, loadL_a]); try ((first | refine hK _ _ ?_ | refine hKP _ _ _ ?_ | refine hKP _ _ (fun _ => ?_)); clear hK hKP K KP))))
      (simp only [postV, resV, oneOf, List.getD_cons_succ, List.getD_cons_zero, and_true, true_and])
      refine Ends.le ?_ (Store.le_refl _)
      have : l.findIdx? (v == ·) = some i := by
        rw [List.findIdx?_eq_some_iff_getElem]
        exact ⟨hlt, hp, fun j hj => by have := hno l[j] (by rw [List.mem_take_iff_getElem]; exact ⟨j, by omega, rfl⟩); simp [this]⟩
      rw [this]; rfl
    · have hw := i64_succ hlt hl
      (repeat (first | refine Stp.s ?_ | refine inBlock_exit' (by decide) ?_ | ((first | refine vc_region fun K KP hK hKP => ?_ | refine Stg.s ?_ | refine guardD_ret0 ?_ | refine exV_intro _ rfl ?_); (try simp only [go_sem, loadL_a, hw]); try ((first | refine hK _ _ ?_ | refine hKP _ _ _ ?_ | refine hKP _ _ (fun _ => ?_)); clear hK hKP K KP))))
      refine ⟨i + 1, _, (by repeat (first | exact LeEnv.nil | refine LeEnv.same ?_ | refine LeEnv.top ?_)), Store.le_refl _, ⟨by omega, rfl, ?_⟩, by omega⟩
      intro x hx'
      rw [List.take_succ_eq_append_getElem hlt] at hx'
      rcases List.mem_append.1 hx' with h | h
      · exact hno x h
      · simp at h; subst h; exact hp
  · (repeat (first | refine Stp.s ?_ | refine inBlock_exit' (by decide) ?_ | ((first | refine vc_region fun K KP hK hKP => ?_ | refine Stg.s ?_ | refine guardD_ret0 ?_ | refine exV_intro _ rfl ?_); (try simp only [go_sem, loadL_a]); try ((first | refine hK _ _ ?_ | refine hKP _ _ _ ?_ | refine hKP _ _ (fun _ => ?_)); clear hK hKP K KP))))
    (simp only [postV, resV, oneOf, List.getD_cons_succ, List.getD_cons_zero, and_true, true_and])
    refine Ends.le ?_ (Store.le_refl _)
    have hge : l.length ≤ i := by simpa using hc1
    rw [List.take_of_length_le hge] at hno
    have : l.findIdx? (v == ·) = none := by rw [List.findIdx?_eq_none_iff]; exact hno
    rw [this]; rfl

theorem contains_int (l : List Int) (v : Int) (hl : l.length ≤ 9223372036854775807) : HPure Tryz.prog 114 [.lst 1 (l.map I64), I64 v] (BV (l.any (v == ·))) := by
  (refine HPure.of en114 fun σ => ?_); (refine HCalls.of_vc Tryz.func114 rfl ?_; rw [Tryz.ntmps114, Tryz.results114]; simp only [List.length_cons, List.length_nil, Nat.reduceAdd, Nat.reduceSub, List.replicate, List.cons_append, List.nil_append])
  (repeat (first | refine Stp.s ?_ | refine inBlock_exit' (by decide) ?_ | ((first | refine vc_region fun K KP hK hKP => ?_ | refine Stg.s ?_ | refine guardD_ret0 ?_ | refine exV_intro _ rfl ?_); (try simp only [go_sem, loadL_a]); try ((first | refine hK _ _ ?_ | refine hKP _ _ _ ?_ | refine hKP _ _ (fun _ => ?_)); clear hK hKP K KP))))
  refine callV_pure (index_int l v hl) ?_
  ((try simp only [go_sem, loadL_a]); refine hK _ _ ?_; clear hK hKP K KP; repeat (first | refine Stp.s ?_ | refine inBlock_exit' (by decide) ?_ | ((first | refine vc_region fun K KP hK hKP => ?_ | refine Stg.s ?_ | refine guardD_ret0 ?_ | refine exV_intro _ rfl ?_); (try simp only [go_sem, loadL_a]); try ((first | refine hK _ _ ?_ | refine hKP _ _ _ ?_ | refine hKP _ _ (fun _ => ?_)); clear hK hKP K KP))))
  (simp only [postV, resV, oneOf, List.getD_cons_succ, List.getD_cons_zero, and_true, true_and])
  exact Ends.le (by rw [any_idx]) (Store.le_refl _)



end Go.Proofs.YtociliegljoldaaGreat

namespace Go.Proofs.YtociliegljoldaaGreat
set_option linter.unusedSimpArgs false
set_option linter.unusedVariables false
open Go.Proofs
attribute [local irreducible] vc vcOps vcDraw vcK vcKP vcDK vcDB HWp HCalls postV Ex.then Ex.inBlock stepD callV appendV guardC guardD exV effV opV loadV storeV indexAddrV indexV sliceV
set_option maxRecDepth 10000
set_option maxHeartbeats 2000000

theorem treeEs (t : Tr) (ht : t.Ok) : (t.kinds.map I64 ++ [t.es])[12]? = some t.es := by
  rw [List.getElem?_append_right (by simp [ht.k])]; simp [ht.k]

def edgeOf : V → Int × Int
  | .agg [.val (.int _ a), .val (.int _ b)] => (a, b)
  | _ => (0, 0)
theorem nums_len : nums.length = 12 := rfl
theorem nums_get (i : Nat) (h : i < 12) : nums[i]'(by simpa [nums] using h) = (i : Int) + 1 := by
  match i, h with
  | 0, _ | 1, _ | 2, _ | 3, _ | 4, _ | 5, _ | 6, _ | 7, _ | 8, _ | 9, _ | 10, _ | 11, _ => rfl
theorem nums_take (i : Nat) (h : i < 12) : nums.take (i + 1) = nums.take i ++ [(i : Int) + 1] := by
  rw [List.take_succ_eq_append_getElem (by simpa [nums] using h), nums_get i h]

theorem Bld.ints {σ0 τ : Store} {x : V} {l : List Int} (hB : Bld 1 σ0 τ x (l.map I64) l.length) : Weakens x τ (ints l) σ0 :=
  Bld.weakens hB (Store.le_refl _) (by simp) (by clear hB; induction l with | nil => rfl | cons a l ih => rw [List.map_cons, List.flatMap_cons, ← ih]; rfl) (by intro x hx; obtain ⟨a, _, rfl⟩ := List.mem_map.1 hx; rfl)
theorem nums_fl (p : Int → Bool) (i : Nat) : ((nums.take i).filter p).length ≤ 12 :=
  Nat.le_trans (List.length_filter_le _ _) (by rw [List.length_take, nums_len]; omega)

end Go.Proofs.YtociliegljoldaaGreat

namespace Go.Proofs.YtociliegljoldaaGreat
set_option linter.unusedSimpArgs false
set_option linter.unusedVariables false
open Go.Proofs
attribute [local irreducible] vc vcOps vcDraw vcK vcKP vcDK vcDB HWp HCalls postV Ex.then Ex.inBlock stepD callV appendV guardC guardD exV effV opV loadV storeV indexAddrV indexV sliceV
set_option maxRecDepth 10000
set_option maxHeartbeats 2000000

end Go.Proofs.YtociliegljoldaaGreat

namespace Go.Proofs.YtociliegljoldaaGreat
set_option linter.unusedSimpArgs false
set_option linter.unusedVariables false
open Go.Proofs
attribute [local irreducible] vc vcOps vcDraw vcK vcKP vcDK vcDB HWp HCalls postV Ex.then Ex.inBlock stepD callV appendV guardC guardD exV effV opV loadV storeV indexAddrV indexV sliceV
set_option maxRecDepth 10000
set_option maxHeartbeats 2000000

theorem isNaN_pure (n : Int) : HPure Tryz.prog 174 [I64 n] (BV false) := by
  (refine HPure.of en174 fun σ => ?_); (refine HCalls.of_vc Tryz.func174 rfl ?_; rw [Tryz.ntmps174, Tryz.results174]; simp only [List.length_cons, List.length_nil, Nat.reduceAdd, Nat.reduceSub, List.replicate, List.cons_append, List.nil_append])
  (repeat (first | refine Stp.s ?_ | refine inBlock_exit' (by decide) ?_ | ((first | refine vc_region fun K KP hK hKP => ?_ | refine Stg.s ?_ | refine guardD_ret0 ?_ | refine exV_intro _ rfl ?_); (try simp only [go_sem, loadL_a, bne_self_eq_false]); try ((first | refine hK _ _ ?_ | refine hKP _ _ _ ?_ | refine hKP _ _ (fun _ => ?_)); clear hK hKP K KP))))
  (simp only [postV, resV, oneOf, List.getD_cons_succ, List.getD_cons_zero, and_true, true_and])
  exact Ends.le rfl (Store.le_refl _)
theorem less_pure (a b : Int) : HPure Tryz.prog 217 [I64 a, I64 b] (BV (decide (a < b))) := by
  (refine HPure.of en217 fun σ => ?_); (refine HCalls.of_vc Tryz.func217 rfl ?_; rw [Tryz.ntmps217, Tryz.results217]; simp only [List.length_cons, List.length_nil, Nat.reduceAdd, Nat.reduceSub, List.replicate, List.cons_append, List.nil_append])
  (repeat (first | refine Stp.s ?_ | refine inBlock_exit' (by decide) ?_ | ((first | refine vc_region fun K KP hK hKP => ?_ | refine Stg.s ?_ | refine guardD_ret0 ?_ | refine exV_intro _ rfl ?_); (try simp only [go_sem, loadL_a]); try ((first | refine hK _ _ ?_ | refine hKP _ _ _ ?_ | refine hKP _ _ (fun _ => ?_)); clear hK hKP K KP))))
  ((try simp only [go_sem, loadL_a]); first | refine callV_pure (isNaN_pure _) ?_ | refine guardC_q0 (fun _ => callV_pure (isNaN_pure _) ⟨rfl, rfl⟩) ?_)
  ((try simp only [go_sem, loadL_a]); (try ((first | refine hK _ _ ?_ | refine hKP _ _ _ ?_ | refine hKP _ _ (fun _ => ?_)); clear hK hKP K KP)); repeat (first | refine Stp.s ?_ | refine inBlock_exit' (by decide) ?_ | ((first | refine vc_region fun K KP hK hKP => ?_ | refine Stg.s ?_ | refine guardD_ret0 ?_ | refine exV_intro _ rfl ?_); (try simp only [go_sem, loadL_a]); try ((first | refine hK _ _ ?_ | refine hKP _ _ _ ?_ | refine hKP _ _ (fun _ => ?_)); clear hK hKP K KP))))
  (simp only [postV, resV, oneOf, List.getD_cons_succ, List.getD_cons_zero, and_true, true_and])
  exact Ends.le rfl (Store.le_refl _)
theorem len64 (n : Nat) (h : n ≤ 12) (σ : Store) : HCalls Tryz.prog 207 [.val (.int .u64 n)] σ (fun r τ => ∃ v, r = .ret (I64 v) ∧ τ = σ) := by
  (refine HCalls.of_vc Tryz.func207 rfl ?_; rw [Tryz.ntmps207, Tryz.results207]; simp only [List.length_cons, List.length_nil, Nat.reduceAdd, Nat.reduceSub, List.replicate, List.cons_append, List.nil_append])
  (repeat (first | refine Stp.s ?_ | refine inBlock_exit' (by decide) ?_ | ((first | refine vc_region fun K KP hK hKP => ?_ | refine Stg.s ?_ | refine guardD_ret0 ?_ | refine exV_intro _ rfl ?_); (try simp only [go_sem, loadL_a]); try ((first | refine hK _ _ ?_ | refine hKP _ _ _ ?_ | refine hKP _ _ (fun _ => ?_)); clear hK hKP K KP))))
  refine vc_cond rfl (fun hc => absurd hc (by simp; omega)) (fun _ => ?_)
  (repeat (first | refine Stp.s ?_ | refine inBlock_exit' (by decide) ?_ | ((first | refine vc_region fun K KP hK hKP => ?_ | refine Stg.s ?_ | refine guardD_ret0 ?_ | refine exV_intro _ rfl ?_); (try simp only [go_sem, loadL_a]); try ((first | refine hK _ _ ?_ | refine hKP _ _ _ ?_ | refine hKP _ _ (fun _ => ?_)); clear hK hKP K KP))))
  refine vc_cond rfl (fun hc => absurd hc (by simp; omega)) (fun _ => ?_)
  (repeat (first | refine Stp.s ?_ | refine inBlock_exit' (by decide) ?_ | ((first | refine vc_region fun K KP hK hKP => ?_ | refine Stg.s ?_ | refine guardD_ret0 ?_ | refine exV_intro _ rfl ?_); (try simp only [go_sem, loadL_a]); try ((first | refine hK _ _ ?_ | refine hKP _ _ _ ?_ | refine hKP _ _ (fun _ => ?_)); clear hK hKP K KP))))
  refine vc_cond rfl (fun hc => absurd hc (by simp; omega)) (fun _ => ?_)
  (repeat (first | refine Stp.s ?_ | refine inBlock_exit' (by decide) ?_ | ((first | refine vc_region fun K KP hK hKP => ?_ | refine Stg.s ?_ | refine guardD_ret0 ?_ | refine exV_intro _ rfl ?_); (try simp only [go_sem, loadL_a, u8_in (show (0:Int) ≤ n by omega) (by omega)]); try ((first | refine hK _ _ ?_ | refine hKP _ _ _ ?_ | refine hKP _ _ (fun _ => ?_)); clear hK hKP K KP))))
  refine ⟨by omega, Int.lt_of_lt_of_le (b := ((256 : Nat) : Int)) (by omega) (Int.ofNat_le.2 (Nat.le_of_eq (by kernel_rfl))), ?_⟩
  ((try simp only [go_sem, loadL_a]); refine hK _ _ ?_; clear hK hKP K KP; repeat (first | refine Stp.s ?_ | refine inBlock_exit' (by decide) ?_ | ((first | refine vc_region fun K KP hK hKP => ?_ | refine Stg.s ?_ | refine guardD_ret0 ?_ | refine exV_intro _ rfl ?_); (try simp only [go_sem, loadL_a]); try ((first | refine hK _ _ ?_ | refine hKP _ _ _ ?_ | refine hKP _ _ (fun _ => ?_)); clear hK hKP K KP))))
  (simp only [postV, resV, oneOf, List.getD_cons_succ, List.getD_cons_zero, and_true, true_and])
  exact ⟨_, rfl⟩
theorem len (n : Nat) (h : n ≤ 12) (σ : Store) : HCalls Tryz.prog 158 [.val (.int .u64 n)] σ (fun r τ => ∃ v, r = .ret (I64 v) ∧ τ = σ) := by
  (refine HCalls.of_vc Tryz.func158 rfl ?_; rw [Tryz.ntmps158, Tryz.results158]; simp only [List.length_cons, List.length_nil, Nat.reduceAdd, Nat.reduceSub, List.replicate, List.cons_append, List.nil_append])
  (repeat (first | refine Stp.s ?_ | refine inBlock_exit' (by decide) ?_ | ((first | refine vc_region fun K KP hK hKP => ?_ | refine Stg.s ?_ | refine guardD_ret0 ?_ | refine exV_intro _ rfl ?_); (try simp only [go_sem, loadL_a]); try ((first | refine hK _ _ ?_ | refine hKP _ _ _ ?_ | refine hKP _ _ (fun _ => ?_)); clear hK hKP K KP))))
  refine vc_cond rfl (fun hc => absurd hc (by simp)) (fun _ => ?_)
  (repeat (first | refine Stp.s ?_ | refine inBlock_exit' (by decide) ?_ | ((first | refine vc_region fun K KP hK hKP => ?_ | refine Stg.s ?_ | refine guardD_ret0 ?_ | refine exV_intro _ rfl ?_); (try simp only [go_sem, loadL_a]); try ((first | refine hK _ _ ?_ | refine hKP _ _ _ ?_ | refine hKP _ _ (fun _ => ?_)); clear hK hKP K KP))))
  refine callV_of en207 (len64 n h σ) (fun x σ' ⟨v, e, es⟩ => ?_) (fun x σ' ⟨v, e, es⟩ => by cases e)
  cases e; subst es
  ((try simp only [go_sem, loadL_a]); refine hK _ _ ?_; clear hK hKP K KP; repeat (first | refine Stp.s ?_ | refine inBlock_exit' (by decide) ?_ | ((first | refine vc_region fun K KP hK hKP => ?_ | refine Stg.s ?_ | refine guardD_ret0 ?_ | refine exV_intro _ rfl ?_); (try simp only [go_sem, loadL_a]); try ((first | refine hK _ _ ?_ | refine hKP _ _ _ ?_ | refine hKP _ _ (fun _ => ?_)); clear hK hKP K KP))))
  (simp only [postV, resV, oneOf, List.getD_cons_succ, List.getD_cons_zero, and_true, true_and])
  exact ⟨_, rfl⟩

/-- Of a list that is sorted but for place j, up to place i. -/
def Ord (l : List Int) (i j : Nat) : Prop := ∀ p q, p < q → q ≤ i → q ≠ j → l.getD p 0 ≤ l.getD q 0
abbrev row (l : List Int) (spare : List V) : Blk := .cells (l.map I64 ++ spare)
theorem row_get {l : List Int} {spare : List V} {i : Nat} (h : i < l.length) : (l.map I64 ++ spare)[i]? = some (I64 (l.getD i 0)) := by
  rw [List.getElem?_append_left (by simpa using h), List.getElem?_map, List.getElem?_eq_getElem h, List.getD_eq_getElem?_getD, List.getElem?_eq_getElem h]; rfl
theorem row_set {l : List Int} {spare : List V} {i : Nat} {v : Int} (h : i < l.length) : (l.map I64 ++ spare).set i (I64 v) = (l.set i v).map I64 ++ spare := by
  rw [List.set_append_left _ _ (by simpa using h), List.map_set]

theorem swap_perm : ∀ (m : List Int) (k : Nat), k + 1 < m.length → ((m.set (k + 1) (m.getD k 0)).set k (m.getD (k + 1) 0)).Perm m := by
  intro m
  induction m with
  | nil => intro k h; simp at h
  | cons a m ih =>
    intro k h
    cases k with
    | zero =>
      cases m with
      | nil => simp at h
      | cons b m => simpa using List.Perm.swap a b m
    | succ k =>
      simp only [List.set_cons_succ, List.getD_cons_succ]
      exact (ih k (by simpa using h)).cons a
theorem getD_set (m : List Int) (k p : Nat) (v : Int) (h : k < m.length) : (m.set k v).getD p 0 = if p = k then v else m.getD p 0 := by
  simp only [List.getD_eq_getElem?_getD, List.getElem?_set]
  by_cases e : p = k
  · subst e; simp [h]
  · rw [if_neg (Ne.symm e), if_neg e]
theorem swap_getD (m : List Int) (k p : Nat) (h : k + 1 < m.length) : ((m.set (k + 1) (m.getD k 0)).set k (m.getD (k + 1) 0)).getD p 0 = if p = k then m.getD (k + 1) 0 else if p = k + 1 then m.getD k 0 else m.getD p 0 := by
  rw [getD_set _ _ _ _ (by simp; omega), getD_set _ _ _ _ h]
theorem Ord.swap {m : List Int} {i k : Nat} (h : k + 1 < m.length) (ho : Ord m i (k + 1)) (hi : k + 1 ≤ i) (hlt : m.getD (k + 1) 0 < m.getD k 0) : Ord ((m.set (k + 1) (m.getD k 0)).set k (m.getD (k + 1) 0)) i k := by
  intro p q h1 h2 h3
  rw [swap_getD m k p h, swap_getD m k q h, if_neg h3]
  by_cases hq : q = k + 1
  · rw [if_pos hq]
    by_cases hp : p = k
    · rw [if_pos hp]; omega
    · rw [if_neg hp, if_neg (by omega)]; exact ho p k (by omega) (by omega) (by omega)
  · rw [if_neg hq]
    by_cases hp : p = k
    · rw [if_pos hp]; exact ho (k + 1) q (by omega) h2 hq
    · rw [if_neg hp]
      by_cases hp2 : p = k + 1
      · rw [if_pos hp2]; exact ho k q (by omega) h2 hq
      · rw [if_neg hp2]; exact ho p q h1 h2 hq
theorem Ord.done {m : List Int} {i k : Nat} (ho : Ord m i (k + 1)) (hle : m.getD k 0 ≤ m.getD (k + 1) 0) (hk : k + 1 ≤ i) : ∀ p q, p < q → q ≤ i → m.getD p 0 ≤ m.getD q 0 := by
  intro p q h1 h2
  by_cases hq : q = k + 1
  · subst hq
    by_cases hp : p = k
    · rw [hp]; exact hle
    · exact Int.le_trans (ho p k (by omega) (by omega) (by omega)) hle
  · exact ho p q h1 h2 hq

theorem ins_sort (b cap : Nat) (l : List Int) (spare : List V) (σ : Store) (hb : σ b = some (row l spare)) (hn : l.length ≤ 1000) :
    HCalls Tryz.prog 211 [.sl b 0 l.length cap, I64 0, I64 l.length] σ (fun r σ' => ∃ l', r = .ret (oneOf []) ∧ l'.Perm l ∧ (∀ p q, p < q → q < l.length → l'.getD p 0 ≤ l'.getD q 0) ∧ σ' = σ.set b (row l' spare)) := by
  (refine HCalls.of_vc Tryz.func211 rfl ?_; rw [Tryz.ntmps211, Tryz.results211]; simp only [List.length_cons, List.length_nil, Nat.reduceAdd, Nat.reduceSub, List.replicate, List.cons_append, List.nil_append])
  (repeat (first | refine Stp.s ?_ | refine inBlock_exit' (by decide) ?_ | ((first | refine vc_region fun K KP hK hKP => ?_ | refine Stg.s ?_ | refine guardD_ret0 ?_ | refine exV_intro _ rfl ?_); (try simp only [go_sem, loadL_a]); try ((first | refine hK _ _ ?_ | refine hKP _ _ _ ?_ | refine hKP _ _ (fun _ => ?_)); clear hK hKP K KP))))
  have w1 : IntKind.i64.wrap (0 + 1) = ((1 : Nat) : Int) := rfl
  refine vc_loop (loopV (fun (a : Nat × List Int) => [.sl b 0 l.length cap, I64 0, I64 l.length, .top, .top, .top, I64 a.1, .top, .top, .top, .top, .top, .top, .top, .top, .top, .top, .top, .top, .top, .top, .top, .top, .top, .top, .top, .top, .top, .top, .top, .top, .top, .top, .top, .top, .top, .top, .top, .top, .top, .top, .top, .top, .top, .top, .top, .top, .top, .top]) (fun a τ => 1 ≤ a.1 ∧ a.1 ≤ l.length + 1 ∧ a.2.Perm l ∧ (∀ p q, p < q → q < a.1 → q < l.length → a.2.getD p 0 ≤ a.2.getD q 0) ∧ τ = σ.set b (row a.2 spare)) (fun a _ => l.length + 1 - a.1) (1, l) (by repeat (first | exact LeEnv.nil | refine LeEnv.same ?_ | refine LeEnv.top ?_)) ⟨Nat.le_refl _, by simp, .refl _, fun p q h1 h2 => by omega, (Store.set_id hb).symm⟩ ?_)
  rintro ⟨i, m⟩ τ ⟨hi1, hi2, hperm, hs, rfl⟩
  simp only at hi1 hi2 hperm hs
  have hml : m.length = l.length := hperm.length_eq
  (repeat (first | refine Stp.s ?_ | refine inBlock_exit' (by decide) ?_ | ((first | refine vc_region fun K KP hK hKP => ?_ | refine Stg.s ?_ | refine guardD_ret0 ?_ | refine exV_intro _ rfl ?_); (try simp only [go_sem, loadL_a]); try ((first | refine hK _ _ ?_ | refine hKP _ _ _ ?_ | refine hKP _ _ (fun _ => ?_)); clear hK hKP K KP))))
  refine vc_cond rfl (fun hc => ?_) (fun hc => ?_)
  · have hlt : i < l.length := by simp at hc; omega
    (repeat (first | refine Stp.s ?_ | refine inBlock_exit' (by decide) ?_ | ((first | refine vc_region fun K KP hK hKP => ?_ | refine Stg.s ?_ | refine guardD_ret0 ?_ | refine exV_intro _ rfl ?_); (try simp only [go_sem, loadL_a]); try ((first | refine hK _ _ ?_ | refine hKP _ _ _ ?_ | refine hKP _ _ (fun _ => ?_)); clear hK hKP K KP))))
    refine vc_loop (loopV (fun (a : Nat × List Int) => [.sl b 0 l.length cap, I64 0, I64 l.length, .top, .top, .top, I64 i, I64 a.1, .top, .top, .top, .top, .top, .top, .top, .top, .top, .top, .top, .top, .top, .top, .top, .top, .top, .top, .top, .top, .top, .top, .top, .top, .top, .top, .top, .top, .top, .top, .top, .top, .top, .top, .top, .top, .top, .top, .top, .top, .top]) (fun a τ => a.1 ≤ i ∧ a.2.Perm l ∧ Ord a.2 i a.1 ∧ τ = σ.set b (row a.2 spare)) (fun a _ => a.1) (i, m) (by repeat (first | exact LeEnv.nil | refine LeEnv.same ?_ | refine LeEnv.top ?_)) ⟨Nat.le_refl _, hperm, fun p q h1 h2 h3 => hs p q h1 (by omega) (by omega), rfl⟩ ?_)
    clear hperm hs hml
    rintro ⟨j, m'⟩ τ ⟨hji, hperm, ho, rfl⟩
    simp only at hji hperm ho
    have hml : m'.length = l.length := hperm.length_eq
    (repeat (first | refine Stp.s ?_ | refine inBlock_exit' (by decide) ?_ | ((first | refine vc_region fun K KP hK hKP => ?_ | refine Stg.s ?_ | refine guardD_ret0 ?_ | refine exV_intro _ rfl ?_); (try simp only [go_sem, loadL_a]); try ((first | refine hK _ _ ?_ | refine hKP _ _ _ ?_ | refine hKP _ _ (fun _ => ?_)); clear hK hKP K KP))))
    rcases Nat.eq_zero_or_pos j with rfl | hj
    · have hj0 : decide ((0 : Int) < ((0 : Nat) : Int)) = false := rfl
      ((repeat first | refine Stp.s ?_ | refine inBlock_exit' (by decide) ?_); refine vc_draw mixed [ ] [0, 1, 2, 3, 4, 5, 6, 7, 8, 9, 10, 11, 12, 13, 14 ] [ 7, 12 ] [] (fun _ => True) (by kernel_rfl) (by kernel_rfl) (by kernel_rfl) trivial fun K KP hK hKP => ?_; simp only [go_sem, loadL_a, hj0]; try (refine hK _ _ ?_; clear hK hKP K KP))
      ((try simp only [go_sem, loadL_a, hj0]); (try ((first | refine hK _ _ ?_ | refine hKP _ _ _ ?_ | refine hKP _ _ (fun _ => ?_)); clear hK hKP K KP)); repeat (first | refine Stp.s ?_ | refine inBlock_exit' (by decide) ?_ | ((first | refine vc_region fun K KP hK hKP => ?_ | refine Stg.s ?_ | refine guardD_ret0 ?_ | refine exV_intro _ rfl ?_); (try simp only [go_sem, loadL_a, hj0]); try ((first | refine hK _ _ ?_ | refine hKP _ _ _ ?_ | refine hKP _ _ (fun _ => ?_)); clear hK hKP K KP))))
      refine vc_cond rfl (fun hc => by cases hc) (fun hc => ?_)
      (repeat (first | refine Stp.s ?_ | refine inBlock_exit' (by decide) ?_ | ((first | refine vc_region fun K KP hK hKP => ?_ | refine Stg.s ?_ | refine guardD_ret0 ?_ | refine exV_intro _ rfl ?_); (try simp only [go_sem, loadL_a, i64_succ hlt (by omega)]); try ((first | refine hK _ _ ?_ | refine hKP _ _ _ ?_ | refine hKP _ _ (fun _ => ?_)); clear hK hKP K KP))))
      refine ⟨(i + 1, m'), _, ?_, Store.le_refl _, ⟨Nat.le_add_left 1 i, Nat.succ_le_succ (Nat.le_of_lt hlt), hperm, fun p q h1 h2 h3 => ho p q h1 (by have h2' : q < i + 1 := h2; omega) (by omega), rfl⟩, by show l.length + 1 - (i + 1) < l.length + 1 - i; omega⟩
      repeat (first | exact LeEnv.nil | refine LeEnv.same ?_ | refine LeEnv.top ?_)
    · obtain ⟨k, rfl⟩ : ∃ k, j = k + 1 := ⟨j - 1, by omega⟩
      have hj1 : decide ((0 : Int) < ((k + 1 : Nat) : Int)) = true := decide_eq_true (by omega)
      have g1 : (0 : Int) ≤ ((k + 1 : Nat) : Int) := by omega
      have g2 : ((k + 1 : Nat) : Int) < l.length := by omega
      have w2 : IntKind.i64.wrap (((k + 1 : Nat) : Int) - 1) = (k : Int) := by rw [i64_in (by omega) (by omega)]; omega
      have g3 : (0 : Int) ≤ (k : Int) := by omega
      have g4 : (k : Int) < l.length := by omega
      have r1 := row_get (spare := spare) (show k + 1 < m'.length by omega)
      have r2 := row_get (spare := spare) (show k < m'.length by omega)
      ((repeat first | refine Stp.s ?_ | refine inBlock_exit' (by decide) ?_); refine vc_draw mixed [ ] [0, 1, 2, 3, 4, 5, 6, 7, 8, 9, 10, 11, 12, 13, 14 ] [ 7, 12, 13 ] [] (fun _ => True) (by kernel_rfl) (by kernel_rfl) (by kernel_rfl) trivial fun K KP hK hKP => ?_; simp only [go_sem, loadL_a, hj1, g1, g2, w2, g3, g4, Int.toNat_natCast, r1, r2]; try (refine hK _ _ ?_; clear hK hKP K KP))
      ((try simp only [go_sem, loadL_a, hj1, g1, g2, w2, g3, g4, Int.toNat_natCast, r1, r2]); (try ((first | refine hK _ _ ?_ | refine hKP _ _ _ ?_ | refine hKP _ _ (fun _ => ?_)); clear hK hKP K KP)); repeat (first | refine Stp.s ?_ | refine inBlock_exit' (by decide) ?_ | ((first | refine vc_region fun K KP hK hKP => ?_ | refine Stg.s ?_ | refine guardD_ret0 ?_ | refine exV_intro _ rfl ?_); (try simp only [go_sem, loadL_a, hj1, g1, g2, w2, g3, g4, Int.toNat_natCast, r1, r2]); try ((first | refine hK _ _ ?_ | refine hKP _ _ _ ?_ | refine hKP _ _ (fun _ => ?_)); clear hK hKP K KP))))
      ((try simp only [go_sem, loadL_a]); first | refine guardD_q0 (fun _ => callV_pure (less_pure _ _) ⟨rfl, rfl⟩) ?_ | refine guardD_q0 (fun _ _ => callV_pure (less_pure _ _) ⟨rfl, rfl⟩) ?_)
      ((try simp only [go_sem, loadL_a, hj1, g1, g2, w2, g3, g4, Int.toNat_natCast, r1, r2]); (try ((first | refine hK _ _ ?_ | refine hKP _ _ _ ?_ | refine hKP _ _ (fun _ => ?_)); clear hK hKP K KP)); repeat (first | refine Stp.s ?_ | refine inBlock_exit' (by decide) ?_ | ((first | refine vc_region fun K KP hK hKP => ?_ | refine Stg.s ?_ | refine guardD_ret0 ?_ | refine exV_intro _ rfl ?_); (try simp only [go_sem, loadL_a, hj1, g1, g2, w2, g3, g4, Int.toNat_natCast, r1, r2]); try ((first | refine hK _ _ ?_ | refine hKP _ _ _ ?_ | refine hKP _ _ (fun _ => ?_)); clear hK hKP K KP))))
      refine vc_cond rfl (fun hc => ?_) (fun hc => ?_)
      · have hlt2 : m'.getD (k + 1) 0 < m'.getD k 0 := by simpa using hc
        (repeat (first | refine Stp.s ?_ | refine inBlock_exit' (by decide) ?_ | ((first | refine vc_region fun K KP hK hKP => ?_ | refine Stg.s ?_ | refine guardD_ret0 ?_ | refine exV_intro _ rfl ?_); (try simp only [go_sem, loadL_a]); try ((first | refine hK _ _ ?_ | refine hKP _ _ _ ?_ | refine hKP _ _ (fun _ => ?_)); clear hK hKP K KP))))
        ((repeat first | refine Stp.s ?_ | refine inBlock_exit' (by decide) ?_); refine vc_draw mixed [ 15, 17 ] [0, 1, 2, 3, 4, 5, 6, 7, 8, 9, 10, 11, 12, 13, 14, 15, 16, 17 ] [ 9, 13 ] [] (fun _ => True) (by kernel_rfl) (by kernel_rfl) (by kernel_rfl) trivial fun K KP hK hKP => ?_; simp only [go_sem, loadL_a, hj1, g1, g2, w2, g3, g4, Int.toNat_natCast, r1, r2]; try (refine hK _ _ ?_; clear hK hKP K KP))
        ((try simp only [go_sem, loadL_a, hj1, g1, g2, w2, g3, g4, Int.toNat_natCast, r1, r2]); (try ((first | refine hK _ _ ?_ | refine hKP _ _ _ ?_ | refine hKP _ _ (fun _ => ?_)); clear hK hKP K KP)); repeat (first | refine Stp.s ?_ | refine inBlock_exit' (by decide) ?_ | ((first | refine vc_region fun K KP hK hKP => ?_ | refine Stg.s ?_ | refine guardD_ret0 ?_ | refine exV_intro _ rfl ?_); (try simp only [go_sem, loadL_a, hj1, g1, g2, w2, g3, g4, Int.toNat_natCast, r1, r2]); try ((first | refine hK _ _ ?_ | refine hKP _ _ _ ?_ | refine hKP _ _ (fun _ => ?_)); clear hK hKP K KP))))
        have hsw : ((m'.map I64 ++ spare).set (k + 1) (I64 (m'.getD k 0))).set k (I64 (m'.getD (k + 1) 0)) = ((m'.set (k + 1) (m'.getD k 0)).set k (m'.getD (k + 1) 0)).map I64 ++ spare := by
          rw [row_set (by omega), row_set (by simp; omega)]
        refine ⟨by simp; omega, effV_true ⟨by simp; omega, ?_⟩⟩
        ((try simp only [go_sem, loadL_a, hsw, w2]); (try ((first | refine hK _ _ ?_ | refine hKP _ _ _ ?_ | refine hKP _ _ (fun _ => ?_)); clear hK hKP K KP)); repeat (first | refine Stp.s ?_ | refine inBlock_exit' (by decide) ?_ | ((first | refine vc_region fun K KP hK hKP => ?_ | refine Stg.s ?_ | refine guardD_ret0 ?_ | refine exV_intro _ rfl ?_); (try simp only [go_sem, loadL_a, hsw, w2]); try ((first | refine hK _ _ ?_ | refine hKP _ _ _ ?_ | refine hKP _ _ (fun _ => ?_)); clear hK hKP K KP))))
        refine ⟨(k, (m'.set (k + 1) (m'.getD k 0)).set k (m'.getD (k + 1) 0)), _, ?_, Store.le_refl _, ⟨Nat.le_of_succ_le hji, (swap_perm m' k (by omega)).trans hperm, ho.swap (by omega) hji hlt2, rfl⟩, Nat.lt_succ_self k⟩
        repeat (first | exact LeEnv.nil | refine LeEnv.same ?_ | refine LeEnv.top ?_)
      · have hle2 : m'.getD k 0 ≤ m'.getD (k + 1) 0 := by simpa using hc
        (repeat (first | refine Stp.s ?_ | refine inBlock_exit' (by decide) ?_ | ((first | refine vc_region fun K KP hK hKP => ?_ | refine Stg.s ?_ | refine guardD_ret0 ?_ | refine exV_intro _ rfl ?_); (try simp only [go_sem, loadL_a, i64_succ hlt (by omega)]); try ((first | refine hK _ _ ?_ | refine hKP _ _ _ ?_ | refine hKP _ _ (fun _ => ?_)); clear hK hKP K KP))))
        have := ho.done hle2 hji
        refine ⟨(i + 1, m'), _, (by repeat (first | exact LeEnv.nil | refine LeEnv.same ?_ | refine LeEnv.top ?_)), Store.le_refl _, ⟨Nat.le_add_left 1 i, Nat.succ_le_succ (Nat.le_of_lt hlt), hperm, fun p q h1 h2 h3 => this p q h1 (by have h2' : q < i + 1 := h2; omega), rfl⟩, by show l.length + 1 - (i + 1) < l.length + 1 - i; omega⟩
  · (repeat (first | refine Stp.s ?_ | refine inBlock_exit' (by decide) ?_ | ((first | refine vc_region fun K KP hK hKP => ?_ | refine Stg.s ?_ | refine guardD_ret0 ?_ | refine exV_intro _ rfl ?_); (try simp only [go_sem, loadL_a]); try ((first | refine hK _ _ ?_ | refine hKP _ _ _ ?_ | refine hKP _ _ (fun _ => ?_)); clear hK hKP K KP))))
    (simp only [postV, resV, oneOf, List.getD_cons_succ, List.getD_cons_zero, and_true, true_and])
    have hge : l.length ≤ i := by simp at hc; omega
    exact ⟨m, hperm, fun p q h1 h2 => hs p q h1 (by omega) h2, rfl⟩
end Go.Proofs.YtociliegljoldaaGreat

namespace Go.Proofs.YtociliegljoldaaGreat
set_option linter.unusedSimpArgs false
set_option linter.unusedVariables false
open Go.Proofs
attribute [local irreducible] vc vcOps vcDraw vcK vcKP vcDK vcDB HWp HCalls postV Ex.then Ex.inBlock stepD callV appendV guardC guardD exV effV opV loadV storeV indexAddrV indexV sliceV
set_option maxRecDepth 10000
set_option maxHeartbeats 2000000

/-- A slice of numbers that was built, or (f) one of length and room 1 that is borrowed. -/
def Bor (f : Option Nat) (σ0 τ : Store) (x : V) (cs : List V) (n : Nat) : Prop :=
  (Bld 1 σ0 τ x cs n ∧ (f.isSome = true → n ≠ 1)) ∨ (∃ b c spare, f = some b ∧ x = .sl b 0 1 1 ∧ n = 1 ∧ cs = [c] ∧ σ0 b = some (.cells (c :: spare)) ∧ τ = σ0)
theorem Bor.base {f : Option Nat} {σ0 τ : Store} {x : V} {cs : List V} {n : Nat} (h : Bor f σ0 τ x cs n) : σ0.le τ := by
  rcases h with ⟨h, _⟩ | ⟨b, c, spare, _, _, _, _, _, rfl⟩
  · exact h.base
  · exact Store.le_refl _
theorem Bor.push {f : Option Nat} {σ0 τ : Store} {x : V} {cs : List V} {n c : Nat} {kk : Blk} (h : Bor f σ0 τ x cs n) (hc : τ c = none) : Bor f (σ0.set c kk) (τ.set c kk) x cs n := by
  rcases h with ⟨h, hf⟩ | ⟨b, d, spare, hf, rfl, rfl, rfl, hb, rfl⟩
  · exact .inl ⟨h.push hc, hf⟩
  · exact .inr ⟨b, d, spare, hf, rfl, rfl, rfl, Store.keep hc hb _, rfl⟩
theorem Bor.at_ {f : Option Nat} {σ0 τ : Store} {x : V} {cs : List V} {n : Nat} (h : Bor f σ0 τ x cs n) (hn : n ≠ 0) : ∃ b cap spare, x = .sl b 0 n cap ∧ τ b = some (.cells (cs ++ spare)) ∧ ∀ cs', cs'.length = cs.length → (n = 1 → cs' = cs) → Bor f σ0 (τ.set b (.cells (cs' ++ spare))) (.sl b 0 n cap) cs' n := by
  rcases h with ⟨h, hf⟩ | ⟨b, d, spare, hf, rfl, rfl, rfl, hb, rfl⟩
  · obtain ⟨b, cap, spare, e, h1, h2⟩ := h.at_ hn
    exact ⟨b, cap, spare, e, h1, fun cs' hl _ => .inl ⟨h2 cs' hl, hf⟩⟩
  · refine ⟨b, 1, spare, rfl, hb, fun cs' _ he => ?_⟩
    rw [he rfl, Store.set_id (by simpa using hb)]
    exact .inr ⟨b, d, spare, hf, rfl, rfl, rfl, hb, rfl⟩
theorem append_bor {f : Option Nat} {σ0 τ σ : Store} {x y : V} {cs : List V} {n : Nat} {c : V} {K : V → Store → Prop} (hb : Bor f σ0 τ x cs n) (hle : τ.le σ) (hrow : ∀ KK : Nat → List V → Prop, KK 1 [c] → rowV 1 y σ KK) (hc : c.one = true) (hm : n + 1 ≤ 1000000000)
    (h : ∀ x' τ' σ', Bld 1 σ0 τ' x' (cs ++ [c]) (n + 1) → τ'.le σ' → K x' σ') : appendV Tryz.prog 81 81 x y σ K := by
  rcases hb with ⟨hb, _⟩ | ⟨b, d, spare, hf, rfl, rfl, rfl, hb, rfl⟩
  · exact append_int hb hle hrow (m := 1) rfl (by simpa using hc) hm fun x' τ' σ' h1 h2 _ => h x' τ' σ' h1 h2
  · have hσb := hle _ _ hb
    unfold appendV
    rw [Tryz.underlying81]
    show _ ∧ _ ∧ _ ∧ rowV (Tryz.prog.cellsOf 3) y σ _
    rw [ce3]
    refine ⟨by exact trivial, in3, by decide, hrow _ ⟨by simpa using hc, ?_⟩⟩
    simp only [hσb]
    refine ⟨by simp, Nat.le_refl _, by decide, fun q => absurd q (by decide), fun _ => ⟨by decide, ?_, zl3, fun b' cap' hb' h1 h2 => ?_⟩⟩
    · rw [show Tryz.prog.bytesOf 3 = 8 from by kernel_rfl]; decide
    · have h0 : τ b' = none := Store.none_of_le hle hb'
      refine h _ (τ.set b' (.cells ([d] ++ [c] ++ List.replicate ((cap' - 2) * 1) .top))) _ (.inr ⟨b', cap', _, rfl, h0, rfl, rfl, by simp, h1, h2⟩) ?_
      intro e k q
      by_cases he : e = b'
      · rw [he, Store.set_same] at q ⊢; rw [← q]; simp
      · rw [Store.set_other _ _ he] at q ⊢; exact hle _ _ q

/-- What sorting leaves. -/
def Sorts (b : Nat) (l : List Int) (spare : List V) (σ : Store) (r : Res) (σ' : Store) : Prop :=
  ∃ l', r = .ret (oneOf []) ∧ l'.Perm l ∧ (∀ p q, p < q → q < l.length → l'.getD p 0 ≤ l'.getD q 0) ∧ σ' = σ.set b (row l' spare)
theorem pdq (b cap : Nat) (l : List Int) (spare : List V) (σ : Store) (hb : σ b = some (row l spare)) (hn : l.length ≤ 12) (v : Int) :
    HCalls Tryz.prog 172 [.sl b 0 l.length cap, I64 0, I64 l.length, I64 v] σ (Sorts b l spare σ) := by
  (refine HCalls.of_vc Tryz.func172 rfl ?_; rw [Tryz.ntmps172, Tryz.results172]; simp only [List.length_cons, List.length_nil, Nat.reduceAdd, Nat.reduceSub, List.replicate, List.cons_append, List.nil_append])
  (repeat (first | refine Stp.s ?_ | refine inBlock_exit' (by decide) ?_ | ((first | refine vc_region fun K KP hK hKP => ?_ | refine Stg.s ?_ | refine guardD_ret0 ?_ | refine exV_intro _ rfl ?_); (try simp only [go_sem, loadL_a]); try ((first | refine hK _ _ ?_ | refine hKP _ _ _ ?_ | refine hKP _ _ (fun _ => ?_)); clear hK hKP K KP))))
  refine vc_loop (loop_once ?_)
  have hw : IntKind.i64.wrap ((l.length : Int) - 0) = l.length := by rw [i64_in (by omega) (by omega)]; omega
  (repeat (first | refine Stp.s ?_ | refine inBlock_exit' (by decide) ?_ | ((first | refine vc_region fun K KP hK hKP => ?_ | refine Stg.s ?_ | refine guardD_ret0 ?_ | refine exV_intro _ rfl ?_); (try simp only [go_sem, loadL_a, hw]); try ((first | refine hK _ _ ?_ | refine hKP _ _ _ ?_ | refine hKP _ _ (fun _ => ?_)); clear hK hKP K KP))))
  refine vc_cond rfl (fun _ => ?_) (fun hc => absurd hc (by simp; omega))
  (repeat (first | refine Stp.s ?_ | refine inBlock_exit' (by decide) ?_ | ((first | refine vc_region fun K KP hK hKP => ?_ | refine Stg.s ?_ | refine guardD_ret0 ?_ | refine exV_intro _ rfl ?_); (try simp only [go_sem, loadL_a]); try ((first | refine hK _ _ ?_ | refine hKP _ _ _ ?_ | refine hKP _ _ (fun _ => ?_)); clear hK hKP K KP))))
  refine callV_of en211 (ins_sort b cap l spare σ hb (by omega)) (fun x σ' ⟨l', e, hp, hs, es⟩ => ?_) (fun x σ' ⟨l', e, _⟩ => by cases e)
  cases e; subst es
  ((try simp only [go_sem, loadL_a]); refine hK _ _ ?_; clear hK hKP K KP; repeat (first | refine Stp.s ?_ | refine inBlock_exit' (by decide) ?_ | ((first | refine vc_region fun K KP hK hKP => ?_ | refine Stg.s ?_ | refine guardD_ret0 ?_ | refine exV_intro _ rfl ?_); (try simp only [go_sem, loadL_a]); try ((first | refine hK _ _ ?_ | refine hKP _ _ _ ?_ | refine hKP _ _ (fun _ => ?_)); clear hK hKP K KP))))
  (simp only [postV, resV, oneOf, List.getD_cons_succ, List.getD_cons_zero, and_true, true_and])
  exact ⟨l', rfl, hp, hs, rfl⟩
theorem sort (b cap : Nat) (l : List Int) (spare : List V) (σ : Store) (hb : σ b = some (row l spare)) (hn : l.length ≤ 12) :
    HCalls Tryz.prog 115 [.sl b 0 l.length cap] σ (Sorts b l spare σ) := by
  (refine HCalls.of_vc Tryz.func115 rfl ?_; rw [Tryz.ntmps115, Tryz.results115]; simp only [List.length_cons, List.length_nil, Nat.reduceAdd, Nat.reduceSub, List.replicate, List.cons_append, List.nil_append])
  (repeat (first | refine Stp.s ?_ | refine inBlock_exit' (by decide) ?_ | ((first | refine vc_region fun K KP hK hKP => ?_ | refine Stg.s ?_ | refine guardD_ret0 ?_ | refine exV_intro _ rfl ?_); (try simp only [go_sem, loadL_a]); try ((first | refine hK _ _ ?_ | refine hKP _ _ _ ?_ | refine hKP _ _ (fun _ => ?_)); clear hK hKP K KP))))
  have hw : IntKind.u64.wrap (l.length : Int) = l.length := u64_in (by omega) (by omega)
  simp only [go_sem, loadL_a, hw]
  refine callV_of en158 (len l.length hn σ) (fun x σ' ⟨v, e, es⟩ => ?_) (fun x σ' ⟨v, e, es⟩ => by cases e)
  cases e; rw [es]; clear es
  simp only [go_sem, loadL_a]
  refine callV_of en172 (pdq b cap l spare σ hb hn v) (fun x σ' ⟨l', e, hp, hs, es⟩ => ?_) (fun x σ' ⟨l', e, _⟩ => by cases e)
  cases e; subst es
  ((try simp only [go_sem, loadL_a]); refine hK _ _ ?_; clear hK hKP K KP; repeat (first | refine Stp.s ?_ | refine inBlock_exit' (by decide) ?_ | ((first | refine vc_region fun K KP hK hKP => ?_ | refine Stg.s ?_ | refine guardD_ret0 ?_ | refine exV_intro _ rfl ?_); (try simp only [go_sem, loadL_a]); try ((first | refine hK _ _ ?_ | refine hKP _ _ _ ?_ | refine hKP _ _ (fun _ => ?_)); clear hK hKP K KP))))
  (simp only [postV, resV, oneOf, List.getD_cons_succ, List.getD_cons_zero, and_true, true_and])
  exact ⟨l', rfl, hp, hs, rfl⟩

/-- A row of numbers that may be read. -/
structure IRow (x : V) (p : Nat → V) (l : List Int) (σ : Store) : Prop where
  len : ∀ K, lenV Tryz.prog 81 x σ K = K (I64 l.length) σ
  ix : ∀ i, i < l.length → ∀ K, indexAddrV Tryz.prog 81 x (I64 i) σ K = K (p i) σ
  ld : ∀ i, i < l.length → ∀ K, loadV Tryz.prog 3 (p i) σ K = K (I64 (l.getD i 0)) σ
theorem IRow.sl {b cap : Nat} {l : List Int} {spare : List V} {σ : Store} (hb : σ b = some (row l spare)) (hl : l.length ≤ 1000000) : IRow (.sl b 0 l.length cap) (fun i => .ptr b i) l σ where
  len K := by skip
              simp only [go_sem, loadL_a]
  ix i hi K := by
    skip
    have g1 : (0 : Int) ≤ i := by omega
    have g2 : (i : Int) < l.length := by omega
    simp only [go_sem, loadL_a, g1, g2, Int.toNat_natCast]
  ld i hi K := by
    skip
    simp only [go_sem, loadL_a, hb, row_get hi]

theorem index_row (x : V) (p : Nat → V) (l : List Int) (v : Int) (hl : l.length ≤ 9223372036854775807) (σ : Store) (hr : IRow x p l σ) : HQuiet Tryz.prog 171 [x, I64 v] σ (I64 (idxOf (l.findIdx? (v == ·)))) := by
  refine HQuiet.of ?_; (refine HCalls.of_vc Tryz.func171 rfl ?_; rw [Tryz.ntmps171, Tryz.results171]; simp only [List.length_cons, List.length_nil, Nat.reduceAdd, Nat.reduceSub, List.replicate, List.cons_append, List.nil_append])
  (repeat (first | refine Stp.s ?_ | refine inBlock_exit' (by decide) ?_ | ((first | refine vc_region fun K KP hK hKP => ?_ | refine Stg.s ?_ | refine guardD_ret0 ?_ | refine exV_intro _ rfl ?_); (try simp only [go_sem, loadL_a, hr.len]); try ((first | refine hK _ _ ?_ | refine hKP _ _ _ ?_ | refine hKP _ _ (fun _ => ?_)); clear hK hKP K KP))))
  refine vc_loop (loopV (fun (i : Nat) => [x, I64 v, .top, .top, I64 0, .top, x, I64 l.length, I64 i, .top, .top, .top, .top, .top, .top, .top, .top, .top, .top]) (fun i τ => i ≤ l.length ∧ τ = σ ∧ ∀ x ∈ l.take i, (v == x) = false) (fun i _ => l.length - i) 0 (by repeat (first | exact LeEnv.nil | refine LeEnv.same ?_ | refine LeEnv.top ?_)) ⟨Nat.zero_le _, rfl, by simp⟩ ?_)
  rintro i τ ⟨hi, rfl, hno⟩
  (repeat (first | refine Stp.s ?_ | refine inBlock_exit' (by decide) ?_ | ((first | refine vc_region fun K KP hK hKP => ?_ | refine Stg.s ?_ | refine guardD_ret0 ?_ | refine exV_intro _ rfl ?_); (try simp only [go_sem, loadL_a]); try ((first | refine hK _ _ ?_ | refine hKP _ _ _ ?_ | refine hKP _ _ (fun _ => ?_)); clear hK hKP K KP))))
  refine vc_cond rfl (fun hc1 => ?_) (fun hc1 => ?_)
  · have hlt : i < l.length := by simpa using hc1
    have hx : l.getD i 0 = l[i] := by simp [hlt]
    (repeat (first | refine Stp.s ?_ | refine inBlock_exit' (by decide) ?_ | ((first | refine vc_region fun K KP hK hKP => ?_ | refine Stg.s ?_ | refine guardD_ret0 ?_ | refine exV_intro _ rfl ?_); (try simp only [go_sem, loadL_a, hr.ix i hlt, hr.ld i hlt, hx]); try ((first | refine hK _ _ ?_ | refine hKP _ _ _ ?_ | refine hKP _ _ (fun _ => ?_)); clear hK hKP K KP))))
    refine vc_cond rfl (fun hp => ?_) (fun hp => ?_)
    · (repeat (first | refine Stp.s ?_ | refine inBlock_exit' (by decide) ?_ | ((first | refine vc_region fun K KP hK hKP => ?_ | refine Stg.s ?_ | refine guardD_ret0 ?_ | refine exV_intro _ rfl ?_); (try simp only [go_sem, loadL_a]); try ((first | refine hK _ _ ?_ | refine hKP _ _ _ ?_ | refine hKP _ _ (fun _ => ?_)); clear hK hKP K KP))))
      (simp only [postV, resV, oneOf, List.getD_cons_succ, List.getD_cons_zero, and_true, true_and])
      refine Ends.le ?_ (Store.le_refl _)
      have : l.findIdx? (v == ·) = some i := by
        rw [List.findIdx?_eq_some_iff_getElem]
        exact ⟨hlt, hp, fun j hj => by have := hno l[j] (by rw [List.mem_take_iff_getElem]; exact ⟨j, by omega, rfl⟩); simp [this]⟩
      rw [this]; rfl
    · have hw := i64_succ hlt hl
      (repeat (first | refine Stp.s ?_ | refine inBlock_exit' (by decide) ?_ | ((first | refine vc_region fun K KP hK hKP => ?_ | refine Stg.s ?_ | refine guardD_ret0 ?_ | refine exV_intro _ rfl ?_); (try simp only [go_sem, loadL_a, hw]); try ((first | refine hK _ _ ?_ | refine hKP _ _ _ ?_ | refine hKP _ _ (fun _ => ?_)); clear hK hKP K KP))))
      refine ⟨i + 1, _, (by repeat (first | exact LeEnv.nil | refine LeEnv.same ?_ | refine LeEnv.top ?_)), Store.le_refl _, ⟨by omega, rfl, ?_⟩, by omega⟩
      intro x hx'
      rw [List.take_succ_eq_append_getElem hlt] at hx'
      rcases List.mem_append.1 hx' with h | h
      · exact hno x h
      · simp at h; subst h; exact hp
  · (repeat (first | refine Stp.s ?_ | refine inBlock_exit' (by decide) ?_ | ((first | refine vc_region fun K KP hK hKP => ?_ | refine Stg.s ?_ | refine guardD_ret0 ?_ | refine exV_intro _ rfl ?_); (try simp only [go_sem, loadL_a]); try ((first | refine hK _ _ ?_ | refine hKP _ _ _ ?_ | refine hKP _ _ (fun _ => ?_)); clear hK hKP K KP))))
    (simp only [postV, resV, oneOf, List.getD_cons_succ, List.getD_cons_zero, and_true, true_and])
    refine Ends.le ?_ (Store.le_refl _)
    have hge : l.length ≤ i := by simpa using hc1
    rw [List.take_of_length_le hge] at hno
    have : l.findIdx? (v == ·) = none := by rw [List.findIdx?_eq_none_iff]; exact hno
    rw [this]; rfl
theorem contains_row (x : V) (p : Nat → V) (l : List Int) (v : Int) (hl : l.length ≤ 9223372036854775807) (σ : Store) (hr : IRow x p l σ) : HQuiet Tryz.prog 114 [x, I64 v] σ (BV (l.any (v == ·))) := by
  refine HQuiet.of ?_; (refine HCalls.of_vc Tryz.func114 rfl ?_; rw [Tryz.ntmps114, Tryz.results114]; simp only [List.length_cons, List.length_nil, Nat.reduceAdd, Nat.reduceSub, List.replicate, List.cons_append, List.nil_append])
  (repeat (first | refine Stp.s ?_ | refine inBlock_exit' (by decide) ?_ | ((first | refine vc_region fun K KP hK hKP => ?_ | refine Stg.s ?_ | refine guardD_ret0 ?_ | refine exV_intro _ rfl ?_); (try simp only [go_sem, loadL_a]); try ((first | refine hK _ _ ?_ | refine hKP _ _ _ ?_ | refine hKP _ _ (fun _ => ?_)); clear hK hKP K KP))))
  ((try simp only [go_sem, loadL_a]); refine callV_quiet en171 (index_row x p l v hl _ hr) ?_)
  ((try simp only [go_sem, loadL_a]); (try ((first | refine hK _ _ ?_ | refine hKP _ _ _ ?_ | refine hKP _ _ (fun _ => ?_)); clear hK hKP K KP)); repeat (first | refine Stp.s ?_ | refine inBlock_exit' (by decide) ?_ | ((first | refine vc_region fun K KP hK hKP => ?_ | refine Stg.s ?_ | refine guardD_ret0 ?_ | refine exV_intro _ rfl ?_); (try simp only [go_sem, loadL_a]); try ((first | refine hK _ _ ?_ | refine hKP _ _ _ ?_ | refine hKP _ _ (fun _ => ?_)); clear hK hKP K KP))))
  (simp only [postV, resV, oneOf, List.getD_cons_succ, List.getD_cons_zero, and_true, true_and])
  exact Ends.le (by rw [any_idx]) (Store.le_refl _)
end Go.Proofs.YtociliegljoldaaGreat

