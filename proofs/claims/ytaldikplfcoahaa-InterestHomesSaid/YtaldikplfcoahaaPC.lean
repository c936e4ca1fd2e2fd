/- Plain: the nodes one comes to, reckoned. -/
import Derived.Test.YtaldikplfcoahaaPB
namespace Go.Proofs.Ytaldikplfcoahaa
set_option linter.unusedSimpArgs false
set_option linter.unusedVariables false

variable {t : Tr} {w s x y : Int}
def Tr.grow (t : Tr) (w : Int) (S : List Int) : List Int := nums.filter fun y => S.any (· == y) || (y != w && S.any fun x => t.adj x y)
def Tr.clo (t : Tr) (w s : Int) : Nat → List Int
  | 0 => nums.filter (· == s)
  | k + 1 => t.grow w (t.clo w s k)
theorem mem_grow {S : List Int} : y ∈ t.grow w S ↔ y ∈ nums ∧ (y ∈ S ∨ y ≠ w ∧ ∃ x ∈ S, t.adj x y = true) := by
  unfold Tr.grow
  rw [List.mem_filter, Bool.or_eq_true, Bool.and_eq_true, bne_iff_ne, List.any_eq_true, List.any_eq_true]
  simp
theorem clo_nums {k : Nat} (h : y ∈ t.clo w s k) : y ∈ nums := by
  cases k with
  | zero => exact (List.mem_filter.1 h).1
  | succ k => exact (mem_grow.1 h).1
theorem clo_nd (k : Nat) : (t.clo w s k).Nodup := by
  cases k <;> exact List.Pairwise.filter _ (show nums.Pairwise (· ≠ ·) by decide)
theorem clo_rch {k : Nat} : ∀ {y : Int}, y ∈ t.clo w s k → Rch t w s y := by
  induction k with
  | zero => intro y h; have := (List.mem_filter.1 h).2; rw [beq_iff_eq] at this; rw [this]; exact .refl
  | succ k ih =>
    intro y h
    rcases (mem_grow.1 h).2 with q | ⟨q, x, hx, ha⟩
    · exact ih q
    · exact .step (ih hx) ha q
theorem clo_up {k : Nat} (h : y ∈ t.clo w s k) : y ∈ t.clo w s (k + 1) := mem_grow.2 ⟨clo_nums h, .inl h⟩
theorem clo_le {j k : Nat} (hjk : j ≤ k) (h : y ∈ t.clo w s j) : y ∈ t.clo w s k := by
  induction hjk with
  | refl => exact h
  | step _ ih => exact clo_up ih
theorem clo_fix : ∃ k, k ≤ 12 ∧ ∀ y, y ∈ t.clo w s (k + 1) → y ∈ t.clo w s k := by
  apply Classical.byContradiction
  intro hno
  have key : ∀ k, k ≤ 13 → k ≤ (t.clo w s k).length := by
    intro k
    induction k with
    | zero => intro _; omega
    | succ k ih =>
      intro hk
      have h1 := ih (by omega)
      have h2 : ∃ y, y ∈ t.clo w s (k + 1) ∧ y ∉ t.clo w s k := by
        apply Classical.byContradiction
        intro h
        exact hno ⟨k, by omega, fun y hy => Classical.byContradiction fun hn => h ⟨y, hy, hn⟩⟩
      obtain ⟨y, y1, y2⟩ := h2
      have := nodup_le (y :: t.clo w s k) (t.clo w s (k + 1)) (List.nodup_cons.2 ⟨y2, clo_nd k⟩) fun z hz => by
        rcases List.mem_cons.1 hz with q | q
        · rw [q]; exact y1
        · exact clo_up q
      rw [List.length_cons] at this; omega
  have h1 := key 13 (by omega)
  have h2 := nodup_le _ nums (clo_nd (t := t) (w := w) (s := s) 13) fun _ h => clo_nums h
  simp [nums] at h2; omega
theorem wset_clo (hs : s ∈ nums) : t.wset w s = t.clo w s 12 := by
  obtain ⟨k, hk, hf⟩ := clo_fix (t := t) (w := w) (s := s)
  have hin : ∀ x, Rch t w s x → x ∈ t.clo w s k := fun x hx => by
    induction hx with
    | refl => exact clo_le (Nat.zero_le k) (List.mem_filter.2 ⟨hs, by simp⟩)
    | step _ ha hw ih => exact hf _ (mem_grow.2 ⟨adj_nums ha, .inr ⟨hw, _, ih, ha⟩⟩)
  rw [show t.clo w s 12 = t.grow w (t.clo w s 11) from rfl]
  unfold Tr.wset Tr.grow
  refine List.filter_congr fun x hx => ?_
  rw [Bool.eq_iff_iff]
  refine Iff.trans (by simp) (?_ : Rch t w s x ↔ _)
  have e : x ∈ t.clo w s 12 ↔ (((t.clo w s 11).any (· == x) || (x != w && (t.clo w s 11).any fun z => t.adj z x)) = true) := by
    rw [show t.clo w s 12 = t.grow w (t.clo w s 11) from rfl]
    unfold Tr.grow
    rw [List.mem_filter]; exact ⟨fun q => q.2, fun q => ⟨hx, q⟩⟩
  rw [← e]
  exact ⟨fun h => clo_le hk (hin x h), clo_rch⟩
theorem beyond_clo (n m : Int) : t.beyond n m = if t.adj n m = true then t.clo n m 12 else [] := by
  unfold Tr.beyond
  by_cases h : t.adj n m = true
  · rw [if_pos h, if_pos h, wset_clo (adj_nums h)]
  · rw [if_neg h, if_neg h]
def Tr.wantsC (t : Tr) (n m cart : Int) : Bool := (t.homes cart).any fun h => (if t.adj n m = true then t.clo n m 12 else []).any (h == ·)
theorem wants_clo (n m cart : Int) : t.wants n m cart = t.wantsC n m cart := by unfold Tr.wants Tr.wantsC; rw [beyond_clo]
def Tr.towardC (t : Tr) (n fr cart : Int) : List Int := (t.next n).filter fun m => (m != fr) && t.wantsC n m cart
theorem toward_clo (n fr cart : Int) : t.toward n fr cart = t.towardC n fr cart := by unfold Tr.toward Tr.towardC; simp only [wants_clo]
def Tr.rightC (t : Tr) : Bool := t.kindsOk && t.edgesOk && (nums.all t.hung) && (match t.nodes 3 with
  | [] => t.all == 0
  | s :: _ => ((t.edges.length : Int) == (t.all : Int) - 1) && (t.clo 0 s 12).length == t.all)
theorem right_clo : t.right = t.rightC := by
  unfold Tr.right Tr.rightC
  cases h : t.nodes 3 with
  | nil => rfl
  | cons c l => simp only [wset_clo (node3_there h).1]
def Tr.bfsC (t : Tr) (cart : Int) : Nat → List (Int × Int) → List Int → List Int
  | 0, _, out => out
  | f + 1, q, out => let r := t.pass (fun n fr => t.towardC n fr cart) q out
    if 0 < r.1.length ∧ r.2.length < 144 then Tr.bfsC t cart f r.1 r.2 else r.2
theorem bfs_clo (cart : Int) : ∀ f q out, t.bfs cart f q out = t.bfsC cart f q out := by
  intro f
  induction f with
  | zero => intro q out; rfl
  | succ f ih =>
    intro q out
    have e : (fun n fr => t.toward n fr cart) = (fun n fr => t.towardC n fr cart) := funext fun n => funext fun fr => toward_clo n fr cart
    unfold Tr.bfs Tr.bfsC
    simp only [e, ih]
def Tr.reachC (t : Tr) (s cart : Int) : List Int := if t.rightC = true then (t.bfsC cart 1000 [(s, 0)] []).take 144 else []
theorem reach_clo (s cart : Int) : t.reach s cart = t.reachC s cart := by unfold Tr.reach Tr.reachC; rw [right_clo, bfs_clo]

/-- A home 1, a shard 2, a serializer 3. -/
def small : Tr := ⟨[1, 2, 3, 0, 0, 0, 0, 0, 0, 0, 0, 0], [(1, 3), (2, 3)]⟩
theorem small_ok : small.Ok := ⟨rfl, by decide⟩
theorem small1 : small.toward 3 2 1 = [1] := by rw [toward_clo]; decide
theorem small2 : small.reach 2 1 = [3, 1] := by rw [reach_clo]; decide
theorem small3 : small.wants 2 3 1 = true := by rw [wants_clo]; decide
theorem small4 : small.wants 3 2 1 = false := by rw [wants_clo]; decide
theorem small5 : small.reach 1 1 = [] := by rw [reach_clo]; decide
theorem small6 : small.right = true := by rw [right_clo]; decide
end Go.Proofs.Ytaldikplfcoahaa
