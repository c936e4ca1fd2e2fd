/- A relay's bytes; fixed calls. -/
import Derived.Test.YtbgagffpmdlilaaK3
namespace Go.Proofs.Ytbgagffpmdlilaa
set_option linter.unusedSimpArgs false
set_option linter.unusedVariables false
open Go.Proofs
attribute [local irreducible] vc vcOps vcDraw vcK vcKP vcDK vcDB HWp HCalls postV Ex.then Ex.inBlock stepD callV appendV guardC guardD exV effV opV loadV storeV indexAddrV indexV sliceV
set_option maxRecDepth 10000
set_option maxHeartbeats 4000000

def relaB (t : Tr) (n : Int) (c : Cnt) : List UInt8 := (t.next n).flatMap fun m => numB (c (m - 1).toNat).1 ++ numB (c (m - 1).toNat).2
theorem relaB_le (t : Tr) (n : Int) (c : Cnt) (i : Nat) : (((t.next n).take i).flatMap fun m => numB (c (m - 1).toNat).1 ++ numB (c (m - 1).toNat).2).length ≤ 264 := by
  have := flat_len (fun m : Int => numB (c (m - 1).toNat).1 ++ numB (c (m - 1).toNat).2) 22 (fun m => by have := numB_len (c (m - 1).toNat).1; have := numB_len (c (m - 1).toNat).2; simp only [List.length_append]; omega) ((t.next n).take i)
  have h2 := next_len t n
  rw [List.length_take] at this
  omega
theorem rput (b : Nat) (σ : Store) (t : Tr) (ht : t.Ok) (n : Int) (c : Cnt) (hn : 0 < n) (hM : ∀ j, (c j).1 < 18446744073709551616 ∧ (c j).2 < 18446744073709551616) (w : Nat) (bs : List UInt8) (ob : Option Nat) (hw : Wr σ w bs ob) (h : Off σ w ob b (.cells (rlC t n c))) (hl : bs.length ≤ 1000000) :
    HCalls Try.prog 150 [.ptr b 0, .ptr w 0] σ fun r σ' => r = .ret unitV ∧ ∃ ob', Wr σ' w (bs ++ relaB t n c) ob' ∧ WStep σ σ' w ob ob' := by
  (refine HCalls.of_vc Try.func150 rfl ?_; rw [Try.ntmps150, Try.results150]; simp only [List.length_cons, List.length_nil, Nat.reduceAdd, Nat.reduceSub, List.replicate, List.cons_append, List.nil_append])
  (repeat (first | refine Stp.s ?_ | refine inBlock_exit' (by decide) ?_ | ((first | refine vc_region fun K KP hK hKP => ?_ | refine Stg.s ?_ | refine guardD_ret0 ?_ | refine exV_intro _ rfl ?_); (try simp only [go_sem, loadL_a]); try ((first | refine hK _ _ ?_ | refine hKP _ _ _ ?_ | refine hKP _ _ (fun _ => ?_)); clear hK hKP K KP))))
  ((try simp only [go_sem, loadL_a]); refine callV_quiet en102 (rnextm b σ t ht n c h.1 hn) ?_)
  ((try simp only [go_sem, loadL_a, List.length_map]); (try ((first | refine hK _ _ ?_ | refine hKP _ _ _ ?_ | refine hKP _ _ (fun _ => ?_)); clear hK hKP K KP)); repeat (first | refine Stp.s ?_ | refine inBlock_exit' (by decide) ?_ | ((first | refine vc_region fun K KP hK hKP => ?_ | refine Stg.s ?_ | refine guardD_ret0 ?_ | refine exV_intro _ rfl ?_); (try simp only [go_sem, loadL_a, List.length_map]); try ((first | refine hK _ _ ?_ | refine hKP _ _ _ ?_ | refine hKP _ _ (fun _ => ?_)); clear hK hKP K KP))))
  have hnl := next_len t n
  refine vc_loop (loopV (fun (a : Nat × Option Nat) => [.ptr b 0, .ptr w 0, .top, .top, .top, .top, .top, ints (t.next n), I64 (t.next n).length, I64 a.1, .top, .top, .top, .top, .top, .top, .top, .top, .top, .top, .top, .top, .top, .top, .top, .top, .top, .top, .top, .top, .top, .top, .top]) (fun a τ => a.1 ≤ (t.next n).length ∧ Wr τ w (bs ++ ((t.next n).take a.1).flatMap fun m => numB (c (m - 1).toNat).1 ++ numB (c (m - 1).toNat).2) a.2 ∧ WStep σ τ w ob a.2 ∧ Off τ w a.2 b (.cells (rlC t n c))) (fun a _ => (t.next n).length - a.1) (0, ob) (by repeat (first | exact LeEnv.nil | refine LeEnv.same ?_ | refine LeEnv.top ?_)) ⟨by omega, by simpa using hw, WStep.refl, h⟩ ?_)
  clear hw h
  rintro ⟨i, ob'⟩ τ ⟨hi, hw, hs, h⟩
  simp only at hi hw hs h
  (repeat (first | refine Stp.s ?_ | refine inBlock_exit' (by decide) ?_ | ((first | refine vc_region fun K KP hK hKP => ?_ | refine Stg.s ?_ | refine guardD_ret0 ?_ | refine exV_intro _ rfl ?_); (try simp only [go_sem, loadL_a]); try ((first | refine hK _ _ ?_ | refine hKP _ _ _ ?_ | refine hKP _ _ (fun _ => ?_)); clear hK hKP K KP))))
  refine vc_cond rfl (fun hc => ?_) (fun hc => ?_)
  · have hlt : i < (t.next n).length := by simpa using hc
    have g0 := le_eq (show (0 : Int) ≤ i by omega)
    have g1 := lt_eq (show (i : Int) < (t.next n).length by omega)
    have hx : ((t.next n).map I64).getD i .top = I64 (t.next n)[i] := getD_map I64 _ i hlt
    have htk := List.take_succ_eq_append_getElem hlt
    have hbd := next_bnd (List.getElem_mem hlt)
    have hlen := relaB_le t n c i
    generalize (t.next n)[i] = m at *
    have hw2 : IntKind.i64.wrap (m - 1) = m - 1 := i64_in (by omega) (by omega)
    have g6 := eq_true (show (0 : Int) ≤ m - 1 by omega)
    have g7 := eq_true (show m - 1 < ((12 : Nat) : Int) by omega)
    have hi3 : (m - 1).toNat < 12 := by omega
    have hr1 := rlC_came (n := n) (c := c) ht (m - 1).toNat hi3
    have hr2 := rlC_went (n := n) (c := c) ht (m - 1).toNat hi3
    have hMm := hM (m - 1).toNat
    have l1 := numB_len (c (m - 1).toNat).1
    have l2 := numB_len (c (m - 1).toNat).2
    (repeat (first | refine Stp.s ?_ | refine inBlock_exit' (by decide) ?_ | ((first | refine vc_region fun K KP hK hKP => ?_ | refine Stg.s ?_ | refine guardD_ret0 ?_ | refine exV_intro _ rfl ?_); (try simp only [go_sem, loadL_a, g0, g1, hx, Int.toNat_natCast, List.length_map]); try ((first | refine hK _ _ ?_ | refine hKP _ _ _ ?_ | refine hKP _ _ (fun _ => ?_)); clear hK hKP K KP))))
    ((repeat first | refine Stp.s ?_ | refine inBlock_exit' (by decide) ?_); refine vc_draw mixed [ 9, 18 ] [0, 1, 2, 3, 4, 5, 6, 7, 8, 10, 11, 12, 13, 14, 15, 16, 17, 9, 18 ] [ 8 ] [18] (fun υ => υ b = some (.cells (rlC t n c))) (by kernel_rfl) (by kernel_rfl) (by kernel_rfl) (h.1) fun K KP hK hKP => ?_; simp only [go_sem, loadL_a, h.1, hw2, g6, g7, hr1]; try ((first | refine hK _ _ ?_ | refine hKP _ _ _ ?_ | refine hKP _ _ (fun _ => ?_)); clear hK hKP K KP))
    ((try simp only [go_sem, loadL_a, h.1, hw2, g6, g7, hr1]); (try ((first | refine hK _ _ ?_ | refine hKP _ _ _ ?_ | refine hKP _ _ (fun _ => ?_)); clear hK hKP K KP)); repeat (first | refine Stp.s ?_ | refine inBlock_exit' (by decide) ?_ | ((first | refine vc_region fun K KP hK hKP => ?_ | refine Stg.s ?_ | refine guardD_ret0 ?_ | refine exV_intro _ rfl ?_); (try simp only [go_sem, loadL_a, h.1, hw2, g6, g7, hr1]); try ((first | refine hK _ _ ?_ | refine hKP _ _ _ ?_ | refine hKP _ _ (fun _ => ?_)); clear hK hKP K KP))))
    refine exV_intro (U64 (c (m - 1).toNat).2) (fun υ hυ => by rw [hυ]; simp only [hr2]) ?_
    ((try simp only [go_sem, loadL_a]); (try ((first | refine hK _ _ ?_ | refine hKP _ _ _ ?_ | refine hKP _ _ (fun _ => ?_)); clear hK hKP K KP)); repeat (first | refine Stp.s ?_ | refine inBlock_exit' (by decide) ?_ | ((first | refine vc_region fun K KP hK hKP => ?_ | refine Stg.s ?_ | refine guardD_ret0 ?_ | refine exV_intro _ rfl ?_); (try simp only [go_sem, loadL_a]); try ((first | refine hK _ _ ?_ | refine hKP _ _ _ ?_ | refine hKP _ _ (fun _ => ?_)); clear hK hKP K KP))))
    have hlb : (bs ++ ((t.next n).take i).flatMap fun m => numB (c (m - 1).toNat).1 ++ numB (c (m - 1).toNat).2).length ≤ 1000264 := by rw [List.length_append]; omega
    refine effV_intro (callV_wr (num_wr _ hMm.1) hw (by omega) (fun ob3 σ3 hw8 hs8 => ⟨(h.step hs8).1, ?_⟩))
    ((try simp only [go_sem, loadL_a]); (try ((first | refine hK _ _ ?_ | refine hKP _ _ _ ?_ | refine hKP _ _ (fun _ => ?_)); clear hK hKP K KP)); repeat (first | refine Stp.s ?_ | refine inBlock_exit' (by decide) ?_ | ((first | refine vc_region fun K KP hK hKP => ?_ | refine Stg.s ?_ | refine guardD_ret0 ?_ | refine exV_intro _ rfl ?_); (try simp only [go_sem, loadL_a]); try ((first | refine hK _ _ ?_ | refine hKP _ _ _ ?_ | refine hKP _ _ (fun _ => ?_)); clear hK hKP K KP))))
    refine callV_wr (num_wr _ hMm.2) hw8 (by rw [List.length_append]; omega) (fun ob4 σ4 hw9 hs9 => ?_)
    ((try simp only [go_sem, loadL_a, i64_nsucc (show i < 1000000 by omega)]); (try ((first | refine hK _ _ ?_ | refine hKP _ _ _ ?_ | refine hKP _ _ (fun _ => ?_)); clear hK hKP K KP)); repeat (first | refine Stp.s ?_ | refine inBlock_exit' (by decide) ?_ | ((first | refine vc_region fun K KP hK hKP => ?_ | refine Stg.s ?_ | refine guardD_ret0 ?_ | refine exV_intro _ rfl ?_); (try simp only [go_sem, loadL_a, i64_nsucc (show i < 1000000 by omega)]); try ((first | refine hK _ _ ?_ | refine hKP _ _ _ ?_ | refine hKP _ _ (fun _ => ?_)); clear hK hKP K KP))))
    refine ⟨(i + 1, ob4), σ4, (by repeat (first | exact LeEnv.nil | refine LeEnv.same ?_ | refine LeEnv.top ?_)), Store.le_refl _, ⟨hlt, ?_, hs.trans (hs8.trans hs9), (h.step hs8).step hs9⟩, by show (t.next n).length - (i + 1) < (t.next n).length - i; omega⟩
    show Wr σ4 w (bs ++ ((t.next n).take (i + 1)).flatMap fun m => numB (c (m - 1).toNat).1 ++ numB (c (m - 1).toNat).2) ob4
    rw [htk, List.flatMap_append, ← List.append_assoc]
    simpa using hw9
  · have hii : i = (t.next n).length := by simp at hc; omega
    subst hii
    rw [List.take_length] at hw
    (repeat (first | refine Stp.s ?_ | refine inBlock_exit' (by decide) ?_ | ((first | refine vc_region fun K KP hK hKP => ?_ | refine Stg.s ?_ | refine guardD_ret0 ?_ | refine exV_intro _ rfl ?_); (try simp only [go_sem, loadL_a]); try ((first | refine hK _ _ ?_ | refine hKP _ _ _ ?_ | refine hKP _ _ (fun _ => ?_)); clear hK hKP K KP))))
    (simp only [postV, resV, oneOf, List.getD_cons_succ, List.getD_cons_zero, and_true, true_and])
    exact ⟨ob', hw, hs⟩
theorem rnode (b : Nat) (σ : Store) (t : Tr) (ht : t.Ok) (n : Int) (c : Cnt) (h : σ b = some (.cells (rlC t n c))) : HQuiet Try.prog 95 [.ptr b 0] σ (I64 n) := by
  refine HQuiet.of ?_; (refine HCalls.of_vc Try.func95 rfl ?_; rw [Try.ntmps95, Try.results95]; simp only [List.length_cons, List.length_nil, Nat.reduceAdd, Nat.reduceSub, List.replicate, List.cons_append, List.nil_append])
  (repeat (first | refine Stp.s ?_ | refine inBlock_exit' (by decide) ?_ | ((first | refine vc_region fun K KP hK hKP => ?_ | refine Stg.s ?_ | refine guardD_ret0 ?_ | refine exV_intro _ rfl ?_); (try simp only [go_sem, loadL_a]); try ((first | refine hK _ _ ?_ | refine hKP _ _ _ ?_ | refine hKP _ _ (fun _ => ?_)); clear hK hKP K KP))))
  refine vc_cond rfl (fun hc => absurd hc (by decide)) (fun _ => ?_)
  (repeat (first | refine Stp.s ?_ | refine inBlock_exit' (by decide) ?_ | ((first | refine vc_region fun K KP hK hKP => ?_ | refine Stg.s ?_ | refine guardD_ret0 ?_ | refine exV_intro _ rfl ?_); (try simp only [go_sem, loadL_a, h, rlC_node ht]); try ((first | refine hK _ _ ?_ | refine hKP _ _ _ ?_ | refine hKP _ _ (fun _ => ?_)); clear hK hKP K KP))))
  (simp only [postV, resV, oneOf, List.getD_cons_succ, List.getD_cons_zero, and_true, true_and])
  exact Ends.le rfl (Store.le_refl _)
theorem save20 (b : Nat) (σ : Store) (t : Tr) (ht : t.Ok) (n : Int) (c : Cnt) (hn : 0 < n) (hM : ∀ j, (c j).1 < 18446744073709551616 ∧ (c j).2 < 18446744073709551616) (h : σ b = some (.cells (rlC t n c))) : HQuiet Try.prog 96 [.ptr b 0] σ (.val (.string ⟨(relaB t n c).toArray⟩)) := by
  refine HQuiet.of ?_; (refine HCalls.of_vc Try.func96 rfl ?_; rw [Try.ntmps96, Try.results96]; simp only [List.length_cons, List.length_nil, Nat.reduceAdd, Nat.reduceSub, List.replicate, List.cons_append, List.nil_append])
  (repeat (first | refine Stp.s ?_ | refine inBlock_exit' (by decide) ?_ | ((first | refine vc_region fun K KP hK hKP => ?_ | refine Stg.s ?_ | refine guardD_ret0 ?_ | refine exV_intro _ rfl ?_); (try simp only [go_sem, loadL_a]); try ((first | refine hK _ _ ?_ | refine hKP _ _ _ ?_ | refine hKP _ _ (fun _ => ?_)); clear hK hKP K KP))))
  refine callV_of en81 (new_call σ) (fun x σ' q => ?_) (fun x σ' q => ?_)
  · obtain ⟨w, e, hw0, rfl⟩ := q
    cases e
    have hwr : Wr (σ.set w (.cells [nilS])) w [] none := Wr.new
    have h1' := Store.keep hw0 h (.cells [nilS])
    have hle2 : σ.le (σ.set w (.cells [nilS])) := Store.le_set hw0 (Store.le_refl _)
    have hbw : b ≠ w := fun e => by rw [e, hw0] at h; cases h
    ((try simp only [go_sem, loadL_a]); (try ((first | refine hK _ _ ?_ | refine hKP _ _ _ ?_ | refine hKP _ _ (fun _ => ?_)); clear hK hKP K KP)); repeat (first | refine Stp.s ?_ | refine inBlock_exit' (by decide) ?_ | ((first | refine vc_region fun K KP hK hKP => ?_ | refine Stg.s ?_ | refine guardD_ret0 ?_ | refine exV_intro _ rfl ?_); (try simp only [go_sem, loadL_a]); try ((first | refine hK _ _ ?_ | refine hKP _ _ _ ?_ | refine hKP _ _ (fun _ => ?_)); clear hK hKP K KP))))
    refine callV_of en150 (rput b _ t ht n c hn hM w [] none hwr ⟨h1', hbw, by simp⟩ (by simp)) (fun x σ' q => ?_) (fun x σ' q => ?_)
    · obtain ⟨e, ob', hw', hs'⟩ := q
      cases e
      rw [List.nil_append] at hw'
      have hlen : (relaB t n c).length ≤ 1000000000 := by
        have := relaB_le t n c 12
        rw [List.take_of_length_le (next_len t n)] at this
        unfold relaB; omega
      ((try simp only [go_sem, loadL_a]); (try ((first | refine hK _ _ ?_ | refine hKP _ _ _ ?_ | refine hKP _ _ (fun _ => ?_)); clear hK hKP K KP)); repeat (first | refine Stp.s ?_ | refine inBlock_exit' (by decide) ?_ | ((first | refine vc_region fun K KP hK hKP => ?_ | refine Stg.s ?_ | refine guardD_ret0 ?_ | refine exV_intro _ rfl ?_); (try simp only [go_sem, loadL_a]); try ((first | refine hK _ _ ?_ | refine hKP _ _ _ ?_ | refine hKP _ _ (fun _ => ?_)); clear hK hKP K KP))))
      refine callV_quiet en83 (bytes_call hw' hlen) ?_
      ((try simp only [go_sem, loadL_a]); (try ((first | refine hK _ _ ?_ | refine hKP _ _ _ ?_ | refine hKP _ _ (fun _ => ?_)); clear hK hKP K KP)); repeat (first | refine Stp.s ?_ | refine inBlock_exit' (by decide) ?_ | ((first | refine vc_region fun K KP hK hKP => ?_ | refine Stg.s ?_ | refine guardD_ret0 ?_ | refine exV_intro _ rfl ?_); (try simp only [go_sem, loadL_a]); try ((first | refine hK _ _ ?_ | refine hKP _ _ _ ?_ | refine hKP _ _ (fun _ => ?_)); clear hK hKP K KP))))
      refine ⟨relaB t n c, rfl, ⟨_, rfl, Try.underlying5⟩, ?_⟩
      ((try simp only [go_sem, loadL_a]); (try ((first | refine hK _ _ ?_ | refine hKP _ _ _ ?_ | refine hKP _ _ (fun _ => ?_)); clear hK hKP K KP)); repeat (first | refine Stp.s ?_ | refine inBlock_exit' (by decide) ?_ | ((first | refine vc_region fun K KP hK hKP => ?_ | refine Stg.s ?_ | refine guardD_ret0 ?_ | refine exV_intro _ rfl ?_); (try simp only [go_sem, loadL_a]); try ((first | refine hK _ _ ?_ | refine hKP _ _ _ ?_ | refine hKP _ _ (fun _ => ?_)); clear hK hKP K KP))))
      (simp only [postV, resV, oneOf, List.getD_cons_succ, List.getD_cons_zero, and_true, true_and])
      refine Ends.le rfl fun c l hc => ?_
      exact hs'.keep c l (hle2 c l hc) (fun e => by rw [e, hw0] at hc; cases hc) (by simp)
    · exact absurd q.1 (by simp)
  · obtain ⟨w, e, _⟩ := q; cases e
def lab20 : Lb := ⟨1, 2, 1, 1, 1, [0, 0, 0, 0, 0, 0, 0, 0, 0, 0, 0, 0]⟩
theorem lab20_ok : lab20.Ok := ⟨rfl, by decide⟩
theorem lab20_right : lab20.right = true := by decide
theorem small_n3 : small.nodes 3 = [3] := by decide
theorem small_t2 : small.toward 3 2 1 = [1] := by rw [toward_clo]; decide
theorem small_t1 : small.toward 3 1 1 = [] := by rw [toward_clo]; decide
def c20a : Cnt := hearC Cnt0 2 [1]
def c20b : Cnt := hearC c20a 1 []
theorem hear20a : rlHear small 3 Cnt0 2 lab20 = ([1], 0, c20a) := by
  unfold rlHear; rw [small7, if_pos (by decide), if_pos lab20_right, show lab20.cart = 1 from rfl, small_t2]; rfl
theorem hear20b : rlHear small 3 c20a 1 lab20 = ([], 0, c20b) := by
  unfold rlHear; rw [small7, if_pos (by decide), if_pos lab20_right, show lab20.cart = 1 from rfl, small_t1]; rfl
theorem hear20c : rlHear small 3 c20b 3 lab20 = ([], 11, c20b) := by
  unfold rlHear; rw [small7, if_neg (by decide)]
theorem cnt0_le : ∀ j, (Cnt0 j).1 ≤ 0 ∧ (Cnt0 j).2 ≤ 0 := fun j => ⟨Nat.le_refl _, Nat.le_refl _⟩
theorem hearC_le {c : Cnt} {fr : Int} {l : List Int} {M : Nat} (h : ∀ j, (c j).1 ≤ M ∧ (c j).2 ≤ M) : ∀ j, ((hearC c fr l) j).1 ≤ M + 1 + l.length ∧ ((hearC c fr l) j).2 ≤ M + 1 + l.length := setWents_le l _ (M + 1) (setCame_le h)
theorem c20a_le : ∀ j, (c20a j).1 ≤ 2 ∧ (c20a j).2 ≤ 2 := hearC_le cnt0_le
theorem c20b_le : ∀ j, (c20b j).1 ≤ 3 ∧ (c20b j).2 ≤ 3 := hearC_le c20a_le
theorem count20 : (if (1 : Int) ∈ small.next 3 then V.tup [U64 (c20b ((1 : Int) - 1).toNat).1, U64 (c20b ((1 : Int) - 1).toNat).2] else .tup [U64 0, U64 0]) = .tup [U64 1, U64 1] := by
  rw [small7, if_pos (by decide)]; rfl
theorem save20s : relaB small 3 c20b = [1, 1, 1, 0] := by unfold relaB; rw [small7]; decide
theorem relNew_ok {t : Tr} {n : Int} {σ : Store} (h : t.right = true) (hn : n ∈ t.nodes 3) : relNew t n σ = EndsNew (fun b => .tup [.ptr b 0, I64 0]) (.cells (rlC t n Cnt0)) σ := by unfold relNew; rw [if_pos h, if_pos hn]
theorem relNew_no {t : Tr} {n : Int} {σ : Store} (h : t.right = true) (hn : n ∉ t.nodes 3) : relNew t n σ = Ends (.tup [nilP, I64 11]) σ := by unfold relNew; rw [if_pos h, if_neg hn]
theorem relNew_bad {t : Tr} {n : Int} {σ : Store} (h : ¬t.right = true) : relNew t n σ = Ends (.tup [nilP, I64 3]) σ := by unfold relNew; rw [if_neg h]

theorem nc0 : ((0 : Nat) : Int) = 0 := rfl
theorem nc1 : ((1 : Nat) : Int) = 1 := rfl
theorem nc2 : ((2 : Nat) : Int) = 2 := rfl
theorem nc3 : ((3 : Nat) : Int) = 3 := rfl
theorem nz0 : Int.toNat 0 = 0 := rfl
theorem nz1 : Int.toNat 1 = 1 := rfl
theorem nz2 : Int.toNat 2 = 2 := rfl
theorem nq1 : ((0 : Int) ≤ 1) = True := by decide
theorem nq2 : ((0 : Int) < 1) = True := by decide
theorem nq3 : ((0 : Int) < 2) = True := by decide
theorem nq4 : ((1 : Int) < 2) = True := by decide
theorem nq5 : ((0 : Int) ≤ 2) = True := by decide
theorem alive20 : HPure Try.prog 23 [] (BV true) := by
  (refine HPure.of en23 fun σ => ?_); (refine HCalls.of_vc Try.func23 rfl ?_; rw [Try.ntmps23, Try.results23]; simp only [List.length_cons, List.length_nil, Nat.reduceAdd, Nat.reduceSub, List.replicate, List.cons_append, List.nil_append])
  (repeat (first | refine Stp.s ?_ | refine inBlock_exit' (by decide) ?_ | ((first | refine vc_region fun K KP hK hKP => ?_ | refine Stg.s ?_ | refine guardD_ret0 ?_ | refine exV_intro _ rfl ?_); (try simp only [go_sem, loadL_a]); try ((first | refine hK _ _ ?_ | refine hKP _ _ _ ?_ | refine hKP _ _ (fun _ => ?_)); clear hK hKP K KP))))
  ((try simp only [go_sem, loadL_a]); first | refine callV_pure (small_pure) ?_ | refine guardC_q0 (fun _ => callV_pure (small_pure) ⟨rfl, rfl⟩) ?_)
  ((try simp only [go_sem, loadL_a]); (try ((first | refine hK _ _ ?_ | refine hKP _ _ _ ?_ | refine hKP _ _ (fun _ => ?_)); clear hK hKP K KP)); repeat (first | refine Stp.s ?_ | refine inBlock_exit' (by decide) ?_ | ((first | refine vc_region fun K KP hK hKP => ?_ | refine Stg.s ?_ | refine guardD_ret0 ?_ | refine exV_intro _ rfl ?_); (try simp only [go_sem, loadL_a]); try ((first | refine hK _ _ ?_ | refine hKP _ _ _ ?_ | refine hKP _ _ (fun _ => ?_)); clear hK hKP K KP))))
  refine callV_new en24 (by have := rnew small small_ok 3 σ; rw [relNew_ok small6 (by rw [small_n3]; decide)] at this; exact this) (fun b1 hb1 => ?_)
  have h1 := Store.set_same σ b1 (.cells (rlC small 3 Cnt0))
  have hle1 := Store.le_set hb1 (Store.le_refl σ) (k := .cells (rlC small 3 Cnt0))
  generalize σ.set b1 _ = σ1 at *
  ((try simp only [go_sem, loadL_a]); (try ((first | refine hK _ _ ?_ | refine hKP _ _ _ ?_ | refine hKP _ _ (fun _ => ?_)); clear hK hKP K KP)); repeat (first | refine Stp.s ?_ | refine inBlock_exit' (by decide) ?_ | ((first | refine vc_region fun K KP hK hKP => ?_ | refine Stg.s ?_ | refine guardD_ret0 ?_ | refine exV_intro _ rfl ?_); (try simp only [go_sem, loadL_a]); try ((first | refine hK _ _ ?_ | refine hKP _ _ _ ?_ | refine hKP _ _ (fun _ => ?_)); clear hK hKP K KP))))
  ((try simp only [go_sem, loadL_a]); first | refine callV_pure (small_pure) ?_ | refine guardC_q0 (fun _ => callV_pure (small_pure) ⟨rfl, rfl⟩) ?_)
  ((try simp only [go_sem, loadL_a]); (try ((first | refine hK _ _ ?_ | refine hKP _ _ _ ?_ | refine hKP _ _ (fun _ => ?_)); clear hK hKP K KP)); repeat (first | refine Stp.s ?_ | refine inBlock_exit' (by decide) ?_ | ((first | refine vc_region fun K KP hK hKP => ?_ | refine Stg.s ?_ | refine guardD_ret0 ?_ | refine exV_intro _ rfl ?_); (try simp only [go_sem, loadL_a]); try ((first | refine hK _ _ ?_ | refine hKP _ _ _ ?_ | refine hKP _ _ (fun _ => ?_)); clear hK hKP K KP))))
  refine callV_ends en24 (by have := rnew small small_ok 2 σ1; rw [relNew_no small6 (by rw [small_n3]; decide)] at this; exact this) ?_
  ((try simp only [go_sem, loadL_a]); (try ((first | refine hK _ _ ?_ | refine hKP _ _ _ ?_ | refine hKP _ _ (fun _ => ?_)); clear hK hKP K KP)); repeat (first | refine Stp.s ?_ | refine inBlock_exit' (by decide) ?_ | ((first | refine vc_region fun K KP hK hKP => ?_ | refine Stg.s ?_ | refine guardD_ret0 ?_ | refine exV_intro _ rfl ?_); (try simp only [go_sem, loadL_a]); try ((first | refine hK _ _ ?_ | refine hKP _ _ _ ?_ | refine hKP _ _ (fun _ => ?_)); clear hK hKP K KP))))
  intro b5 hb5
  have h5 := Store.set_same σ1 b5 (.cells lab20.cs)
  have hle5 := Store.le_set hb5 hle1 (k := .cells lab20.cs)
  have h15 := Store.keep hb5 h1 (.cells lab20.cs)
  have n15 : b1 ≠ b5 := fun e => by rw [e, hb5] at h1; cases h1
  change K _ (σ1.set b5 (.cells lab20.cs))
  generalize σ1.set b5 _ = σ2 at *
  ((try simp only [go_sem, h5, lbLoad lab20 lab20_ok]); refine hK _ _ ?_; clear hK hKP K KP; repeat (first | refine Stp.s ?_ | refine inBlock_exit' (by decide) ?_ | ((first | refine vc_region fun K KP hK hKP => ?_ | refine Stg.s ?_ | refine guardD_ret0 ?_ | refine exV_intro _ rfl ?_); (try simp only [go_sem, h5, lbLoad lab20 lab20_ok]); try ((first | refine hK _ _ ?_ | refine hKP _ _ _ ?_ | refine hKP _ _ (fun _ => ?_)); clear hK hKP K KP))))
  refine callV_ends en26 (by have := rhear b1 σ2 small small_ok 3 Cnt0 h15 (by decide) 2 lab20 lab20_ok (by decide) (fun j => by have := cnt0_le j; omega); rw [hear20a] at this; exact this) ?_
  simp only
  have k5 : ∀ k, (σ2.set b1 k) b5 = some (.cells lab20.cs) := fun k => by rw [Store.set_other _ _ (Ne.symm n15)]; exact h5
  have k1 : ∀ k, (σ2.set b1 k) b1 = some k := fun k => Store.set_same _ _ _
  have kle : ∀ k, σ.le (σ2.set b1 k) := fun k => Store.le_over hb1 hle5
  ((try simp only [go_sem, k5, lbLoad lab20 lab20_ok]); (try ((first | refine hK _ _ ?_ | refine hKP _ _ _ ?_ | refine hKP _ _ (fun _ => ?_)); clear hK hKP K KP)); repeat (first | refine Stp.s ?_ | refine inBlock_exit' (by decide) ?_ | ((first | refine vc_region fun K KP hK hKP => ?_ | refine Stg.s ?_ | refine guardD_ret0 ?_ | refine exV_intro _ rfl ?_); (try simp only [go_sem, k5, lbLoad lab20 lab20_ok]); try ((first | refine hK _ _ ?_ | refine hKP _ _ _ ?_ | refine hKP _ _ (fun _ => ?_)); clear hK hKP K KP))))
  refine callV_ends en26 (by have := rhear b1 _ small small_ok 3 c20a (k1 _) (by decide) 1 lab20 lab20_ok (by decide) (fun j => by have := c20a_le j; omega); rw [hear20b] at this; exact this) ?_
  simp only
  ((try simp only [go_sem, k5, lbLoad lab20 lab20_ok]); (try ((first | refine hK _ _ ?_ | refine hKP _ _ _ ?_ | refine hKP _ _ (fun _ => ?_)); clear hK hKP K KP)); repeat (first | refine Stp.s ?_ | refine inBlock_exit' (by decide) ?_ | ((first | refine vc_region fun K KP hK hKP => ?_ | refine Stg.s ?_ | refine guardD_ret0 ?_ | refine exV_intro _ rfl ?_); (try simp only [go_sem, k5, lbLoad lab20 lab20_ok]); try ((first | refine hK _ _ ?_ | refine hKP _ _ _ ?_ | refine hKP _ _ (fun _ => ?_)); clear hK hKP K KP))))
  refine callV_ends en26 (by have := rhear b1 _ small small_ok 3 c20b (k1 _) (by decide) 3 lab20 lab20_ok (by decide) (fun j => by have := c20b_le j; omega); rw [hear20c] at this; exact this) ?_
  simp only
  ((try simp only [go_sem, k5, lbLoad lab20 lab20_ok]); (try ((first | refine hK _ _ ?_ | refine hKP _ _ _ ?_ | refine hKP _ _ (fun _ => ?_)); clear hK hKP K KP)); repeat (first | refine Stp.s ?_ | refine inBlock_exit' (by decide) ?_ | ((first | refine vc_region fun K KP hK hKP => ?_ | refine Stg.s ?_ | refine guardD_ret0 ?_ | refine exV_intro _ rfl ?_); (try simp only [go_sem, k5, lbLoad lab20 lab20_ok]); try ((first | refine hK _ _ ?_ | refine hKP _ _ _ ?_ | refine hKP _ _ (fun _ => ?_)); clear hK hKP K KP))))
  refine callV_quiet en27 (rcount b1 _ small small_ok 3 c20b (k1 _) (by decide) 1) ?_
  rw [count20]
  ((try simp only [go_sem, loadL_a, nc0, nc1, nc2, nc3, nz0, nz1, nz2, nq1, nq2, nq3, nq4, nq5, Int.le_refl, beq_self_eq_true]); (try ((first | refine hK _ _ ?_ | refine hKP _ _ _ ?_ | refine hKP _ _ (fun _ => ?_)); clear hK hKP K KP)); repeat (first | refine Stp.s ?_ | refine inBlock_exit' (by decide) ?_ | ((first | refine vc_region fun K KP hK hKP => ?_ | refine Stg.s ?_ | refine guardD_ret0 ?_ | refine exV_intro _ rfl ?_); (try simp only [go_sem, loadL_a, nc0, nc1, nc2, nc3, nz0, nz1, nz2, nq1, nq2, nq3, nq4, nq5, Int.le_refl, beq_self_eq_true]); try ((first | refine hK _ _ ?_ | refine hKP _ _ _ ?_ | refine hKP _ _ (fun _ => ?_)); clear hK hKP K KP))))
  refine callV_quiet en95 (rnode b1 _ small small_ok 3 c20b (k1 _)) ?_
  ((try simp only [go_sem, loadL_a, nc0, nc1, nc2, nc3, nz0, nz1, nz2, nq1, nq2, nq3, nq4, nq5, Int.le_refl, beq_self_eq_true]); (try ((first | refine hK _ _ ?_ | refine hKP _ _ _ ?_ | refine hKP _ _ (fun _ => ?_)); clear hK hKP K KP)); repeat (first | refine Stp.s ?_ | refine inBlock_exit' (by decide) ?_ | ((first | refine vc_region fun K KP hK hKP => ?_ | refine Stg.s ?_ | refine guardD_ret0 ?_ | refine exV_intro _ rfl ?_); (try simp only [go_sem, loadL_a, nc0, nc1, nc2, nc3, nz0, nz1, nz2, nq1, nq2, nq3, nq4, nq5, Int.le_refl, beq_self_eq_true]); try ((first | refine hK _ _ ?_ | refine hKP _ _ _ ?_ | refine hKP _ _ (fun _ => ?_)); clear hK hKP K KP))))
  refine callV_quiet en96 (save20 b1 _ small small_ok 3 c20b (by decide) (fun j => by have := c20b_le j; omega) (k1 _)) ?_
  rw [save20s]
  ((try simp only [go_sem, loadL_a, nc0, nc1, nc2, nc3, nz0, nz1, nz2, nq1, nq2, nq3, nq4, nq5, Int.le_refl, beq_self_eq_true]); (try ((first | refine hK _ _ ?_ | refine hKP _ _ _ ?_ | refine hKP _ _ (fun _ => ?_)); clear hK hKP K KP)); repeat (first | refine Stp.s ?_ | refine inBlock_exit' (by decide) ?_ | ((first | refine vc_region fun K KP hK hKP => ?_ | refine Stg.s ?_ | refine guardD_ret0 ?_ | refine exV_intro _ rfl ?_); (try simp only [go_sem, loadL_a, nc0, nc1, nc2, nc3, nz0, nz1, nz2, nq1, nq2, nq3, nq4, nq5, Int.le_refl, beq_self_eq_true]); try ((first | refine hK _ _ ?_ | refine hKP _ _ _ ?_ | refine hKP _ _ (fun _ => ?_)); clear hK hKP K KP))))
  rw [show ({ data := #[1, 1, 1, 0] } : ByteArray) = ⟨([1, 1, 1, 0] : List UInt8).toArray⟩ from rfl, bin_seq]
  ((try simp only [go_sem, loadL_a, nc0, nc1, nc2, nc3, nz0, nz1, nz2, nq1, nq2, nq3, nq4, nq5, Int.le_refl, beq_self_eq_true]); (try ((first | refine hK _ _ ?_ | refine hKP _ _ _ ?_ | refine hKP _ _ (fun _ => ?_)); clear hK hKP K KP)); repeat (first | refine Stp.s ?_ | refine inBlock_exit' (by decide) ?_ | ((first | refine vc_region fun K KP hK hKP => ?_ | refine Stg.s ?_ | refine guardD_ret0 ?_ | refine exV_intro _ rfl ?_); (try simp only [go_sem, loadL_a, nc0, nc1, nc2, nc3, nz0, nz1, nz2, nq1, nq2, nq3, nq4, nq5, Int.le_refl, beq_self_eq_true]); try ((first | refine hK _ _ ?_ | refine hKP _ _ _ ?_ | refine hKP _ _ (fun _ => ?_)); clear hK hKP K KP))))
  (simp only [postV, resV, oneOf, List.getD_cons_succ, List.getD_cons_zero, and_true, true_and])
  exact Ends.le rfl (kle _)
end Go.Proofs.Ytbgagffpmdlilaa
