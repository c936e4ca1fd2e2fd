/- Own framework, part s: the set by which my walks simplify. -/
import Derived.Test.YtaldikplfcoahaaHp
namespace Go.Proofs.Ytaldikplfcoahaa
set_option linter.unusedSimpArgs false
set_option linter.unusedVariables false
open Go.RowKit
attribute [go_sem]
 vcOps_nil vcOps_cons vcOps_consg vcK_app vcKP_app vcDraw_nil vcDraw_cons vcDK_app vcDB_app stepD_eq stepD_eqg gC_true gC_same gC_and1 gC_and2 gC_and3 gC_and4 gC_and5 gD_true gD_same gD_and1 gD_and2 gD_and3 gD_and4 gD_and5
 Cls.at_eq Cls.c_eq all_store Nat.reduceBEq Bool.or_false Bool.true_or Bool.false_or opV evalV putV List.getD_cons_succ List.getD_cons_zero List.set_cons_succ List.set_cons_zero List.map_cons List.map_nil List.getElem?_cons_succ
 List.getElem?_cons_zero List.length_cons List.length_nil boxV newV V.plain cells_agg cells_int cells_bool cells_str cells_float cells_nilp cells_nils cells_nilf cells_nili cells_nilm cells_ptr cells_sl cells_lst cells_ro cells_tup
 cells_fn cells_ifc loadL_s setL allocV buildV placesB fillV buildSliceV repL_11 repL_12 repL_13 repL_22 repL_24 repL_33 Nat.reducePow pickV boolV V.unF nilCheckV fieldAddrV ptrAdd fieldV indexV
 extractV sliceOk numOf makeSliceV builtinV minI maxI unV panicV bin_add bin_sub bin_mul bin_quo bin_rem bin_and bin_or bin_xor bin_eql bin_neq bin_lss bin_leq bin_gtr bin_geq bin_shl bin_shr
 List.getElem?_toArray yieldV cond_val cond_cnd flagsOf_def opG_def flagsL_nil flagsL_cons callops_v callops_b sl_ops1 sl_ops2 sl_ops3 sl_ops4 sl_ops5 sl_ops6 Op.operands V.one true_and and_true Bool.false_eq_true Bool.true_eq_false if_false
 if_true Option.map_some Option.map_none Store.set_same Store.set_set Nat.reduceAdd Nat.reduceSub Nat.reduceMul Nat.reduceLT Nat.reduceLeDiff Nat.reduceEqDiff Nat.one_ne_zero Nat.add_zero Nat.zero_add Nat.zero_mul Nat.mul_one ne_eq
 not_false_eq_true not_true_eq_false List.mem_cons List.not_mem_nil or_false forall_eq_or_imp forall_eq forall_eq_apply_imp_iff false_implies implies_true Nat.le_refl List.drop_succ_cons List.drop_zero List.take_succ_cons
 List.take_zero List.take_nil List.cons_append List.nil_append List.append_nil List.contains_cons List.contains_nil exV_eq exists_eq_left' beq_true beq_false Bool.and_true Bool.true_and Option.isSome_some Option.isSome_none
 Option.isSome_map List.all_cons List.all_nil Bool.not_true Bool.not_false decide_true decide_false allEq eqPrimV imp_self notB_imp ite_and ite_or List.cons.injEq and_self true_implies guardV_eq List.replicate
end Go.Proofs.Ytaldikplfcoahaa
