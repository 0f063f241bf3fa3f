/-
  FnExactAsm: for every argument, the law returns true, and the arguments read behind the call as they read before (the tied card: the listed tables as the program's text lays them).
  Conditions: none beyond the given statement's own.
-/
import Derived.Test.YtmcmgeedhbgglaaDoorKk2
import Derived.Shelf.Strings.Split
import Derived.Handed
import Derived.LaidMore
import Derived.MakeChecks
import Derived.Stop.LaidErr
import Derived.Shelf.Vars
import Derived.Test.YtmcmgeedhbgglaaDoorRows
import Derived.Test.YtmcmgeedhbgglaaDoorTie
import Derived.Test.YtmcmgeedhbgglaaDoorCards
import Derived.Lay
import Derived.WalkKit
import Derived.ProofKit
import Derived.OpenShut
import Derived.ShutString
import Derived.ChangeOld
import Derived.Below
import Derived.SizedLaws
import Derived.SevenTiedAt
set_option linter.unusedVariables false
set_option linter.unusedSimpArgs false
set_option maxRecDepth 4000
namespace Go.Proofs.YtmcmgeedhbgglaaDoor.AM
open Go.RowKit

private def MW8 : FuncId → Mode := fun f => .tree

theorem isSize (n : Int) : Pure Tryd.prog 78 [.int .i64 n] (.bool (!inB n 1 16)) := by
  intro T
  refine enter mixed MW8 Tryd.func78 rfl (by kernel_rfl) rfl ?_
  repeat' (first | (with_reducible first | refine stp ?_ | refine k_blk_o rfl ?_ | refine k_seq_n ?_) | ((try (conv => arg 1; simp)); with_reducible refine evp ?_) | ((with_reducible refine tcl ?_); first | ((apply tg (in_ _ _ _)); (case e => rfl); (case d => (refine dq ?_); (repeat' (first | ((refine Da.mk ?_); first | assumption) | constructor))))) | fail)
  exact .bool _

theorem areStmts0 (sizes : List Int) : Pure Tryd.prog 79 [.agg [ints true sizes, .int .i64 0, .int .i64 0, .tr true []], .tr true [], .int .i64 0] (.bool true) := by
  intro T
  refine enter mixed MW8 Tryd.func79 rfl (by kernel_rfl) rfl ?_
  repeat' (first
    | (with_reducible first | refine st_seq ?_ | refine st_reg ?_ | refine st_block ?_ | refine st_nil ?_ | refine st_skip ?_ | refine st_ret ?_ | refine st_exit ?_ | refine fr_nil ?_ | refine k_seq_n ?_ | refine k_seq_r ?_ | refine k_seq_e ?_ | refine k_blk_n ?_ | refine k_blk_r ?_ | refine k_blk_s ?_ | refine k_blk_o rfl ?_ | refine k_fn_r ?_ | refine k_fn_n ?_ | refine k_lp_r ?_ | refine k_lp_e ?_)
    | ((with_reducible first | refine st_move ?_ | refine st_asg ?_ | refine st_c ?_ | refine fr_c ?_); (try (conv => arg 1; simp)); (with_reducible refine at_mk ?_))
    | ((with_reducible first | refine st_g ?_ | refine fr_g ?_); (try (conv => arg 1; simp)); (with_reducible refine at_mk ?_); with_reducible first | refine gd_tt ?_ | refine gd_ff ?_ | refine gd_tf ?_ | refine gd_ft ?_ | refine gd_no ?_)
    | ((with_reducible first | refine st_gm ?_ | refine fr_gm ?_); (try (conv => arg 1; simp)); (with_reducible refine at_mk ?_); (with_reducible first | refine gm_bool ?_ | refine gm_gv ?_); refine ⟨_, (by intro hc; first | ((try simp only [Bool.and_eq_true] at hc); (try (conv => lhs; simp [hc])); first | done | exact rfl) | ((try simp [gq] at hc); (try (conv => lhs; simp [gq, hc])); first | done | exact rfl)), ?_⟩)
    | ((with_reducible refine st_m rfl ?_); (try (conv => arg 1; simp)); (with_reducible refine ev2_some ?_))
    | ((with_reducible refine fr_n rfl ?_); (try (conv => arg 1; simp)); (with_reducible refine evn_some ?_))
    | ((with_reducible first | refine st_cv ?_ | refine fr_cv ?_); (try (conv => arg 1; simp)); (with_reducible refine at_mk ?_); (with_reducible refine fn_mk ?_); (try (conv => arg 1; simp)); (with_reducible refine at_mk ?_))
    | ((with_reducible refine fr_a ?_); (try (conv => arg 1; simp)); (with_reducible refine at_mk ?_); (try (conv => arg 1; simp)); (with_reducible refine at_mk ?_); refine ⟨?names, ?_⟩; (case names => (simp [appNames, ints, intss] <;> first | kernel_rfl | (refine ⟨?_, ?_⟩ <;> kernel_rfl))); (try (conv => arg 1; simp)); (with_reducible refine ev2_some ?_))
    | ((with_reducible first | refine st_q ?_ | refine fr_q ?_ | refine st_res ?_); (try (conv => arg 1; simp)); (with_reducible refine ev_some ?_))
    | ((with_reducible refine st_if ?_); (try (conv => arg 1; simp)); (with_reducible refine at_mk ?_); with_reducible first | refine br_t ?_ | refine br_f ?_))
  refine st_loop (fun (i : Nat) σ h => σ 24 = .int .i64 0 ∧ σ 25 = .int .i64 0) (fun i => 0) 0 ?init ?step
  case init =>
    simp
  case step =>
    rintro i σ h ⟨h0, h1⟩
    repeat' (first | (with_reducible first | refine stp ?_ | refine k_blk_o rfl ?_ | refine k_seq_n ?_) | ((try (conv => arg 1; simp [h0, h1])); with_reducible refine evp ?_) | fail)
    exact .bool _

theorem isProgram0 (sizes : List Int) (hl : sizes.length ≤ 2 ^ 62) : Pure Tryd.prog 61 [.agg [ints true sizes, .int .i64 0, .int .i64 0, .tr true []]] (.bool (inB sizes.length 1 4 && sizes.all fun n => inB n 1 16)) := by
  intro T
  have hc := containsFuncI sizes 78 [] (fun n => !inB n 1 16) (fun w _ => isSize w) (fun _ => .nil) hl
  refine enter mixed MW8 Tryd.func61 rfl (by kernel_rfl) rfl ?_
  repeat' (first
    | (with_reducible first | refine st_seq ?_ | refine st_reg ?_ | refine st_block ?_ | refine st_nil ?_ | refine st_skip ?_ | refine st_ret ?_ | refine st_exit ?_ | refine fr_nil ?_ | refine k_seq_n ?_ | refine k_seq_r ?_ | refine k_seq_e ?_ | refine k_blk_n ?_ | refine k_blk_r ?_ | refine k_blk_s ?_ | refine k_blk_o rfl ?_ | refine k_fn_r ?_ | refine k_fn_n ?_ | refine k_lp_r ?_ | refine k_lp_e ?_)
    | ((with_reducible first | refine st_move ?_ | refine st_asg ?_ | refine st_c ?_ | refine fr_c ?_); (try (conv => arg 1; simp)); (with_reducible refine at_mk ?_))
    | ((with_reducible first | refine st_g ?_ | refine fr_g ?_); (try (conv => arg 1; simp)); (with_reducible refine at_mk ?_); with_reducible first | refine gd_tt ?_ | refine gd_ff ?_ | refine gd_tf ?_ | refine gd_ft ?_ | refine gd_no ?_)
    | ((with_reducible first | refine st_gm ?_ | refine fr_gm ?_); (try (conv => arg 1; simp)); (with_reducible refine at_mk ?_); (with_reducible first | refine gm_bool ?_ | refine gm_gv ?_); refine ⟨_, (by intro hc; first | ((try simp only [Bool.and_eq_true] at hc); (try (conv => lhs; simp [hc])); first | done | exact rfl) | ((try simp [gq] at hc); (try (conv => lhs; simp [gq, hc])); first | done | exact rfl)), ?_⟩)
    | ((with_reducible refine st_gmc ?_); (try (conv => arg 1; simp)); (with_reducible refine at_mk ?_); (with_reducible first | refine gm_bool ?_ | refine gm_gv ?_); refine ⟨_, _, _, (by intro hc; first | ((try simp only [Bool.and_eq_true] at hc); (try (conv => lhs; simp [hc])); first | done | exact rfl) | ((try simp [gq] at hc); (try (conv => lhs; simp [gq, hc])); first | done | exact rfl)), rfl, hc, (by intro hc; (try simp at hc); (repeat' (first | exact DRs.nil | refine DRs.cons ?_ ?_ | exact .int _ _ | exact .bool _ | exact .str _ | exact .nilsl | exact .nilp | exact dr_ints (by simp) _ | exact dr_intss (by simp) _ | refine dr_agg ?_ | refine dr_fn ?_ | refine dr_tptr' (by simp) ?_ | assumption | exact .tr0 _))), ?_⟩)
    | ((with_reducible refine fr_gmc ?_); (try (conv => arg 1; simp)); (with_reducible refine at_mk ?_); (with_reducible first | refine gm_bool ?_ | refine gm_gv ?_); refine ⟨_, _, _, (by intro hc; first | ((try simp only [Bool.and_eq_true] at hc); (try (conv => lhs; simp [hc])); first | done | exact rfl) | ((try simp [gq] at hc); (try (conv => lhs; simp [gq, hc])); first | done | exact rfl)), hc, (by intro hc; (try simp at hc); (repeat' (first | exact DRs.nil | refine DRs.cons ?_ ?_ | exact .int _ _ | exact .bool _ | exact .str _ | exact .nilsl | exact .nilp | exact dr_ints (by simp) _ | exact dr_intss (by simp) _ | refine dr_agg ?_ | refine dr_fn ?_ | refine dr_tptr' (by simp) ?_ | assumption | exact .tr0 _))), ?_⟩)
    | ((with_reducible refine st_gmv ?_); (try (conv => arg 1; simp)); (with_reducible refine at_mk ?_); (with_reducible first | refine gm_bool ?_ | refine gm_gv ?_); refine ⟨_, _, _, _, _, (by intro hc; first | ((try simp only [Bool.and_eq_true] at hc); (try (conv => lhs; simp [hc])); first | done | exact rfl) | ((try simp [gq] at hc); (try (conv => lhs; simp [gq, hc])); first | done | exact rfl)), (by intro hc; first | ((try simp only [Bool.and_eq_true] at hc); (try (conv => lhs; simp [hc])); first | done | exact rfl) | ((try simp [gq] at hc); (try (conv => lhs; simp [gq, hc])); first | done | exact rfl)), rfl, hc, (by intro hc; (try simp at hc); (repeat' (first | exact DRs.nil | refine DRs.cons ?_ ?_ | exact .int _ _ | exact .bool _ | exact .str _ | exact .nilsl | exact .nilp | exact dr_ints (by simp) _ | exact dr_intss (by simp) _ | refine dr_agg ?_ | refine dr_fn ?_ | refine dr_tptr' (by simp) ?_ | assumption | exact .tr0 _))), ?_⟩)
    | ((with_reducible refine st_gmc ?_); (try (conv => arg 1; simp)); (with_reducible refine at_mk ?_); (with_reducible first | refine gm_bool ?_ | refine gm_gv ?_); refine ⟨_, _, _, (by intro hc; first | ((try simp only [Bool.and_eq_true] at hc); (try (conv => lhs; simp [hc])); first | done | exact rfl) | ((try simp [gq] at hc); (try (conv => lhs; simp [gq, hc])); first | done | exact rfl)), rfl, in_ _ _ _, (by intro hc; (try simp at hc); (repeat' (first | exact DRs.nil | refine DRs.cons ?_ ?_ | exact .int _ _ | exact .bool _ | exact .str _ | exact .nilsl | exact .nilp | exact dr_ints (by simp) _ | exact dr_intss (by simp) _ | refine dr_agg ?_ | refine dr_fn ?_ | refine dr_tptr' (by simp) ?_ | assumption | exact .tr0 _))), ?_⟩)
    | ((with_reducible refine fr_gmc ?_); (try (conv => arg 1; simp)); (with_reducible refine at_mk ?_); (with_reducible first | refine gm_bool ?_ | refine gm_gv ?_); refine ⟨_, _, _, (by intro hc; first | ((try simp only [Bool.and_eq_true] at hc); (try (conv => lhs; simp [hc])); first | done | exact rfl) | ((try simp [gq] at hc); (try (conv => lhs; simp [gq, hc])); first | done | exact rfl)), in_ _ _ _, (by intro hc; (try simp at hc); (repeat' (first | exact DRs.nil | refine DRs.cons ?_ ?_ | exact .int _ _ | exact .bool _ | exact .str _ | exact .nilsl | exact .nilp | exact dr_ints (by simp) _ | exact dr_intss (by simp) _ | refine dr_agg ?_ | refine dr_fn ?_ | refine dr_tptr' (by simp) ?_ | assumption | exact .tr0 _))), ?_⟩)
    | ((with_reducible refine st_gmv ?_); (try (conv => arg 1; simp)); (with_reducible refine at_mk ?_); (with_reducible first | refine gm_bool ?_ | refine gm_gv ?_); refine ⟨_, _, _, _, _, (by intro hc; first | ((try simp only [Bool.and_eq_true] at hc); (try (conv => lhs; simp [hc])); first | done | exact rfl) | ((try simp [gq] at hc); (try (conv => lhs; simp [gq, hc])); first | done | exact rfl)), (by intro hc; first | ((try simp only [Bool.and_eq_true] at hc); (try (conv => lhs; simp [hc])); first | done | exact rfl) | ((try simp [gq] at hc); (try (conv => lhs; simp [gq, hc])); first | done | exact rfl)), rfl, in_ _ _ _, (by intro hc; (try simp at hc); (repeat' (first | exact DRs.nil | refine DRs.cons ?_ ?_ | exact .int _ _ | exact .bool _ | exact .str _ | exact .nilsl | exact .nilp | exact dr_ints (by simp) _ | exact dr_intss (by simp) _ | refine dr_agg ?_ | refine dr_fn ?_ | refine dr_tptr' (by simp) ?_ | assumption | exact .tr0 _))), ?_⟩)
    | ((with_reducible refine st_gmc ?_); (try (conv => arg 1; simp)); (with_reducible refine at_mk ?_); (with_reducible first | refine gm_bool ?_ | refine gm_gv ?_); refine ⟨_, _, _, (by intro hc; first | ((try simp only [Bool.and_eq_true] at hc); (try (conv => lhs; simp [hc])); first | done | exact rfl) | ((try simp [gq] at hc); (try (conv => lhs; simp [gq, hc])); first | done | exact rfl)), rfl, areStmts0 sizes, (by intro hc; (try simp at hc); (repeat' (first | exact DRs.nil | refine DRs.cons ?_ ?_ | exact .int _ _ | exact .bool _ | exact .str _ | exact .nilsl | exact .nilp | exact dr_ints (by simp) _ | exact dr_intss (by simp) _ | refine dr_agg ?_ | refine dr_fn ?_ | refine dr_tptr' (by simp) ?_ | assumption | exact .tr0 _))), ?_⟩)
    | ((with_reducible refine fr_gmc ?_); (try (conv => arg 1; simp)); (with_reducible refine at_mk ?_); (with_reducible first | refine gm_bool ?_ | refine gm_gv ?_); refine ⟨_, _, _, (by intro hc; first | ((try simp only [Bool.and_eq_true] at hc); (try (conv => lhs; simp [hc])); first | done | exact rfl) | ((try simp [gq] at hc); (try (conv => lhs; simp [gq, hc])); first | done | exact rfl)), areStmts0 sizes, (by intro hc; (try simp at hc); (repeat' (first | exact DRs.nil | refine DRs.cons ?_ ?_ | exact .int _ _ | exact .bool _ | exact .str _ | exact .nilsl | exact .nilp | exact dr_ints (by simp) _ | exact dr_intss (by simp) _ | refine dr_agg ?_ | refine dr_fn ?_ | refine dr_tptr' (by simp) ?_ | assumption | exact .tr0 _))), ?_⟩)
    | ((with_reducible refine st_gmv ?_); (try (conv => arg 1; simp)); (with_reducible refine at_mk ?_); (with_reducible first | refine gm_bool ?_ | refine gm_gv ?_); refine ⟨_, _, _, _, _, (by intro hc; first | ((try simp only [Bool.and_eq_true] at hc); (try (conv => lhs; simp [hc])); first | done | exact rfl) | ((try simp [gq] at hc); (try (conv => lhs; simp [gq, hc])); first | done | exact rfl)), (by intro hc; first | ((try simp only [Bool.and_eq_true] at hc); (try (conv => lhs; simp [hc])); first | done | exact rfl) | ((try simp [gq] at hc); (try (conv => lhs; simp [gq, hc])); first | done | exact rfl)), rfl, areStmts0 sizes, (by intro hc; (try simp at hc); (repeat' (first | exact DRs.nil | refine DRs.cons ?_ ?_ | exact .int _ _ | exact .bool _ | exact .str _ | exact .nilsl | exact .nilp | exact dr_ints (by simp) _ | exact dr_intss (by simp) _ | refine dr_agg ?_ | refine dr_fn ?_ | refine dr_tptr' (by simp) ?_ | assumption | exact .tr0 _))), ?_⟩)
    | ((with_reducible refine st_m rfl ?_); (try (conv => arg 1; simp)); (with_reducible refine ev2_some ?_))
    | ((with_reducible refine fr_n rfl ?_); (try (conv => arg 1; simp)); (with_reducible refine evn_some ?_))
    | ((with_reducible first | refine st_cv ?_ | refine fr_cv ?_); (try (conv => arg 1; simp)); (with_reducible refine at_mk ?_); (with_reducible refine fn_mk ?_); (try (conv => arg 1; simp)); (with_reducible refine at_mk ?_))
    | ((with_reducible refine fr_a ?_); (try (conv => arg 1; simp)); (with_reducible refine at_mk ?_); (try (conv => arg 1; simp)); (with_reducible refine at_mk ?_); refine ⟨?names, ?_⟩; (case names => (simp [appNames, ints, intss] <;> first | kernel_rfl | (refine ⟨?_, ?_⟩ <;> kernel_rfl))); (try (conv => arg 1; simp)); (with_reducible refine ev2_some ?_))
    | ((with_reducible first | refine st_q ?_ | refine fr_q ?_ | refine st_res ?_); (try (conv => arg 1; simp)); (with_reducible refine ev_some ?_))
    | ((with_reducible refine st_if ?_); (try (conv => arg 1; simp)); (with_reducible refine at_mk ?_); with_reducible first | refine br_t ?_ | refine br_f ?_)
    | ((with_reducible refine ct_id ?_); refine st_tree rfl (hc) (by (repeat' (first | exact DRs.nil | refine DRs.cons ?_ ?_ | exact .int _ _ | exact .bool _ | exact .str _ | exact .nilsl | exact .nilp | exact dr_ints (by simp) _ | exact dr_intss (by simp) _ | refine dr_agg ?_ | refine dr_fn ?_ | refine dr_tptr' (by simp) ?_ | assumption | exact .tr0 _))) ?_)
    | ((with_reducible refine tw_id ?_); refine treeW_pure (hc) (by (repeat' (first | exact DRs.nil | refine DRs.cons ?_ ?_ | exact .int _ _ | exact .bool _ | exact .str _ | exact .nilsl | exact .nilp | exact dr_ints (by simp) _ | exact dr_intss (by simp) _ | refine dr_agg ?_ | refine dr_fn ?_ | refine dr_tptr' (by simp) ?_ | assumption | exact .tr0 _))) ?_)
    | ((with_reducible refine ct_id ?_); refine st_tree rfl (in_ _ _ _) (by (repeat' (first | exact DRs.nil | refine DRs.cons ?_ ?_ | exact .int _ _ | exact .bool _ | exact .str _ | exact .nilsl | exact .nilp | exact dr_ints (by simp) _ | exact dr_intss (by simp) _ | refine dr_agg ?_ | refine dr_fn ?_ | refine dr_tptr' (by simp) ?_ | assumption | exact .tr0 _))) ?_)
    | ((with_reducible refine tw_id ?_); refine treeW_pure (in_ _ _ _) (by (repeat' (first | exact DRs.nil | refine DRs.cons ?_ ?_ | exact .int _ _ | exact .bool _ | exact .str _ | exact .nilsl | exact .nilp | exact dr_ints (by simp) _ | exact dr_intss (by simp) _ | refine dr_agg ?_ | refine dr_fn ?_ | refine dr_tptr' (by simp) ?_ | assumption | exact .tr0 _))) ?_)
    | ((with_reducible refine ct_id ?_); refine st_tree rfl (areStmts0 sizes) (by (repeat' (first | exact DRs.nil | refine DRs.cons ?_ ?_ | exact .int _ _ | exact .bool _ | exact .str _ | exact .nilsl | exact .nilp | exact dr_ints (by simp) _ | exact dr_intss (by simp) _ | refine dr_agg ?_ | refine dr_fn ?_ | refine dr_tptr' (by simp) ?_ | assumption | exact .tr0 _))) ?_)
    | ((with_reducible refine tw_id ?_); refine treeW_pure (areStmts0 sizes) (by (repeat' (first | exact DRs.nil | refine DRs.cons ?_ ?_ | exact .int _ _ | exact .bool _ | exact .str _ | exact .nilsl | exact .nilp | exact dr_ints (by simp) _ | exact dr_intss (by simp) _ | refine dr_agg ?_ | refine dr_fn ?_ | refine dr_tptr' (by simp) ?_ | assumption | exact .tr0 _))) ?_))
  refine dr_bool ?_
  have e0 : inB 0 0 0 = true := rfl
  have e1 : (!sizes.any fun n => !inB n 1 16) = sizes.all fun n => inB n 1 16 := by rw [List.all_eq_not_any_not]
  rw [e0, e1, Bool.and_true]

def lastOk (m : Image) : Bool := match m.Code.getLast? with | some w => decide (w.Op = 10) || decide (w.Op = 8) | none => false
def imageOk (m : Image) : Bool := (inB m.Sizes.length 1 4 && m.Sizes.all fun n => inB n 1 16) && inB m.Params 0 6 && inB m.Slots m.Params 1000 && inB m.Code.length 1 6000 && lastOk m && m.Code.all (wordOk m)

theorem notWord (m : Image) (w : Word) : Pure Tryd.prog 63 [.agg w.cells, .tptr true (m.cells true)] (.bool (!wordOk m w)) := by
  intro T
  refine enter mixed MW8 Tryd.func63 rfl (by kernel_rfl) rfl ?_
  repeat' (first | (with_reducible first | refine stp ?_ | refine k_blk_o rfl ?_ | refine k_seq_n ?_) | ((try (conv => arg 1; simp [Word.cells, Image.cells])); with_reducible refine evp ?_) | ((with_reducible refine tcl ?_); first | ((apply tg (isWordOf m w)); (case e => rfl); (case d => (refine dq ?_); (repeat' (first | ((refine Da.mk ?_); first | exact dr_words (by simp) _ | assumption) | constructor))))) | fail)
  exact .bool _

theorem isImage (m : Image) (hs : m.Sizes.length ≤ 2 ^ 62) (hcd : m.Code.length ≤ 2 ^ 62) : Pure Tryd.prog 43 [.agg (m.cells true)] (.bool (imageOk m)) := by
  intro T
  have h1 := isProgram0 m.Sizes hs
  have h2 := containsFuncW m.Code 63 [.tptr true (m.cells true)] (fun w => !wordOk m w) (fun w _ => notWord m w) (fun _ => .cons (dr_tptr' (fun h => h) (drs_image m (fun h => h))) .nil) hcd
  refine enter mixed MW8 Tryd.func43 rfl (by kernel_rfl) rfl ?_
  repeat' (first
    | (with_reducible first | refine st_seq ?_ | refine st_reg ?_ | refine st_block ?_ | refine st_nil ?_ | refine st_skip ?_ | refine st_ret ?_ | refine st_exit ?_ | refine fr_nil ?_ | refine k_seq_n ?_ | refine k_seq_r ?_ | refine k_seq_e ?_ | refine k_blk_n ?_ | refine k_blk_r ?_ | refine k_blk_s ?_ | refine k_blk_o rfl ?_ | refine k_fn_r ?_ | refine k_fn_n ?_ | refine k_lp_r ?_ | refine k_lp_e ?_)
    | ((with_reducible first | refine st_move ?_ | refine st_asg ?_ | refine st_c ?_ | refine fr_c ?_); (try (conv => arg 1; simp [Image.cells])); (with_reducible refine at_mk ?_))
    | ((with_reducible first | refine st_g ?_ | refine fr_g ?_); (try (conv => arg 1; simp [Image.cells])); (with_reducible refine at_mk ?_); with_reducible first | refine gd_tt ?_ | refine gd_ff ?_ | refine gd_tf ?_ | refine gd_ft ?_ | refine gd_no ?_)
    | ((with_reducible first | refine st_gm ?_ | refine fr_gm ?_); (try (conv => arg 1; simp [Image.cells])); (with_reducible refine at_mk ?_); (with_reducible first | refine gm_bool ?_ | refine gm_gv ?_); refine ⟨_, (by intro hc; first | ((try simp only [Bool.and_eq_true] at hc); (try (conv => lhs; simp [hc, Image.cells])); first | done | exact rfl) | ((try simp [gq] at hc); (try (conv => lhs; simp [gq, hc, Image.cells])); first | done | exact rfl)), ?_⟩)
    | ((with_reducible refine st_gmc ?_); (try (conv => arg 1; simp [Image.cells])); (with_reducible refine at_mk ?_); (with_reducible first | refine gm_bool ?_ | refine gm_gv ?_); refine ⟨_, _, _, (by intro hc; first | ((try simp only [Bool.and_eq_true] at hc); (try (conv => lhs; simp [hc, Image.cells])); first | done | exact rfl) | ((try simp [gq] at hc); (try (conv => lhs; simp [gq, hc, Image.cells])); first | done | exact rfl)), rfl, h1, (by intro hc; (try simp at hc); (repeat' (first | exact DRs.nil | refine DRs.cons ?_ ?_ | exact .int _ _ | exact .bool _ | exact .str _ | exact .nilsl | exact .nilp | exact dr_ints (by simp) _ | exact dr_intss (by simp) _ | refine dr_agg ?_ | refine dr_fn ?_ | refine dr_tptr' (by simp) ?_ | assumption | exact .nilsl))), ?_⟩)
    | ((with_reducible refine fr_gmc ?_); (try (conv => arg 1; simp [Image.cells])); (with_reducible refine at_mk ?_); (with_reducible first | refine gm_bool ?_ | refine gm_gv ?_); refine ⟨_, _, _, (by intro hc; first | ((try simp only [Bool.and_eq_true] at hc); (try (conv => lhs; simp [hc, Image.cells])); first | done | exact rfl) | ((try simp [gq] at hc); (try (conv => lhs; simp [gq, hc, Image.cells])); first | done | exact rfl)), h1, (by intro hc; (try simp at hc); (repeat' (first | exact DRs.nil | refine DRs.cons ?_ ?_ | exact .int _ _ | exact .bool _ | exact .str _ | exact .nilsl | exact .nilp | exact dr_ints (by simp) _ | exact dr_intss (by simp) _ | refine dr_agg ?_ | refine dr_fn ?_ | refine dr_tptr' (by simp) ?_ | assumption | exact .nilsl))), ?_⟩)
    | ((with_reducible refine st_gmv ?_); (try (conv => arg 1; simp [Image.cells])); (with_reducible refine at_mk ?_); (with_reducible first | refine gm_bool ?_ | refine gm_gv ?_); refine ⟨_, _, _, _, _, (by intro hc; first | ((try simp only [Bool.and_eq_true] at hc); (try (conv => lhs; simp [hc, Image.cells])); first | done | exact rfl) | ((try simp [gq] at hc); (try (conv => lhs; simp [gq, hc, Image.cells])); first | done | exact rfl)), (by intro hc; first | ((try simp only [Bool.and_eq_true] at hc); (try (conv => lhs; simp [hc, Image.cells])); first | done | exact rfl) | ((try simp [gq] at hc); (try (conv => lhs; simp [gq, hc, Image.cells])); first | done | exact rfl)), rfl, h1, (by intro hc; (try simp at hc); (repeat' (first | exact DRs.nil | refine DRs.cons ?_ ?_ | exact .int _ _ | exact .bool _ | exact .str _ | exact .nilsl | exact .nilp | exact dr_ints (by simp) _ | exact dr_intss (by simp) _ | refine dr_agg ?_ | refine dr_fn ?_ | refine dr_tptr' (by simp) ?_ | assumption | exact .nilsl))), ?_⟩)
    | ((with_reducible refine st_gmc ?_); (try (conv => arg 1; simp [Image.cells])); (with_reducible refine at_mk ?_); (with_reducible first | refine gm_bool ?_ | refine gm_gv ?_); refine ⟨_, _, _, (by intro hc; first | ((try simp only [Bool.and_eq_true] at hc); (try (conv => lhs; simp [hc, Image.cells])); first | done | exact rfl) | ((try simp [gq] at hc); (try (conv => lhs; simp [gq, hc, Image.cells])); first | done | exact rfl)), rfl, in_ _ _ _, (by intro hc; (try simp at hc); (repeat' (first | exact DRs.nil | refine DRs.cons ?_ ?_ | exact .int _ _ | exact .bool _ | exact .str _ | exact .nilsl | exact .nilp | exact dr_ints (by simp) _ | exact dr_intss (by simp) _ | refine dr_agg ?_ | refine dr_fn ?_ | refine dr_tptr' (by simp) ?_ | assumption | exact .nilsl))), ?_⟩)
    | ((with_reducible refine fr_gmc ?_); (try (conv => arg 1; simp [Image.cells])); (with_reducible refine at_mk ?_); (with_reducible first | refine gm_bool ?_ | refine gm_gv ?_); refine ⟨_, _, _, (by intro hc; first | ((try simp only [Bool.and_eq_true] at hc); (try (conv => lhs; simp [hc, Image.cells])); first | done | exact rfl) | ((try simp [gq] at hc); (try (conv => lhs; simp [gq, hc, Image.cells])); first | done | exact rfl)), in_ _ _ _, (by intro hc; (try simp at hc); (repeat' (first | exact DRs.nil | refine DRs.cons ?_ ?_ | exact .int _ _ | exact .bool _ | exact .str _ | exact .nilsl | exact .nilp | exact dr_ints (by simp) _ | exact dr_intss (by simp) _ | refine dr_agg ?_ | refine dr_fn ?_ | refine dr_tptr' (by simp) ?_ | assumption | exact .nilsl))), ?_⟩)
    | ((with_reducible refine st_gmv ?_); (try (conv => arg 1; simp [Image.cells])); (with_reducible refine at_mk ?_); (with_reducible first | refine gm_bool ?_ | refine gm_gv ?_); refine ⟨_, _, _, _, _, (by intro hc; first | ((try simp only [Bool.and_eq_true] at hc); (try (conv => lhs; simp [hc, Image.cells])); first | done | exact rfl) | ((try simp [gq] at hc); (try (conv => lhs; simp [gq, hc, Image.cells])); first | done | exact rfl)), (by intro hc; first | ((try simp only [Bool.and_eq_true] at hc); (try (conv => lhs; simp [hc, Image.cells])); first | done | exact rfl) | ((try simp [gq] at hc); (try (conv => lhs; simp [gq, hc, Image.cells])); first | done | exact rfl)), rfl, in_ _ _ _, (by intro hc; (try simp at hc); (repeat' (first | exact DRs.nil | refine DRs.cons ?_ ?_ | exact .int _ _ | exact .bool _ | exact .str _ | exact .nilsl | exact .nilp | exact dr_ints (by simp) _ | exact dr_intss (by simp) _ | refine dr_agg ?_ | refine dr_fn ?_ | refine dr_tptr' (by simp) ?_ | assumption | exact .nilsl))), ?_⟩)
    | ((with_reducible refine st_m rfl ?_); (try (conv => arg 1; simp [Image.cells])); (with_reducible refine ev2_some ?_))
    | ((with_reducible refine fr_n rfl ?_); (try (conv => arg 1; simp [Image.cells])); (with_reducible refine evn_some ?_))
    | ((with_reducible first | refine st_cv ?_ | refine fr_cv ?_); (try (conv => arg 1; simp [Image.cells])); (with_reducible refine at_mk ?_); (with_reducible refine fn_mk ?_); (try (conv => arg 1; simp [Image.cells])); (with_reducible refine at_mk ?_))
    | ((with_reducible refine fr_a ?_); (try (conv => arg 1; simp [Image.cells])); (with_reducible refine at_mk ?_); (try (conv => arg 1; simp [Image.cells])); (with_reducible refine at_mk ?_); refine ⟨?names, ?_⟩; (case names => (simp [appNames, ints, intss] <;> first | kernel_rfl | (refine ⟨?_, ?_⟩ <;> kernel_rfl))); (try (conv => arg 1; simp [Image.cells])); (with_reducible refine ev2_some ?_))
    | ((with_reducible first | refine st_q ?_ | refine fr_q ?_ | refine st_res ?_); (try (conv => arg 1; simp [Image.cells])); (with_reducible refine ev_some ?_))
    | ((with_reducible refine st_if ?_); (try (conv => arg 1; simp [Image.cells])); (with_reducible refine at_mk ?_); with_reducible first | refine br_t ?_ | refine br_f ?_)
    | ((with_reducible refine ct_id ?_); refine st_tree rfl (h1) (by (repeat' (first | exact DRs.nil | refine DRs.cons ?_ ?_ | exact .int _ _ | exact .bool _ | exact .str _ | exact .nilsl | exact .nilp | exact dr_ints (by simp) _ | exact dr_intss (by simp) _ | refine dr_agg ?_ | refine dr_fn ?_ | refine dr_tptr' (by simp) ?_ | assumption | exact .nilsl))) ?_)
    | ((with_reducible refine tw_id ?_); refine treeW_pure (h1) (by (repeat' (first | exact DRs.nil | refine DRs.cons ?_ ?_ | exact .int _ _ | exact .bool _ | exact .str _ | exact .nilsl | exact .nilp | exact dr_ints (by simp) _ | exact dr_intss (by simp) _ | refine dr_agg ?_ | refine dr_fn ?_ | refine dr_tptr' (by simp) ?_ | assumption | exact .nilsl))) ?_)
    | ((with_reducible refine ct_id ?_); refine st_tree rfl (in_ _ _ _) (by (repeat' (first | exact DRs.nil | refine DRs.cons ?_ ?_ | exact .int _ _ | exact .bool _ | exact .str _ | exact .nilsl | exact .nilp | exact dr_ints (by simp) _ | exact dr_intss (by simp) _ | refine dr_agg ?_ | refine dr_fn ?_ | refine dr_tptr' (by simp) ?_ | assumption | exact .nilsl))) ?_)
    | ((with_reducible refine tw_id ?_); refine treeW_pure (in_ _ _ _) (by (repeat' (first | exact DRs.nil | refine DRs.cons ?_ ?_ | exact .int _ _ | exact .bool _ | exact .str _ | exact .nilsl | exact .nilp | exact dr_ints (by simp) _ | exact dr_intss (by simp) _ | refine dr_agg ?_ | refine dr_fn ?_ | refine dr_tptr' (by simp) ?_ | assumption | exact .nilsl))) ?_))
  (try with_reducible refine st_if ?_)
  (try (conv => arg 1; simp [hs]))
  (try with_reducible refine at_mk ?_)
  refine ⟨fun hb => ?_, fun hb => ?_⟩
  · skip
    repeat' (first | (with_reducible first | refine stp ?_ | refine k_blk_o rfl ?_ | refine k_seq_n ?_) | ((try (conv => arg 1; simp [hs])); with_reducible refine evp ?_) | fail)
    refine dr_bool ?_
    simp only [Bool.or_eq_true, Bool.not_eq_true'] at hb
    rcases hb with (((h | h) | h) | h) | h <;> simp only [imageOk, h, Bool.false_and, Bool.and_false]
  · simp at hb
    obtain ⟨⟨⟨⟨c1, c2⟩, c3⟩, c4⟩, c5⟩ := hb
    obtain ⟨k, hk⟩ : ∃ k, m.Code.length = k + 1 := ⟨m.Code.length - 1, by simp [inB] at c5; omega⟩
    have hkl : k < m.Code.length := by omega
    obtain ⟨w, hx⟩ : ∃ w, m.Code[k]? = some w := ⟨m.Code[k], by simp⟩
    have hlast : m.Code.getLast? = some w := by rw [List.getLast?_eq_getElem?, hk]; exact hx
    have hw : IntKind.i64.wrap ((m.Code.length : Int) - 1) = (k : Int) := by rw [hk, wrap_id (by omega) (by omega)]; omega
    repeat' (first
      | (with_reducible first | refine st_seq ?_ | refine st_reg ?_ | refine st_block ?_ | refine st_nil ?_ | refine st_skip ?_ | refine st_ret ?_ | refine st_exit ?_ | refine fr_nil ?_ | refine k_seq_n ?_ | refine k_seq_r ?_ | refine k_seq_e ?_ | refine k_blk_n ?_ | refine k_blk_r ?_ | refine k_blk_s ?_ | refine k_blk_o rfl ?_ | refine k_fn_r ?_ | refine k_fn_n ?_ | refine k_lp_r ?_ | refine k_lp_e ?_)
      | ((with_reducible first | refine st_move ?_ | refine st_asg ?_ | refine st_c ?_ | refine fr_c ?_); (try (conv => arg 1; simp [hw, hx, words, Word.cells])); (with_reducible refine at_mk ?_))
      | ((with_reducible first | refine st_g ?_ | refine fr_g ?_); (try (conv => arg 1; simp [hw, hx, words, Word.cells])); (with_reducible refine at_mk ?_); with_reducible first | refine gd_tt ?_ | refine gd_ff ?_ | refine gd_tf ?_ | refine gd_ft ?_ | refine gd_no ?_)
      | ((with_reducible first | refine st_gm ?_ | refine fr_gm ?_); (try (conv => arg 1; simp [hw, hx, words, Word.cells])); (with_reducible refine at_mk ?_); (with_reducible first | refine gm_bool ?_ | refine gm_gv ?_); refine ⟨_, (by intro hc; first | ((try simp only [Bool.and_eq_true] at hc); (try (conv => lhs; simp [hc, hw, hx, words, Word.cells])); first | done | exact rfl) | ((try simp [gq] at hc); (try (conv => lhs; simp [gq, hc, hw, hx, words, Word.cells])); first | done | exact rfl)), ?_⟩)
      | ((with_reducible refine st_gmc ?_); (try (conv => arg 1; simp [hw, hx, words, Word.cells])); (with_reducible refine at_mk ?_); (with_reducible first | refine gm_bool ?_ | refine gm_gv ?_); refine ⟨_, _, _, (by intro hc; first | ((try simp only [Bool.and_eq_true] at hc); (try (conv => lhs; simp [hc, hw, hx, words, Word.cells])); first | done | exact rfl) | ((try simp [gq] at hc); (try (conv => lhs; simp [gq, hc, hw, hx, words, Word.cells])); first | done | exact rfl)), rfl, h2, (by intro hc; (try simp at hc); (repeat' (first | exact DRs.nil | refine DRs.cons ?_ ?_ | exact .int _ _ | exact .bool _ | exact .str _ | exact .nilsl | exact .nilp | exact dr_ints (by simp) _ | exact dr_intss (by simp) _ | refine dr_agg ?_ | refine dr_fn ?_ | refine dr_tptr' (by simp) ?_ | assumption | exact dr_words (by simp) _ | exact dr_ptr0 (r := ⟨0, 4, [m.cells true]⟩) (by simp [Image.cells, words]) rfl rfl (drs_image m (by simp))))), ?_⟩)
      | ((with_reducible refine fr_gmc ?_); (try (conv => arg 1; simp [hw, hx, words, Word.cells])); (with_reducible refine at_mk ?_); (with_reducible first | refine gm_bool ?_ | refine gm_gv ?_); refine ⟨_, _, _, (by intro hc; first | ((try simp only [Bool.and_eq_true] at hc); (try (conv => lhs; simp [hc, hw, hx, words, Word.cells])); first | done | exact rfl) | ((try simp [gq] at hc); (try (conv => lhs; simp [gq, hc, hw, hx, words, Word.cells])); first | done | exact rfl)), h2, (by intro hc; (try simp at hc); (repeat' (first | exact DRs.nil | refine DRs.cons ?_ ?_ | exact .int _ _ | exact .bool _ | exact .str _ | exact .nilsl | exact .nilp | exact dr_ints (by simp) _ | exact dr_intss (by simp) _ | refine dr_agg ?_ | refine dr_fn ?_ | refine dr_tptr' (by simp) ?_ | assumption | exact dr_words (by simp) _ | exact dr_ptr0 (r := ⟨0, 4, [m.cells true]⟩) (by simp [Image.cells, words]) rfl rfl (drs_image m (by simp))))), ?_⟩)
      | ((with_reducible refine st_gmv ?_); (try (conv => arg 1; simp [hw, hx, words, Word.cells])); (with_reducible refine at_mk ?_); (with_reducible first | refine gm_bool ?_ | refine gm_gv ?_); refine ⟨_, _, _, _, _, (by intro hc; first | ((try simp only [Bool.and_eq_true] at hc); (try (conv => lhs; simp [hc, hw, hx, words, Word.cells])); first | done | exact rfl) | ((try simp [gq] at hc); (try (conv => lhs; simp [gq, hc, hw, hx, words, Word.cells])); first | done | exact rfl)), (by intro hc; first | ((try simp only [Bool.and_eq_true] at hc); (try (conv => lhs; simp [hc, hw, hx, words, Word.cells])); first | done | exact rfl) | ((try simp [gq] at hc); (try (conv => lhs; simp [gq, hc, hw, hx, words, Word.cells])); first | done | exact rfl)), rfl, h2, (by intro hc; (try simp at hc); (repeat' (first | exact DRs.nil | refine DRs.cons ?_ ?_ | exact .int _ _ | exact .bool _ | exact .str _ | exact .nilsl | exact .nilp | exact dr_ints (by simp) _ | exact dr_intss (by simp) _ | refine dr_agg ?_ | refine dr_fn ?_ | refine dr_tptr' (by simp) ?_ | assumption | exact dr_words (by simp) _ | exact dr_ptr0 (r := ⟨0, 4, [m.cells true]⟩) (by simp [Image.cells, words]) rfl rfl (drs_image m (by simp))))), ?_⟩)
      | ((with_reducible refine st_m rfl ?_); (try (conv => arg 1; simp [hw, hx, words, Word.cells])); (with_reducible refine ev2_some ?_))
      | ((with_reducible refine fr_n rfl ?_); (try (conv => arg 1; simp [hw, hx, words, Word.cells])); (with_reducible refine evn_some ?_))
      | ((with_reducible first | refine st_cv ?_ | refine fr_cv ?_); (try (conv => arg 1; simp [hw, hx, words, Word.cells])); (with_reducible refine at_mk ?_); (with_reducible refine fn_mk ?_); (try (conv => arg 1; simp [hw, hx, words, Word.cells])); (with_reducible refine at_mk ?_))
      | ((with_reducible refine fr_a ?_); (try (conv => arg 1; simp [hw, hx, words, Word.cells])); (with_reducible refine at_mk ?_); (try (conv => arg 1; simp [hw, hx, words, Word.cells])); (with_reducible refine at_mk ?_); refine ⟨?names, ?_⟩; (case names => (simp [appNames, ints, intss] <;> first | kernel_rfl | (refine ⟨?_, ?_⟩ <;> kernel_rfl))); (try (conv => arg 1; simp [hw, hx, words, Word.cells])); (with_reducible refine ev2_some ?_))
      | ((with_reducible first | refine st_q ?_ | refine fr_q ?_ | refine st_res ?_); (try (conv => arg 1; simp [hw, hx, words, Word.cells])); (with_reducible refine ev_some ?_))
      | ((with_reducible refine st_if ?_); (try (conv => arg 1; simp [hw, hx, words, Word.cells])); (with_reducible refine at_mk ?_); with_reducible first | refine br_t ?_ | refine br_f ?_)
      | ((with_reducible refine ct_id ?_); refine st_tree rfl (h2) (by (repeat' (first | exact DRs.nil | refine DRs.cons ?_ ?_ | exact .int _ _ | exact .bool _ | exact .str _ | exact .nilsl | exact .nilp | exact dr_ints (by simp) _ | exact dr_intss (by simp) _ | refine dr_agg ?_ | refine dr_fn ?_ | refine dr_tptr' (by simp) ?_ | assumption | exact dr_words (by simp) _ | exact dr_ptr0 (r := ⟨0, 4, [m.cells true]⟩) (by simp [Image.cells, words]) rfl rfl (drs_image m (by simp))))) ?_)
      | ((with_reducible refine tw_id ?_); refine treeW_pure (h2) (by (repeat' (first | exact DRs.nil | refine DRs.cons ?_ ?_ | exact .int _ _ | exact .bool _ | exact .str _ | exact .nilsl | exact .nilp | exact dr_ints (by simp) _ | exact dr_intss (by simp) _ | refine dr_agg ?_ | refine dr_fn ?_ | refine dr_tptr' (by simp) ?_ | assumption | exact dr_words (by simp) _ | exact dr_ptr0 (r := ⟨0, 4, [m.cells true]⟩) (by simp [Image.cells, words]) rfl rfl (drs_image m (by simp))))) ?_))
    refine dr_bool ?_
    have e1 : (!m.Code.any fun w => !wordOk m w) = m.Code.all (wordOk m) := by rw [List.all_eq_not_any_not]
    have e2 : (m.Sizes.all fun n => inB n 1 16) = true := List.all_eq_true.2 c2
    rw [e1]
    simp only [imageOk, c1, e2, c3, c4, c5, Bool.true_and, lastOk, hlast]
end Go.Proofs.YtmcmgeedhbgglaaDoor.AM

namespace Go.Proofs.YtmcmgeedhbgglaaDoor.AM
open Go.RowKit

private def ME2 : FuncId → Mode := fun f => .tree

def nameL : List (List UInt8) := [[108, 105], [108, 100], [115, 100], [97, 108, 117], [108, 120], [115, 120], [105, 110], [111, 117, 116], [106, 109, 112], [106, 122], [114, 101, 116], [109, 118]]
def formL : List (List UInt8) := [[114, 110], [114, 115], [114, 115], [114, 97, 103, 98], [114, 109, 97], [114, 109, 97], [114], [114], [119], [114, 119], [114], [114, 97]]
def signL : List (List UInt8) := [[43], [45], [42], [38], [61, 61], [60]]
def nameOf (op : Nat) : List UInt8 := nameL.getD op []
def formOf (op : Nat) : List UInt8 := formL.getD op []
def signOf (n : Nat) : List UInt8 := signL.getD n []
/-- A part of a word. -/
def partT (w : Word) (b : UInt8) : List UInt8 := if b = 114 then 114 :: dg w.R else if b = 97 then 114 :: dg w.A else if b = 98 then 114 :: dg w.B else if b = 110 then dg w.N else if b = 103 then signOf w.N.toNat else b :: dg w.N
/-- A word's line. -/
def wordT (w : Word) : List UInt8 := nameOf w.Op.toNat ++ sp ((formOf w.Op.toNat).map (partT w))
structure Word.Txt (w : Word) : Prop where
  op : 0 ≤ w.Op ∧ w.Op ≤ 11
  r : I64 w.R
  a : I64 w.A
  b : I64 w.B
  n : I64 w.N
  sg : w.Op = 3 → 0 ≤ w.N ∧ w.N ≤ 5
theorem form_sign (op : Nat) (h : op < 12) : 103 ∈ formOf op → op = 3 := by
  have : ∀ o : Fin 12, 103 ∈ formOf o → o.val = 3 := by decide +kernel
  exact this ⟨op, h⟩
theorem form_len (op : Nat) : (formOf op).length ≤ 4 := by
  by_cases h : op < 12
  · have : ∀ o : Fin 12, (formOf o).length ≤ 4 := by decide +kernel
    exact this ⟨op, h⟩
  · have : formOf op = [] := by unfold formOf; rw [List.getD_eq_getElem?_getD, List.getElem?_eq_none (by simp [formL]; omega)]; rfl
    rw [this]; decide
theorem name_len (op : Nat) : (nameOf op).length ≤ 3 := by
  by_cases h : op < 12
  · have : ∀ o : Fin 12, (nameOf o).length ≤ 3 := by decide +kernel
    exact this ⟨op, h⟩
  · have : nameOf op = [] := by unfold nameOf; rw [List.getD_eq_getElem?_getD, List.getElem?_eq_none (by simp [nameL]; omega)]; rfl
    rw [this]; decide
theorem sign_len (n : Nat) : (signOf n).length ≤ 2 := by
  by_cases h : n < 6
  · have : ∀ o : Fin 6, (signOf o).length ≤ 2 := by decide +kernel
    exact this ⟨n, h⟩
  · have : signOf n = [] := by unfold signOf; rw [List.getD_eq_getElem?_getD, List.getElem?_eq_none (by simp [signL]; omega)]; rfl
    rw [this]; decide
theorem part_len {w : Word} (d : w.Txt) (b : UInt8) : (partT w b).length ≤ 21 := by
  have h1 := dg_len d.r
  have h2 := dg_len d.a
  have h3 := dg_len d.b
  have h4 := dg_len d.n
  have h5 := sign_len w.N.toNat
  unfold partT
  split
  · simp; omega
  · split
    · simp; omega
    · split
      · simp; omega
      · split
        · omega
        · split
          · omega
          · simp; omega
/-- A line's first parts. -/
def lineT (w : Word) (i : Nat) : List UInt8 := nameOf w.Op.toNat ++ sp (((formOf w.Op.toNat).take i).map (partT w))
theorem lineT_zero (w : Word) : lineT w 0 = nameOf w.Op.toNat := by simp [lineT, sp_nil]
theorem lineT_all (w : Word) : lineT w (formOf w.Op.toNat).length = wordT w := by simp [lineT, wordT]
theorem lineT_succ (w : Word) {i : Nat} (h : i < (formOf w.Op.toNat).length) : lineT w (i + 1) = lineT w i ++ 32 :: partT w (formOf w.Op.toNat)[i] := by
  unfold lineT
  rw [List.take_add_one, List.getElem?_eq_getElem h, List.map_append, sp_app]
  simp [sp_cons, sp_nil]
theorem lineT_len {w : Word} (d : w.Txt) (i : Nat) : (lineT w i).length ≤ 200 := by
  have h1 := name_len w.Op.toNat
  have h2 := form_len w.Op.toNat
  have h3 := sp_len (xs := ((formOf w.Op.toNat).take i).map (partT w)) (k := 21) (fun x hx => by
    obtain ⟨y, _, rfl⟩ := List.mem_map.1 hx
    exact part_len d y)
  simp only [List.length_map, List.length_take] at h3
  have h4 : min i (formOf w.Op.toNat).length ≤ (formOf w.Op.toNat).length := Nat.min_le_right _ _
  unfold lineT
  rw [List.length_append]
  omega
theorem slice_one {P : Program} {rows : Nm → Option Row} {t : TypeId} {l : List UInt8} {i : Nat} {b : UInt8} (hu : P.underlying t = some .string) (h : l[i]? = some b) : sliceA P rows t (.str (bs l)) (some (.int .i64 i)) (some (.int .i64 (i + 1))) false = some (.str (bs [b])) := by
  obtain ⟨hi, rfl⟩ := List.getElem?_eq_some_iff.1 h
  rw [slice_ft hu (by omega) (by omega) (by omega)]
  congr 3
  rw [show ((i : Int) + 1).toNat - (i : Int).toNat = 1 by omega, show (i : Int).toNat = i by omega, List.drop_eq_getElem_cons hi]
  rfl

set_option maxHeartbeats 2000000 in
theorem l17Form (op : Nat) (h : op < 12) : Pure Tryd.prog 58 [.int .i64 op] (.tup [.str (bs (nameOf op)), .str (bs (formOf op))]) := by
  intro T
  have h1 : ¬ T + 1 = T + 1 + 1 + 1 := by omega
  have h2 : ¬ T + 1 + 1 = T + 1 + 1 + 1 := by omega
  have h3 : ¬ T = T + 1 + 1 := by omega
  have h4 : ¬ T = T + 1 := by omega
  have hop : op = 0 ∨ op = 1 ∨ op = 2 ∨ op = 3 ∨ op = 4 ∨ op = 5 ∨ op = 6 ∨ op = 7 ∨ op = 8 ∨ op = 9 ∨ op = 10 ∨ op = 11 := by omega
  refine enter mixed ME2 Tryd.func58 rfl (by kernel_rfl) rfl ?_
  rcases hop with rfl | rfl | rfl | rfl | rfl | rfl | rfl | rfl | rfl | rfl | rfl | rfl
  all_goals
    repeat' (first | (with_reducible first | refine stp ?_ | refine k_blk_o rfl ?_ | refine k_seq_n ?_) | ((try (conv => arg 1; simp [rg12, bs_mk, bs_empty])); with_reducible refine evp ?_) | fail)
    repeat (with_reducible first | refine stp ?_ | refine k_seq_n ?_)
    refine st_draw 10 (fun _ => false) (by kernel_rfl) ?_
    simp only [List.take_succ_cons, List.take_zero, List.drop_succ_cons, List.drop_zero, List.take_nil, List.drop_nil]
    repeat' (first | (with_reducible first | refine stp ?_ | refine k_blk_o rfl ?_ | refine k_seq_n ?_) | ((try (conv => arg 1; simp [rg12, bs_mk, maskR, h1, h2, h3, h4])); with_reducible refine evp ?_) | ((with_reducible refine apn ?na ?_); (case na => simp [appNames, ints, intss] <;> first | kernel_rfl | (refine ⟨?_, ?_⟩ <;> kernel_rfl))) | fail)
    exact dr_tup2 (.str _) (.str _)
theorem l17Signs : Pure Tryd.prog 59 [] (strs false (signL.map bs)) := by
  intro T
  refine enter mixed ME2 Tryd.func59 rfl (by kernel_rfl) rfl ?_
  repeat' (first | (with_reducible first | refine stp ?_ | refine k_blk_o rfl ?_ | refine k_seq_n ?_) | ((try (conv => arg 1; simp [rg6, bs_mk])); with_reducible refine evp ?_) | fail)
  exact dr_strs_sl (l := signL.map bs) (by simp [signL])
theorem implSigns : Pure Tryd.prog 83 [] (strs false (signL.map bs)) := by
  intro T
  refine enter mixed ME2 Tryd.func83 rfl (by kernel_rfl) rfl ?_
  repeat' (first | (with_reducible first | refine stp ?_ | refine k_blk_o rfl ?_ | refine k_seq_n ?_) | ((try (conv => arg 1; simp [rg6, bs_mk])); with_reducible refine evp ?_) | fail)
  exact dr_strs_sl (l := signL.map bs) (by simp [signL])
theorem sign_get {n : Nat} (h : n < 6) : signL[n]? = some (signOf n) := by
  have : ∀ o : Fin 6, signL[o.val]? = some (signOf o) := by decide +kernel
  exact this ⟨n, h⟩
end Go.Proofs.YtmcmgeedhbgglaaDoor.AM

namespace Go.Proofs.YtmcmgeedhbgglaaDoor.AM
open Go.RowKit

private def ME3 : FuncId → Mode := fun f => .tree

set_option maxHeartbeats 4000000 in
theorem l17Word (w : Word) (d : w.Txt) : Pure Tryd.prog 41 [.agg w.cells] (.str (bs (wordT w))) := by
  intro T
  have hop := d.op
  obtain ⟨op, hop0, hop1⟩ : ∃ op : Nat, w.Op = op ∧ op < 12 := ⟨w.Op.toNat, by omega, by omega⟩
  have K0 := l17Form op hop1
  have KR := specDecText w.R d.r
  have KA := specDecText w.A d.a
  have KB := specDecText w.B d.b
  have KN := specDecText w.N d.n
  have KS := l17Signs
  haveI := bd_dg d.r
  haveI := bd_dg d.a
  haveI := bd_dg d.b
  haveI := bd_dg d.n
  have hln := form_len w.Op.toNat
  have hco : w.cells = [.int .i64 w.Op, .int .i64 w.R, .int .i64 w.A, .int .i64 w.B, .int .i64 w.N] := rfl
  have hcl : w.cells.length = 5 := rfl
  refine enter mixed ME3 Tryd.func41 rfl (by kernel_rfl) rfl ?_
  repeat' (first | (with_reducible first | refine stp ?_ | refine k_blk_o rfl ?_ | refine k_seq_n ?_) | ((try (conv => arg 1; simp [hco, hop0, bs_mk, bs_empty])); with_reducible refine evp ?_) | ((with_reducible refine tcl ?_); first | ((apply tg (K0)); (case e => rfl); (case d => (refine dq ?_); (repeat' (first | ((refine Da.mk ?_); first | assumption) | constructor))))) | fail)
  rw [show nameOf op = nameOf w.Op.toNat by rw [hop0]; simp, show formOf op = formOf w.Op.toNat by rw [hop0]; simp]
  refine st_loop (fun (i : Nat) σ h => i ≤ (formOf w.Op.toNat).length ∧ T < h.tick ∧ σ 1 = .ptr (T, 0, 0) 0 0 0 ∧ h.rows (T, 0, 0) = some ⟨0, 5, [w.cells]⟩ ∧ σ 3 = .str (bs (lineT w i)) ∧ σ 4 = .str (bs (formOf w.Op.toNat)) ∧ σ 5 = .int .i64 i) (fun i => (formOf w.Op.toNat).length - i) 0 ?init ?step
  case init =>
    exact ⟨Nat.zero_le _, by simp [ltS], by simp, by simp [hco, hop0], by simp [lineT_zero, hop0], by simp [hop0], by simp⟩
  case step =>
    rintro i σ h ⟨hi, ht, s1, hr, s3, s4, s5⟩
    rw [hco] at hr
    by_cases hlt : i < (formOf w.Op.toNat).length
    · have hb : (formOf w.Op.toNat)[i]? = some (formOf w.Op.toNat)[i] := by simp
      have hm : (formOf w.Op.toNat)[i] ∈ formOf w.Op.toNat := List.getElem_mem hlt
      have hsucc := lineT_succ w hlt
      haveI : Bd (lineT w i) 200 := ⟨lineT_len d i⟩
      have hw : IntKind.i64.wrap (i + 1) = i + 1 := wrap_id (by omega) (by omega)
      have hsg : (formOf w.Op.toNat)[i] = 103 → 0 ≤ w.N ∧ w.N ≤ 5 := fun e => d.sg (by
        rw [e] at hm
        have := form_sign w.Op.toNat (by omega) hm
        omega)
      have hlt2 : (i : Int) < (formOf w.Op.toNat).length := by omega
      generalize hF : formOf w.Op.toNat = F at *
      generalize hB : F[i] = b at *
      have hsz := bs_size F
      have hsl := fun rows => slice_one (P := Tryd.prog) (rows := rows) und_9 hb
      have fin : ∀ (σ' : Nat → AV) (h' : Hp), σ' 1 = .ptr (T, 0, 0) 0 0 0 → T < h'.tick → h'.rows (T, 0, 0) = some ⟨0, 5, [[.int .i64 w.Op, .int .i64 w.R, .int .i64 w.A, .int .i64 w.B, .int .i64 w.N]]⟩ → σ' 3 = .str (bs (lineT w i ++ 32 :: partT w b)) → σ' 4 = .str (bs F) → σ' 5 = .int .i64 (i + 1) →
          ∃ a', F.length - a' < F.length - i ∧ a' ≤ F.length ∧ T < h'.tick ∧ σ' 1 = .ptr (T, 0, 0) 0 0 0 ∧ h'.rows (T, 0, 0) = some ⟨0, 5, [w.cells]⟩ ∧ σ' 3 = .str (bs (lineT w a')) ∧ σ' 4 = .str (bs F) ∧ σ' 5 = .int .i64 a' :=
        fun σ' h' a1 a2 a3 a4 a5 a6 => ⟨i + 1, by omega, by omega, a2, a1, by rw [hco]; exact a3, by rw [hsucc]; exact a4, a5, by simpa using a6⟩
      by_cases c1 : b = 114
      · subst c1
        repeat' (first | (with_reducible first | refine stp ?_ | refine k_blk_o rfl ?_ | refine k_seq_n ?_) | ((try (conv => arg 1; simp [s1, hr, s3, s4, s5, hlt2, hw, hb, bs_get, hsz, bs_mk, cat_le, bs_app])); with_reducible refine evp ?_) | ((with_reducible refine tcl ?_); first | ((apply tg (KR)); (case e => rfl); (case d => (refine dq ?_); (repeat' (first | ((refine Da.mk ?_); first | assumption) | constructor))))) | fail)
        exact fin _ _ (by simp [s1]) (by simp; omega) (by simp [hr]) (by simp [partT]) (by simp [s4]) (by simp)
      have d1 : ¬ (b.toNat : Int) = 114 := fun e => c1 (UInt8.toNat_inj.1 (by show b.toNat = 114; omega))
      by_cases c2 : b = 97
      · subst c2
        repeat' (first | (with_reducible first | refine stp ?_ | refine k_blk_o rfl ?_ | refine k_seq_n ?_) | ((try (conv => arg 1; simp [s1, hr, s3, s4, s5, hlt2, hw, hb, bs_get, hsz, bs_mk, cat_le, bs_app])); with_reducible refine evp ?_) | ((with_reducible refine tcl ?_); first | ((apply tg (KA)); (case e => rfl); (case d => (refine dq ?_); (repeat' (first | ((refine Da.mk ?_); first | assumption) | constructor))))) | fail)
        exact fin _ _ (by simp [s1]) (by simp; omega) (by simp [hr]) (by simp [partT]) (by simp [s4]) (by simp)
      have d2 : ¬ (b.toNat : Int) = 97 := fun e => c2 (UInt8.toNat_inj.1 (by show b.toNat = 97; omega))
      by_cases c3 : b = 98
      · subst c3
        repeat' (first | (with_reducible first | refine stp ?_ | refine k_blk_o rfl ?_ | refine k_seq_n ?_) | ((try (conv => arg 1; simp [s1, hr, s3, s4, s5, hlt2, hw, hb, bs_get, hsz, bs_mk, cat_le, bs_app])); with_reducible refine evp ?_) | ((with_reducible refine tcl ?_); first | ((apply tg (KB)); (case e => rfl); (case d => (refine dq ?_); (repeat' (first | ((refine Da.mk ?_); first | assumption) | constructor))))) | fail)
        exact fin _ _ (by simp [s1]) (by simp; omega) (by simp [hr]) (by simp [partT]) (by simp [s4]) (by simp)
      have d3 : ¬ (b.toNat : Int) = 98 := fun e => c3 (UInt8.toNat_inj.1 (by show b.toNat = 98; omega))
      by_cases c4 : b = 110
      · subst c4
        repeat' (first | (with_reducible first | refine stp ?_ | refine k_blk_o rfl ?_ | refine k_seq_n ?_) | ((try (conv => arg 1; simp [s1, hr, s3, s4, s5, hlt2, hw, hb, bs_get, hsz, bs_mk, cat_le, bs_app])); with_reducible refine evp ?_) | ((with_reducible refine tcl ?_); first | ((apply tg (KN)); (case e => rfl); (case d => (refine dq ?_); (repeat' (first | ((refine Da.mk ?_); first | assumption) | constructor))))) | fail)
        exact fin _ _ (by simp [s1]) (by simp; omega) (by simp [hr]) (by simp [partT]) (by simp [s4]) (by simp)
      have d4 : ¬ (b.toNat : Int) = 110 := fun e => c4 (UInt8.toNat_inj.1 (by show b.toNat = 110; omega))
      have n3 : T < h.tick + 1 + 1 := by omega
      have n4 : T < h.tick + 1 + 1 + 1 := by omega
      have n5 : T < h.tick + 1 + 1 + 1 + 1 := by omega
      have n6 : T < h.tick + 1 + 1 + 1 + 1 + 1 := by omega
      have n7 : T < h.tick + 1 + 1 + 1 + 1 + 1 + 1 := by omega
      by_cases c5 : b = 103
      · have hN := hsg c5
        subst c5
        obtain ⟨n, hn0, hn1⟩ : ∃ n : Nat, w.N = n ∧ n < 6 := ⟨w.N.toNat, by omega, by omega⟩
        have hsn := sign_get hn1
        have hn2 : n < signL.length := hn1
        have hse : signL[n] = signOf n := Option.some.inj ((List.getElem?_eq_getElem hn2).symm.trans hsn)
        haveI : Bd (signOf n) 2 := ⟨sign_len n⟩
        repeat' (first | (with_reducible first | refine stp ?_ | refine k_blk_o rfl ?_ | refine k_seq_n ?_) | ((try (conv => arg 1; simp [s1, hr, s3, s4, s5, hlt2, hw, hb, bs_get, hsz, bs_mk])); with_reducible refine evp ?_) | fail)
        repeat (with_reducible first | refine stp ?_ | refine k_seq_n ?_)
        refine st_draw 9 (fun _ => false) (by kernel_rfl) ?_
        simp only [List.take_succ_cons, List.take_zero, List.drop_succ_cons, List.drop_zero, List.take_nil, List.drop_nil]
        repeat' (first | (with_reducible first | refine stp ?_ | refine k_blk_o rfl ?_ | refine k_seq_n ?_) | ((try (conv => arg 1; simp [s1, hr, s3, s4, s5, hw, hn0, strs, hse, hn2, maskR, tk_ne, n3, n4, n5, n6, n7, bs_mk, cat_le, bs_app])); with_reducible refine evp ?_) | ((with_reducible refine apn ?na ?_); (case na => simp [appNames, ints, intss] <;> first | kernel_rfl | (refine ⟨?_, ?_⟩ <;> kernel_rfl))) | ((with_reducible refine tcl ?_); first | ((apply tg (KS)); (case e => rfl); (case d => (refine dq ?_); (repeat' (first | ((refine Da.mk ?_); first | assumption) | constructor))))) | fail)
        exact fin _ _ (by simp [s1]) (by simp; omega) (by simp [hr, hn0]) (by simp [partT, hn0]) (by simp [s4]) (by simp)
      have d5 : ¬ (b.toNat : Int) = 103 := fun e => c5 (UInt8.toNat_inj.1 (by show b.toNat = 103; omega))
      repeat' (first | (with_reducible first | refine stp ?_ | refine k_blk_o rfl ?_ | refine k_seq_n ?_) | ((try (conv => arg 1; simp [s1, hr, s3, s4, s5, hlt2, hw, hb, d1, d2, d3, d4, d5, bs_get, hsz, bs_mk])); with_reducible refine evp ?_) | ((with_reducible refine apn ?na ?_); (case na => simp [appNames, ints, intss] <;> first | kernel_rfl | (refine ⟨?_, ?_⟩ <;> kernel_rfl))) | fail)
      repeat (with_reducible first | refine stp ?_ | refine k_seq_n ?_)
      refine st_draw 13 (fun _ => false) (by kernel_rfl) ?_
      simp only [List.take_succ_cons, List.take_zero, List.drop_succ_cons, List.drop_zero, List.take_nil, List.drop_nil]
      repeat' (first | (with_reducible first | refine stp ?_ | refine k_blk_o rfl ?_ | refine k_seq_n ?_) | ((try (conv => arg 1; simp [s1, hr, s3, s4, s5, hw, hsl, maskR, tk_ne, n3, n4, n5, n6, n7, bs_mk, cat_le, bs_app])); with_reducible refine evp ?_) | ((with_reducible refine apn ?na ?_); (case na => simp [appNames, ints, intss] <;> first | kernel_rfl | (refine ⟨?_, ?_⟩ <;> kernel_rfl))) | ((with_reducible refine tcl ?_); first | ((apply tg (KN)); (case e => rfl); (case d => (refine dq ?_); (repeat' (first | ((refine Da.mk ?_); first | assumption) | constructor))))) | fail)
      exact fin _ _ (by simp [s1]) (by simp; omega) (by simp [hr]) (by simp [partT, c1, c2, c3, c4, c5]) (by simp [s4]) (by simp)
    · have hge : i = (formOf w.Op.toNat).length := by omega
      subst hge
      repeat' (first | (with_reducible first | refine stp ?_ | refine k_blk_o rfl ?_ | refine k_seq_n ?_) | ((try (conv => arg 1; simp [s1, hr, s3, s4, s5, bs_size, bs_mk])); with_reducible refine evp ?_) | ((with_reducible refine apn ?na ?_); (case na => simp [appNames, ints, intss] <;> first | kernel_rfl | (refine ⟨?_, ?_⟩ <;> kernel_rfl))) | fail)
      rw [lineT_all]
      exact .str _
end Go.Proofs.YtmcmgeedhbgglaaDoor.AM

namespace Go.Proofs.YtmcmgeedhbgglaaDoor.AM
open Go.RowKit Go.Shelf

/-- A call of the library that lays one new row of texts, and leaves all that was there as it was: the row is a tree. -/
theorem sound_strs {P : Program} {f : FuncId} {args : List AV} {h : Hp} {fn : Func} {xs : List ByteArray} (h1 : P.funcs[f]? = some fn) (h2 : fn.body.isNone = false) (h3 : (fn.name == "runtime.NumGoroutine") = false)
    (hc : ∀ (mu : Nm → Nat → Option Loc) (pr : Bool → Nat → Prop) (w : World) (vs : List Value), Rel mu pr h w → VRs mu pr w.heap args vs → Calls P f vs.toArray w fun e w' => ∃ N cap ty fr, e = .returned (.slice (some ⟨N, 0, none⟩) xs.length cap) ∧ xs.length ≤ cap ∧ w.heap.size ≤ N ∧ w'.heap[N]? = some (.cells (xs.map Value.string).toArray ty fr) ∧ Below w.heap.size w w') :
    Sound P f args h fun v h' => v = strs false xs ∧ h' = h := by
  refine ⟨⟨fn, h1, h2, h3⟩, fun mu pr w vs R hv => (hc mu pr w vs R hv).mono ?_⟩
  rintro e w' ⟨N, cap, ty, fr, rfl, hcap, hN, hb, B⟩
  have A := After.below R B
  have hx : Ext mu pr w.heap mu (fun c b => pr c b ∨ (c = false ∧ b = N)) w'.heap := ⟨A.ext.names, fun c b hb => .inl hb, A.ext.same, A.ext.size⟩
  have hNs : N < w'.heap.size := (Array.getElem?_eq_some_iff.1 hb).1
  refine ⟨_, strs false xs, h, mu, fun c b => pr c b ∨ (c = false ∧ b = N), rfl, ⟨rfl, rfl⟩, ?_, ⟨fun n r hr => ?_, A.rel.inj, A.rel.fresh, A.rel.vers, fun c b hb' => ?_, R.tab.ext hx⟩, hx, A.fr, fun b hb' => ?_, fun b hb' => ?_, A.names, A.tick⟩
  · have := VR.tr (mu := mu) (pr := fun c b => pr c b ∨ (c = false ∧ b = N)) (hp := w'.heap) false N 0 cap 1 (xs.map Value.string).toArray ty fr (xs.map fun x => [AV.str x]) (fun i _ => .string (xs.getD i ByteArray.empty)) (.inr ⟨rfl, rfl⟩) hb (by simpa using hcap)
      (fun i e he => by simp at he; obtain ⟨a, _, rfl⟩ := he; rfl)
      (fun i e j c he hj => by
        simp at he; obtain ⟨a, ha, rfl⟩ := he
        match j, hj with
        | 0, hj => simp [ha])
      (fun i e j c he hj => by
        simp at he; obtain ⟨a, ha, rfl⟩ := he
        match j, hj with
        | 0, hj => simp at hj; subst hj; rfl)
      (fun i e j c he hj => by
        simp at he; obtain ⟨a, ha, rfl⟩ := he
        match j, hj with
        | 0, hj => simp at hj; subst hj; simp [ha]; exact .str _)
    simpa [strs] using this
  · obtain ⟨l, arr, ty', g1, g2, g3, g4, g5, g6⟩ := A.rel.row n r hr
    refine ⟨l, arr, ty', g1, fun c hc => ?_, g3, g4, g5, g6.mono ⟨fun _ _ _ h => h, fun c b hb => .inl hb, fun _ _ _ => rfl, fun b arr ty fr h => ⟨arr, fr, h, rfl⟩⟩⟩
    rcases hc with hc | ⟨_, hc⟩
    · exact g2 c hc
    · obtain ⟨l', _, _, k1, _, k3, _⟩ := R.row n r hr
      rw [g1] at k1
      cases k1
      have := (Array.getElem?_eq_some_iff.1 k3).1
      omega
  · rcases hb' with hb' | ⟨_, rfl⟩
    · exact A.rel.lt c b hb'
    · exact hNs
  · rcases hb' with hb' | ⟨_, rfl⟩
    · exact .inl hb'
    · exact .inr hN
  · rcases hb' with hb' | ⟨hc, _⟩
    · exact hb'
    · cases hc
theorem pure_strs {P : Program} {f : FuncId} {args : List AV} {fn : Func} {xs : List ByteArray} (h1 : P.funcs[f]? = some fn) (h2 : fn.body.isNone = false) (h3 : (fn.name == "runtime.NumGoroutine") = false)
    (hc : ∀ (mu : Nm → Nat → Option Loc) (pr : Bool → Nat → Prop) (h : Hp) (w : World) (vs : List Value), Rel mu pr h w → VRs mu pr w.heap args vs → Calls P f vs.toArray w fun e w' => ∃ N cap ty fr, e = .returned (.slice (some ⟨N, 0, none⟩) xs.length cap) ∧ xs.length ≤ cap ∧ w.heap.size ≤ N ∧ w'.heap[N]? = some (.cells (xs.map Value.string).toArray ty fr) ∧ Below w.heap.size w w') :
    Pure P f args (strs false xs) := fun T => (sound_strs (h := .mt T) h1 h2 h3 fun mu pr w vs => hc mu pr _ w vs).mono fun v h' ⟨e, _⟩ => by rw [e]; exact dr_strs (by simp) _

/-- The kit's numbers, led to this program's. -/
def laysSplit_ren : Go.Shelf.Ren := ⟨fun | 146 => 65 | 221 => 82 | 268 => 98 | 138 => 99 | 143 => 100 | 195 => 111 | 197 => 112 | 218 => 113 | 219 => 114 | 260 => 118 | 217 => 119 | 225 => 120 | 224 => 121 | 267 => 122 | 266 => 124 | 314 => 125 | n => n, fun | 9 => 9 | 31 => 58 | 3 => 3 | 4 => 4 | 0 => 0 | 105 => 157 | 21 => 21 | 5 => 5 | 46 => 128 | 119 => 165 | 139 => 168 | 138 => 167 | 146 => 169 | 51 => 148 | n => n, fun | 1 => 3 | 3 => 6 | 4 => 7 | n => n⟩
theorem laysSplit : Lays.n146 Tryd.prog laysSplit_ren where
  mixed := by kernel_rfl
  f138 := Tryd.func99.trans (congrArg some (by kernel_rfl))
  f143 := Tryd.func100.trans (congrArg some (by kernel_rfl))
  f146 := Tryd.func65.trans (congrArg some (by kernel_rfl))
  f195 := Tryd.func111.trans (congrArg some (by kernel_rfl))
  f197 := Tryd.func112.trans (congrArg some (by kernel_rfl))
  f217 := Tryd.func119.trans (congrArg some (by kernel_rfl))
  f218 := Tryd.func113.trans (congrArg some (by kernel_rfl))
  f219 := Tryd.func114.trans (congrArg some (by kernel_rfl))
  f221 := Tryd.func82.trans (congrArg some (by kernel_rfl))
  f224 := Tryd.func121.trans (congrArg some (by kernel_rfl))
  f225 := Tryd.func120.trans (congrArg some (by kernel_rfl))
  f260 := Tryd.func118.trans (congrArg some (by kernel_rfl))
  f266 := Tryd.func124.trans (congrArg some (by kernel_rfl))
  f267 := Tryd.func122.trans (congrArg some (by kernel_rfl))
  f268 := Tryd.func98.trans (congrArg some (by kernel_rfl))
  f314 := Tryd.func125.trans (congrArg some (by kernel_rfl))
  t0 := Tryd.underlying0
  a0 := Tryd.isAgg0
  z0 := Tryd.sizeOf0
  v0 := Tryd.zeroValue0
  t3 := Tryd.underlying3
  a3 := Tryd.isAgg3
  z3 := Tryd.sizeOf3
  v3 := Tryd.zeroValue3
  t4 := Tryd.underlying4
  a4 := Tryd.isAgg4
  z4 := Tryd.sizeOf4
  v4 := Tryd.zeroValue4
  t5 := Tryd.underlying5
  a5 := Tryd.isAgg5
  z5 := Tryd.sizeOf5
  v5 := Tryd.zeroValue5
  t9 := Tryd.underlying9
  a9 := Tryd.isAgg9
  z9 := Tryd.sizeOf9
  v9 := Tryd.zeroValue9
  t21 := Tryd.underlying21
  a21 := Tryd.isAgg21
  z21 := Tryd.sizeOf21
  v21 := Tryd.zeroValue21
  t31 := Tryd.underlying58
  a31 := Tryd.isAgg58
  z31 := Tryd.sizeOf58
  v31 := Tryd.zeroValue58
  t46 := Tryd.underlying128
  a46 := Tryd.isAgg128
  z46 := Tryd.sizeOf128
  v46 := Tryd.zeroValue128
  t51 := Tryd.underlying148
  a51 := Tryd.isAgg148
  z51 := Tryd.sizeOf148
  v51 := Tryd.zeroValue148
  t105 := Tryd.underlying157
  a105 := Tryd.isAgg157
  z105 := Tryd.sizeOf157
  v105 := Tryd.zeroValue157
  t119 := Tryd.underlying165
  a119 := Tryd.isAgg165
  z119 := Tryd.sizeOf165
  t138 := Tryd.underlying167
  a138 := Tryd.isAgg167
  z138 := Tryd.sizeOf167
  v138 := Tryd.zeroValue167
  t139 := Tryd.underlying168
  a139 := Tryd.isAgg168
  z139 := Tryd.sizeOf168
  v139 := Tryd.zeroValue168
  t146 := Tryd.underlying169
  a146 := Tryd.isAgg169
  z146 := Tryd.sizeOf169
  v146 := Tryd.zeroValue169
  g1 := by kernel_rfl
  g3 := by kernel_rfl
  g4 := by kernel_rfl
end Go.Proofs.YtmcmgeedhbgglaaDoor.AM

namespace Go.Proofs.YtmcmgeedhbgglaaDoor.AM
open Go.RowKit Go.Shelf

/-- The pieces between a byte. -/
def spl (c : UInt8) : List UInt8 → List (List UInt8)
  | [] => [[]]
  | x :: l => if x = c then [] :: spl c l else match spl c l with
    | [] => [[x]]
    | p :: ps => (x :: p) :: ps
theorem spl_ne (c : UInt8) : ∀ l, spl c l ≠ []
  | [] => by simp [spl]
  | x :: l => by
    unfold spl
    split
    · simp
    · split <;> simp
theorem spl_nc {c : UInt8} : ∀ {l : List UInt8}, c ∉ l → spl c l = [l]
  | [], _ => rfl
  | x :: l, h => by
    have h1 : ¬ x = c := fun e => h (by simp [e])
    unfold spl
    rw [if_neg h1, spl_nc (fun hm => h (by simp [hm]))]
theorem spl_hit {c : UInt8} {r : List UInt8} : ∀ {a : List UInt8}, c ∉ a → spl c (a ++ c :: r) = a :: spl c r
  | [], _ => by simp [spl]
  | x :: l, h => by
    have h1 : ¬ x = c := fun e => h (by simp [e])
    rw [List.cons_append]
    conv => lhs; unfold spl
    rw [if_neg h1, spl_hit (fun hm => h (by simp [hm]))]
theorem ix_nc {c : UInt8} : ∀ {l : List UInt8}, c ∉ l → Go.Lib.index l [c] = -1
  | [], _ => rfl
  | x :: l, h => by
    have h1 : ¬ c = x := fun e => h (by simp [e])
    unfold Go.Lib.index
    rw [ix_nc (fun hm => h (by simp [hm]))]
    simp [List.isPrefixOf, h1]
theorem ix_hit {c : UInt8} {r : List UInt8} : ∀ {a : List UInt8}, c ∉ a → Go.Lib.index (a ++ c :: r) [c] = a.length
  | [], _ => by simp [Go.Lib.index, List.isPrefixOf]
  | x :: l, h => by
    have h1 : ¬ c = x := fun e => h (by simp [e])
    rw [List.cons_append]
    unfold Go.Lib.index
    rw [ix_hit (fun hm => h (by simp [hm]))]
    simp [List.isPrefixOf, h1]
    try omega
theorem split_mem {c : UInt8} {l : List UInt8} (h : c ∈ l) : ∃ a r, l = a ++ c :: r ∧ c ∉ a := by
  obtain ⟨a, r, e, h⟩ := List.eq_append_cons_of_mem h
  exact ⟨a, r, e, h⟩
theorem splitB_spl (c : UInt8) : ∀ (n : Nat) (l : List UInt8), l.length ≤ n → Go.Lib.splitB (bs [c]) 0 (Go.Lib.countB (bs l) (bs [c])) (bs l) = (spl c l).map bs := by
  intro n
  induction n with
  | zero =>
    intro l hl
    have : l = [] := List.eq_nil_of_length_eq_zero (by omega)
    subst this
    have hx : Go.Lib.indexB (bs []) (bs [c]) = -1 := by unfold Go.Lib.indexB; rw [bs_data, bs_data]; exact ix_nc (by simp)
    rw [Go.Lib.countB_miss _ _ hx]
    rfl
  | succ n ih =>
    intro l hl
    by_cases hm : c ∈ l
    · obtain ⟨a, r, rfl, ha⟩ := split_mem hm
      have hx : Go.Lib.indexB (bs (a ++ c :: r)) (bs [c]) = a.length := by unfold Go.Lib.indexB; rw [bs_data, bs_data]; exact ix_hit ha
      have hs : (bs [c]).size = 1 := bs_size _
      rw [Go.Lib.countB_hit _ _ a.length (by rw [hs]; exact Nat.le_refl _) hx, Nat.add_comm 1, Go.Lib.splitB_hit _ _ _ _ _ hx, spl_hit ha]
      have e : (bs (a ++ c :: r)).extract (a.length + (bs [c]).size) (bs (a ++ c :: r)).size = bs r := by
        rw [hs, bs_size, bs_extract]
        congr 1
        rw [show a ++ c :: r = (a ++ [c]) ++ r by simp, List.drop_left' (by simp), List.take_of_length_le (by simp; omega)]
      rw [e, ih r (by simp at hl; omega), bs_extract, List.map_cons]
      congr 2
      simp
    · have hx : Go.Lib.indexB (bs l) (bs [c]) = -1 := by unfold Go.Lib.indexB; rw [bs_data, bs_data]; exact ix_nc hm
      rw [Go.Lib.countB_miss _ _ hx, spl_nc hm]
      rfl
theorem below_alloc (w : World) (o : Obj) : Below w.heap.size w (w.alloc o) :=
  ⟨rfl, rfl, rfl, by show w.heap.size ≤ (w.heap.push o).size; simp, fun i hi => by
    show (w.heap.push o)[i]? = _
    rw [Array.getElem?_push_lt hi, Array.getElem?_eq_getElem hi]⟩
theorem tab_max {mu : Nm → Nat → Option Loc} {pr : Bool → Nat → Prop} {h : Hp} {w : World} (R : Rel mu pr h w) : ∃ m, w.cell? ⟨3, 0, none⟩ = some (.int .i64 m) := by
  obtain ⟨_, arr, ty, fr, hb, m, ha⟩ := R.tab 3 _ (by simp only [tabs]; exact List.mem_cons_of_mem _ (List.mem_cons_self ..))
  subst ha
  exact ⟨m, by simp [World.cell?, hb]⟩
/-- strings.Split at one byte: the pieces, a tree. -/
theorem splitP (l : List UInt8) (c : UInt8) (hl : l.length < 4294967281) : Pure Tryd.prog 65 [.str (bs l), .str (bs [c])] (strs false ((spl c l).map bs)) := by
  refine pure_strs Tryd.func65 rfl rfl fun mu pr h w vs R hv => ?_
  obtain ⟨u, u2, rfl⟩ : ∃ u u2, vs = [u, u2] := by
    match vs, hv.1 with
    | [u, u2], _ => exact ⟨u, u2, rfl⟩
  obtain rfl : u = .string (bs l) := by
    obtain ⟨u', h1, h2⟩ := hv.2 0 _ rfl
    simp at h1
    subst h1
    cases h2
    rfl
  obtain rfl : u2 = .string (bs [c]) := by
    obtain ⟨u', h1, h2⟩ := hv.2 1 _ rfl
    simp at h1
    subst h1
    cases h2
    rfl
  obtain ⟨m, hm⟩ := tab_max R
  have h1 : 1 ≤ (bs [c]).size := by rw [bs_size]; exact Nat.le_refl _
  have C := Any.strings_Split laysSplit (by kernel_rfl) (bs l) (bs [c]) m w (by rw [bs_size]; exact hl) hm h1
  have hlen := Go.Lib.splitB_all (bs [c]) h1 0 _ (bs l) rfl
  rw [splitB_spl c _ l (Nat.le_refl _)] at C hlen
  refine Calls.mono (R := _) C ?_
  rintro e w' ⟨rfl, rfl⟩
  refine ⟨w.heap.size, Go.Lib.countB (bs l) (bs [c]) + 1, laysSplit_ren.t 9, (0, 0), ?_, ?_, Nat.le_refl _, ?hb, below_alloc _ _⟩
  case hb =>
    show (w.heap.push _)[w.heap.size]? = _
    simp only [Array.getElem?_push_size]
  · rw [hlen]
  · rw [hlen]; exact Nat.le_refl _
end Go.Proofs.YtmcmgeedhbgglaaDoor.AM

namespace Go.Proofs.YtmcmgeedhbgglaaDoor.AM
open Go.RowKit

private def ME4 : FuncId → Mode := fun f => .tree

def shapeL : List (List UInt8) := [[108, 105, 32, 114, 32, 110], [108, 100, 32, 114, 32, 115], [115, 100, 32, 114, 32, 115], [97, 108, 117, 32, 114, 32, 97, 32, 43, 32, 98], [108, 120, 32, 114, 32, 109, 32, 97], [115, 120, 32, 114, 32, 109, 32, 97], [105, 110, 32, 114], [111, 117, 116, 32, 114], [106, 109, 112, 32, 119], [106, 122, 32, 114, 32, 119], [114, 101, 116, 32, 114], [109, 118, 32, 114, 32, 97]]
def shapeOf (op : Nat) : List UInt8 := shapeL.getD op []
def shp (b : UInt8) : List UInt8 := if b = 103 then [43] else [b]
theorem shape_spl (op : Nat) (h : op < 12) : spl 32 (shapeOf op) = nameOf op :: (formOf op).map shp := by
  have : ∀ o : Fin 12, spl 32 (shapeOf o) = nameOf o :: (formOf o).map shp := by decide +kernel
  exact this ⟨op, h⟩
theorem shape_len (op : Nat) (h : op < 12) : (shapeOf op).length < 4294967281 := by
  have : ∀ o : Fin 12, (shapeOf o).length < 4294967281 := by decide +kernel
  exact this ⟨op, h⟩
theorem shape_get {op : Nat} (h : op < 12) : shapeL[op]? = some (shapeOf op) := by
  have : ∀ o : Fin 12, shapeL[o.val]? = some (shapeOf o) := by decide +kernel
  exact this ⟨op, h⟩
theorem form_mem (op : Nat) (h : op < 12) : ∀ b ∈ formOf op, b = 114 ∨ b = 97 ∨ b = 98 ∨ b = 103 ∨ b = 110 ∨ b = 115 ∨ b = 109 ∨ b = 119 := by
  have : ∀ o : Fin 12, ∀ b ∈ formOf o, b = 114 ∨ b = 97 ∨ b = 98 ∨ b = 103 ∨ b = 110 ∨ b = 115 ∨ b = 109 ∨ b = 119 := by decide +kernel
  exact this ⟨op, h⟩
theorem strs_tail {P : Program} {rows : Nm → Option Row} {t e : TypeId} {b : Bool} {x : ByteArray} {xs : List ByteArray} (hu : P.underlying t = some (.slice e)) (hs : tsz P e = some 1) : sliceA P rows t (strs b (x :: xs)) (some (.int .i64 1)) none false = some (strs b xs) := by
  unfold sliceA strs
  cases xs with
  | nil => simp [hu, hs, bnd]
  | cons y ys => simp [hu, hs, bnd, List.take_of_length_le]

/-- The shapes, as a tree. -/
def shapesV : AV := .tr false (shapeL.map fun x => [.str (bs x)])
theorem shapesV_eq : shapesV = strs false (shapeL.map bs) := by simp [shapesV, strs]
theorem implShapes : Pure Tryd.prog 66 [] shapesV := by
  intro T
  refine enter mixed ME4 Tryd.func66 rfl (by kernel_rfl) rfl ?_
  repeat' (first | (with_reducible first | refine stp ?_ | refine k_blk_o rfl ?_ | refine k_seq_n ?_) | ((try (conv => arg 1; simp [rg12, bs_mk])); with_reducible refine evp ?_) | fail)
  rw [shapesV_eq]
  exact dr_strs_sl (l := shapeL.map bs) (by simp [shapeL])

set_option maxHeartbeats 4000000 in
theorem partText (w : Word) (d : w.Txt) (b : UInt8) (hb : b = 114 ∨ b = 97 ∨ b = 98 ∨ b = 103 ∨ b = 110 ∨ b = 115 ∨ b = 109 ∨ b = 119) (hg : b = 103 → 0 ≤ w.N ∧ w.N ≤ 5) : Pure Tryd.prog 67 [.str (bs (shp b)), .agg w.cells] (.str (bs (partT w b))) := by
  intro T
  have KR := itoaB w.R d.r
  have KA := itoaB w.A d.a
  have KB := itoaB w.B d.b
  have KN := itoaB w.N d.n
  have KS := implSigns
  haveI := bd_dg d.r
  haveI := bd_dg d.a
  haveI := bd_dg d.b
  haveI := bd_dg d.n
  have hT : ¬ T = T + 1 + 1 := by omega
  have n1 : T < T + 1 + 1 + 1 := by omega
  have n2 : T < T + 1 + 1 + 1 + 1 := by omega
  have n3 : T < T + 1 + 1 + 1 + 1 + 1 := by omega
  have n4 : T < T + 1 + 1 + 1 + 1 + 1 + 1 := by omega
  have hco : w.cells = [.int .i64 w.Op, .int .i64 w.R, .int .i64 w.A, .int .i64 w.B, .int .i64 w.N] := rfl
  refine enter mixed ME4 Tryd.func67 rfl (by kernel_rfl) rfl ?_
  rcases hb with rfl | rfl | rfl | rfl | rfl | rfl | rfl | rfl
  case inr.inr.inr.inl =>
    obtain ⟨n, hn0, hn1⟩ : ∃ n : Nat, w.N = n ∧ n < 6 := ⟨w.N.toNat, by have := hg rfl; omega, by have := hg rfl; omega⟩
    have hsn := sign_get hn1
    have hn2 : n < signL.length := hn1
    have hse : signL[n] = signOf n := Option.some.inj ((List.getElem?_eq_getElem hn2).symm.trans hsn)
    repeat' (first | (with_reducible first | refine stp ?_ | refine k_blk_o rfl ?_ | refine k_seq_n ?_) | ((try (conv => arg 1; simp [hco, shp, bs_mk, bs_empty, bs_toList])); with_reducible refine evp ?_) | fail)
    repeat (with_reducible first | refine stp ?_ | refine k_seq_n ?_)
    refine st_draw 6 (fun _ => false) (by kernel_rfl) ?_
    simp only [List.take_succ_cons, List.take_zero, List.drop_succ_cons, List.drop_zero, List.take_nil, List.drop_nil]
    repeat' (first | (with_reducible first | refine stp ?_ | refine k_blk_o rfl ?_ | refine k_seq_n ?_) | ((try (conv => arg 1; simp [hco, hn0, strs, hse, hn2, maskR, tk_ne, n1, n2, n3, n4])); with_reducible refine evp ?_) | ((with_reducible refine apn ?na ?_); (case na => simp [appNames, ints, intss] <;> first | kernel_rfl | (refine ⟨?_, ?_⟩ <;> kernel_rfl))) | ((with_reducible refine tcl ?_); first | ((apply tg (KS)); (case e => rfl); (case d => (refine dq ?_); (repeat' (first | ((refine Da.mk ?_); first | assumption) | constructor))))) | fail)
    simp [partT, hn0]
    exact .str _
  all_goals
    repeat' (first | (with_reducible first | refine stp ?_ | refine k_blk_o rfl ?_ | refine k_seq_n ?_) | ((try (conv => arg 1; simp [hco, shp, bs_mk, bs_empty, bs_toList, cat_le, bs_app])); with_reducible refine evp ?_) | ((with_reducible refine apn ?na ?_); (case na => simp [appNames, ints, intss] <;> first | kernel_rfl | (refine ⟨?_, ?_⟩ <;> kernel_rfl))) | ((with_reducible refine tcl ?_); first | ((apply tg (KR)); (case e => rfl); (case d => (refine dq ?_); (repeat' (first | ((refine Da.mk ?_); first | assumption) | constructor)))) | ((apply tg (KA)); (case e => rfl); (case d => (refine dq ?_); (repeat' (first | ((refine Da.mk ?_); first | assumption) | constructor)))) | ((apply tg (KB)); (case e => rfl); (case d => (refine dq ?_); (repeat' (first | ((refine Da.mk ?_); first | assumption) | constructor)))) | ((apply tg (KN)); (case e => rfl); (case d => (refine dq ?_); (repeat' (first | ((refine Da.mk ?_); first | assumption) | constructor))))) | fail)
    simp [partT]
    exact .str _

set_option maxHeartbeats 4000000 in
theorem asmWord (w : Word) (d : w.Txt) : Pure Tryd.prog 45 [.agg w.cells] (.str (bs (wordT w))) := by
  intro T
  have hop := d.op
  obtain ⟨op, hop0, hop1⟩ : ∃ op : Nat, w.Op = op ∧ op < 12 := ⟨w.Op.toNat, by omega, by omega⟩
  have hto : w.Op.toNat = op := by omega
  have K0 := implShapes
  have K1 := splitP (shapeOf op) 32 (shape_len op hop1)
  rw [shape_spl op hop1, List.map_cons] at K1
  have hsn := shape_get hop1
  have hn2 : op < shapeL.length := hop1
  have hse : shapeL[op] = shapeOf op := Option.some.inj ((List.getElem?_eq_getElem hn2).symm.trans hsn)
  have n1 : T < T + 1 := by omega
  have hco : w.cells = [.int .i64 w.Op, .int .i64 w.R, .int .i64 w.A, .int .i64 w.B, .int .i64 w.N] := rfl
  have hcl : w.cells.length = 5 := rfl
  have htl := fun rows => strs_tail (P := Tryd.prog) (rows := rows) (t := 58) (e := 9) (b := false) (x := bs (nameOf op)) (xs := (formOf op).map (bs ∘ shp)) (by kernel_rfl) (by kernel_rfl)
  refine enter mixed ME4 Tryd.func45 rfl (by kernel_rfl) rfl ?_
  repeat' (first | (with_reducible first | refine stp ?_ | refine k_blk_o rfl ?_ | refine k_seq_n ?_) | ((try (conv => arg 1; simp [hco, bs_mk, bs_empty])); with_reducible refine evp ?_) | fail)
  repeat (with_reducible first | refine stp ?_ | refine k_seq_n ?_)
  refine st_draw 7 (fun _ => false) (by kernel_rfl) ?_
  simp only [List.take_succ_cons, List.take_zero, List.drop_succ_cons, List.drop_zero, List.take_nil, List.drop_nil]
  repeat' (first | (with_reducible first | refine stp ?_ | refine k_blk_o rfl ?_ | refine k_seq_n ?_) | ((try (conv => arg 1; simp [hco, hop0, shapesV, hse, hn2, maskR, tk_ne, n1, bs_mk])); with_reducible refine evp ?_) | ((with_reducible refine apn ?na ?_); (case na => simp [appNames, ints, intss] <;> first | kernel_rfl | (refine ⟨?_, ?_⟩ <;> kernel_rfl))) | ((with_reducible refine tcl ?_); first | ((apply tg (K0)); (case e => rfl); (case d => (refine dq ?_); (repeat' (first | ((refine Da.mk ?_); first | assumption) | constructor)))) | ((apply tg (K1)); (case e => rfl); (case d => (refine dq ?_); (repeat' (first | ((refine Da.mk ?_); first | assumption) | constructor))))) | fail)
  repeat' (first | (with_reducible first | refine stp ?_ | refine k_blk_o rfl ?_) | ((try (conv => arg 1; simp [strs, bs_mk])); with_reducible refine evp ?_) | ((with_reducible refine apn ?na ?_); (case na => simp [appNames, ints, intss] <;> first | kernel_rfl | (refine ⟨?_, ?_⟩ <;> kernel_rfl))) | fail)
  refine k_seq_n ?_
  repeat' (first | (with_reducible first | refine stp ?_ | refine k_blk_o rfl ?_ | refine k_seq_n ?_) | ((try (conv => arg 1; simp [hco, hop0, htl, bs_mk])); with_reducible refine evp ?_) | ((with_reducible refine apn ?na ?_); (case na => simp [appNames, ints, intss] <;> first | kernel_rfl | (refine ⟨?_, ?_⟩ <;> kernel_rfl))) | fail)
  have hgen : wordT w = lineT w (formOf op).length := by rw [← lineT_all, hto]
  refine st_loop (fun (i : Nat) σ h => i ≤ (formOf op).length ∧ σ 1 = .ptr (T, 0, 0) 0 0 0 ∧ h.rows (T, 0, 0) = some ⟨0, 5, [w.cells]⟩ ∧ σ 4 = .str (bs (lineT w i)) ∧ σ 17 = strs false ((formOf op).map (bs ∘ shp)) ∧ σ 18 = .int .i64 (formOf op).length ∧ σ 19 = .int .i64 i) (fun i => (formOf op).length - i) 0 ?init ?step
  case init =>
    exact ⟨Nat.zero_le _, by simp, by simp [hco, hop0], by simp [lineT_zero, hto], by simp, by simp, by simp⟩
  case step =>
    rintro i σ h ⟨hi, s1, hr, s4, s17, s18, s19⟩
    have hfl := form_len op
    by_cases hlt : i < (formOf op).length
    · have hm : (formOf op)[i] ∈ formOf op := List.getElem_mem hlt
      have hlt2 : (i : Int) < (formOf op).length := by omega
      have hw : IntKind.i64.wrap (i + 1) = i + 1 := wrap_id (by omega) (by omega)
      have hsucc : lineT w (i + 1) = lineT w i ++ 32 :: partT w (formOf op)[i] := by
        have := lineT_succ w (i := i) (by rw [hto]; exact hlt)
        simpa [hto] using this
      have hsg : (formOf op)[i] = 103 → 0 ≤ w.N ∧ w.N ≤ 5 := fun e => d.sg (by
        rw [e] at hm
        have := form_sign op hop1 hm
        omega)
      have KP := partText w d (formOf op)[i] (form_mem op hop1 _ hm) hsg
      haveI : Bd (lineT w i) 200 := ⟨lineT_len d i⟩
      haveI : Bd (partT w (formOf op)[i]) 21 := ⟨part_len d _⟩
      repeat' (first | (with_reducible first | refine stp ?_ | refine k_blk_o rfl ?_ | refine k_seq_n ?_) | ((try (conv => arg 1; simp [hco, hcl, strs, s1, hr, s4, s17, s18, s19, hlt, hlt2, hw, bs_mk, cat_le, bs_app])); with_reducible refine evp ?_) | ((with_reducible refine apn ?na ?_); (case na => simp [appNames, ints, intss] <;> first | kernel_rfl | (refine ⟨?_, ?_⟩ <;> kernel_rfl))) | ((with_reducible refine tcl ?_); first | ((apply tg (KP)); (case e => rfl); (case d => (refine dq ?_); (repeat' (first | ((refine Da.mk ?_); first | assumption) | constructor))))) | fail)
      refine k_lp_n (i + 1) (by omega) ⟨by omega, by simp [s1], by simp [hr, hco], by simp [hsucc], by simp [s17], by simp [s18], by simp⟩
    · have hge : i = (formOf op).length := by omega
      subst hge
      repeat' (first | (with_reducible first | refine stp ?_ | refine k_blk_o rfl ?_ | refine k_seq_n ?_) | ((try (conv => arg 1; simp [s1, s4, s17, s18, s19])); with_reducible refine evp ?_) | ((with_reducible refine apn ?na ?_); (case na => simp [appNames, ints, intss] <;> first | kernel_rfl | (refine ⟨?_, ?_⟩ <;> kernel_rfl))) | fail)
      rw [hgen]
      exact .str _
end Go.Proofs.YtmcmgeedhbgglaaDoor.AM

namespace Go.Proofs.YtmcmgeedhbgglaaDoor.AM
open Go.RowKit

private def MW9 : FuncId → Mode := fun f => .tree

theorem specImageOk (m : Image) (hs : m.Sizes.length ≤ 2 ^ 62) (hcd : m.Code.length ≤ 2 ^ 62) : Pure Tryd.prog 39 [.agg (m.cells true)] (.bool (imageOk m)) := by
  intro T
  refine enter mixed MW9 Tryd.func39 rfl (by kernel_rfl) rfl ?_
  repeat' (first | (with_reducible first | refine stp ?_ | refine k_blk_o rfl ?_ | refine k_seq_n ?_) | ((try (conv => arg 1; simp [Image.cells])); with_reducible refine evp ?_) | fail)
  refine st_loop (fun (i : Nat) σ h => i ≤ m.Sizes.length ∧ σ 1 = .ptr (T, 0, 0) 0 0 0 ∧ σ 3 = .int .i64 i ∧ T < h.tick ∧ h.rows (T, 0, 0) = some ⟨0, 4, [[ints true m.Sizes, .int .i64 m.Params, .int .i64 m.Slots, words true m.Code]]⟩ ∧ ∀ j (hj : j < m.Sizes.length), j < i → inB m.Sizes[j] 1 16 = true) (fun i => m.Sizes.length - i) 0 ?init ?step
  case init =>
    simp
  case step =>
    rintro i σ h ⟨hi, h1, h3, ht, hr, hall⟩
    repeat' (first | (with_reducible first | refine stp ?_ | refine k_blk_o rfl ?_ | refine k_seq_n ?_) | ((try (conv => arg 1; simp [h1, h3, hr])); with_reducible refine evp ?_) | fail)
    (try with_reducible refine st_if ?_)
    (try (conv => arg 1; simp [h1]))
    (try with_reducible refine at_mk ?_)
    refine ⟨fun hb => ?_, fun hb => ?_⟩
    · have hlt : i < m.Sizes.length := by simpa using hb
      have hx : m.Sizes[i]? = some (m.Sizes[i]) := by simp
      have hw : IntKind.i64.wrap (i + 1) = i + 1 := wrap_id (by omega) (by omega)
      repeat' (first | (with_reducible first | refine stp ?_ | refine k_blk_o rfl ?_ | refine k_seq_n ?_) | ((try (conv => arg 1; simp [ints, h1, h3, hr, hx])); with_reducible refine evp ?_) | fail)
      refine st_tree rfl (l01In _ _ _) (.cons (.int _ _) (.cons (.int _ _) (.cons (.int _ _) .nil))) ?_
      repeat' (first | (with_reducible first | refine stp ?_ | refine k_blk_o rfl ?_ | refine k_seq_n ?_) | ((try (conv => arg 1; simp [h1, h3, hr])); with_reducible refine evp ?_) | fail)
      (try with_reducible refine st_if ?_)
      (try (conv => arg 1; simp [h1]))
      (try with_reducible refine at_mk ?_)
      refine ⟨fun hb => ?_, fun hb => ?_⟩
      · skip
        repeat' (first | (with_reducible first | refine stp ?_ | refine k_blk_o rfl ?_ | refine k_seq_n ?_) | ((try (conv => arg 1; simp [h1])); with_reducible refine evp ?_) | fail)
        refine dr_bool ?_
        have e2 : (m.Sizes.all fun n => inB n 1 16) = false := by
          rw [List.all_eq_false]
          exact ⟨m.Sizes[i], List.getElem_mem hlt, by simpa using hb⟩
        simp only [imageOk, e2, Bool.and_false, Bool.false_and]
      · have hgood : inB m.Sizes[i] 1 16 = true := by simpa using hb
        repeat' (first | (with_reducible first | refine stp ?_ | refine k_blk_o rfl ?_ | refine k_seq_n ?_) | ((try (conv => arg 1; simp [h1, h3, hr, hw])); with_reducible refine evp ?_) | fail)
        refine k_lp_n (i + 1) (by omega) ⟨by omega, by simp [h1], by simp [h3], by simp; omega, by simp [hr], fun j hj hji => ?_⟩
        by_cases e : j = i
        · subst e; exact hgood
        · exact hall j hj (by omega)
    · have hge : i = m.Sizes.length := by simp at hb; omega
      have e2 : (m.Sizes.all fun n => inB n 1 16) = true := by
        rw [List.all_eq_true]
        intro x hx
        obtain ⟨j, hj, rfl⟩ := List.getElem_of_mem hx
        exact hall j hj (by omega)
      repeat' (first
        | (with_reducible first | refine st_seq ?_ | refine st_reg ?_ | refine st_block ?_ | refine st_nil ?_ | refine st_skip ?_ | refine st_ret ?_ | refine st_exit ?_ | refine fr_nil ?_ | refine k_seq_n ?_ | refine k_seq_r ?_ | refine k_seq_e ?_ | refine k_blk_n ?_ | refine k_blk_r ?_ | refine k_blk_s ?_ | refine k_blk_o rfl ?_ | refine k_fn_r ?_ | refine k_fn_n ?_ | refine k_lp_r ?_ | refine k_lp_e ?_)
        | ((with_reducible first | refine st_move ?_ | refine st_asg ?_ | refine st_c ?_ | refine fr_c ?_); (try (conv => arg 1; simp [h1, h3, hr])); (with_reducible refine at_mk ?_))
        | ((with_reducible first | refine st_g ?_ | refine fr_g ?_); (try (conv => arg 1; simp [h1, h3, hr])); (with_reducible refine at_mk ?_); with_reducible first | refine gd_tt ?_ | refine gd_ff ?_ | refine gd_tf ?_ | refine gd_ft ?_ | refine gd_no ?_)
        | ((with_reducible first | refine st_gm ?_ | refine fr_gm ?_); (try (conv => arg 1; simp [h1, h3, hr])); (with_reducible refine at_mk ?_); (with_reducible first | refine gm_bool ?_ | refine gm_gv ?_); refine ⟨_, (by intro hc; first | ((try simp only [Bool.and_eq_true] at hc); (try (conv => lhs; simp [hc, h1, h3, hr])); first | done | exact rfl) | ((try simp [gq] at hc); (try (conv => lhs; simp [gq, hc, h1, h3, hr])); first | done | exact rfl)), ?_⟩)
        | ((with_reducible refine st_gmc ?_); (try (conv => arg 1; simp [h1, h3, hr])); (with_reducible refine at_mk ?_); (with_reducible first | refine gm_bool ?_ | refine gm_gv ?_); refine ⟨_, _, _, (by intro hc; first | ((try simp only [Bool.and_eq_true] at hc); (try (conv => lhs; simp [hc, h1, h3, hr])); first | done | exact rfl) | ((try simp [gq] at hc); (try (conv => lhs; simp [gq, hc, h1, h3, hr])); first | done | exact rfl)), rfl, l01In _ _ _, (by intro hc; (try simp at hc); (repeat' (first | exact DRs.nil | refine DRs.cons ?_ ?_ | exact .int _ _ | exact .bool _ | exact .str _ | exact .nilsl | exact .nilp | exact dr_ints (by simp) _ | exact dr_intss (by simp) _ | refine dr_agg ?_ | refine dr_fn ?_ | refine dr_tptr' (by simp) ?_ | assumption))), ?_⟩)
        | ((with_reducible refine fr_gmc ?_); (try (conv => arg 1; simp [h1, h3, hr])); (with_reducible refine at_mk ?_); (with_reducible first | refine gm_bool ?_ | refine gm_gv ?_); refine ⟨_, _, _, (by intro hc; first | ((try simp only [Bool.and_eq_true] at hc); (try (conv => lhs; simp [hc, h1, h3, hr])); first | done | exact rfl) | ((try simp [gq] at hc); (try (conv => lhs; simp [gq, hc, h1, h3, hr])); first | done | exact rfl)), l01In _ _ _, (by intro hc; (try simp at hc); (repeat' (first | exact DRs.nil | refine DRs.cons ?_ ?_ | exact .int _ _ | exact .bool _ | exact .str _ | exact .nilsl | exact .nilp | exact dr_ints (by simp) _ | exact dr_intss (by simp) _ | refine dr_agg ?_ | refine dr_fn ?_ | refine dr_tptr' (by simp) ?_ | assumption))), ?_⟩)
        | ((with_reducible refine st_gmv ?_); (try (conv => arg 1; simp [h1, h3, hr])); (with_reducible refine at_mk ?_); (with_reducible first | refine gm_bool ?_ | refine gm_gv ?_); refine ⟨_, _, _, _, _, (by intro hc; first | ((try simp only [Bool.and_eq_true] at hc); (try (conv => lhs; simp [hc, h1, h3, hr])); first | done | exact rfl) | ((try simp [gq] at hc); (try (conv => lhs; simp [gq, hc, h1, h3, hr])); first | done | exact rfl)), (by intro hc; first | ((try simp only [Bool.and_eq_true] at hc); (try (conv => lhs; simp [hc, h1, h3, hr])); first | done | exact rfl) | ((try simp [gq] at hc); (try (conv => lhs; simp [gq, hc, h1, h3, hr])); first | done | exact rfl)), rfl, l01In _ _ _, (by intro hc; (try simp at hc); (repeat' (first | exact DRs.nil | refine DRs.cons ?_ ?_ | exact .int _ _ | exact .bool _ | exact .str _ | exact .nilsl | exact .nilp | exact dr_ints (by simp) _ | exact dr_intss (by simp) _ | refine dr_agg ?_ | refine dr_fn ?_ | refine dr_tptr' (by simp) ?_ | assumption))), ?_⟩)
        | ((with_reducible refine st_m rfl ?_); (try (conv => arg 1; simp [h1, h3, hr])); (with_reducible refine ev2_some ?_))
        | ((with_reducible refine fr_n rfl ?_); (try (conv => arg 1; simp [h1, h3, hr])); (with_reducible refine evn_some ?_))
        | ((with_reducible first | refine st_cv ?_ | refine fr_cv ?_); (try (conv => arg 1; simp [h1, h3, hr])); (with_reducible refine at_mk ?_); (with_reducible refine fn_mk ?_); (try (conv => arg 1; simp [h1, h3, hr])); (with_reducible refine at_mk ?_))
        | ((with_reducible refine fr_a ?_); (try (conv => arg 1; simp [h1, h3, hr])); (with_reducible refine at_mk ?_); (try (conv => arg 1; simp [h1, h3, hr])); (with_reducible refine at_mk ?_); refine ⟨?names, ?_⟩; (case names => (simp [appNames, ints, intss] <;> first | kernel_rfl | (refine ⟨?_, ?_⟩ <;> kernel_rfl))); (try (conv => arg 1; simp [h1, h3, hr])); (with_reducible refine ev2_some ?_))
        | ((with_reducible first | refine st_q ?_ | refine fr_q ?_ | refine st_res ?_); (try (conv => arg 1; simp [h1, h3, hr])); (with_reducible refine ev_some ?_))
        | ((with_reducible refine st_if ?_); (try (conv => arg 1; simp [h1, h3, hr])); (with_reducible refine at_mk ?_); with_reducible first | refine br_t ?_ | refine br_f ?_)
        | ((with_reducible refine ct_id ?_); refine st_tree rfl (l01In _ _ _) (by (repeat' (first | exact DRs.nil | refine DRs.cons ?_ ?_ | exact .int _ _ | exact .bool _ | exact .str _ | exact .nilsl | exact .nilp | exact dr_ints (by simp) _ | exact dr_intss (by simp) _ | refine dr_agg ?_ | refine dr_fn ?_ | refine dr_tptr' (by simp) ?_ | assumption))) ?_)
        | ((with_reducible refine tw_id ?_); refine treeW_pure (l01In _ _ _) (by (repeat' (first | exact DRs.nil | refine DRs.cons ?_ ?_ | exact .int _ _ | exact .bool _ | exact .str _ | exact .nilsl | exact .nilp | exact dr_ints (by simp) _ | exact dr_intss (by simp) _ | refine dr_agg ?_ | refine dr_fn ?_ | refine dr_tptr' (by simp) ?_ | assumption))) ?_))
      (try with_reducible refine st_if ?_)
      (try (conv => arg 1; simp [h1]))
      (try with_reducible refine at_mk ?_)
      refine ⟨fun hb => ?_, fun hb => ?_⟩
      · skip
        repeat' (first | (with_reducible first | refine stp ?_ | refine k_blk_o rfl ?_ | refine k_seq_n ?_) | ((try (conv => arg 1; simp [h1])); with_reducible refine evp ?_) | fail)
        refine dr_bool ?_
        simp only [Bool.or_eq_true, Bool.not_eq_true'] at hb
        rcases hb with ((h | h) | h) | h <;> simp only [imageOk, h, Bool.false_and, Bool.and_false]
      · simp at hb
        obtain ⟨⟨⟨c1, c3⟩, c4⟩, c5⟩ := hb
        repeat' (first | (with_reducible first | refine stp ?_ | refine k_blk_o rfl ?_ | refine k_seq_n ?_) | ((try (conv => arg 1; simp [h1])); with_reducible refine evp ?_) | fail)
        refine st_loop (fun (i : Nat) σ h => i ≤ m.Code.length ∧ σ 1 = .ptr (T, 0, 0) 0 0 0 ∧ σ 4 = .int .i64 m.Code.length ∧ σ 5 = .int .i64 i ∧ T < h.tick ∧ h.rows (T, 0, 0) = some ⟨0, 4, [[ints true m.Sizes, .int .i64 m.Params, .int .i64 m.Slots, words true m.Code]]⟩ ∧ ∀ j (hj : j < m.Code.length), j < i → wordOk m m.Code[j] = true) (fun i => m.Code.length - i) 0 ?init2 ?step2
        case init2 =>
          simp [h1, hr]
          omega
        case step2 =>
          clear hi h1 h3 ht hr hall hb hge h σ i
          rintro i σ h ⟨hi, h1, h4, h5, ht, hr, hall⟩
          repeat' (first | (with_reducible first | refine stp ?_ | refine k_blk_o rfl ?_ | refine k_seq_n ?_) | ((try (conv => arg 1; simp [h1, h4, h5, hr])); with_reducible refine evp ?_) | fail)
          (try with_reducible refine st_if ?_)
          (try (conv => arg 1; simp [h1]))
          (try with_reducible refine at_mk ?_)
          refine ⟨fun hb => ?_, fun hb => ?_⟩
          · have hlt : i < m.Code.length := by simpa using hb
            have hx : m.Code[i]? = some (m.Code[i]) := by simp
            have hlen : (m.Code[i]).cells.length = 5 := rfl
            have hw : IntKind.i64.wrap (i + 1) = i + 1 := wrap_id (by omega) (by omega)
            have htn : ¬ T = h.tick + 1 := by omega
            repeat' (first | (with_reducible first | refine stp ?_ | refine k_blk_o rfl ?_ | refine k_seq_n ?_) | ((try (conv => arg 1; simp [h1, h5, hr, hx])); with_reducible refine evp ?_) | fail)
            repeat (with_reducible first | refine stp ?_ | refine k_seq_n ?_)
            refine st_draw 8 (fun _ => false) (by kernel_rfl) ?_
            simp only [List.take_succ_cons, List.take_zero, List.drop_succ_cons, List.drop_zero, List.take_nil, List.drop_nil]
            repeat' (first | (with_reducible first | refine stp ?_ | refine k_blk_o rfl ?_ | refine k_seq_n ?_) | ((try (conv => arg 1; simp [words, h1, h5, hr, hx, hlen, htn, Word.cells])); with_reducible refine evp ?_) | ((with_reducible refine apn ?na ?_); (case na => simp [appNames, ints, intss] <;> first | kernel_rfl | (refine ⟨?_, ?_⟩ <;> kernel_rfl))) | fail)
            refine treeW_pure (l13WordOk m m.Code[i]) (.cons (dr_agg (drs_image m (fun h => h))) (.cons (dr_agg (drs_word _)) .nil)) ?_
            repeat' (first | (with_reducible first | refine stp ?_ | refine k_blk_o rfl ?_ | refine k_seq_n ?_) | ((try (conv => arg 1; simp [h1, h5, hr])); with_reducible refine evp ?_) | ((with_reducible refine apn ?na ?_); (case na => simp [appNames, ints, intss] <;> first | kernel_rfl | (refine ⟨?_, ?_⟩ <;> kernel_rfl))) | fail)
            (try with_reducible refine st_if ?_)
            (try (conv => arg 1; simp [h1]))
            (try with_reducible refine at_mk ?_)
            refine ⟨fun hb => ?_, fun hb => ?_⟩
            · skip
              repeat' (first | (with_reducible first | refine stp ?_ | refine k_blk_o rfl ?_ | refine k_seq_n ?_) | ((try (conv => arg 1; simp [h1])); with_reducible refine evp ?_) | ((with_reducible refine apn ?na ?_); (case na => simp [appNames, ints, intss] <;> first | kernel_rfl | (refine ⟨?_, ?_⟩ <;> kernel_rfl))) | fail)
              refine dr_bool ?_
              have e3 : m.Code.all (wordOk m) = false := by
                rw [List.all_eq_false]
                exact ⟨m.Code[i], List.getElem_mem hlt, by simpa using hb⟩
              simp only [imageOk, e3, Bool.and_false, Bool.false_and]
            · have hgood : wordOk m m.Code[i] = true := by simpa using hb
              repeat' (first | (with_reducible first | refine stp ?_ | refine k_blk_o rfl ?_ | refine k_seq_n ?_) | ((try (conv => arg 1; simp [h1, h5, hr, hw])); with_reducible refine evp ?_) | ((with_reducible refine apn ?na ?_); (case na => simp [appNames, ints, intss] <;> first | kernel_rfl | (refine ⟨?_, ?_⟩ <;> kernel_rfl))) | fail)
              refine k_lp_n (i + 1) (by omega) ⟨by omega, by simp [h1], by simp [h4], by simp [h5], by simp; omega, by simp [hr], fun j hj hji => ?_⟩
              by_cases e : j = i
              · subst e; exact hgood
              · exact hall j hj (by omega)
          · have hge : i = m.Code.length := by simp at hb; omega
            have e3 : m.Code.all (wordOk m) = true := by
              rw [List.all_eq_true]
              intro x hx
              obtain ⟨j, hj, rfl⟩ := List.getElem_of_mem hx
              exact hall j hj (by omega)
            obtain ⟨k, hk⟩ : ∃ k, m.Code.length = k + 1 := ⟨m.Code.length - 1, by simp [inB] at c5; omega⟩
            have hkl : k < m.Code.length := by omega
            obtain ⟨w, hx⟩ : ∃ w, m.Code[k]? = some w := ⟨m.Code[k], by simp⟩
            have hlast : m.Code.getLast? = some w := by rw [List.getLast?_eq_getElem?, hk]; exact hx
            have hw : IntKind.i64.wrap ((m.Code.length : Int) - 1) = (k : Int) := by rw [hk, wrap_id (by omega) (by omega)]; omega
            repeat' (first
              | (with_reducible first | refine st_seq ?_ | refine st_reg ?_ | refine st_block ?_ | refine st_nil ?_ | refine st_skip ?_ | refine st_ret ?_ | refine st_exit ?_ | refine fr_nil ?_ | refine k_seq_n ?_ | refine k_seq_r ?_ | refine k_seq_e ?_ | refine k_blk_n ?_ | refine k_blk_r ?_ | refine k_blk_s ?_ | refine k_blk_o rfl ?_ | refine k_fn_r ?_ | refine k_fn_n ?_ | refine k_lp_r ?_ | refine k_lp_e ?_)
              | ((with_reducible first | refine st_move ?_ | refine st_asg ?_ | refine st_c ?_ | refine fr_c ?_); (try (conv => arg 1; simp [h1, h4, h5, hr, hw, hx, words, Word.cells])); (with_reducible refine at_mk ?_))
              | ((with_reducible first | refine st_g ?_ | refine fr_g ?_); (try (conv => arg 1; simp [h1, h4, h5, hr, hw, hx, words, Word.cells])); (with_reducible refine at_mk ?_); with_reducible first | refine gd_tt ?_ | refine gd_ff ?_ | refine gd_tf ?_ | refine gd_ft ?_ | refine gd_no ?_)
              | ((with_reducible first | refine st_gm ?_ | refine fr_gm ?_); (try (conv => arg 1; simp [h1, h4, h5, hr, hw, hx, words, Word.cells])); (with_reducible refine at_mk ?_); (with_reducible first | refine gm_bool ?_ | refine gm_gv ?_); refine ⟨_, (by intro hc; first | ((try simp only [Bool.and_eq_true] at hc); (try (conv => lhs; simp [hc, h1, h4, h5, hr, hw, hx, words, Word.cells])); first | done | exact rfl) | ((try simp [gq] at hc); (try (conv => lhs; simp [gq, hc, h1, h4, h5, hr, hw, hx, words, Word.cells])); first | done | exact rfl)), ?_⟩)
              | ((with_reducible refine st_m rfl ?_); (try (conv => arg 1; simp [h1, h4, h5, hr, hw, hx, words, Word.cells])); (with_reducible refine ev2_some ?_))
              | ((with_reducible refine fr_n rfl ?_); (try (conv => arg 1; simp [h1, h4, h5, hr, hw, hx, words, Word.cells])); (with_reducible refine evn_some ?_))
              | ((with_reducible first | refine st_cv ?_ | refine fr_cv ?_); (try (conv => arg 1; simp [h1, h4, h5, hr, hw, hx, words, Word.cells])); (with_reducible refine at_mk ?_); (with_reducible refine fn_mk ?_); (try (conv => arg 1; simp [h1, h4, h5, hr, hw, hx, words, Word.cells])); (with_reducible refine at_mk ?_))
              | ((with_reducible refine fr_a ?_); (try (conv => arg 1; simp [h1, h4, h5, hr, hw, hx, words, Word.cells])); (with_reducible refine at_mk ?_); (try (conv => arg 1; simp [h1, h4, h5, hr, hw, hx, words, Word.cells])); (with_reducible refine at_mk ?_); refine ⟨?names, ?_⟩; (case names => (simp [appNames, ints, intss] <;> first | kernel_rfl | (refine ⟨?_, ?_⟩ <;> kernel_rfl))); (try (conv => arg 1; simp [h1, h4, h5, hr, hw, hx, words, Word.cells])); (with_reducible refine ev2_some ?_))
              | ((with_reducible first | refine st_q ?_ | refine fr_q ?_ | refine st_res ?_); (try (conv => arg 1; simp [h1, h4, h5, hr, hw, hx, words, Word.cells])); (with_reducible refine ev_some ?_))
              | ((with_reducible refine st_if ?_); (try (conv => arg 1; simp [h1, h4, h5, hr, hw, hx, words, Word.cells])); (with_reducible refine at_mk ?_); with_reducible first | refine br_t ?_ | refine br_f ?_))
            refine dr_bool ?_
            simp only [imageOk, c1, e2, e3, c3, c4, c5, Bool.true_and, Bool.and_true, lastOk, hlast]
end Go.Proofs.YtmcmgeedhbgglaaDoor.AM

namespace Go.Proofs.YtmcmgeedhbgglaaDoor.AM
open Go.RowKit

private def ME5 : FuncId → Mode := fun f => .tree

/-- What of an image its text asks. -/
structure Image.Txt (m : Image) : Prop where
  sizes : m.Sizes.length ≤ 2 ^ 20
  code : m.Code.length ≤ 2 ^ 20
  sizes' : ∀ x ∈ m.Sizes, I64 x
  params : I64 m.Params
  slots : I64 m.Slots
  code' : ∀ w ∈ m.Code, I64 w.Op ∧ I64 w.R ∧ I64 w.A ∧ I64 w.B ∧ I64 w.N
theorem word_txt {m : Image} {w : Word} (h : wordOk m w = true) (d : I64 w.Op ∧ I64 w.R ∧ I64 w.A ∧ I64 w.B ∧ I64 w.N) : w.Txt := by
  have hop : 0 ≤ w.Op ∧ w.Op ≤ 11 := by
    apply Classical.byContradiction
    intro hn
    unfold wordOk at h
    have e0 : ¬ w.Op = 0 := by omega
    have e1 : ¬ (w.Op = 1 ∨ w.Op = 2) := by omega
    have e2 : ¬ w.Op = 3 := by omega
    have e3 : ¬ (w.Op = 4 ∨ w.Op = 5) := by omega
    have e4 : ¬ w.Op = 11 := by omega
    have e5 : ¬ (w.Op = 6 ∨ w.Op = 7 ∨ w.Op = 10) := by omega
    have e6 : ¬ w.Op = 8 := by omega
    have e7 : ¬ w.Op = 9 := by omega
    rw [if_neg e0, if_neg e1, if_neg e2, if_neg e3, if_neg e4, if_neg e5, if_neg e6, if_neg e7] at h
    cases h
  refine ⟨hop, d.2.1, d.2.2.1, d.2.2.2.1, d.2.2.2.2, fun h3 => ?_⟩
  unfold wordOk at h
  rw [if_neg (by omega), if_neg (by omega), if_pos h3] at h
  simp only [inB, Bool.and_eq_true, decide_eq_true_eq] at h
  omega
theorem image_word {m : Image} (h : imageOk m = true) (d : m.Txt) : ∀ w ∈ m.Code, w.Txt := fun w hw => by
  simp only [imageOk, Bool.and_eq_true, List.all_eq_true] at h
  exact word_txt (h.2 w hw) (d.code' w hw)
theorem image_code {m : Image} (h : imageOk m = true) : 1 ≤ m.Code.length ∧ m.Code.length ≤ 6000 := by
  simp only [imageOk, inB, Bool.and_eq_true, decide_eq_true_eq] at h
  omega
theorem wordT_len {w : Word} (d : w.Txt) : (wordT w).length ≤ 200 := by
  have := lineT_len d (formOf w.Op.toNat).length
  rwa [lineT_all] at this
def asmWR (m : Image) (a : Int) : List UInt8 := if imageOk m = true ∧ inB a 0 ((m.Code.length : Int) - 1) = true then wordT (m.Code.getD a.toNat ⟨0, 0, 0, 0, 0⟩) else []

set_option maxHeartbeats 2000000 in
theorem specAsmWord (m : Image) (a : Int) (d : m.Txt) : Pure Tryd.prog 15 [.agg (m.cells true), .int .i64 a] (.str (bs (asmWR m a))) := by
  intro T
  have K0 := specImageOk m (by have := d.sizes; omega) (by have := d.code; omega)
  have K1 := l01In a 0 ((m.Code.length : Int) - 1)
  have hwr : IntKind.i64.wrap ((m.Code.length : Int) - 1) = (m.Code.length : Int) - 1 := wrap_id (by omega) (by have := d.code; omega)
  have hml : (m.cells true).length = 4 := rfl
  have hmc : m.cells true = [ints true m.Sizes, .int .i64 m.Params, .int .i64 m.Slots, words true m.Code] := rfl
  refine enter mixed ME5 Tryd.func15 rfl (by kernel_rfl) rfl ?_
  cases hI : imageOk m with
  | false =>
    rw [hI] at K0
    repeat' (first | (with_reducible first | refine stp ?_ | refine k_blk_o rfl ?_ | refine k_seq_n ?_) | ((try (conv => arg 1; simp [hmc, bs_empty])); with_reducible refine evp ?_) | ((with_reducible refine tcl ?_); first | ((apply tg (K0)); (case e => rfl); (case d => (refine dq ?_); (repeat' (first | ((refine Da.mk ?_); first | exact dr_words (by simp) _ | assumption) | constructor))))) | fail)
    simp [asmWR, hI]
    exact .str _
  | true =>
    rw [hI] at K0
    cases hA : inB a 0 ((m.Code.length : Int) - 1) with
    | false =>
      rw [hA] at K1
      repeat' (first | (with_reducible first | refine stp ?_ | refine k_blk_o rfl ?_ | refine k_seq_n ?_) | ((try (conv => arg 1; simp [hmc, hwr, bs_empty])); with_reducible refine evp ?_) | ((with_reducible refine tcl ?_); first | ((apply tg (K0)); (case e => rfl); (case d => (refine dq ?_); (repeat' (first | ((refine Da.mk ?_); first | exact dr_words (by simp) _ | assumption) | constructor)))) | ((apply tg (K1)); (case e => rfl); (case d => (refine dq ?_); (repeat' (first | ((refine Da.mk ?_); first | exact dr_words (by simp) _ | assumption) | constructor))))) | fail)
      simp [asmWR, hA]
      exact .str _
    | true =>
      rw [hA] at K1
      have hb : 0 ≤ a ∧ a ≤ (m.Code.length : Int) - 1 := by simpa [inB] using hA
      obtain ⟨k, rfl, hk⟩ : ∃ k : Nat, a = k ∧ k < m.Code.length := ⟨a.toNat, by omega, by omega⟩
      have hx : m.Code[k]? = some m.Code[k] := by simp
      have dw := image_word hI d _ (List.getElem_mem hk)
      have K2 := l17Word m.Code[k] dw
      have hk2 : (k : Int) < m.Code.length := by omega
      have hR : asmWR m (k : Int) = wordT m.Code[k] := by simp [asmWR, hI, hA, hk]
      rw [hR]
      generalize hW : m.Code[k] = w at *
      obtain ⟨Op, R, A, B, N⟩ := w
      repeat' (first | (with_reducible first | refine stp ?_ | refine k_blk_o rfl ?_ | refine k_seq_n ?_) | ((try (conv => arg 1; simp [hmc, hwr, hx, hW, hk, hk2, words, Word.cells, bs_empty])); with_reducible refine evp ?_) | ((with_reducible refine tcl ?_); first | ((apply tg (K0)); (case e => rfl); (case d => (refine dq ?_); (repeat' (first | ((refine Da.mk ?_); first | exact dr_words (by simp) _ | exact dr_trflat (by simp) (fun e he => (words_flat _ e he).2) | assumption) | constructor)))) | ((apply tg (K1)); (case e => rfl); (case d => (refine dq ?_); (repeat' (first | ((refine Da.mk ?_); first | exact dr_words (by simp) _ | exact dr_trflat (by simp) (fun e he => (words_flat _ e he).2) | assumption) | constructor)))) | ((apply tg (K2)); (case e => rfl); (case d => (refine dq ?_); (repeat' (first | ((refine Da.mk ?_); first | exact dr_words (by simp) _ | exact dr_trflat (by simp) (fun e he => (words_flat _ e he).2) | assumption) | constructor))))) | fail)
      exact .str _

set_option maxHeartbeats 2000000 in
theorem implAsmWord (m : Image) (a : Int) (d : m.Txt) : Pure Tryd.prog 17 [.agg (m.cells true), .int .i64 a] (.str (bs (asmWR m a))) := by
  intro T
  have K0 := isImage m (by have := d.sizes; omega) (by have := d.code; omega)
  have K1 := in_ a 0 ((m.Code.length : Int) - 1)
  have hwr : IntKind.i64.wrap ((m.Code.length : Int) - 1) = (m.Code.length : Int) - 1 := wrap_id (by omega) (by have := d.code; omega)
  have hml : (m.cells true).length = 4 := rfl
  have hmc : m.cells true = [ints true m.Sizes, .int .i64 m.Params, .int .i64 m.Slots, words true m.Code] := rfl
  refine enter mixed ME5 Tryd.func17 rfl (by kernel_rfl) rfl ?_
  cases hI : imageOk m with
  | false =>
    rw [hI] at K0
    repeat' (first | (with_reducible first | refine stp ?_ | refine k_blk_o rfl ?_ | refine k_seq_n ?_) | ((try (conv => arg 1; simp [hmc, bs_empty])); with_reducible refine evp ?_) | ((with_reducible refine tcl ?_); first | ((apply tg (K0)); (case e => rfl); (case d => (refine dq ?_); (repeat' (first | ((refine Da.mk ?_); first | exact dr_words (by simp) _ | assumption) | constructor))))) | fail)
    simp [asmWR, hI]
    exact .str _
  | true =>
    rw [hI] at K0
    cases hA : inB a 0 ((m.Code.length : Int) - 1) with
    | false =>
      rw [hA] at K1
      repeat' (first | (with_reducible first | refine stp ?_ | refine k_blk_o rfl ?_ | refine k_seq_n ?_) | ((try (conv => arg 1; simp [hmc, hwr, bs_empty])); with_reducible refine evp ?_) | ((with_reducible refine tcl ?_); first | ((apply tg (K0)); (case e => rfl); (case d => (refine dq ?_); (repeat' (first | ((refine Da.mk ?_); first | exact dr_words (by simp) _ | assumption) | constructor)))) | ((apply tg (K1)); (case e => rfl); (case d => (refine dq ?_); (repeat' (first | ((refine Da.mk ?_); first | exact dr_words (by simp) _ | assumption) | constructor))))) | fail)
      simp [asmWR, hA]
      exact .str _
    | true =>
      rw [hA] at K1
      have hb : 0 ≤ a ∧ a ≤ (m.Code.length : Int) - 1 := by simpa [inB] using hA
      obtain ⟨k, rfl, hk⟩ : ∃ k : Nat, a = k ∧ k < m.Code.length := ⟨a.toNat, by omega, by omega⟩
      have hx : m.Code[k]? = some m.Code[k] := by simp
      have dw := image_word hI d _ (List.getElem_mem hk)
      have K2 := asmWord m.Code[k] dw
      have hk2 : (k : Int) < m.Code.length := by omega
      have hR : asmWR m (k : Int) = wordT m.Code[k] := by simp [asmWR, hI, hA, hk]
      rw [hR]
      generalize hW : m.Code[k] = w at *
      obtain ⟨Op, R, A, B, N⟩ := w
      repeat' (first | (with_reducible first | refine stp ?_ | refine k_blk_o rfl ?_ | refine k_seq_n ?_) | ((try (conv => arg 1; simp [hmc, hwr, hx, hW, hk, hk2, words, Word.cells, bs_empty])); with_reducible refine evp ?_) | ((with_reducible refine tcl ?_); first | ((apply tg (K0)); (case e => rfl); (case d => (refine dq ?_); (repeat' (first | ((refine Da.mk ?_); first | exact dr_words (by simp) _ | exact dr_trflat (by simp) (fun e he => (words_flat _ e he).2) | assumption) | constructor)))) | ((apply tg (K1)); (case e => rfl); (case d => (refine dq ?_); (repeat' (first | ((refine Da.mk ?_); first | exact dr_words (by simp) _ | exact dr_trflat (by simp) (fun e he => (words_flat _ e he).2) | assumption) | constructor)))) | ((apply tg (K2)); (case e => rfl); (case d => (refine dq ?_); (repeat' (first | ((refine Da.mk ?_); first | exact dr_words (by simp) _ | exact dr_trflat (by simp) (fun e he => (words_flat _ e he).2) | assumption) | constructor))))) | fail)
      exact .str _
end Go.Proofs.YtmcmgeedhbgglaaDoor.AM

namespace Go.Proofs.YtmcmgeedhbgglaaDoor.AM
open Go.RowKit

private def MW10 : FuncId → Mode := fun f => .tree

def lens (a : List (List Int)) : List Int := a.map fun x => (x.length : Int)
def headBad (m : Image) (c : Cpu) : Bool := !imageOk m || !inB c.At 0 (IntKind.i64.wrap (m.Code.length - 1)) || !decide ((c.Regs.length : Int) = 16) || !decide ((c.Slots.length : Int) = m.Slots) || !decide ((c.Mem.length : Int) = (m.Sizes.length : Int)) || decide (100 < (c.Input.length : Int))
def tailOk (c : Cpu) : Bool := (decide (c.Code = 0) || (decide (c.Code = 1) && !c.Over)) && (c.Over || decide (c.Val = 0))
def cpuOk (m : Image) (c : Cpu) : Bool := !headBad m c && decide (lens c.Mem = m.Sizes) && tailOk c
theorem headBad_len {m : Image} {c : Cpu} (h : headBad m c = false) : c.Mem.length = m.Sizes.length := by
  simp only [headBad, Bool.or_eq_false_iff, Bool.not_eq_false', decide_eq_true_eq] at h
  omega
theorem lens_ne {a : List (List Int)} {b : List Int} {j : Nat} (hj : j < a.length) (hj' : j < b.length) (h : ¬ ((a[j].length : Int) = b[j])) : ¬ lens a = b := fun e => h (by subst e; simp [lens])
theorem lens_eq {a : List (List Int)} {b : List Int} (hl : a.length = b.length) (h : ∀ j (hj : j < a.length) (hj' : j < b.length), (a[j].length : Int) = b[j]) : lens a = b := List.ext_getElem (by simpa [lens] using hl) fun j h1 h2 => by simpa [lens] using h j (by simpa [lens] using h1) h2

end Go.Proofs.YtmcmgeedhbgglaaDoor.AM

namespace Go.Proofs.YtmcmgeedhbgglaaDoor.AM
open Go.RowKit

structure Cpu.Data (c : Cpu) : Prop where
  regs : c.Regs.length ≤ maxLen
  slots : c.Slots.length ≤ maxLen
  mem : c.Mem.length ≤ maxLen
  mem' : ∀ x ∈ c.Mem, x.length ≤ maxLen
  input : c.Input.length ≤ maxLen
  out : c.Out.length ≤ maxLen
  at' : I64 c.At
  val : I64 c.Val
  code : I64 c.Code
  regs' : ∀ x ∈ c.Regs, I64 x
  slots' : ∀ x ∈ c.Slots, I64 x
  input' : ∀ x ∈ c.Input, I64 x
  out' : ∀ x ∈ c.Out, I64 x
  mem'' : ∀ x ∈ c.Mem, ∀ y ∈ x, I64 y

theorem shp_cpu {cells : List AV} (h : Shp Tryd.prog 25 cells) : ∃ c : Cpu, cells = c.cells true ∧ c.Data := by
  have hs : stTys Tryd.prog 25 = some [3, 22, 22, 23, 22, 22, 3, 4, 3] := by kernel_rfl
  obtain ⟨p0, q0, rfl, s0, p1, q1, rfl, s1, p2, q2, rfl, s2, p3, q3, rfl, s3, p4, q4, rfl, s4, p5, q5, rfl, s5, p6, q6, rfl, s6, p7, q7, rfl, s7, p8, q8, rfl, s8, rfl⟩ := h.st_inv hs
  obtain ⟨a0, rfl, g0⟩ := s0.int_inv und_3
  obtain ⟨a1, rfl, g1, g1'⟩ := s1.ints_inv und_22 und_3
  obtain ⟨a2, rfl, g2, g2'⟩ := s2.ints_inv und_22 und_3
  obtain ⟨a3, rfl, g3, g3'⟩ := s3.intss_inv und_23 und_22 und_3
  obtain ⟨a4, rfl, g4, g4'⟩ := s4.ints_inv und_22 und_3
  obtain ⟨a5, rfl, g5, g5'⟩ := s5.ints_inv und_22 und_3
  obtain ⟨a6, rfl, g6⟩ := s6.int_inv und_3
  obtain ⟨a7, rfl⟩ := s7.bool_inv und_4
  obtain ⟨a8, rfl, g8⟩ := s8.int_inv und_3
  exact ⟨⟨a0, a1, a2, a3, a4, a5, a6, a7, a8⟩, rfl, ⟨g1, g2, g3, fun x hx => (g3' x hx).1, g4, g5, g0, g8, g6, g1', g2', g4', g5', fun x hx => (g3' x hx).2⟩⟩

theorem agg_25 (cells : List AV) : avOf Tryd.prog 25 cells = .agg cells := agg_of (by kernel_rfl) cells
end Go.Proofs.YtmcmgeedhbgglaaDoor.AM

namespace Go.Proofs.YtmcmgeedhbgglaaDoor.AM
open Go.RowKit

private def MW11 : FuncId → Mode := fun f => .tree

structure Image.Data (m : Image) : Prop where
  sizes : m.Sizes.length ≤ maxLen
  code : m.Code.length ≤ maxLen
  sizes' : ∀ x ∈ m.Sizes, I64 x
  params : I64 m.Params
  slots : I64 m.Slots
  code' : ∀ w ∈ m.Code, I64 w.Op ∧ I64 w.R ∧ I64 w.A ∧ I64 w.B ∧ I64 w.N

theorem shp_word {cells : List AV} (h : Shp Tryd.prog 93 cells) : ∃ w : Word, cells = w.cells ∧ (I64 w.Op ∧ I64 w.R ∧ I64 w.A ∧ I64 w.B ∧ I64 w.N) := by
  have hs : stTys Tryd.prog 93 = some [3, 3, 3, 3, 3] := by kernel_rfl
  obtain ⟨p0, q0, rfl, s0, p1, q1, rfl, s1, p2, q2, rfl, s2, p3, q3, rfl, s3, p4, q4, rfl, s4, rfl⟩ := h.st_inv hs
  obtain ⟨a0, rfl, g0⟩ := s0.int_inv und_3
  obtain ⟨a1, rfl, g1⟩ := s1.int_inv und_3
  obtain ⟨a2, rfl, g2⟩ := s2.int_inv und_3
  obtain ⟨a3, rfl, g3⟩ := s3.int_inv und_3
  obtain ⟨a4, rfl, g4⟩ := s4.int_inv und_3
  exact ⟨⟨a0, a1, a2, a3, a4⟩, rfl, g0, g1, g2, g3, g4⟩
theorem shp_image {cells : List AV} (h : Shp Tryd.prog 37 cells) : ∃ m : Image, cells = m.cells true ∧ m.Data := by
  have hs : stTys Tryd.prog 37 = some [22, 3, 3, 35] := by kernel_rfl
  obtain ⟨p0, q0, rfl, s0, p1, q1, rfl, s1, p2, q2, rfl, s2, p3, q3, rfl, s3, rfl⟩ := h.st_inv hs
  obtain ⟨a0, rfl, g0, g0'⟩ := s0.ints_inv und_22 und_3
  obtain ⟨a1, rfl, g1⟩ := s1.int_inv und_3
  obtain ⟨a2, rfl, g2⟩ := s2.int_inv und_3
  obtain ⟨elems, rfl, g3, g3'⟩ := s3.sl_inv und_35
  obtain ⟨ws, rfl, gw⟩ := unmap Word.cells (fun w => I64 w.Op ∧ I64 w.R ∧ I64 w.A ∧ I64 w.B ∧ I64 w.N) elems fun y hy => shp_word (g3' y hy)
  exact ⟨⟨a0, a1, a2, ws⟩, rfl, ⟨g0, by simpa using g3, g0', g1, g2, gw⟩⟩
theorem agg_39 (cells : List AV) : avOf Tryd.prog 37 cells = .agg cells := agg_of (by kernel_rfl) cells

end Go.Proofs.YtmcmgeedhbgglaaDoor.AM

namespace Go.Proofs.YtmcmgeedhbgglaaDoor.AM
open Go.RowKit

private def ME6 : FuncId → Mode := fun f => .tree

/-- The lines of a code's first words. -/
def codeT (c : List Word) (i : Nat) : List UInt8 := (c.take i).flatMap fun w => wordT w ++ [10]
theorem codeT_zero (c : List Word) : codeT c 0 = [] := by simp [codeT]
theorem codeT_succ {c : List Word} {i : Nat} (h : i < c.length) : codeT c (i + 1) = codeT c i ++ (wordT c[i] ++ [10]) := by
  unfold codeT
  rw [List.take_add_one, List.getElem?_eq_getElem h, List.flatMap_append]
  simp
theorem codeT_len {c : List Word} (d : ∀ w ∈ c, w.Txt) : ∀ i, i ≤ c.length → (codeT c i).length ≤ i * 201
  | 0, _ => by simp [codeT_zero]
  | i + 1, h => by
    have ih := codeT_len d i (by omega)
    have := wordT_len (d _ (List.getElem_mem (show i < c.length by omega)))
    rw [codeT_succ (by omega), List.length_append, List.length_append]
    simp only [List.length_singleton]
    omega
/-- The head of an image's text. -/
def asmH (m : Image) : List UInt8 := 109 :: 101 :: 109 :: (spd m.Sizes m.Sizes.length ++ 10 :: 112 :: 97 :: 114 :: 97 :: 109 :: 115 :: 32 :: (dg m.Params ++ 10 :: 115 :: 108 :: 111 :: 116 :: 115 :: 32 :: (dg m.Slots ++ [10])))
def asmT (m : Image) : List UInt8 := asmH m ++ codeT m.Code m.Code.length
def asmR (m : Image) : List UInt8 := if imageOk m = true then asmT m else []
theorem asmH_len {m : Image} (d : m.Txt) : (asmH m).length ≤ 8589934592 := by
  have h1 := spd_len d.sizes' m.Sizes.length d.sizes
  have h2 := dg_len d.params
  have h3 := dg_len d.slots
  simp only [asmH, List.length_cons, List.length_append, List.length_nil]
  omega

set_option maxHeartbeats 2000000 in
theorem l17Ints (l : List Int) (hl : l.length ≤ 2 ^ 20) (hx : ∀ x ∈ l, I64 x) : Pure Tryd.prog 47 [ints true l] (.str (bs (spd l l.length))) := by
  intro T
  refine enter mixed ME6 Tryd.func47 rfl (by kernel_rfl) rfl ?_
  repeat' (first | (with_reducible first | refine stp ?_ | refine k_blk_o rfl ?_ | refine k_seq_n ?_) | ((try (conv => arg 1; simp [bs_mk, bs_empty])); with_reducible refine evp ?_) | fail)
  refine st_loop (fun (i : Nat) σ h => i ≤ l.length ∧ σ 0 = ints true l ∧ σ 3 = .str (bs (spd l i)) ∧ σ 4 = .int .i64 i) (fun i => l.length - i) 0 ?init ?step
  case init =>
    exact ⟨Nat.zero_le _, by simp, by simp [spd_zero, bs_empty], by simp⟩
  case step =>
    rintro i σ h ⟨hi, s0, s3, s4⟩
    by_cases hlt : i < l.length
    · have hlt2 : (i : Int) < l.length := by omega
      have hxi : l[i]? = some l[i] := by simp
      have hw : IntKind.i64.wrap (i + 1) = i + 1 := wrap_id (by omega) (by omega)
      have K := specDecText l[i] (hx _ (List.getElem_mem hlt))
      haveI := bd_dg (hx _ (List.getElem_mem hlt))
      haveI : Bd (spd l i) 4294967296 := ⟨spd_len hx i hl⟩
      repeat' (first | (with_reducible first | refine stp ?_ | refine k_blk_o rfl ?_ | refine k_seq_n ?_) | ((try (conv => arg 1; simp [ints, s0, s3, s4, hlt2, hxi, hw, bs_mk, cat_le, bs_app])); with_reducible refine evp ?_) | ((with_reducible refine tcl ?_); first | ((apply tg (K)); (case e => rfl); (case d => (refine dq ?_); (repeat' (first | ((refine Da.mk ?_); first | assumption) | constructor))))) | fail)
      refine k_lp_n (i + 1) (by omega) ⟨by omega, by simp [s0], by simp [spd_succ hlt], by simp⟩
    · have hge : i = l.length := by omega
      subst hge
      repeat' (first | (with_reducible first | refine stp ?_ | refine k_blk_o rfl ?_ | refine k_seq_n ?_) | ((try (conv => arg 1; simp [ints, s0, s3, s4])); with_reducible refine evp ?_) | fail)
      exact .str _

set_option maxHeartbeats 4000000 in
theorem specAsm (m : Image) (d : m.Txt) : Pure Tryd.prog 19 [.agg (m.cells true)] (.str (bs (asmR m))) := by
  intro T
  have K0 := specImageOk m (by have := d.sizes; omega) (by have := d.code; omega)
  have hmc : m.cells true = [ints true m.Sizes, .int .i64 m.Params, .int .i64 m.Slots, words true m.Code] := rfl
  refine enter mixed ME6 Tryd.func19 rfl (by kernel_rfl) rfl ?_
  cases hI : imageOk m with
  | false =>
    rw [hI] at K0
    repeat' (first | (with_reducible first | refine stp ?_ | refine k_blk_o rfl ?_ | refine k_seq_n ?_) | ((try (conv => arg 1; simp [hmc, bs_empty])); with_reducible refine evp ?_) | ((with_reducible refine tcl ?_); first | ((apply tg (K0)); (case e => rfl); (case d => (refine dq ?_); (repeat' (first | ((refine Da.mk ?_); first | exact dr_words (by simp) _ | assumption) | constructor))))) | fail)
    simp [asmR, hI]
    exact .str _
  | true =>
    rw [hI] at K0
    have dw := image_word hI d
    have K1 := l17Ints m.Sizes d.sizes d.sizes'
    have K2 := specDecText m.Params d.params
    have K3 := specDecText m.Slots d.slots
    haveI := bd_dg d.params
    haveI := bd_dg d.slots
    haveI : Bd (spd m.Sizes m.Sizes.length) 4294967296 := ⟨spd_len d.sizes' _ d.sizes⟩
    have h1 : ¬ T = T + 1 + 1 := by omega
    have hR : asmR m = asmT m := by simp [asmR, hI]
    rw [hR]
    have hcl := (image_code hI).2
    repeat' (first | (with_reducible first | refine stp ?_ | refine k_blk_o rfl ?_ | refine k_seq_n ?_) | ((try (conv => arg 1; simp [hmc, bs_empty])); with_reducible refine evp ?_) | ((with_reducible refine tcl ?_); first | ((apply tg (K0)); (case e => rfl); (case d => (refine dq ?_); (repeat' (first | ((refine Da.mk ?_); first | exact dr_words (by simp) _ | assumption) | constructor))))) | fail)
    repeat (with_reducible first | refine stp ?_ | refine k_seq_n ?_)
    refine st_draw 16 (fun _ => false) (by kernel_rfl) ?_
    simp only [List.take_succ_cons, List.take_zero, List.drop_succ_cons, List.drop_zero, List.take_nil, List.drop_nil]
    repeat' (first | (with_reducible first | refine stp ?_ | refine k_blk_o rfl ?_ | refine k_seq_n ?_) | ((try (conv => arg 1; simp [hmc, maskR, h1, bs_mk, cat_le, bs_app])); with_reducible refine evp ?_) | ((with_reducible refine apn ?na ?_); (case na => simp [appNames, ints, intss] <;> first | kernel_rfl | (refine ⟨?_, ?_⟩ <;> kernel_rfl))) | ((with_reducible refine tcl ?_); first | ((apply tg (K1)); (case e => rfl); (case d => (refine dq ?_); (repeat' (first | ((refine Da.mk ?_); first | assumption) | constructor)))) | ((apply tg (K2)); (case e => rfl); (case d => (refine dq ?_); (repeat' (first | ((refine Da.mk ?_); first | assumption) | constructor)))) | ((apply tg (K3)); (case e => rfl); (case d => (refine dq ?_); (repeat' (first | ((refine Da.mk ?_); first | assumption) | constructor))))) | fail)
    refine st_loop (fun (i : Nat) σ h => i ≤ m.Code.length ∧ σ 1 = .ptr (T, 0, 0) 0 0 0 ∧ h.rows (T, 0, 0) = some ⟨0, 4, [m.cells true]⟩ ∧ σ 3 = .str (bs (asmH m ++ codeT m.Code i)) ∧ σ 4 = .int .i64 i) (fun i => m.Code.length - i) 0 ?init ?step
    case init =>
      exact ⟨Nat.zero_le _, by simp, by simp [hmc], by simp [asmH, codeT_zero], by simp⟩
    case step =>
      rintro i σ h ⟨hi, s1, hr, s3, s4⟩
      rw [hmc] at hr
      haveI : Bd (asmH m) 8589934592 := ⟨asmH_len d⟩
      by_cases hlt : i < m.Code.length
      · have hlt2 : (i : Int) < m.Code.length := by omega
        have hxi : m.Code[i]? = some m.Code[i] := by simp
        have hw : IntKind.i64.wrap (i + 1) = i + 1 := wrap_id (by omega) (by omega)
        have hdw := dw _ (List.getElem_mem hlt)
        have K := l17Word m.Code[i] hdw
        haveI : Bd (wordT m.Code[i]) 200 := ⟨wordT_len hdw⟩
        haveI : Bd (codeT m.Code i) 4294967296 := ⟨by have := codeT_len dw i hi; omega⟩
        have hs := codeT_succ hlt
        generalize hW : m.Code[i] = w at *
        obtain ⟨Op, R, A, B, N⟩ := w
        repeat' (first | (with_reducible first | refine stp ?_ | refine k_blk_o rfl ?_ | refine k_seq_n ?_) | ((try (conv => arg 1; simp [words, hW, Word.cells, s1, hr, s3, s4, hlt, hlt2, hxi, hw, bs_mk, cat_le, bs_app])); with_reducible refine evp ?_) | ((with_reducible refine apn ?na ?_); (case na => simp [appNames, ints, intss] <;> first | kernel_rfl | (refine ⟨?_, ?_⟩ <;> kernel_rfl))) | ((with_reducible refine tcl ?_); first | ((apply tg (K)); (case e => rfl); (case d => (refine dq ?_); (repeat' (first | ((refine Da.mk ?_); first | assumption) | constructor))))) | fail)
        refine k_lp_n (i + 1) (by omega) ⟨by omega, by simp [s1], by simp [hr, hmc, words], by simp [hs], by simp⟩
      · have hge : i = m.Code.length := by omega
        subst hge
        repeat' (first | (with_reducible first | refine stp ?_ | refine k_blk_o rfl ?_ | refine k_seq_n ?_) | ((try (conv => arg 1; simp [words, s1, hr, s3, s4])); with_reducible refine evp ?_) | ((with_reducible refine apn ?na ?_); (case na => simp [appNames, ints, intss] <;> first | kernel_rfl | (refine ⟨?_, ?_⟩ <;> kernel_rfl))) | fail)
        exact .str _

set_option maxHeartbeats 4000000 in
theorem implasm (m : Image) (d : m.Txt) (dw : ∀ w ∈ m.Code, w.Txt) (hcl : m.Code.length ≤ 6000) : Pure Tryd.prog 48 [.agg (m.cells true)] (.str (bs (asmT m))) := by
  intro T
  have hmc : m.cells true = [ints true m.Sizes, .int .i64 m.Params, .int .i64 m.Slots, words true m.Code] := rfl
  have K2 := itoaB m.Params d.params
  have K3 := itoaB m.Slots d.slots
  have hsl := d.sizes
  refine enter mixed ME6 Tryd.func48 rfl (by kernel_rfl) rfl ?_
  repeat' (first | (with_reducible first | refine stp ?_ | refine k_blk_o rfl ?_ | refine k_seq_n ?_) | ((try (conv => arg 1; simp [hmc, bs_mk, bs_empty])); with_reducible refine evp ?_) | fail)
  refine st_loop (fun (i : Nat) σ h => i ≤ m.Sizes.length ∧ T < h.tick ∧ σ 1 = .ptr (T, 0, 0) 0 0 0 ∧ h.rows (T, 0, 0) = some ⟨0, 4, [m.cells true]⟩ ∧ σ 3 = .str (bs (109 :: 101 :: 109 :: spd m.Sizes i)) ∧ σ 9 = ints true m.Sizes ∧ σ 10 = .int .i64 m.Sizes.length ∧ σ 11 = .int .i64 i) (fun i => m.Sizes.length - i) 0 ?init ?step
  case init =>
    exact ⟨Nat.zero_le _, by simp [ltS], by simp, by simp [hmc], by simp [spd_zero], by simp, by simp, by simp⟩
  case step =>
    rintro i σ h ⟨hi, ht, s1, hr, s3, s9, s10, s11⟩
    haveI : Bd (spd m.Sizes i) 4294967296 := ⟨spd_len d.sizes' _ d.sizes⟩
    by_cases hlt : i < m.Sizes.length
    · have hlt2 : (i : Int) < m.Sizes.length := by omega
      have hxi : m.Sizes[i]? = some m.Sizes[i] := by simp
      have hw : IntKind.i64.wrap (i + 1) = i + 1 := wrap_id (by omega) (by omega)
      have K := itoaB m.Sizes[i] (d.sizes' _ (List.getElem_mem hlt))
      haveI := bd_dg (d.sizes' _ (List.getElem_mem hlt))
      repeat' (first | (with_reducible first | refine stp ?_ | refine k_blk_o rfl ?_ | refine k_seq_n ?_) | ((try (conv => arg 1; simp [ints, s1, s3, s9, s10, s11, hlt2, hxi, hw, bs_mk, cat_le, bs_app])); with_reducible refine evp ?_) | ((with_reducible refine tcl ?_); first | ((apply tg (K)); (case e => rfl); (case d => (refine dq ?_); (repeat' (first | ((refine Da.mk ?_); first | assumption) | constructor))))) | fail)
      refine k_lp_n (i + 1) (by omega) ⟨by omega, by simp; omega, by simp [s1], by simp [hr], by simp [spd_succ hlt], by simp [s9], by simp [s10], by simp⟩
    · have hge : i = m.Sizes.length := by omega
      subst hge
      rw [hmc] at hr
      haveI := bd_dg d.params
      haveI := bd_dg d.slots
      have n1 : T < h.tick + 1 := by omega
      repeat' (first | (with_reducible first | refine stp ?_ | refine k_blk_o rfl ?_ | refine k_seq_n ?_) | ((try (conv => arg 1; simp [s1, s3, s9, s10, s11])); with_reducible refine evp ?_) | fail)
      repeat (with_reducible first | refine stp ?_ | refine k_seq_n ?_)
      refine st_draw 13 (fun _ => false) (by kernel_rfl) ?_
      simp only [List.take_succ_cons, List.take_zero, List.drop_succ_cons, List.drop_zero, List.take_nil, List.drop_nil]
      repeat' (first | (with_reducible first | refine stp ?_ | refine k_blk_o rfl ?_ | refine k_seq_n ?_) | ((try (conv => arg 1; simp [s1, hr, s3, maskR, tk_ne, n1, bs_mk, cat_le, bs_app])); with_reducible refine evp ?_) | ((with_reducible refine apn ?na ?_); (case na => simp [appNames, ints, intss] <;> first | kernel_rfl | (refine ⟨?_, ?_⟩ <;> kernel_rfl))) | ((with_reducible refine tcl ?_); first | ((apply tg (K2)); (case e => rfl); (case d => (refine dq ?_); (repeat' (first | ((refine Da.mk ?_); first | assumption) | constructor)))) | ((apply tg (K3)); (case e => rfl); (case d => (refine dq ?_); (repeat' (first | ((refine Da.mk ?_); first | assumption) | constructor))))) | fail)
      refine st_loop (fun (i : Nat) σ h => i ≤ m.Code.length ∧ σ 3 = .str (bs (asmH m ++ codeT m.Code i)) ∧ σ 34 = words true m.Code ∧ σ 35 = .int .i64 m.Code.length ∧ σ 36 = .int .i64 i) (fun i => m.Code.length - i) 0 ?init2 ?step2
      case init2 =>
        exact ⟨Nat.zero_le _, by simp [asmH, codeT_zero], by simp, by simp, by simp⟩
      case step2 =>
        rintro i σ h ⟨hi, s3, s34, s35, s36⟩
        haveI : Bd (asmH m) 8589934592 := ⟨asmH_len d⟩
        by_cases hlt : i < m.Code.length
        · have hlt2 : (i : Int) < m.Code.length := by omega
          have hxi : m.Code[i]? = some m.Code[i] := by simp
          have hw : IntKind.i64.wrap (i + 1) = i + 1 := wrap_id (by omega) (by omega)
          have hdw := dw _ (List.getElem_mem hlt)
          have K := asmWord m.Code[i] hdw
          haveI : Bd (wordT m.Code[i]) 200 := ⟨wordT_len hdw⟩
          haveI : Bd (codeT m.Code i) 4294967296 := ⟨by have := codeT_len dw i hi; omega⟩
          have hs := codeT_succ hlt
          generalize hW : m.Code[i] = w at *
          obtain ⟨Op, R, A, B, N⟩ := w
          repeat' (first | (with_reducible first | refine stp ?_ | refine k_blk_o rfl ?_ | refine k_seq_n ?_) | ((try (conv => arg 1; simp [words, hW, Word.cells, s3, s34, s35, s36, hlt, hlt2, hxi, hw, bs_mk, cat_le, bs_app])); with_reducible refine evp ?_) | ((with_reducible refine apn ?na ?_); (case na => simp [appNames, ints, intss] <;> first | kernel_rfl | (refine ⟨?_, ?_⟩ <;> kernel_rfl))) | ((with_reducible refine tcl ?_); first | ((apply tg (K)); (case e => rfl); (case d => (refine dq ?_); (repeat' (first | ((refine Da.mk ?_); first | assumption) | constructor))))) | fail)
          refine k_lp_n (i + 1) (by omega) ⟨by omega, by simp [hs], by simp [s34], by simp [s35], by simp⟩
        · have hge : i = m.Code.length := by omega
          subst hge
          repeat' (first | (with_reducible first | refine stp ?_ | refine k_blk_o rfl ?_ | refine k_seq_n ?_) | ((try (conv => arg 1; simp [words, s3, s34, s35, s36])); with_reducible refine evp ?_) | ((with_reducible refine apn ?na ?_); (case na => simp [appNames, ints, intss] <;> first | kernel_rfl | (refine ⟨?_, ?_⟩ <;> kernel_rfl))) | fail)
          exact .str _

theorem implAsm (m : Image) (d : m.Txt) : Pure Tryd.prog 20 [.agg (m.cells true)] (.str (bs (asmR m))) := by
  intro T
  have K0 := isImage m (by have := d.sizes; omega) (by have := d.code; omega)
  have hmc : m.cells true = [ints true m.Sizes, .int .i64 m.Params, .int .i64 m.Slots, words true m.Code] := rfl
  refine enter mixed ME6 Tryd.func20 rfl (by kernel_rfl) rfl ?_
  cases hI : imageOk m with
  | false =>
    rw [hI] at K0
    repeat' (first | (with_reducible first | refine stp ?_ | refine k_blk_o rfl ?_ | refine k_seq_n ?_) | ((try (conv => arg 1; simp [hmc, bs_empty])); with_reducible refine evp ?_) | ((with_reducible refine tcl ?_); first | ((apply tg (K0)); (case e => rfl); (case d => (refine dq ?_); (repeat' (first | ((refine Da.mk ?_); first | exact dr_words (by simp) _ | assumption) | constructor))))) | fail)
    simp [asmR, hI]
    exact .str _
  | true =>
    rw [hI] at K0
    have K1 := implasm m d (image_word hI d) (image_code hI).2
    have hR : asmR m = asmT m := by simp [asmR, hI]
    rw [hR]
    repeat' (first | (with_reducible first | refine stp ?_ | refine k_blk_o rfl ?_ | refine k_seq_n ?_) | ((try (conv => arg 1; simp [hmc, bs_empty])); with_reducible refine evp ?_) | ((with_reducible refine tcl ?_); first | ((apply tg (K0)); (case e => rfl); (case d => (refine dq ?_); (repeat' (first | ((refine Da.mk ?_); first | exact dr_words (by simp) _ | assumption) | constructor)))) | ((apply tg (K1)); (case e => rfl); (case d => (refine dq ?_); (repeat' (first | ((refine Da.mk ?_); first | exact dr_words (by simp) _ | assumption) | constructor))))) | fail)
    exact .str _
theorem image_txt {m : Image} (hs : m.Small) (d : m.Data) : m.Txt := ⟨hs.sizes, hs.code, d.sizes', d.params, d.slots, d.code'⟩
end Go.Proofs.YtmcmgeedhbgglaaDoor.AM

namespace Go.Proofs.YtmcmgeedhbgglaaDoor.AM
open Go.RowKit

private def MLAsm : FuncId → Mode := fun f => if f = 9 ∨ f = 16 ∨ f = 27 then .fresh else .tree

set_option maxHeartbeats 2000000 in
theorem lawAsm (m : Image) (d_m : m.Data) : Sound Tryd.prog 6 [.agg (m.cells true)] (.mt 0) fun v _ => v = .bool true := by
  have hnil : True := trivial
  refine enter mixed MLAsm Tryd.func6 rfl (by kernel_rfl) rfl ?_
  repeat' (first | (with_reducible first | refine stp ?_ | refine k_blk_o rfl ?_) | ((try (conv => arg 1; simp [Image.cells])); with_reducible refine evp ?_) | fail)
  refine cx_k Cx.mt_box ?_
  intro h1 x1
  repeat' (first | (with_reducible first | refine stp ?_ | refine k_blk_o rfl ?_) | ((try (conv => arg 1; simp [hnil])); with_reducible refine evp ?_) | fail)
  refine cx_k x1.next ?_
  intro h2 x2
  obtain ⟨r1, hr_m, hs_m⟩ := szImage m 1048576 (by omega) (by omega) d_m.sizes d_m.code
  repeat' (first | (with_reducible first | refine stp ?_ | refine k_blk_o rfl ?_) | ((try (conv => arg 1; simp [x2.b0])); with_reducible refine evp ?_) | fail)
  refine st_tree rfl (hr_m) (.cons (dr_agg (drs_image m fun h => h)) (.cons (.int _ _) .nil)) ?_
  repeat' (first | (with_reducible first | refine stp ?_ | refine k_blk_o rfl ?_) | ((try (conv => arg 1; simp [x2.b0])); with_reducible refine evp ?_) | fail)
  refine cx_k x2.next ?_
  intro h3 x3
  repeat' (first | (with_reducible first | refine stp ?_ | refine k_blk_o rfl ?_) | ((try (conv => arg 1; simp [hnil])); with_reducible refine evp ?_) | fail)
  refine cx_k x3.next ?_
  intro h4 x4
  by_cases hneg : r1 < 0
  · skip
    repeat' (first | (with_reducible first | refine stp ?_ | refine k_blk_o rfl ?_ | refine k_seq_n ?_) | ((try (conv => arg 1; simp [hneg])); with_reducible refine evp ?_) | fail)
    rfl
  repeat' (first | (with_reducible first | refine stp ?_ | refine k_blk_o rfl ?_) | ((try (conv => arg 1; simp [hneg])); with_reducible refine evp ?_) | fail)
  refine k_seq_n ?_
  replace hs_m := hs_m.resolve_left hneg
  obtain ⟨hs_m, hg1_m, hg2_m⟩ := hs_m
  have dt := image_txt hs_m d_m
  have S := specAsm m dt
  have I := implAsm m dt
  repeat' (first | (with_reducible first | refine stp ?_ | refine k_blk_o rfl ?_) | ((try (conv => arg 1; simp [x4.b0])); with_reducible refine evp ?_) | fail)
  refine st_fresh rfl (toImage m hs_m) (.cons (dr_agg (drs_image m fun h => h)) .nil) ?_
  intro v1 h5 n1 o1 e1 f1 p1 t1
  have x5 := x4.next.fresh o1 e1 f1 p1 t1
  have z5 : h4.tick < h5.tick := by simp only [hp_next_tick] at t1; omega
  obtain ⟨wa1, wb1, _, _, rfl, _, qa1, qb1⟩ := ownV_image (o1 true)
  have qa1 := own_one qa1
  have qb1 := own_one' qb1
  repeat' (first | (with_reducible first | refine stp ?_ | refine k_blk_o rfl ?_) | ((try (conv => arg 1; simp [x5.b0, z5, qa1.1, qb1.1])); with_reducible refine evp ?_) | fail)
  refine st_tree rfl (S) (.cons ((x5.o0 true).dr) .nil) ?_
  repeat' (first | (with_reducible first | refine stp ?_ | refine k_blk_o rfl ?_) | ((try (conv => arg 1; simp [x5.b0, z5, qa1.1, qb1.1])); with_reducible refine evp ?_) | fail)
  refine cx_k x5 ?_
  intro h6 x6
  repeat' (first | (with_reducible first | refine stp ?_ | refine k_blk_o rfl ?_) | ((try (conv => arg 1; simp [x6.b0])); with_reducible refine evp ?_) | fail)
  refine st_fresh rfl (toImage m hs_m) (.cons (dr_agg (drs_image m fun h => h)) .nil) ?_
  intro v2 h7 n2 o2 e2 f2 p2 t2
  have x7 := x6.next.fresh o2 e2 f2 p2 t2
  have z7 : h6.tick < h7.tick := by simp only [hp_next_tick] at t2; omega
  obtain ⟨wa2, wb2, _, _, rfl, _, qa2, qb2⟩ := ownV_image (o2 true)
  have qa2 := own_one qa2
  have qb2 := own_one' qb2
  repeat' (first | (with_reducible first | refine stp ?_ | refine k_blk_o rfl ?_) | ((try (conv => arg 1; simp [x7.b0, z7, qa2.1, qb2.1])); with_reducible refine evp ?_) | fail)
  refine cx_k (x7.box_new (x6.off.fresh f2 (by simp [hp_next_tick])) z7) ?_
  intro h8 x8
  repeat' (first | (with_reducible first | refine stp ?_ | refine k_blk_o rfl ?_) | ((try (conv => arg 1; simp [x8.b0, qa2.1, qb2.1])); with_reducible refine evp ?_) | fail)
  refine st_tree rfl (I) (.cons ((x8.next.o0 true).dr) .nil) ?_
  repeat' (first | (with_reducible first | refine stp ?_ | refine k_blk_o rfl ?_) | ((try (conv => arg 1; simp [x8.b0, qa2.1, qb2.1])); with_reducible refine evp ?_) | fail)
  refine cx_k x8.next ?_
  intro h9 x9
  repeat' (first | (with_reducible first | refine stp ?_ | refine k_blk_o rfl ?_) | ((try (conv => arg 1; simp [hnil])); with_reducible refine evp ?_) | fail)
  refine cx_k x9.next ?_
  intro h10 x10
  repeat' (first | (with_reducible first | refine stp ?_ | refine k_blk_o rfl ?_) | ((try (conv => arg 1; simp [hnil])); with_reducible refine evp ?_) | fail)
  refine k_seq_n ?_
  repeat' (first | (with_reducible first | refine stp ?_ | refine k_blk_o rfl ?_) | ((try (conv => arg 1; simp [hnil])); with_reducible refine evp ?_) | fail)
  repeat (with_reducible first | refine stp ?_ | refine k_seq_n ?_)
  refine st_draw 5 (fun _ => false) (by kernel_rfl) ?_
  simp only [List.take_succ_cons, List.take_zero, List.drop_succ_cons, List.drop_zero, List.take_nil, List.drop_nil]
  repeat' (first | (with_reducible first | refine stp ?_ | refine k_blk_o rfl ?_) | ((try (conv => arg 1; simp [x10.b0, x10.b1, x10.l0, x10.l1, qa2.1, qb2.1])); with_reducible refine evp ?_) | ((with_reducible refine apn ?na ?_); (case na => simp [appNames, ints, intss] <;> first | kernel_rfl | (refine ⟨?_, ?_⟩ <;> kernel_rfl))) | fail)
  refine treeW_pure (toImage m hs_m).pure (.cons (dr_agg (drs_image m fun h => h)) .nil) ?_
  repeat' (first | (with_reducible first | refine stp ?_ | refine k_blk_o rfl ?_) | ((try (conv => arg 1; simp [x10.b0, x10.b1, x10.l0, x10.l1, qa2.1, qb2.1])); with_reducible refine evp ?_) | ((with_reducible refine apn ?na ?_); (case na => simp [appNames, ints, intss] <;> first | kernel_rfl | (refine ⟨?_, ?_⟩ <;> kernel_rfl))) | fail)
  refine treeW_pure (eqImage m hs_m) (.cons ((x10.m0 true).dr) (.cons (dr_agg (drs_image m (by simp))) .nil)) ?_
  repeat' (first | (with_reducible first | refine stp ?_ | refine k_blk_o rfl ?_) | ((try (conv => arg 1; simp [x10.b0, x10.b1, x10.l0, x10.l1, qa2.1, qb2.1])); with_reducible refine evp ?_) | ((with_reducible refine apn ?na ?_); (case na => simp [appNames, ints, intss] <;> first | kernel_rfl | (refine ⟨?_, ?_⟩ <;> kernel_rfl))) | fail)
  refine cx_k x10.next ?_
  intro h11 x11
  repeat' (first | (with_reducible first | refine stp ?_ | refine k_blk_o rfl ?_) | ((try (conv => arg 1; simp [hnil])); with_reducible refine evp ?_) | ((with_reducible refine apn ?na ?_); (case na => simp [appNames, ints, intss] <;> first | kernel_rfl | (refine ⟨?_, ?_⟩ <;> kernel_rfl))) | fail)
  refine k_seq_n ?_
  repeat' (first | (with_reducible first | refine stp ?_ | refine k_blk_o rfl ?_ | refine k_seq_n ?_) | ((try (conv => arg 1; simp [hnil])); with_reducible refine evp ?_) | ((with_reducible refine apn ?na ?_); (case na => simp [appNames, ints, intss] <;> first | kernel_rfl | (refine ⟨?_, ?_⟩ <;> kernel_rfl))) | fail)
  rfl
end Go.Proofs.YtmcmgeedhbgglaaDoor.AM

namespace Go.Proofs.YtmcmgeedhbgglaaDoor.AM
open Go Go.RowKit

theorem handed_laid {H : Type} {enc : TypeId × Value → H} {a : Assume} {C : Checked} {os : Os} {f : FuncId} {fn : Func} {s : ChangeSpec} {conds : List PathCond} {apart fresh handsOn again : Bool} {X : World → Array Value → Prop}
    (hX : ∀ (w w' : World) (args : Array Value), w.heap = w'.heap → X w args → X w' args)
    (own : ownKnob C.prog.godebug = none) (started : os.Started) (noInit : C.prog.inits.idxOf? f = none) (hfn : C.prog.funcs[f]? = some fn)
    (witness : ∃ (w : World) (tape : Tape) (i : Input), w.os = os ∧ (w.forCall tape i).Shaped C.prog ∧ i.vars = [] ∧ Input.okWide C.prog (w.forCall tape i) .any w.heap.size f i ∧
      ((s.pre enc C.prog fn conds apart (w.forCall tape i).memory i.args ∧ X (w.forCall tape i).memory i.args) ∧ sizedMet enc C.prog fn (OpenSpec.ofChange s) apart (w.forCall tape i).memory i.args) ∧ a.holds C.prog (lone (Frame.enter C.prog f i.args .normal) [] (w.forCall tape i)))
    (contract : ∀ (W : World) (base : Nat) (args : Array Value) (ds gs : List (DataW H)) (before : List MemPlace),
      (∀ (j : Nat) t v, fn.params[j]? = some t → args[j]? = some v → Value.okWide C.prog W .any base t v) →
      DataW.Whole enc C.prog fn.params.toList s.vars apart W args.toList ds gs before → X W args → W.ShapedOpen C.prog →
      Calls C.prog f args W fun e W' => ∃ v, e = .returned v ∧ s.post enc C.prog fn apart fresh handsOn again W args v W') :
    ReturnsInHanded a C os f .any (fun w args => (s.pre enc C.prog fn conds apart w args ∧ X w args) ∧ sizedMet enc C.prog fn (OpenSpec.ofChange s) apart w args) (s.post enc C.prog fn apart fresh handsOn again) := by
  refine returnsInHanded_of_calls own started noInit witness ?_
  intro w tape i _ hsh _ hok hpre hholds
  obtain ⟨_, _, _, fn', hfn', _, _, _, _, hval⟩ := hok
  have e : fn' = fn := Option.some.inj (hfn'.symm.trans hfn)
  subst e
  obtain ⟨⟨⟨ds, gs, before, hw, hc⟩, hx⟩, hz⟩ := hpre
  have hw' := DataW.Whole.of_heap (w' := w.forCall tape i) (by rfl) hw
  refine (contract (w.forCall tape i) w.heap.size i.args ds gs before hval hw' (hX _ _ _ (by rfl) hx) hsh).mono fun e W' ⟨v, he, hp⟩ => ?_
  subst he
  exact ChangeSpec.post_blind hp

theorem var_cells {P : Program} {w : World} {name : String} {g : Nat} {cs : Array Value} (hg : P.globalNamed name = some g) (h : w.var? P name = some cs) : g < w.heap.size ∧ ∃ ty fr, w.heap[g]? = some (.cells cs ty fr) := by
  unfold World.var? at h
  rw [hg] at h
  simp only [Option.bind_some] at h
  split at h
  · rename_i cs' ty fr hb
    cases h
    exact ⟨(Array.getElem?_eq_some_iff.1 hb).1, ty, fr, hb⟩
  · cases h
theorem int_block {P : Program} {w : World} {g : Nat} {t : TypeId} {zero : Array Value} {k : IntKind}
    (h : w.ShapedOpen P) (hg : g < P.globals.size)
    (h0 : ((begin P (fun _ _ => 0) default).world.heap[g]?).bind Obj.row? = some (zero, t)) (hz : zero.size = 1)
    (hb : P.buildable t = true) (hc : P.cellTypes P.depth t = some [t]) (hu : P.underlying t = some (.int k)) : g < w.heap.size ∧ ∃ m ty fr, w.heap[g]? = some (.cells #[.int k m] ty fr) := by
  obtain ⟨m, hm⟩ := cell_of_shapedOpen_int h hg h0 hz hb hc hu
  obtain ⟨cs, hh, hs, _⟩ := h.1 g zero t hg h0
  refine ⟨(Array.getElem?_eq_some_iff.1 hh).1, m, t, (0, 0), ?_⟩
  rw [hh]
  have h1 : cs.size = 1 := by omega
  have : cs = #[.int k m] := by
    apply Array.ext
    · simp [h1]
    · intro i h2 h3
      have hi : i = 0 := by simpa using h3
      subst hi
      simp only [World.cell?, hh] at hm
      simpa [h2] using hm
  rw [this]

theorem av_3 (c : AV) : avOf Tryd.prog 3 [c] = c := av_oneX und_3 rfl c
theorem av_9 (c : AV) : avOf Tryd.prog 9 [c] = c := av_oneX und_9 rfl c
/-- The tables that the rows list, and bytealg.MaxLen. -/
theorem tab_pow10 {W : World} (h : Go.Lib.TabIs Tryd.prog W "internal/strconv.uint64pow10" .u64 Go.Lib.pow10Tab) : 2 < W.heap.size ∧ ∃ arr ty fr, W.heap[2]? = some (.cells arr ty fr) ∧ arr = (Go.Lib.pow10Tab.map fun z => Value.int .u64 z).toArray := by
  obtain ⟨h1, ty, fr, h2⟩ := var_cells (by kernel_rfl) h
  exact ⟨h1, _, ty, fr, h2, rfl⟩
theorem tab_maxlen {W : World} (h : W.ShapedOpen Tryd.prog) : 3 < W.heap.size ∧ ∃ arr ty fr, W.heap[3]? = some (.cells arr ty fr) ∧ ∃ m, arr = #[Value.int .i64 m] := by
  obtain ⟨h1, m, ty, fr, h2⟩ := int_block (g := 3) (t := 3) (zero := #[.int .i64 0]) (k := .i64) h (of_decide_eq_true (by kernel_rfl)) (by kernel_rfl) rfl (by kernel_rfl) (by kernel_rfl) (by kernel_rfl)
  exact ⟨h1, _, ty, fr, h2, m, rfl⟩
theorem tab_all {W : World} (h1 : Go.Lib.TabIs Tryd.prog W "internal/strconv.uint64pow10" .u64 Go.Lib.pow10Tab) (h2 : W.ShapedOpen Tryd.prog) : Tab (prLent (fun _ _ => False) W.heap.size) W.heap := by
  intro b q hm
  simp only [tabs, List.mem_cons, List.mem_nil_iff, or_false, Prod.mk.injEq] at hm
  rcases hm with ⟨rfl, rfl⟩ | ⟨rfl, rfl⟩
  · exact tab_pow10 h1
  · exact tab_maxlen h2
theorem pow_of_laid {W : World} {rest : List (String × DataW Unit)} (h : laidMet Tryd.prog (("internal/strconv.uint64pow10", Rows.laid_internal_strconv_uint64pow10) :: rest) W) : Go.Lib.TabIs Tryd.prog W "internal/strconv.uint64pow10" .u64 Go.Lib.pow10Tab :=
  Go.Lib.tabIs_of_head (n := 20) (g := 2) (t := 147) (e := 118) (by kernel_rfl) (by kernel_rfl) (by kernel_rfl) (by kernel_rfl) (by kernel_rfl) (by kernel_rfl) (rest := rest) h
end Go.Proofs.YtmcmgeedhbgglaaDoor.AM


namespace Go.Proofs.YtmcmgeedhbgglaaDoor.fnExactAsm
open Go Go.ChangeShapes Go.WideShapes Go.ChangeAt Go.RowKit
theorem own : ownKnob Tryd.prog.godebug = none := by kernel_rfl

theorem sound (l : List AM.AV) (h : AM.ShpAll Tryd.prog [37] l) : AM.Sound Tryd.prog 6 l (.mt 0) fun v _ => v = .bool true := by
  obtain ⟨cells0, l0, g0, e0, k0⟩ := AM.shpAll_cons h
  have e' := AM.shpAll_nil k0
  subst e' e0
  obtain ⟨a0, rfl, d0⟩ := AM.shp_image g0
  rw [AM.agg_39]
  exact AM.lawAsm a0 d0

set_option maxRecDepth 100000 in
theorem met (os : Os) (args : Array Value) : laidMetH Tryd.prog Rows.fnExactAsmRow.laid ((World.laidAll Tryd.prog os Rows.fnExactAsmRow.laid).forCall (fun _ _ => 0) ⟨#[], args, []⟩).memory := by
  rw [MakeChecks.laidMetH_plain _ _ _ (by kernel_rfl)]
  exact laidMet_laidAll args (by kernel_rfl) (by kernel_rfl)

theorem tabs {W : World} (h : laidMetH Tryd.prog Rows.fnExactAsmRow.laid W) (hsh : W.ShapedOpen Tryd.prog) : AM.Tab (AM.prLent (fun _ _ => False) W.heap.size) W.heap := by
  rw [MakeChecks.laidMetH_plain _ _ _ (by kernel_rfl)] at h
  exact AM.tab_all (AM.pow_of_laid h.tail.tail) hsh

set_option maxRecDepth 100000 in
theorem lifted (os : Os) (started : os.Started) (H : Type) (enc : TypeId × Value → H) :
    ReturnsInHanded {} Tryd.checked os 6 .any (fun w args => (Rows.fnExactAsmSpec.pre enc Tryd.prog Tryd.f6 [] false w args ∧ laidMetH Tryd.prog Rows.fnExactAsmRow.laid w) ∧ sizedMet enc Tryd.prog Tryd.f6 (OpenSpec.ofChange Rows.fnExactAsmSpec) false w args) (Rows.fnExactAsmSpec.post enc Tryd.prog Tryd.f6 false true false false) := by
  refine AM.handed_laid (C := Tryd.checked) (X := fun w _ => laidMetH Tryd.prog Rows.fnExactAsmRow.laid w) (fun _ _ _ hh h => h.of_heap hh) own started (by kernel_rfl) Tryd.func6
    (ChangeSpec.witness_shaped (enc := enc) (C := Tryd.checked) (os := os) (X := fun w _ => laidMetH Tryd.prog Rows.fnExactAsmRow.laid w) false (World.laidAll Tryd.prog os Rows.fnExactAsmRow.laid) #[.agg #[.slice none 0 0, .int .i64 0, .int .i64 0, .slice none 0 0]] 8 (World.laidAll_os _ _ _) (World.shaped_of_RefB (by kernel_rfl) (by kernel_rfl)) (by kernel_rfl) (by kernel_rfl) (by kernel_rfl) (met os _)) ?_
  intro W base args ds gs before hval0 hW hL hsh
  have hval : ∀ (j : Nat) t v, Tryd.f6.params[j]? = some t → args[j]? = some v → Value.okWide Tryd.prog W .any base t v := hval0
  have hW' := hW
  obtain ⟨p, q, hA0, hV, rfl, hfz, hnd⟩ := hW
  have hA : DataW.TrodAll enc Tryd.prog W 0 (fun _ => true) true Tryd.f6.params.toList args.toList ds p := hA0
  rw [Tryd.params6] at hA hval
  obtain ⟨v0, vs0, d0, ds0, p0, q0, hargs, rfl, rfl, h0, r0⟩ := trodAll_cons hA
  obtain ⟨rfl, rfl, rfl⟩ := trodAll_nil r0
  obtain rfl : args = #[v0] := by cases args; simp_all
  obtain ⟨rfl, rfl⟩ := trodVars_none hV
  clear hA0 hval0
  refine (AM.law_calls (params := [37]) (ts := [37, 3, 22, 35, 93]) sound (by kernel_rfl) (by simp) (args := #[v0]) (fun j t v a b => hval j t v (by simpa using a) b) hA (tabs hL hsh)).mono fun e W' ⟨he, bel⟩ => ?_
  subst he
  exact ⟨_, rfl, _, _, _, [], _, [], hW', trodAll_mk1 (shut_bool Tryd.underlying4 _), AM.back_all AM.laid bel _ _ _ _ (by kernel_rfl) hA, rfl, bel.frame _, fun h => by cases h⟩
theorem over : Rows.fnExactAsmRow.holds Tryd.pinned (OpenSpec.ofChange Rows.fnExactAsmSpec) :=
  OpenClaim.holds_of_wide 6 Tryd.f6 rfl rfl rfl rfl rfl rfl rfl ⟨rfl, rfl, rfl, rfl, rfl⟩ rfl rfl rfl rfl rfl (by kernel_rfl) Tryd.func6 (by kernel_rfl)
    (of_decide_eq_true (by kernel_rfl)) (by unfold Func.isWrapper; first | (rw [if_pos (by decide +kernel)]; kernel_rfl) | (rw [if_neg (by decide +kernel)]; exact ⟨rfl, rfl⟩))
    (fun os started H enc _ => lifted os started H enc)
theorem card : Rows.FnExactAsmCardSaid :=
  Claim7.holds_tied_plain_at .later [] [.data, .data, .data, .data, .pinned] true (Rows.fnExactAsmCard.stood.harness) true
    over (fun _ h => by cases h) (by kernel_rfl) (fun _ h => by cases h) fnExactAsm_row_tie rfl ⟨rfl, rfl⟩ (by kernel_rfl) rfl
    (fun f fn hf hfn => by
      obtain rfl : f = 6 := Option.some.inj ((show Tryd.prog.funcNamed "loop.example/g00385/laws.FnExactAsm" = some 6 by kernel_rfl).symm.trans hf) |>.symm
      obtain rfl : fn = Tryd.f6 := (Option.some.inj (Tryd.func6.symm.trans hfn)).symm
      exact ⟨by kernel_rfl, fun j t ht => by
        rw [Tryd.params6] at ht
        have hm : t ∈ [37] := by simpa using Array.mem_of_getElem? ht
        have hall : ([37].all fun u => !Tryd.prog.wantsStandIn u) = true := by kernel_rfl
        exact (show Tryd.prog.wantsStandIn t = false by simpa using List.all_eq_true.1 hall t hm)⟩)
    (by kernel_rfl)
end Go.Proofs.YtmcmgeedhbgglaaDoor.fnExactAsm
namespace Go.Proofs.YtmcmgeedhbgglaaDoor
theorem fnExactAsm_holds : Rows.FnExactAsmCardSaid := fnExactAsm.card
end Go.Proofs.YtmcmgeedhbgglaaDoor
