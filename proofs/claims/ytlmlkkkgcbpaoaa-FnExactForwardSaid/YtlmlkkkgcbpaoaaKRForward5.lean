/-
  FnExactForward: for every argument, the law returns true, and the arguments read behind the call as they read before.
  Conditions: none beyond the given statement's own.
-/
import Derived.Test.YtlmlkkkgcbpaoaaKk4
import Derived.WalkKit
import Derived.ProofKit
import Derived.OpenShut
import Derived.ShutString
import Derived.ChangeOld
import Derived.Below
import Derived.SizedLaws
/-
  Loads of what a slot has: the program's block.
-/
set_option linter.unusedVariables false
set_option linter.unusedSimpArgs false
set_option maxRecDepth 4000
namespace Go.Proofs.Ytlmlkkkgcbpaoaa.AM
open Go.RowKit

private def MG54 : FuncId → Mode := fun f => if f = 102 ∨ f = 101 then .heap else .tree

theorem forw11 (x : Hd) (d : Int) : Pure Try.prog 103 [.agg x.cells, .tptr true [.int .i64 d]] (.bool (decide (x.slot = d))) := by
  intro T
  obtain ⟨⟨R, Lo, Hi, Off⟩, sl⟩ := x
  refine enter mixed MG54 Try.func103 rfl (by kernel_rfl) rfl ?_
  repeat' (first
   | with_reducible refine stp ?_
   | with_reducible refine k_blk_o rfl ?_
   | with_reducible refine k_seq_n ?_
   | ((try (conv => arg 1; simp [Hd.cells])); with_reducible refine evp ?_)
   | ((with_reducible refine apn ?na ?_); (case na => simp [appNames, ints, intss] <;> first | kernel_rfl | (refine ⟨?_, ?_⟩ <;> kernel_rfl)))
   | fail)
  exact dr_bool (by simp)
theorem forw2 (x : Hd) (pl : List Plc) {k : Nat} (hk : k < pl.length) : Pure Try.prog 105 [.agg x.cells, .tptr true [plcs true pl], .tptr true [.int .i64 k]] (.bool (isH pl[k] x)) := by
  intro T
  have hx : pl[k]? = some pl[k] := by simp
  have hlen : pl[k].cells.length = 4 := rfl
  have htk : List.take 4 pl[k].cells = pl[k].cells := rfl
  have hT : ¬ T = T + 1 := by omega
  obtain ⟨⟨R, Lo, Hi, Off⟩, sl⟩ := x
  have A := implAlias ⟨R, Lo, Hi, Off⟩ pl[k]
  refine enter mixed MG54 Try.func105 rfl (by kernel_rfl) rfl ?_
  repeat' (first
   | with_reducible refine stp ?_
   | with_reducible refine k_blk_o rfl ?_
   | with_reducible refine k_seq_n ?_
   | ((try (conv => arg 1; simp [Hd.cells])); with_reducible refine evp ?_)
   | ((with_reducible refine apn ?na ?_); (case na => simp [appNames, ints, intss] <;> first | kernel_rfl | (refine ⟨?_, ?_⟩ <;> kernel_rfl)))
   | fail)
  repeat (with_reducible first | refine stp ?_ | refine k_seq_n ?_)
  refine st_draw 9 (fun _ => false) (by kernel_rfl) ?_
  simp only [List.take_succ_cons, List.take_zero, List.drop_succ_cons, List.drop_zero, List.take_nil, List.drop_nil]
  repeat' (first
   | with_reducible refine stp ?_
   | with_reducible refine k_blk_o rfl ?_
   | with_reducible refine k_seq_n ?_
   | ((try (conv => arg 1; simp [Hd.cells, plcs, hk, hx, hlen, htk, maskR, hT])); with_reducible refine evp ?_)
   | ((with_reducible refine apn ?na ?_); (case na => simp [appNames, ints, intss] <;> first | kernel_rfl | (refine ⟨?_, ?_⟩ <;> kernel_rfl)))
   | ((with_reducible refine tcl ?_); first | ((apply tg (A)); (case e => rfl); (case d => (refine dq ?_); (repeat' (first | ((refine Da.mk ?_); first | exact dr_agg (drs_plc _) | exact drs_plc _ | assumption) | constructor)))))
   | fail)
  exact dr_bool (by unfold isH; rw [Bool.eq_iff_iff]; simp)
theorem forw3 (x : Hd) (pl : List Plc) {k : Nat} (hk : k < pl.length) : Pure Try.prog 106 [.agg x.cells, .tptr true [plcs true pl], .tptr true [.int .i64 k]] (.bool (!(aliasV x.pl pl[k] == 0))) := by
  intro T
  have hx : pl[k]? = some pl[k] := by simp
  have hlen : pl[k].cells.length = 4 := rfl
  have htk : List.take 4 pl[k].cells = pl[k].cells := rfl
  have hT : ¬ T = T + 1 := by omega
  obtain ⟨⟨R, Lo, Hi, Off⟩, sl⟩ := x
  have A := implAlias ⟨R, Lo, Hi, Off⟩ pl[k]
  refine enter mixed MG54 Try.func106 rfl (by kernel_rfl) rfl ?_
  repeat' (first
   | with_reducible refine stp ?_
   | with_reducible refine k_blk_o rfl ?_
   | with_reducible refine k_seq_n ?_
   | ((try (conv => arg 1; simp [Hd.cells])); with_reducible refine evp ?_)
   | ((with_reducible refine apn ?na ?_); (case na => simp [appNames, ints, intss] <;> first | kernel_rfl | (refine ⟨?_, ?_⟩ <;> kernel_rfl)))
   | fail)
  repeat (with_reducible first | refine stp ?_ | refine k_seq_n ?_)
  refine st_draw 9 (fun _ => false) (by kernel_rfl) ?_
  simp only [List.take_succ_cons, List.take_zero, List.drop_succ_cons, List.drop_zero, List.take_nil, List.drop_nil]
  repeat' (first
   | with_reducible refine stp ?_
   | with_reducible refine k_blk_o rfl ?_
   | with_reducible refine k_seq_n ?_
   | ((try (conv => arg 1; simp [Hd.cells, plcs, hk, hx, hlen, htk, maskR, hT])); with_reducible refine evp ?_)
   | ((with_reducible refine apn ?na ?_); (case na => simp [appNames, ints, intss] <;> first | kernel_rfl | (refine ⟨?_, ?_⟩ <;> kernel_rfl)))
   | ((with_reducible refine tcl ?_); first | ((apply tg (A)); (case e => rfl); (case d => (refine dq ?_); (repeat' (first | ((refine Da.mk ?_); first | exact dr_agg (drs_plc _) | exact drs_plc _ | assumption) | constructor)))))
   | fail)
  exact dr_bool (by rw [Bool.eq_iff_iff]; simp)
theorem dropH_eq (l : List Hd) (d : Int) : (l.filter fun x => !decide (x.slot = d)) = dropH d l := rfl
theorem farH_eq (l : List Hd) (p : Plc) : (l.filter fun x => !(!(aliasV x.pl p == 0))) = farH p l := by
  unfold farH
  congr 1
  funext x
  simp

set_option maxHeartbeats 1000000 in
theorem loseF (l : List Hd) (d : Int) (hl : l.length ≤ 2 ^ 31) {h : Hp} {bs bl : Bx} {os : Ox} {n4 : Nm} {wl : AV} (fl : FL 5 (l.map Hd.cells) wl bl) (z : Cx h ((n4, ⟨0, 1, [[wl]]⟩) :: (bl ++ bs)) os) :
    Sound Try.prog 101 [.int .i64 d, .ptr n4 0 0 0] h fun v h' => ∃ wl' bl', FL 5 ((dropH d l).map Hd.cells) wl' bl' ∧ Cx h' ((n4, ⟨0, 1, [[wl']]⟩) :: (bl' ++ bs)) os := by
  have hnil : True := trivial
  have q := fl.one
  refine enter mixed MG54 Try.func101 rfl (by kernel_rfl) rfl ?_
  repeat' (first
   | with_reducible refine stp ?_
   | with_reducible refine k_blk_o rfl ?_
   | ((try (conv => arg 1; simp [hnil])); with_reducible refine evp ?_)
   | ((with_reducible refine apn ?na ?_); (case na => simp [appNames, ints, intss] <;> first | kernel_rfl | (refine ⟨?_, ?_⟩ <;> kernel_rfl)))
   | fail)
  refine cx_k (z.next.box_one (T := h.tick) (i := 0) (r := ⟨0, 1, [[.int .i64 d]]⟩) z.off (by simp)) ?_
  intro h1 x1
  have b1 := x1.bxs
  simp only [Bxs] at b1
  repeat' (first
   | with_reducible refine stp ?_
   | with_reducible refine k_blk_o rfl ?_
   | with_reducible refine k_seq_n ?_
   | ((try (conv => arg 1; simp [b1, q.1, q.2.1, q.2.2, ltS, nm_ne])); with_reducible refine evp ?_)
   | ((with_reducible refine apn ?na ?_); (case na => simp [appNames, ints, intss] <;> first | kernel_rfl | (refine ⟨?_, ?_⟩ <;> kernel_rfl)))
   | fail)
  have zf := Cx.to_front (fs := [_, _]) (b := bl) (bs := bs) x1
  refine st_heap rfl (deleteFuncH l 103 [.ptr (h.tick, 0, 0) 0 0 0] [.tptr true [.int .i64 d]] (fun x => decide (x.slot = d)) hl (fun x _ => forw11 x d)
    (fun rows => .cons (dr_tptr' (fun h => h) (.cons (.int _ _) .nil)) .nil) fl (Cx.to zf)
    (fun h'' b' x => .cons (dr_ptr0 (x.box ((h.tick, 0, 0), ⟨0, 1, [[.int .i64 d]]⟩) (by simp)) rfl rfl (.cons (.int _ _) .nil)) .nil)) ?_
  rintro v h'' ⟨b', fl', z2⟩
  have z3 : Cx h'' (_ :: _ :: (b' ++ bs)) _ := Cx.to_front (fs := b') (b := [_, _]) (bs := bs) z2
  have q' := fl'.one
  have b3 := z3.bxs
  simp only [Bxs] at b3
  repeat' (first
   | with_reducible refine stp ?_
   | with_reducible refine k_blk_o rfl ?_
   | with_reducible refine k_seq_n ?_
   | ((try (conv => arg 1; simp [b3, q'.1, q'.2.1, q'.2.2, ltS, nm_ne])); with_reducible refine evp ?_)
   | ((with_reducible refine apn ?na ?_); (case na => simp [appNames, ints, intss] <;> first | kernel_rfl | (refine ⟨?_, ?_⟩ <;> kernel_rfl)))
   | fail)
  exact ⟨v, b', fl', (Cx.to z3.box_drop)⟩

theorem Cx.drop_pre {h : Hp} {bs : Bx} {os : Ox} : ∀ {b : Bx}, Cx h (b ++ bs) os → Cx h bs os
  | [], x => x
  | _ :: b, x => Cx.drop_pre (b := b) x.box_drop
theorem Cx.lose_in {h : Hp} {a b n : Nm × Row} {fs bl bs : Bx} {os : Ox} (x : Cx h (a :: b :: n :: (fs ++ (bl ++ bs))) os) : Cx h (n :: (bl ++ (a :: b :: (fs ++ bs)))) os :=
  x.bperm ((List.perm_middle (l₁ := [a, b])).trans (.cons n (List.perm_append_comm_assoc (a :: b :: fs) bl bs)))
theorem Cx.lose_out {h : Hp} {a b n : Nm × Row} {fs bl bs : Bx} {os : Ox} (x : Cx h (n :: (bl ++ (a :: b :: (fs ++ bs)))) os) : Cx h (a :: b :: n :: (fs ++ (bl ++ bs))) os :=
  x.bperm ((List.perm_middle (l₁ := [a, b])).trans (.cons n (List.perm_append_comm_assoc (a :: b :: fs) bl bs))).symm

set_option maxHeartbeats 8000000 in
theorem forwardI (code : List Instr) (pl : List Plc) (hl : code.length ≤ 2 ^ 20) (hp : pl.length = code.length) (hD : ∀ x ∈ code, x.Op = 3 → 0 ≤ x.D) (hC : ∀ x ∈ code, x.Op = 4 → 0 ≤ x.C) {h : Hp} {bs : Bx} {os : Ox} {kc : Nm} {vc : Nat} {spc : List (List AV)} (x : Cx h ((kc, ⟨vc, 7, code.map Instr.cells ++ spc⟩) :: bs) os) :
    Sound Try.prog 66 [.sl kc vc 0 code.length, plcs false pl] h fun v h' => Cx h' ((kc, ⟨vc, 7, (fwd code pl).map Instr.cells ++ spc⟩) :: bs) os := by
  have hnil : True := trivial
  have hzl : (code.zip pl).length = code.length := by simp [hp]
  have y1 := x.next.box_one (T := h.tick) (i := 0) (r := ⟨0, 1, [[plcs false pl]]⟩) x.off (by simp)
  have y2 := y1.next.box_one (T := h.tick + 1) (i := 0) (r := ⟨0, 5, []⟩) y1.off (by simp)
  have y3 := y2.box_add (n := (h.tick + 1, 1, 0)) (r := ⟨0, 1, [[.nilsl]]⟩) (by rw [nms_box]; simp; exact fun e => by have := y1.lt _ e; simp at this) (by simp)
  refine enter mixed MG54 Try.func66 rfl (by kernel_rfl) rfl ?_
  repeat' (first
   | with_reducible refine stp ?_
   | with_reducible refine k_blk_o rfl ?_
   | with_reducible refine k_seq_n ?_
   | ((try (conv => arg 1; simp [hnil])); with_reducible refine evp ?_)
   | ((with_reducible refine apn ?na ?_); (case na => simp [appNames, ints, intss] <;> first | kernel_rfl | (refine ⟨?_, ?_⟩ <;> kernel_rfl)))
   | fail)
  refine st_loop (fun (i : Nat) σ h' => i ≤ code.length ∧ σ 0 = .sl kc vc 0 code.length ∧ σ 3 = .ptr (h.tick, 0, 0) 0 0 0 ∧ σ 4 = .ptr (h.tick + 1, 1, 0) 0 0 0 ∧ σ 5 = .fn 101 [.ptr (h.tick + 1, 1, 0) 0 0 0] ∧ σ 11 = .sl kc vc 0 code.length ∧ σ 12 = .int .i64 code.length ∧ σ 13 = .int .i64 i ∧
    ∃ wl bl, FL 5 ((fwN ((code.zip pl).take i)).2.map Hd.cells) wl bl ∧
    Cx h' (((h.tick + 1, 1, 0), ⟨0, 1, [[wl]]⟩) :: ((h.tick, 0, 0), ⟨0, 1, [[plcs false pl]]⟩) :: (kc, ⟨vc, 7, (fwN ((code.zip pl).take i)).1.map Instr.cells ++ ((code.drop i).map Instr.cells ++ spc)⟩) :: (bl ++ bs)) os) (fun i => code.length - i) 0 ?init ?step
  case init =>
    have y4 : Cx _ (_ :: _ :: _ :: (_ :: bs)) os := y3.bperm (.cons _ ((List.Perm.swap _ _ _).trans (.cons _ (.swap _ _ _))))
    exact ⟨Nat.zero_le _, by simp, by simp, by simp, by simp, by simp, by simp, by simp, .sl (h.tick + 1, 0, 0) 0 0 0, [((h.tick + 1, 0, 0), ⟨0, 5, []⟩)], FL.mt, Cx.to y4⟩
  case step =>
    rintro i σ h' ⟨hi, s0, s3, s4, s5, s11, s12, s13, wl, bl, fl, z⟩
    by_cases hlt : i < code.length
    · have hlt2 : (i : Int) < code.length := by omega
      have hw : IntKind.i64.wrap (i + 1) = i + 1 := wrap_id (by omega) (by omega)
      have hil : i < pl.length := by omega
      have hx2 : pl[i]? = some pl[i] := by simp
      have hz : i < (code.zip pl).length := by omega
      have et := fwN_take hz
      rw [List.getElem_zip] at et
      have hol := fwN_len ((code.zip pl).take i)
      have hll := fwN_llen ((code.zip pl).take i)
      have hsl := fwN_slot ((code.zip pl).take i) (fun y hy => hD _ (List.of_mem_zip (List.mem_of_mem_take hy)).1) (fun y hy => hC _ (List.of_mem_zip (List.mem_of_mem_take hy)).1)
      have htl : ((code.zip pl).take i).length = i := by simp; omega
      rw [htl] at hol hll
      have edr := List.drop_eq_getElem_cons hlt
      have F2 := fun y : Hd => forw2 y pl hil
      have F3 := fun y : Hd => forw3 y pl hil
      generalize hfn : fwN ((code.zip pl).take i) = fn at *
      obtain ⟨out, list⟩ := fn
      simp only at et hol hll hsl fl z
      generalize hci : code[i] = ci at *
      generalize hpi : pl[i] = p at *
      have hop2 : ∀ hh, pl[i]'hh = p := fun _ => hpi
      rw [edr, List.map_cons, List.cons_append] at z
      have hatc : (out.map Instr.cells ++ (ci.cells :: ((code.drop (i + 1)).map Instr.cells ++ spc)))[i]? = some ci.cells := by
        rw [List.getElem?_append_right (by simp [hol])]; simp [hol]
      have hsetc : ∀ c : Instr, (out.map Instr.cells ++ (ci.cells :: ((code.drop (i + 1)).map Instr.cells ++ spc))).set i c.cells = (out ++ [c]).map Instr.cells ++ ((code.drop (i + 1)).map Instr.cells ++ spc) := fun c => by
        rw [List.set_append_right _ _ (by simp [hol])]; simp [hol]
      have hkeep : out.map Instr.cells ++ (ci.cells :: ((code.drop (i + 1)).map Instr.cells ++ spc)) = (out ++ [ci]).map Instr.cells ++ ((code.drop (i + 1)).map Instr.cells ++ spc) := by simp
      generalize hE : out.map Instr.cells ++ (ci.cells :: ((code.drop (i + 1)).map Instr.cells ++ spc)) = E at *
      obtain ⟨Op, D, A, B, C, N, Text⟩ := ci
      have bz := z.bxs
      simp only [Bxs] at bz
      have q := fl.one
      have y0 := (z.next.next.box_one (T := h'.tick + 1) (i := 3) (r := ⟨0, 1, [[.int .i64 0]]⟩) (fun m hm e => by have := z.lt m hm; omega) (by simp)).box_add (n := (h'.tick + 1, 4, 0)) (r := ⟨0, 7, [[.int .i64 0, .int .i64 0, .int .i64 0, .int .i64 0, .int .i64 0, .int .i64 0, .str ByteArray.empty]]⟩) (by rw [nms_box]; simp; exact fun e => by have := z.lt _ e; simp at this; omega) (by simp)
      repeat' (first
       | with_reducible refine stp ?_
       | with_reducible refine k_blk_o rfl ?_
       | with_reducible refine k_seq_n ?_
       | ((try (conv => arg 1; simp [s0, s3, s4, s5, s11, s12, s13, hlt2])); with_reducible refine evp ?_)
       | ((with_reducible refine apn ?na ?_); (case na => simp [appNames, ints, intss] <;> first | kernel_rfl | (refine ⟨?_, ?_⟩ <;> kernel_rfl)))
       | fail)
      repeat' (first
       | with_reducible refine stp ?_
       | with_reducible refine k_blk_o rfl ?_
       | ((try (conv => arg 1; simp [s0, s3, s4, s5, s11, s12, s13, bz, hlt2, hlt, hatc, Instr.cells, ltS, nm_ne])); with_reducible refine evp ?_)
       | ((with_reducible refine apn ?na ?_); (case na => simp [appNames, ints, intss] <;> first | kernel_rfl | (refine ⟨?_, ?_⟩ <;> kernel_rfl)))
       | fail)
      refine cx_k (Cx.to y0) ?_
      intro h2 y
      have by2 := y.bxs
      simp only [Bxs] at by2
      repeat' (first
       | with_reducible refine stp ?_
       | with_reducible refine k_blk_o rfl ?_
       | ((try (conv => arg 1; simp [s0, s3, s4, s5, s11, s12, s13, by2])); with_reducible refine evp ?_)
       | ((with_reducible refine apn ?na ?_); (case na => simp [appNames, ints, intss] <;> first | kernel_rfl | (refine ⟨?_, ?_⟩ <;> kernel_rfl)))
       | fail)
      refine k_seq_n ?_
      refine st_cut (fun σ' h'' => σ' 0 = .sl kc vc 0 code.length ∧ σ' 3 = .ptr (h.tick, 0, 0) 0 0 0 ∧ σ' 4 = .ptr (h.tick + 1, 1, 0) 0 0 0 ∧ σ' 5 = .fn 101 [.ptr (h.tick + 1, 1, 0) 0 0 0] ∧ σ' 11 = .sl kc vc 0 code.length ∧ σ' 12 = .int .i64 code.length ∧ σ' 13 = .int .i64 i ∧
        ∃ wl bl, FL 5 ((fwOne ⟨Op, D, A, B, C, N, Text⟩ p list).2.map Hd.cells) wl bl ∧
        Cx h'' (((h.tick + 1, 1, 0), ⟨0, 1, [[wl]]⟩) :: ((h.tick, 0, 0), ⟨0, 1, [[plcs false pl]]⟩) :: (kc, ⟨vc, 7, (out ++ [(fwOne ⟨Op, D, A, B, C, N, Text⟩ p list).1]).map Instr.cells ++ ((code.drop (i + 1)).map Instr.cells ++ spc)⟩) :: (bl ++ bs)) os) ?cw ?ck
      case cw =>
        obtain ⟨R, Lo, Hi, Off⟩ := p
        have hc : ∀ rows, DRs true rows [.tptr true [plcs true pl], .tptr true [.int .i64 i]] [.tptr true [plcs true pl], .tptr true [.int .i64 i]] := fun rows => .cons (dr_tptr' (fun h => h) (.cons (dr_plcs (fun h => h) _) .nil)) (.cons (dr_tptr' (fun h => h) (.cons (.int _ _) .nil)) .nil)
        by_cases h4 : Op = 4
        · subst h4
          have ef : fwOne ⟨4, D, A, B, C, N, Text⟩ ⟨R, Lo, Hi, Off⟩ list = (⟨4, D, A, B, C, N, Text⟩, farH ⟨R, Lo, Hi, Off⟩ list ++ [⟨⟨R, Lo, Hi, Off⟩, C⟩]) := by simp [fwOne]
          rw [ef]
          repeat' (first
           | with_reducible refine stp ?_
           | with_reducible refine k_blk_o rfl ?_
           | with_reducible refine k_seq_n ?_
           | ((try (conv => arg 1; simp [s0, s3, s4, s5, s11, s12, s13, by2, q.1, q.2.1, q.2.2, ltS, nm_ne])); with_reducible refine evp ?_)
           | ((with_reducible refine apn ?na ?_); (case na => simp [appNames, ints, intss] <;> first | kernel_rfl | (refine ⟨?_, ?_⟩ <;> kernel_rfl)))
           | fail)
          have zf := Cx.to_front (fs := [_, _, _, _, _]) (b := bl) (bs := bs) y
          refine st_heap rfl (deleteFuncH list 106 [.ptr (h.tick, 0, 0) 0 0 0, .ptr (h'.tick + 1, 3, 0) 0 0 0] [.tptr true [plcs true pl], .tptr true [.int .i64 i]] (fun x => !(aliasV x.pl ⟨R, Lo, Hi, Off⟩ == 0)) (by omega) (fun x _ => F3 x) hc fl (Cx.to zf)
            (fun h'' b' x => .cons (dr_ptr0 (x.box ((h.tick, 0, 0), ⟨0, 1, [[plcs false pl]]⟩) (by simp)) rfl rfl (.cons (dr_plcs (by simp) _) .nil)) (.cons (dr_ptr0 (x.box ((h'.tick + 1, 3, 0), ⟨0, 1, [[.int .i64 i]]⟩) (by simp)) rfl rfl (.cons (.int _ _) .nil)) .nil))) ?_
          rintro v h3 ⟨b', fl', z2⟩
          have z3 : Cx h3 (_ :: _ :: _ :: _ :: _ :: (b' ++ bs)) _ := Cx.to_front (fs := b') (b := [_, _, _, _, _]) (bs := bs) z2
          rw [farH_eq] at fl'
          have hfl : (farH ⟨R, Lo, Hi, Off⟩ list).length ≤ list.length := List.length_filter_le _ _
          have q' := fl'.one
          have b3 := z3.bxs
          simp only [Bxs] at b3
          have z3p : Cx (h3.put (h.tick + 1, 1, 0) ⟨0, 1, [[v]]⟩) (_ :: _ :: ((h.tick + 1, 1, 0), ⟨0, 1, [[v]]⟩) :: _ :: _ :: (b' ++ bs)) _ := Cx.to z3
          repeat' (first
           | with_reducible refine stp ?_
           | with_reducible refine k_blk_o rfl ?_
           | with_reducible refine k_seq_n ?_
           | ((try (conv => arg 1; simp [s0, s3, s4, s5, s11, s12, s13, b3, q'.1, q'.2.1, q'.2.2, ltS, nm_ne])); with_reducible refine evp ?_)
           | ((with_reducible refine apn ?na ?_); (case na => simp [appNames, ints, intss] <;> first | kernel_rfl | (refine ⟨?_, ?_⟩ <;> kernel_rfl)))
           | fail)
          repeat (with_reducible first | refine stp ?_ | refine k_seq_n ?_)
          refine st_lz (by kernel_rfl) ?_
          have hF := And.intro s0 (And.intro s3 (And.intro s4 (And.intro s5 (And.intro s11 (And.intro s12 (And.intro s13 (And.intro b3 (And.intro q'.1 (And.intro q'.2.1 (And.intro q'.2.2 (And.intro hx2 (And.intro hil hop2))))))))))))
          repeat' (first
           | with_reducible refine stp ?_
           | with_reducible refine k_blk_o rfl ?_
           | ((try (conv => arg 1; simp [plcs, Plc.cells, ltS, nm_ne, hF])); with_reducible refine evp ?_)
           | ((with_reducible refine apn ?na ?_); (case na => simp [appNames, ints, intss] <;> first | kernel_rfl | (refine ⟨?_, ?_⟩ <;> kernel_rfl)))
            | ((with_reducible refine la_id ?_); refine la_end rfl ?_; (repeat (first | refine pl_nil ?_ | refine pl_cons ?_)))
            | ((with_reducible refine la_id ?_); refine la_pick ?_; (conv => arg 1; whnf); (repeat ((fail_if_success (first | ((refine la_q0 rfl ?_); (try (conv => arg 1; simp [plcs, Plc.cells, ltS, nm_ne, hF])); with_reducible refine evp ?_) | ((refine la_n rfl rfl ?_); (try (conv => arg 1; simp [plcs, Plc.cells, ltS, nm_ne, hF])); with_reducible refine evp ?_) | ((refine la_q2 rfl (by decide +kernel) ?_); (repeat (first | refine bk_nil ?_ | refine bk_t (by decide +kernel) ?_ | refine bk_f (by decide +kernel) ?_)); (try (conv => arg 1; simp [plcs, Plc.cells, ltS, nm_ne, hF])); with_reducible refine evp ?_) | ((refine la_q1 rfl (by decide +kernel) ?_); (try (conv => arg 1; simp [plcs, Plc.cells, ltS, nm_ne, hF])); with_reducible refine evp ?_) | ((refine la_g0 rfl ?_); (try (conv => arg 1; simp [plcs, Plc.cells, ltS, nm_ne, hF])); with_reducible refine evp ?_; (with_reducible refine evp ?_); try ((try (conv => arg 1; simp [plcs, Plc.cells, ltS, nm_ne, hF])); with_reducible refine evp ?_)))); (refine la_there ?_); (conv => arg 1; whnf))); first | ((refine la_q0 rfl ?_); (try (conv => arg 1; simp [plcs, Plc.cells, ltS, nm_ne, hF])); with_reducible refine evp ?_) | ((refine la_n rfl rfl ?_); (try (conv => arg 1; simp [plcs, Plc.cells, ltS, nm_ne, hF])); with_reducible refine evp ?_) | ((refine la_q2 rfl (by decide +kernel) ?_); (repeat (first | refine bk_nil ?_ | refine bk_t (by decide +kernel) ?_ | refine bk_f (by decide +kernel) ?_)); (try (conv => arg 1; simp [plcs, Plc.cells, ltS, nm_ne, hF])); with_reducible refine evp ?_) | ((refine la_q1 rfl (by decide +kernel) ?_); (try (conv => arg 1; simp [plcs, Plc.cells, ltS, nm_ne, hF])); with_reducible refine evp ?_) | ((refine la_g0 rfl ?_); (try (conv => arg 1; simp [plcs, Plc.cells, ltS, nm_ne, hF])); with_reducible refine evp ?_; (with_reducible refine evp ?_); try ((try (conv => arg 1; simp [plcs, Plc.cells, ltS, nm_ne, hF])); with_reducible refine evp ?_)))
            | ((with_reducible refine la_id ?_); refine la_all rfl ?_)
            | ((with_reducible refine all_id ?_); (conv => arg 1; whnf); first | exact all_nil | refine all_cons ?_ ?_)
            | (refine la_op rfl (by first | exact frm_s (by decide +kernel) | exact frm_a (by repeat' (first | exact fa_nil | refine fa_cons (by decide +kernel) ?_))) (by intro hq; first | exact trivial | (cases hq; done) | simp [appT, plcs, Plc.cells, ltS, nm_ne, hF]) ?_; (repeat (first | refine bk_nil ?_ | refine bk_t (by decide +kernel) ?_ | refine bk_f (by decide +kernel) ?_)))
           | fail)
          conv => arg 1; simp
          refine ev2_app (s := 5) (fs := [_, _, _, _, _]) (bs := bs) (e := Hd.cells ⟨⟨R, Lo, Hi, Off⟩, C⟩) (by kernel_rfl) fl' (Cx.to z3) ?hk rfl ?hl ?hn ?ht ?kk
          case hk => simp [Hd.cells]
          case hl => simp; omega
          case hn => first | exact Cx.new_nin z3p (Nat.le_refl _) | exact Cx.new_nin z3 (show h3.tick ≤ h3.tick + 1 by omega)
          case ht => simp
          intro w' b'' h4 fl'' z4 tk q''
          have z4 : Cx h4 (_ :: _ :: _ :: _ :: _ :: (b'' ++ bs)) _ := z4
          have b4 := z4.bxs
          simp only [Bxs] at b4
          have hF := And.intro s0 (And.intro s3 (And.intro s4 (And.intro s5 (And.intro s11 (And.intro s12 (And.intro s13 (And.intro b4 (And.intro q''.1 (And.intro q''.2.1 q''.2.2)))))))))
          repeat' (first
           | with_reducible refine stp ?_
           | with_reducible refine k_blk_o rfl ?_
           | ((try (conv => arg 1; simp [hF])); with_reducible refine evp ?_)
           | ((with_reducible refine apn ?na ?_); (case na => simp [appNames, ints, intss] <;> first | kernel_rfl | (refine ⟨?_, ?_⟩ <;> kernel_rfl)))
            | ((with_reducible refine la_id ?_); refine la_end rfl ?_; (repeat (first | refine pl_nil ?_ | refine pl_cons ?_)))
            | ((with_reducible refine la_id ?_); refine la_pick ?_; (conv => arg 1; whnf); (repeat ((fail_if_success (first | ((refine la_q0 rfl ?_); (try (conv => arg 1; simp [hF])); with_reducible refine evp ?_) | ((refine la_n rfl rfl ?_); (try (conv => arg 1; simp [hF])); with_reducible refine evp ?_) | ((refine la_q2 rfl (by decide +kernel) ?_); (repeat (first | refine bk_nil ?_ | refine bk_t (by decide +kernel) ?_ | refine bk_f (by decide +kernel) ?_)); (try (conv => arg 1; simp [hF])); with_reducible refine evp ?_) | ((refine la_q1 rfl (by decide +kernel) ?_); (try (conv => arg 1; simp [hF])); with_reducible refine evp ?_) | ((refine la_g0 rfl ?_); (try (conv => arg 1; simp [hF])); with_reducible refine evp ?_; (with_reducible refine evp ?_); try ((try (conv => arg 1; simp [hF])); with_reducible refine evp ?_)))); (refine la_there ?_); (conv => arg 1; whnf))); first | ((refine la_q0 rfl ?_); (try (conv => arg 1; simp [hF])); with_reducible refine evp ?_) | ((refine la_n rfl rfl ?_); (try (conv => arg 1; simp [hF])); with_reducible refine evp ?_) | ((refine la_q2 rfl (by decide +kernel) ?_); (repeat (first | refine bk_nil ?_ | refine bk_t (by decide +kernel) ?_ | refine bk_f (by decide +kernel) ?_)); (try (conv => arg 1; simp [hF])); with_reducible refine evp ?_) | ((refine la_q1 rfl (by decide +kernel) ?_); (try (conv => arg 1; simp [hF])); with_reducible refine evp ?_) | ((refine la_g0 rfl ?_); (try (conv => arg 1; simp [hF])); with_reducible refine evp ?_; (with_reducible refine evp ?_); try ((try (conv => arg 1; simp [hF])); with_reducible refine evp ?_)))
            | ((with_reducible refine la_id ?_); refine la_all rfl ?_)
            | ((with_reducible refine all_id ?_); (conv => arg 1; whnf); first | exact all_nil | refine all_cons ?_ ?_)
            | (refine la_op rfl (by first | exact frm_s (by decide +kernel) | exact frm_a (by repeat' (first | exact fa_nil | refine fa_cons (by decide +kernel) ?_))) (by intro hq; first | exact trivial | (cases hq; done) | simp [appT, hF]) ?_; (repeat (first | refine bk_nil ?_ | refine bk_t (by decide +kernel) ?_ | refine bk_f (by decide +kernel) ?_)))
           | fail)
          refine ⟨rfl, by simp [s0], by simp [s3], by simp [s4], by simp [s5], by simp [s11], by simp [s12], by simp [s13], w', b'', by rw [List.map_append]; exact fl'', ?_⟩
          rw [← hkeep]
          exact (Cx.to z4).box_drop.box_drop
        · by_cases h3 : Op = 3
          · subst h3
            have I := indexFuncH list 105 [.tptr true [plcs true pl], .tptr true [.int .i64 i]] (isH ⟨R, Lo, Hi, Off⟩) (by omega) (fun x _ => F2 x) hc
            rcases knowH_find (p := ⟨R, Lo, Hi, Off⟩) hsl with ⟨kx, hkx, hfi, hkn, hk0⟩ | ⟨hfi, hkn⟩
            · rw [show idxF (isH ⟨R, Lo, Hi, Off⟩) list = (kx : Int) by unfold idxF; rw [hfi]] at I
              have ef : fwOne ⟨3, D, A, B, C, N, Text⟩ ⟨R, Lo, Hi, Off⟩ list = (⟨1, D, list[kx].slot, 0, 0, 0, ⟨#[]⟩⟩, dropH D list) := by rw [hkn] at hk0; simp [fwOne, hk0, hkn]
              rw [ef]
              have hkx0 : (0 : Int) ≤ (kx : Int) := by omega
              have fl0 := fl
              rcases fl with ⟨_, h0, _⟩ | ⟨kl, vl, spl, rfl, hspl, rfl⟩
              · have := congrArg List.length h0; simp at this; rw [this] at hkx; simp at hkx
              · rw [List.length_map] at fl0 y
                have hgx : (list.map Hd.cells ++ spl)[kx]? = some list[kx].cells := by
                  rw [List.getElem?_append_left (by simpa using hkx)]; simp [hkx]
                have hkx1 : (kx : Int) < (list.length : Int) := by omega
                generalize hlk : list[kx] = lk at *
                have hgs : List.take 1 (List.drop 4 lk.cells) = [.int .i64 lk.slot] := rfl
                have hgl : lk.cells.length = 5 := rfl
                generalize hLE : list.map Hd.cells ++ spl = LE at *
                have y' : Cx h2 (_ :: _ :: _ :: _ :: _ :: (kl, ⟨vl, 5, LE⟩) :: bs) os := y
                have by3 := y'.bxs
                simp only [Bxs] at by3
                repeat' (first
                 | with_reducible refine stp ?_
                 | with_reducible refine k_blk_o rfl ?_
                 | with_reducible refine k_seq_n ?_
                 | ((try (conv => arg 1; simp [s0, s3, s4, s5, s11, s12, s13, by3, ltS, nm_ne])); with_reducible refine evp ?_)
                 | ((with_reducible refine apn ?na ?_); (case na => simp [appNames, ints, intss] <;> first | kernel_rfl | (refine ⟨?_, ?_⟩ <;> kernel_rfl)))
                 | fail)
                refine st_tree rfl I (.cons (fl0.dr (fun e he => (hds_flat _ e he).2) (fun y1 hy => (Cx.to y).box y1 (by have := List.mem_singleton.1 hy; subst this; simp))) (.cons (dr_fn (.cons (dr_ptr0 ((Cx.to y).box ((h.tick, 0, 0), ⟨0, 1, [[plcs false pl]]⟩) (by simp)) rfl rfl (.cons (dr_plcs (by simp) _) .nil)) (.cons (dr_ptr0 ((Cx.to y).box ((h'.tick + 1, 3, 0), ⟨0, 1, [[.int .i64 i]]⟩) (by simp)) rfl rfl (.cons (.int _ _) .nil)) .nil))) .nil)) ?_
                repeat' (first
                 | with_reducible refine stp ?_
                 | with_reducible refine k_blk_o rfl ?_
                 | with_reducible refine k_seq_n ?_
                 | ((try (conv => arg 1; simp [s0, s3, s4, s5, s11, s12, s13, by3, hkx0, ltS, nm_ne])); with_reducible refine evp ?_)
                 | ((with_reducible refine apn ?na ?_); (case na => simp [appNames, ints, intss] <;> first | kernel_rfl | (refine ⟨?_, ?_⟩ <;> kernel_rfl)))
                 | fail)
                repeat (with_reducible first | refine stp ?_ | refine k_seq_n ?_)
                refine st_lz (by kernel_rfl) ?_
                have hF := And.intro s0 (And.intro s3 (And.intro s4 (And.intro s5 (And.intro s11 (And.intro s12 (And.intro s13 (And.intro by3 (And.intro hkx0 (And.intro hkx1 (And.intro hkx (And.intro hgx (And.intro hgs (And.intro hgl (And.intro hlt (And.intro hlt2 hatc)))))))))))))))
                repeat' (first
                 | with_reducible refine stp ?_
                 | with_reducible refine k_blk_o rfl ?_
                 | ((try (conv => arg 1; simp [Instr.cells, ltS, nm_ne, hF])); with_reducible refine evp ?_)
                 | ((with_reducible refine apn ?na ?_); (case na => simp [appNames, ints, intss] <;> first | kernel_rfl | (refine ⟨?_, ?_⟩ <;> kernel_rfl)))
                  | ((with_reducible refine la_id ?_); refine la_end rfl ?_; (repeat (first | refine pl_nil ?_ | refine pl_cons ?_)))
                  | ((with_reducible refine la_id ?_); refine la_pick ?_; (conv => arg 1; whnf); (repeat ((fail_if_success (first | ((refine la_q0 rfl ?_); (try (conv => arg 1; simp [Instr.cells, ltS, nm_ne, hF])); with_reducible refine evp ?_) | ((refine la_n rfl rfl ?_); (try (conv => arg 1; simp [Instr.cells, ltS, nm_ne, hF])); with_reducible refine evp ?_) | ((refine la_q2 rfl (by decide +kernel) ?_); (repeat (first | refine bk_nil ?_ | refine bk_t (by decide +kernel) ?_ | refine bk_f (by decide +kernel) ?_)); (try (conv => arg 1; simp [Instr.cells, ltS, nm_ne, hF])); with_reducible refine evp ?_) | ((refine la_q1 rfl (by decide +kernel) ?_); (try (conv => arg 1; simp [Instr.cells, ltS, nm_ne, hF])); with_reducible refine evp ?_) | ((refine la_g0 rfl ?_); (try (conv => arg 1; simp [Instr.cells, ltS, nm_ne, hF])); with_reducible refine evp ?_; (with_reducible refine evp ?_); try ((try (conv => arg 1; simp [Instr.cells, ltS, nm_ne, hF])); with_reducible refine evp ?_)))); (refine la_there ?_); (conv => arg 1; whnf))); first | ((refine la_q0 rfl ?_); (try (conv => arg 1; simp [Instr.cells, ltS, nm_ne, hF])); with_reducible refine evp ?_) | ((refine la_n rfl rfl ?_); (try (conv => arg 1; simp [Instr.cells, ltS, nm_ne, hF])); with_reducible refine evp ?_) | ((refine la_q2 rfl (by decide +kernel) ?_); (repeat (first | refine bk_nil ?_ | refine bk_t (by decide +kernel) ?_ | refine bk_f (by decide +kernel) ?_)); (try (conv => arg 1; simp [Instr.cells, ltS, nm_ne, hF])); with_reducible refine evp ?_) | ((refine la_q1 rfl (by decide +kernel) ?_); (try (conv => arg 1; simp [Instr.cells, ltS, nm_ne, hF])); with_reducible refine evp ?_) | ((refine la_g0 rfl ?_); (try (conv => arg 1; simp [Instr.cells, ltS, nm_ne, hF])); with_reducible refine evp ?_; (with_reducible refine evp ?_); try ((try (conv => arg 1; simp [Instr.cells, ltS, nm_ne, hF])); with_reducible refine evp ?_)))
                  | ((with_reducible refine la_id ?_); refine la_all rfl ?_)
                  | ((with_reducible refine all_id ?_); (conv => arg 1; whnf); first | exact all_nil | refine all_cons ?_ ?_)
                  | (refine la_op rfl (by first | exact frm_s (by decide +kernel) | exact frm_a (by repeat' (first | exact fa_nil | refine fa_cons (by decide +kernel) ?_))) (by intro hq; first | exact trivial | (cases hq; done) | simp [appT, Instr.cells, ltS, nm_ne, hF]) ?_; (repeat (first | refine bk_nil ?_ | refine bk_t (by decide +kernel) ?_ | refine bk_f (by decide +kernel) ?_)))
                 | fail)
                have hne7 : ¬ (h'.tick + 1, 4, 0) = kc ∧ ¬ (h.tick + 1, 1, 0) = kc ∧ ¬ (h'.tick + 1, 3, 0) = kc := by
                  have ap := y.aps
                  simp only [List.map_cons, Aps] at ap
                  exact ⟨(ap.1 kc (by simp)).1, (ap.2.2.1 kc (by simp)).1, (ap.2.1 kc (by simp)).1⟩
                have hsc := hsetc ⟨1, D, lk.slot, 0, 0, 0, ⟨#[]⟩⟩
                repeat' (first
                 | with_reducible refine stp ?_
                 | with_reducible refine k_blk_o rfl ?_
                 | with_reducible refine k_seq_n ?_
                 | ((try (conv => arg 1; simp [s0, s3, s4, s5, s11, s12, s13, by3, hne7.1, hne7.2.1, hne7.2.2, ltS, nm_ne])); with_reducible refine evp ?_)
                 | ((with_reducible refine apn ?na ?_); (case na => simp [appNames, ints, intss] <;> first | kernel_rfl | (refine ⟨?_, ?_⟩ <;> kernel_rfl)))
                 | fail)
                refine st_heap rfl (loseF list D (by omega) fl0 (Cx.lose_in (fs := [_, _]) (bl := [_]) (Cx.to y))) ?_
                rintro v h3 ⟨wl', bl', fl', z2⟩
                have z3 : Cx h3 (_ :: _ :: _ :: _ :: _ :: (bl' ++ bs)) _ := Cx.lose_out (fs := [_, _]) z2
                repeat' (first
                 | with_reducible refine stp ?_
                 | with_reducible refine k_blk_o rfl ?_
                 | with_reducible refine k_seq_n ?_
                 | ((try (conv => arg 1; simp [s0, s3, s4, s5, s11, s12, s13])); with_reducible refine evp ?_)
                 | ((with_reducible refine apn ?na ?_); (case na => simp [appNames, ints, intss] <;> first | kernel_rfl | (refine ⟨?_, ?_⟩ <;> kernel_rfl)))
                 | fail)
                refine ⟨rfl, by simp [s0], by simp [s3], by simp [s4], by simp [s5], by simp [s11], by simp [s12], by simp [s13], wl', bl', fl', ?_⟩
                rw [← hsc]
                exact (Cx.to z3).box_drop.box_drop
            · rw [show idxF (isH ⟨R, Lo, Hi, Off⟩) list = -1 by unfold idxF; rw [hfi]] at I
              have ef : fwOne ⟨3, D, A, B, C, N, Text⟩ ⟨R, Lo, Hi, Off⟩ list = (⟨3, D, A, B, C, N, Text⟩, dropH D list ++ [⟨⟨R, Lo, Hi, Off⟩, D⟩]) := by simp [fwOne, hkn]
              rw [ef]
              repeat' (first
               | with_reducible refine stp ?_
               | with_reducible refine k_blk_o rfl ?_
               | with_reducible refine k_seq_n ?_
               | ((try (conv => arg 1; simp [s0, s3, s4, s5, s11, s12, s13, by2, q.1, q.2.1, q.2.2, ltS, nm_ne])); with_reducible refine evp ?_)
               | ((with_reducible refine apn ?na ?_); (case na => simp [appNames, ints, intss] <;> first | kernel_rfl | (refine ⟨?_, ?_⟩ <;> kernel_rfl)))
               | fail)
              refine st_tree rfl I (.cons (fl.dr (fun e he => (hds_flat _ e he).2) (fun y1 hy => (Cx.to y).box y1 (by simp [hy]))) (.cons (dr_fn (.cons (dr_ptr0 ((Cx.to y).box ((h.tick, 0, 0), ⟨0, 1, [[plcs false pl]]⟩) (by simp)) rfl rfl (.cons (dr_plcs (by simp) _) .nil)) (.cons (dr_ptr0 ((Cx.to y).box ((h'.tick + 1, 3, 0), ⟨0, 1, [[.int .i64 i]]⟩) (by simp)) rfl rfl (.cons (.int _ _) .nil)) .nil))) .nil)) ?_
              repeat' (first
               | with_reducible refine stp ?_
               | with_reducible refine k_blk_o rfl ?_
               | with_reducible refine k_seq_n ?_
               | ((try (conv => arg 1; simp [s0, s3, s4, s5, s11, s12, s13, by2, ltS, nm_ne])); with_reducible refine evp ?_)
               | ((with_reducible refine apn ?na ?_); (case na => simp [appNames, ints, intss] <;> first | kernel_rfl | (refine ⟨?_, ?_⟩ <;> kernel_rfl)))
               | fail)
              refine st_heap rfl (loseF list D (by omega) fl (Cx.to (Cx.lose_in (fs := [_, _]) y))) ?_
              rintro v h3 ⟨wl', bl', fl', z2⟩
              have z3 : Cx h3 (_ :: _ :: _ :: _ :: _ :: (bl' ++ bs)) _ := Cx.lose_out (fs := [_, _]) z2
              have hfl : (dropH D list).length ≤ list.length := List.length_filter_le _ _
              have q' := fl'.one
              have b3 := z3.bxs
              simp only [Bxs] at b3
              repeat' (first
               | with_reducible refine stp ?_
               | with_reducible refine k_blk_o rfl ?_
               | with_reducible refine k_seq_n ?_
               | ((try (conv => arg 1; simp [s0, s3, s4, s5, s11, s12, s13, b3, q'.1, q'.2.1, q'.2.2, ltS, nm_ne])); with_reducible refine evp ?_)
               | ((with_reducible refine apn ?na ?_); (case na => simp [appNames, ints, intss] <;> first | kernel_rfl | (refine ⟨?_, ?_⟩ <;> kernel_rfl)))
               | fail)
              repeat (with_reducible first | refine stp ?_ | refine k_seq_n ?_)
              refine st_lz (by kernel_rfl) ?_
              have hF := And.intro s0 (And.intro s3 (And.intro s4 (And.intro s5 (And.intro s11 (And.intro s12 (And.intro s13 (And.intro b3 (And.intro q'.1 (And.intro q'.2.1 (And.intro q'.2.2 (And.intro hx2 (And.intro hil hop2))))))))))))
              repeat' (first
               | with_reducible refine stp ?_
               | with_reducible refine k_blk_o rfl ?_
               | ((try (conv => arg 1; simp [plcs, Plc.cells, ltS, nm_ne, hF])); with_reducible refine evp ?_)
               | ((with_reducible refine apn ?na ?_); (case na => simp [appNames, ints, intss] <;> first | kernel_rfl | (refine ⟨?_, ?_⟩ <;> kernel_rfl)))
                | ((with_reducible refine la_id ?_); refine la_end rfl ?_; (repeat (first | refine pl_nil ?_ | refine pl_cons ?_)))
                | ((with_reducible refine la_id ?_); refine la_pick ?_; (conv => arg 1; whnf); (repeat ((fail_if_success (first | ((refine la_q0 rfl ?_); (try (conv => arg 1; simp [plcs, Plc.cells, ltS, nm_ne, hF])); with_reducible refine evp ?_) | ((refine la_n rfl rfl ?_); (try (conv => arg 1; simp [plcs, Plc.cells, ltS, nm_ne, hF])); with_reducible refine evp ?_) | ((refine la_q2 rfl (by decide +kernel) ?_); (repeat (first | refine bk_nil ?_ | refine bk_t (by decide +kernel) ?_ | refine bk_f (by decide +kernel) ?_)); (try (conv => arg 1; simp [plcs, Plc.cells, ltS, nm_ne, hF])); with_reducible refine evp ?_) | ((refine la_q1 rfl (by decide +kernel) ?_); (try (conv => arg 1; simp [plcs, Plc.cells, ltS, nm_ne, hF])); with_reducible refine evp ?_) | ((refine la_g0 rfl ?_); (try (conv => arg 1; simp [plcs, Plc.cells, ltS, nm_ne, hF])); with_reducible refine evp ?_; (with_reducible refine evp ?_); try ((try (conv => arg 1; simp [plcs, Plc.cells, ltS, nm_ne, hF])); with_reducible refine evp ?_)))); (refine la_there ?_); (conv => arg 1; whnf))); first | ((refine la_q0 rfl ?_); (try (conv => arg 1; simp [plcs, Plc.cells, ltS, nm_ne, hF])); with_reducible refine evp ?_) | ((refine la_n rfl rfl ?_); (try (conv => arg 1; simp [plcs, Plc.cells, ltS, nm_ne, hF])); with_reducible refine evp ?_) | ((refine la_q2 rfl (by decide +kernel) ?_); (repeat (first | refine bk_nil ?_ | refine bk_t (by decide +kernel) ?_ | refine bk_f (by decide +kernel) ?_)); (try (conv => arg 1; simp [plcs, Plc.cells, ltS, nm_ne, hF])); with_reducible refine evp ?_) | ((refine la_q1 rfl (by decide +kernel) ?_); (try (conv => arg 1; simp [plcs, Plc.cells, ltS, nm_ne, hF])); with_reducible refine evp ?_) | ((refine la_g0 rfl ?_); (try (conv => arg 1; simp [plcs, Plc.cells, ltS, nm_ne, hF])); with_reducible refine evp ?_; (with_reducible refine evp ?_); try ((try (conv => arg 1; simp [plcs, Plc.cells, ltS, nm_ne, hF])); with_reducible refine evp ?_)))
                | ((with_reducible refine la_id ?_); refine la_all rfl ?_)
                | ((with_reducible refine all_id ?_); (conv => arg 1; whnf); first | exact all_nil | refine all_cons ?_ ?_)
                | (refine la_op rfl (by first | exact frm_s (by decide +kernel) | exact frm_a (by repeat' (first | exact fa_nil | refine fa_cons (by decide +kernel) ?_))) (by intro hq; first | exact trivial | (cases hq; done) | simp [appT, plcs, Plc.cells, ltS, nm_ne, hF]) ?_; (repeat (first | refine bk_nil ?_ | refine bk_t (by decide +kernel) ?_ | refine bk_f (by decide +kernel) ?_)))
               | fail)
              conv => arg 1; simp
              refine ev2_app (s := 5) (fs := [_, _, _, _, _]) (bs := bs) (e := Hd.cells ⟨⟨R, Lo, Hi, Off⟩, D⟩) (by kernel_rfl) fl' (Cx.to z3) ?hk2 rfl ?hl2 ?hn2 ?ht2 ?kk2
              case hk2 => simp [Hd.cells]
              case hl2 => simp; omega
              case hn2 => first | exact Cx.new_nin z3 (Nat.le_refl _) | exact Cx.new_nin z3 (show h3.tick ≤ h3.tick + 1 by omega)
              case ht2 => simp
              intro w' b'' h4 fl'' z4 tk q''
              have z4 : Cx h4 (_ :: _ :: _ :: _ :: _ :: (b'' ++ bs)) _ := z4
              have b4 := z4.bxs
              simp only [Bxs] at b4
              have hF := And.intro s0 (And.intro s3 (And.intro s4 (And.intro s5 (And.intro s11 (And.intro s12 (And.intro s13 (And.intro b4 (And.intro q''.1 (And.intro q''.2.1 q''.2.2)))))))))
              repeat' (first
               | with_reducible refine stp ?_
               | with_reducible refine k_blk_o rfl ?_
               | ((try (conv => arg 1; simp [hF])); with_reducible refine evp ?_)
               | ((with_reducible refine apn ?na ?_); (case na => simp [appNames, ints, intss] <;> first | kernel_rfl | (refine ⟨?_, ?_⟩ <;> kernel_rfl)))
                | ((with_reducible refine la_id ?_); refine la_end rfl ?_; (repeat (first | refine pl_nil ?_ | refine pl_cons ?_)))
                | ((with_reducible refine la_id ?_); refine la_pick ?_; (conv => arg 1; whnf); (repeat ((fail_if_success (first | ((refine la_q0 rfl ?_); (try (conv => arg 1; simp [hF])); with_reducible refine evp ?_) | ((refine la_n rfl rfl ?_); (try (conv => arg 1; simp [hF])); with_reducible refine evp ?_) | ((refine la_q2 rfl (by decide +kernel) ?_); (repeat (first | refine bk_nil ?_ | refine bk_t (by decide +kernel) ?_ | refine bk_f (by decide +kernel) ?_)); (try (conv => arg 1; simp [hF])); with_reducible refine evp ?_) | ((refine la_q1 rfl (by decide +kernel) ?_); (try (conv => arg 1; simp [hF])); with_reducible refine evp ?_) | ((refine la_g0 rfl ?_); (try (conv => arg 1; simp [hF])); with_reducible refine evp ?_; (with_reducible refine evp ?_); try ((try (conv => arg 1; simp [hF])); with_reducible refine evp ?_)))); (refine la_there ?_); (conv => arg 1; whnf))); first | ((refine la_q0 rfl ?_); (try (conv => arg 1; simp [hF])); with_reducible refine evp ?_) | ((refine la_n rfl rfl ?_); (try (conv => arg 1; simp [hF])); with_reducible refine evp ?_) | ((refine la_q2 rfl (by decide +kernel) ?_); (repeat (first | refine bk_nil ?_ | refine bk_t (by decide +kernel) ?_ | refine bk_f (by decide +kernel) ?_)); (try (conv => arg 1; simp [hF])); with_reducible refine evp ?_) | ((refine la_q1 rfl (by decide +kernel) ?_); (try (conv => arg 1; simp [hF])); with_reducible refine evp ?_) | ((refine la_g0 rfl ?_); (try (conv => arg 1; simp [hF])); with_reducible refine evp ?_; (with_reducible refine evp ?_); try ((try (conv => arg 1; simp [hF])); with_reducible refine evp ?_)))
                | ((with_reducible refine la_id ?_); refine la_all rfl ?_)
                | ((with_reducible refine all_id ?_); (conv => arg 1; whnf); first | exact all_nil | refine all_cons ?_ ?_)
                | (refine la_op rfl (by first | exact frm_s (by decide +kernel) | exact frm_a (by repeat' (first | exact fa_nil | refine fa_cons (by decide +kernel) ?_))) (by intro hq; first | exact trivial | (cases hq; done) | simp [appT, hF]) ?_; (repeat (first | refine bk_nil ?_ | refine bk_t (by decide +kernel) ?_ | refine bk_f (by decide +kernel) ?_)))
               | fail)
              refine ⟨rfl, by simp [s0], by simp [s3], by simp [s4], by simp [s5], by simp [s11], by simp [s12], by simp [s13], w', b'', by rw [List.map_append]; exact fl'', ?_⟩
              rw [← hkeep]
              exact (Cx.to z4).box_drop.box_drop
          · by_cases h6 : Op = 6
            · subst h6
              have ef : fwOne ⟨6, D, A, B, C, N, Text⟩ ⟨R, Lo, Hi, Off⟩ list = (⟨6, D, A, B, C, N, Text⟩, list) := by simp [fwOne]
              rw [ef]
              repeat' (first
               | with_reducible refine stp ?_
               | with_reducible refine k_blk_o rfl ?_
               | with_reducible refine k_seq_n ?_
               | ((try (conv => arg 1; simp [s0, s3, s4, s5, s11, s12, s13])); with_reducible refine evp ?_)
               | ((with_reducible refine apn ?na ?_); (case na => simp [appNames, ints, intss] <;> first | kernel_rfl | (refine ⟨?_, ?_⟩ <;> kernel_rfl)))
               | fail)
              refine ⟨rfl, by simp [s0], by simp [s3], by simp [s4], by simp [s5], by simp [s11], by simp [s12], by simp [s13], wl, bl, fl, ?_⟩
              rw [← hkeep]
              exact (Cx.to y).box_drop.box_drop
            · have ef : fwOne ⟨Op, D, A, B, C, N, Text⟩ ⟨R, Lo, Hi, Off⟩ list = (⟨Op, D, A, B, C, N, Text⟩, dropH D list) := by simp [fwOne, h4, h3, h6]
              rw [ef]
              repeat' (first
               | with_reducible refine stp ?_
               | with_reducible refine k_blk_o rfl ?_
               | with_reducible refine k_seq_n ?_
               | ((try (conv => arg 1; simp [s0, s3, s4, s5, s11, s12, s13, by2, h4, h3, h6, ltS, nm_ne])); with_reducible refine evp ?_)
               | ((with_reducible refine apn ?na ?_); (case na => simp [appNames, ints, intss] <;> first | kernel_rfl | (refine ⟨?_, ?_⟩ <;> kernel_rfl)))
               | fail)
              refine st_heap rfl (loseF list D (by omega) fl (Cx.to (Cx.lose_in (fs := [_, _]) y))) ?_
              rintro v h3 ⟨wl', bl', fl', z2⟩
              have z3 : Cx h3 (_ :: _ :: _ :: _ :: _ :: (bl' ++ bs)) _ := Cx.lose_out (fs := [_, _]) z2
              repeat' (first
               | with_reducible refine stp ?_
               | with_reducible refine k_blk_o rfl ?_
               | with_reducible refine k_seq_n ?_
               | ((try (conv => arg 1; simp [s0, s3, s4, s5, s11, s12, s13])); with_reducible refine evp ?_)
               | ((with_reducible refine apn ?na ?_); (case na => simp [appNames, ints, intss] <;> first | kernel_rfl | (refine ⟨?_, ?_⟩ <;> kernel_rfl)))
               | fail)
              refine ⟨rfl, by simp [s0], by simp [s3], by simp [s4], by simp [s5], by simp [s11], by simp [s12], by simp [s13], wl', bl', fl', ?_⟩
              rw [← hkeep]
              exact (Cx.to z3).box_drop.box_drop
      case ck =>
        rintro σ' h'' ⟨s0, s3, s4, s5, s11, s12, s13, wl, bl, fl, z⟩
        repeat' (first
         | with_reducible refine stp ?_
         | with_reducible refine k_blk_o rfl ?_
         | with_reducible refine k_seq_n ?_
         | ((try (conv => arg 1; simp [s0, s3, s4, s5, s11, s12, s13, hw])); with_reducible refine evp ?_)
         | ((with_reducible refine apn ?na ?_); (case na => simp [appNames, ints, intss] <;> first | kernel_rfl | (refine ⟨?_, ?_⟩ <;> kernel_rfl)))
         | fail)
        refine k_lp_n (i + 1) (by omega) ⟨by omega, by simp [s0], by simp [s3], by simp [s4], by simp [s5], by simp [s11], by simp [s12], by simp, wl, bl, by rw [et]; exact fl, by rw [et]; exact Cx.to z⟩
    · have hge : i = code.length := by omega
      have hlt2 : ¬ (i : Int) < code.length := by omega
      repeat' (first
       | with_reducible refine stp ?_
       | with_reducible refine k_blk_o rfl ?_
       | with_reducible refine k_seq_n ?_
       | ((try (conv => arg 1; simp [s0, s3, s4, s5, s11, s12, s13, hlt2])); with_reducible refine evp ?_)
       | ((with_reducible refine apn ?na ?_); (case na => simp [appNames, ints, intss] <;> first | kernel_rfl | (refine ⟨?_, ?_⟩ <;> kernel_rfl)))
       | fail)
      have htl : (code.zip pl).take i = code.zip pl := List.take_of_length_le (by omega)
      rw [htl, hge, List.drop_length, List.map_nil, List.nil_append] at z
      have z2 := z.box_drop.box_drop
      have z3 : Cx h' (_ :: bs) os := Cx.drop_pre (b := bl) (Cx.to_front (fs := [_]) (b := bl) (bs := bs) z2)
      exact Cx.to z3
end Go.Proofs.Ytlmlkkkgcbpaoaa.AM

/-
  Loads of what a slot has: the program's.
-/
set_option linter.unusedVariables false
set_option linter.unusedSimpArgs false
set_option maxRecDepth 4000
namespace Go.Proofs.Ytlmlkkkgcbpaoaa.AM
open Go.RowKit

private def MG55 : FuncId → Mode := fun f => if f = 47 then .fresh else if f = 66 then .heap else .tree

set_option maxHeartbeats 1000000 in
theorem forwardNil (w : AV) (pl : List Plc) (hw : w = .nilsl ∨ ∃ n v o, w = .sl n v o 0) {h : Hp} {bs : Bx} {os : Ox} (x : Cx h bs os) : Sound Try.prog 66 [w, plcs false pl] h fun v h' => Cx h' bs os := by
  have hnil : True := trivial
  rcases hw with rfl | ⟨n, v, o, rfl⟩
  all_goals
    refine enter mixed MG55 Try.func66 rfl (by kernel_rfl) rfl ?_
    repeat' (first
     | with_reducible refine stp ?_
     | with_reducible refine k_blk_o rfl ?_
     | with_reducible refine k_seq_n ?_
     | ((try (conv => arg 1; simp [hnil])); with_reducible refine evp ?_)
     | ((with_reducible refine apn ?na ?_); (case na => simp [appNames, ints, intss] <;> first | kernel_rfl | (refine ⟨?_, ?_⟩ <;> kernel_rfl)))
     | fail)
    refine st_loop (fun (i : Nat) σ h' => i = 0 ∧ σ 12 = .int .i64 0 ∧ σ 13 = .int .i64 0 ∧ Cx h' bs os) (fun i => i) 0 ?init ?step
    case init => exact ⟨rfl, by simp, by simp, Cx.to x⟩
    case step =>
      rintro i σ h' ⟨hi, s12, s13, x'⟩
      repeat' (first
       | with_reducible refine stp ?_
       | with_reducible refine k_blk_o rfl ?_
       | with_reducible refine k_seq_n ?_
       | ((try (conv => arg 1; simp [s12, s13])); with_reducible refine evp ?_)
       | ((with_reducible refine apn ?na ?_); (case na => simp [appNames, ints, intss] <;> first | kernel_rfl | (refine ⟨?_, ?_⟩ <;> kernel_rfl)))
       | fail)
      exact Cx.to x'
set_option maxHeartbeats 4000000 in
theorem implForw (g : Graph) (d : g.Small) : FreshW Try.prog 33 [.agg (g.cells true)] (fun b => .agg ((forwR g).cells b)) := by
  intro T
  have hln := d.len
  have hnil : True := trivial
  have G := isGraph g d
  refine enter mixed MG55 Try.func33 rfl (by kernel_rfl) rfl ?_
  repeat' (first
   | with_reducible refine stp ?_
   | with_reducible refine k_blk_o rfl ?_
   | ((try (conv => arg 1; simp [Graph.cells])); with_reducible refine evp ?_)
   | ((with_reducible refine apn ?na ?_); (case na => simp [appNames, ints, intss] <;> first | kernel_rfl | (refine ⟨?_, ?_⟩ <;> kernel_rfl)))
   | fail)
  refine cx_k ((Cx.mt.next.box_one (T := T) (i := 0) Cx.mt.off (by simp)).box_add (n := (T, 1, 0)) (by simp [nms]) (by simp)) ?_
  intro h1 x1
  have b1 := x1.bxs
  simp only [Bxs] at b1
  repeat' (first
   | with_reducible refine stp ?_
   | with_reducible refine k_blk_o rfl ?_
   | with_reducible refine k_seq_n ?_
   | ((try (conv => arg 1; simp [b1, ltS, nm_ne, tk_ne])); with_reducible refine evp ?_)
   | ((with_reducible refine apn ?na ?_); (case na => simp [appNames, ints, intss] <;> first | kernel_rfl | (refine ⟨?_, ?_⟩ <;> kernel_rfl)))
   | fail)
  refine st_freshw rfl (copyGraph g d) (.cons (dr_agg (drs_graphL g fun h => h)) .nil) ?_
  intro v h2 n o e f p t
  have x2 := x1.next.fresh o e f p t
  have z2 : h1.tick < h2.tick := by simp only [hp_next_tick] at t; omega
  obtain ⟨w1, w2, _, _, rfl, _, q1, q2⟩ := ownV_graph (o true)
  have q1 := own_one q1
  have q2 := own_one' q2
  have b2 := x2.bxs
  simp only [Bxs] at b2
  repeat' (first
   | with_reducible refine stp ?_
   | with_reducible refine k_blk_o rfl ?_
   | ((try (conv => arg 1; simp [b2, z2, q1.1, q1.2.1, q1.2.2, q2.1, q2.2.1, q2.2.2, ltS, nm_ne, tk_ne])); with_reducible refine evp ?_)
   | ((with_reducible refine apn ?na ?_); (case na => simp [appNames, ints, intss] <;> first | kernel_rfl | (refine ⟨?_, ?_⟩ <;> kernel_rfl)))
   | fail)
  refine cx_k (x2.box_new (x1.off.fresh f (by simp [hp_next_tick])) z2) ?_
  intro h3 x3
  have b3 := x3.bxs
  simp only [Bxs] at b3
  cases hk : graphOk g with
  | false =>
    rw [hk] at G
    have hr : forwR g = g := by simp [forwR, hk]
    rw [hr]
    repeat' (first
     | with_reducible refine stp ?_
     | with_reducible refine k_blk_o rfl ?_
     | with_reducible refine k_seq_n ?_
     | ((try (conv => arg 1; simp [b3, q1.1, q1.2.1, q1.2.2, q2.1, q2.2.1, q2.2.2, ltS, nm_ne, tk_ne])); with_reducible refine evp ?_)
     | ((with_reducible refine apn ?na ?_); (case na => simp [appNames, ints, intss] <;> first | kernel_rfl | (refine ⟨?_, ?_⟩ <;> kernel_rfl)))
     | ((with_reducible refine tcl ?_); first | ((apply tg (G)); (case e => rfl); (case d => (refine dq ?_); (repeat' (first | ((refine Da.mk ?_); first | exact dr_blocks (by simp) _ | assumption) | constructor)))))
     | fail)
    refine fin_own (os := []) (ns := n) (bs := ?bs2) ?y2
    case y2 => exact Cx.to x3
  | true =>
    rw [hk] at G
    have hr : forwR g = { g with Blocks := g.Blocks.map (forwB g.Slots.toNat) } := by simp [forwR, hk]
    rw [hr]
    have hnb : 1 ≤ g.Blocks.length := (headOk_head (by simp only [graphOk, Bool.and_eq_true] at hk; exact hk.1.1)).blocks.1
    have hbne : (g.Blocks.map (Block.cells true)) ≠ [] := fun e => by have := List.map_eq_nil_iff.1 e; rw [this] at hnb; simp at hnb
    obtain ⟨u1, u2, n1, n2, eu, rfl, x4⟩ := x3.graph_split
    simp only [List.cons.injEq, true_and, and_true] at eu
    obtain ⟨rfl, rfl⟩ := eu
    obtain ⟨kk, ver, es, sp, n3, rfl, rfl, hel, he5, c1, c2, y⟩ := x4.rot1.open_row (s := 5) (ts := fun b => g.Blocks.map (Block.cells b)) (by omega) (fun b t ht => by simp at ht; obtain ⟨a, _, rfl⟩ := ht; rfl) hbne
    have hel2 : es.length = g.Blocks.length := by simpa using hel
    rw [hel2] at q2 b3 y
    repeat' (first
     | with_reducible refine stp ?_
     | with_reducible refine k_blk_o rfl ?_
     | with_reducible refine k_seq_n ?_
     | ((try (conv => arg 1; simp [b3, q1.1, q1.2.1, q1.2.2, q2.1, q2.2.1, q2.2.2, ltS, nm_ne, tk_ne])); with_reducible refine evp ?_)
     | ((with_reducible refine apn ?na ?_); (case na => simp [appNames, ints, intss] <;> first | kernel_rfl | (refine ⟨?_, ?_⟩ <;> kernel_rfl)))
     | ((with_reducible refine tcl ?_); first | ((apply tg (G)); (case e => rfl); (case d => (refine dq ?_); (repeat' (first | ((refine Da.mk ?_); first | exact dr_blocks (by simp) _ | assumption) | constructor)))))
     | fail)
    refine st_loop (fun (i : Nat) σ h => i ≤ g.Blocks.length ∧ σ 1 = .ptr (T, 0, 0) 0 0 0 ∧ σ 2 = .ptr (T, 1, 0) 0 0 0 ∧ σ 3 = .ptr (h1.tick, 2, 0) 0 0 0 ∧ σ 13 = .int .i64 g.Blocks.length ∧ σ 14 = .int .i64 i ∧ ∃ es n3, es.length = g.Blocks.length ∧ (∀ e ∈ es, e.length = 5) ∧
      Cx h [(kk, ⟨ver, 5, es ++ sp⟩), ((h1.tick, 2, 0), ⟨0, 5, [[w1, .int .i64 g.Params, .int .i64 g.Vars, .int .i64 g.Slots, .sl kk ver 0 g.Blocks.length]]⟩), ((T, 1, 0), ⟨0, 5, [[.nilsl, .int .i64 0, .int .i64 0, .int .i64 0, .nilsl]]⟩), ((T, 0, 0), graphRow g)]
        [(.agg es.flatten, (fun b => .agg ((mixB (forwB g.Slots.toNat) g i).map (Block.cells b)).flatten), n3), (w1, (fun b => ints b g.Sizes), n1)]) (fun i => g.Blocks.length - i) 0 ?init ?step
    case init => exact ⟨Nat.zero_le _, by simp, by simp, by simp, by simp, by simp, es, n3, hel2, he5, Cx.to y⟩
    case step =>
      rintro i σ h ⟨hi, s1, s2, s3, s13, s14, es, n3, hle, he5, x⟩
      have b := x.bxs
      simp only [Bxs, graphRow] at b
      by_cases hlt : i < g.Blocks.length
      · have hlt2 : (i : Int) < g.Blocks.length := by omega
        have hw : IntKind.i64.wrap (i + 1) = i + 1 := wrap_id (by omega) (by omega)
        have hml := mixB_len (forwB g.Slots.toNat) g hi
        obtain ⟨w, m1, m2, m3, hw1, qw, xs, hx⟩ := x.blk_code he5 (by omega) (i := i) (by omega)
        have hma := mixB_at (forwB g.Slots.toNat) g hlt
        simp only [hma] at hw1 hx xs
        have hie : i < es.length := by omega
        have hat : (es ++ sp)[i]? = some [w, .int .i64 g.Blocks[i].Jump, .int .i64 g.Blocks[i].A, .int .i64 g.Blocks[i].To, .int .i64 g.Blocks[i].Else] := by
          rw [List.getElem?_append_left hie, hw1]
        have hset : ∀ e : List AV, (es ++ sp).set i e = es.set i e ++ sp := fun e => List.set_append_left _ _ hie
        have hms := mixB_succ (forwB g.Slots.toNat) g hlt
        have P := implPlaces g d hk hlt
        have hcl : g.Blocks[i].Code.length ≤ 2 ^ 20 := by have := d.code _ (List.getElem_mem hlt); omega
        have hpl := plcsOf_len g.Slots.toNat g.Blocks[i].Code
        obtain ⟨nsl, _, _, hco⟩ := code_in hk hlt
        have hD : ∀ x ∈ g.Blocks[i].Code, x.Op = 3 → 0 ≤ x.D := fun x hx e => by obtain ⟨dd, h1, _⟩ := (hco x hx).d (by omega) (by omega); omega
        have hC : ∀ x ∈ g.Blocks[i].Code, x.Op = 4 → 0 ≤ x.C := fun x hx e => (hco x hx).c e
        have hdb : forwB g.Slots.toNat g.Blocks[i] = { g.Blocks[i] with Code := fwd g.Blocks[i].Code (plcsOf g.Slots.toNat g.Blocks[i].Code) } := rfl
        rw [hdb] at hms
        have hsl : i < (es ++ sp).length := by simp; omega
        have apk : ¬ (h1.tick, 2, 0) = kk ∧ ¬ (T, 0, 0) = kk := by have ap := x.aps; simp only [List.map_cons, List.map_nil, Aps] at ap; exact ⟨(ap.1 (h1.tick, 2, 0) (by simp)).2, (ap.1 (T, 0, 0) (by simp)).2⟩
        generalize hE : es ++ sp = E at *
        generalize hB : g.Blocks[i] = B at *
        obtain ⟨code, bJ, bA, bT, bE⟩ := B
        simp only at hw1 hx xs hat P hcl hpl hms hD hC
        generalize hplc : plcsOf g.Slots.toNat code = pl at *
        have hEs : E.set i [w, .int .i64 bJ, .int .i64 bA, .int .i64 bT, .int .i64 bE] = E := by
          rw [List.getElem?_eq_getElem hsl] at hat
          rw [← Option.some.inj hat]
          exact List.set_getElem_self hsl
        by_cases hc0 : code = []
        · subst hc0
          have hdn : fwd [] pl = [] := rfl
          rw [hdn] at hms
          have hms2 : mixB (forwB g.Slots.toNat) g (i + 1) = mixB (forwB g.Slots.toNat) g i := by
            rw [hms, ← hma]
            exact List.set_getElem_self _
          have hwn : w = .nilsl ∨ ∃ n v o, w = .sl n v o 0 := by
            rcases own_row_inv (instrs_flat []) (by omega) (own_of (xs.o0 true) rfl) with ⟨_, _, ⟨rfl, _⟩ | ⟨n0, v0, o0, rfl, _⟩⟩ | ⟨n0, v0, o0, rfl, _⟩
            · exact .inl rfl
            · exact .inr ⟨_, _, _, rfl⟩
            · exact .inr ⟨_, _, _, rfl⟩
          repeat' (first
           | with_reducible refine stp ?_
           | with_reducible refine k_blk_o rfl ?_
           | with_reducible refine k_seq_n ?_
           | ((try (conv => arg 1; simp [s1, s2, s3, s13, s14, b, hlt, hlt2, hat, apk.1, apk.2, ltS, nm_ne, tk_ne])); with_reducible refine evp ?_)
           | ((with_reducible refine apn ?na ?_); (case na => simp [appNames, ints, intss] <;> first | kernel_rfl | (refine ⟨?_, ?_⟩ <;> kernel_rfl)))
           | fail)
          repeat (with_reducible first | refine stp ?_ | refine k_seq_n ?_)
          refine st_lz (by kernel_rfl) ?_
          have hF := And.intro s1 (And.intro s2 (And.intro s3 (And.intro s13 (And.intro s14 (And.intro b (And.intro hlt (And.intro hlt2 (And.intro hat (And.intro qw.1 (And.intro qw.2.1 (And.intro qw.2.2 (And.intro apk.1 apk.2))))))))))))
          repeat' (first
           | with_reducible refine stp ?_
           | with_reducible refine k_blk_o rfl ?_
           | ((try (conv => arg 1; simp [ltS, nm_ne, tk_ne, hF])); with_reducible refine evp ?_)
           | ((with_reducible refine apn ?na ?_); (case na => simp [appNames, ints, intss] <;> first | kernel_rfl | (refine ⟨?_, ?_⟩ <;> kernel_rfl)))
           | ((with_reducible refine tcl ?_); first | ((apply tg (P)); (case e => rfl); (case d => (refine dq ?_); (repeat' (first | ((refine Da.mk ?_); first | exact dr_blocks (by simp) _ | assumption) | constructor)))))
            | ((with_reducible refine la_id ?_); refine la_end rfl ?_; (repeat (first | refine pl_nil ?_ | refine pl_cons ?_)))
            | ((with_reducible refine la_id ?_); refine la_pick ?_; (conv => arg 1; whnf); (repeat ((fail_if_success (first | ((refine la_q0 rfl ?_); (try (conv => arg 1; simp [ltS, nm_ne, tk_ne, hF])); with_reducible refine evp ?_) | ((refine la_n rfl rfl ?_); (try (conv => arg 1; simp [ltS, nm_ne, tk_ne, hF])); with_reducible refine evp ?_) | ((refine la_q2 rfl (by decide +kernel) ?_); (repeat (first | refine bk_nil ?_ | refine bk_t (by decide +kernel) ?_ | refine bk_f (by decide +kernel) ?_)); (try (conv => arg 1; simp [ltS, nm_ne, tk_ne, hF])); with_reducible refine evp ?_) | ((refine la_q1 rfl (by decide +kernel) ?_); (try (conv => arg 1; simp [ltS, nm_ne, tk_ne, hF])); with_reducible refine evp ?_) | ((refine la_g0 rfl ?_); (try (conv => arg 1; simp [ltS, nm_ne, tk_ne, hF])); with_reducible refine evp ?_; (with_reducible refine evp ?_); try ((try (conv => arg 1; simp [ltS, nm_ne, tk_ne, hF])); with_reducible refine evp ?_)))); (refine la_there ?_); (conv => arg 1; whnf))); first | ((refine la_q0 rfl ?_); (try (conv => arg 1; simp [ltS, nm_ne, tk_ne, hF])); with_reducible refine evp ?_) | ((refine la_n rfl rfl ?_); (try (conv => arg 1; simp [ltS, nm_ne, tk_ne, hF])); with_reducible refine evp ?_) | ((refine la_q2 rfl (by decide +kernel) ?_); (repeat (first | refine bk_nil ?_ | refine bk_t (by decide +kernel) ?_ | refine bk_f (by decide +kernel) ?_)); (try (conv => arg 1; simp [ltS, nm_ne, tk_ne, hF])); with_reducible refine evp ?_) | ((refine la_q1 rfl (by decide +kernel) ?_); (try (conv => arg 1; simp [ltS, nm_ne, tk_ne, hF])); with_reducible refine evp ?_) | ((refine la_g0 rfl ?_); (try (conv => arg 1; simp [ltS, nm_ne, tk_ne, hF])); with_reducible refine evp ?_; (with_reducible refine evp ?_); try ((try (conv => arg 1; simp [ltS, nm_ne, tk_ne, hF])); with_reducible refine evp ?_)))
            | ((with_reducible refine la_id ?_); refine la_all rfl ?_)
            | ((with_reducible refine all_id ?_); (conv => arg 1; whnf); first | exact all_nil | refine all_cons ?_ ?_)
            | (refine la_op rfl (by first | exact frm_s (by decide +kernel) | exact frm_a (by repeat' (first | exact fa_nil | refine fa_cons (by decide +kernel) ?_))) (by intro hq; first | exact trivial | (cases hq; done) | simp [appT, ltS, nm_ne, tk_ne, hF]) ?_; (repeat (first | refine bk_nil ?_ | refine bk_t (by decide +kernel) ?_ | refine bk_f (by decide +kernel) ?_)))
           | fail)
          all_goals
            refine st_heap rfl (forwardNil w pl hwn (Cx.to x)) ?_
            intro v h' x'
            repeat' (first
             | with_reducible refine stp ?_
             | with_reducible refine k_blk_o rfl ?_
             | ((try (conv => arg 1; simp [hnil])); with_reducible refine evp ?_)
             | ((with_reducible refine apn ?na ?_); (case na => simp [appNames, ints, intss] <;> first | kernel_rfl | (refine ⟨?_, ?_⟩ <;> kernel_rfl)))
              | ((with_reducible refine la_id ?_); refine la_end rfl ?_; (repeat (first | refine pl_nil ?_ | refine pl_cons ?_)))
              | ((with_reducible refine la_id ?_); refine la_pick ?_; (conv => arg 1; whnf); (repeat ((fail_if_success (first | ((refine la_q0 rfl ?_); (try (conv => arg 1; simp [hnil])); with_reducible refine evp ?_) | ((refine la_n rfl rfl ?_); (try (conv => arg 1; simp [hnil])); with_reducible refine evp ?_) | ((refine la_q2 rfl (by decide +kernel) ?_); (repeat (first | refine bk_nil ?_ | refine bk_t (by decide +kernel) ?_ | refine bk_f (by decide +kernel) ?_)); (try (conv => arg 1; simp [hnil])); with_reducible refine evp ?_) | ((refine la_q1 rfl (by decide +kernel) ?_); (try (conv => arg 1; simp [hnil])); with_reducible refine evp ?_) | ((refine la_g0 rfl ?_); (try (conv => arg 1; simp [hnil])); with_reducible refine evp ?_; (with_reducible refine evp ?_); try ((try (conv => arg 1; simp [hnil])); with_reducible refine evp ?_)))); (refine la_there ?_); (conv => arg 1; whnf))); first | ((refine la_q0 rfl ?_); (try (conv => arg 1; simp [hnil])); with_reducible refine evp ?_) | ((refine la_n rfl rfl ?_); (try (conv => arg 1; simp [hnil])); with_reducible refine evp ?_) | ((refine la_q2 rfl (by decide +kernel) ?_); (repeat (first | refine bk_nil ?_ | refine bk_t (by decide +kernel) ?_ | refine bk_f (by decide +kernel) ?_)); (try (conv => arg 1; simp [hnil])); with_reducible refine evp ?_) | ((refine la_q1 rfl (by decide +kernel) ?_); (try (conv => arg 1; simp [hnil])); with_reducible refine evp ?_) | ((refine la_g0 rfl ?_); (try (conv => arg 1; simp [hnil])); with_reducible refine evp ?_; (with_reducible refine evp ?_); try ((try (conv => arg 1; simp [hnil])); with_reducible refine evp ?_)))
              | ((with_reducible refine la_id ?_); refine la_all rfl ?_)
              | ((with_reducible refine all_id ?_); (conv => arg 1; whnf); first | exact all_nil | refine all_cons ?_ ?_)
              | (refine la_op rfl (by first | exact frm_s (by decide +kernel) | exact frm_a (by repeat' (first | exact fa_nil | refine fa_cons (by decide +kernel) ?_))) (by intro hq; first | exact trivial | (cases hq; done) | simp [appT, hnil]) ?_; (repeat (first | refine bk_nil ?_ | refine bk_t (by decide +kernel) ?_ | refine bk_f (by decide +kernel) ?_)))
             | fail)
            repeat' (first
             | with_reducible refine stp ?_
             | with_reducible refine k_blk_o rfl ?_
             | with_reducible refine k_seq_n ?_
             | ((try (conv => arg 1; simp [s1, s2, s3, s13, s14, hw])); with_reducible refine evp ?_)
             | ((with_reducible refine apn ?na ?_); (case na => simp [appNames, ints, intss] <;> first | kernel_rfl | (refine ⟨?_, ?_⟩ <;> kernel_rfl)))
             | fail)
            refine k_lp_n (i + 1) (by omega) ⟨by omega, by simp [s1], by simp [s2], by simp [s3], by simp [s13], by simp, es, n3, hle, he5, ?_⟩
            rw [hms2, hE]
            exact Cx.to x'
        · obtain ⟨kc, vc, spc, hwv, _, hs1, hs2, xo⟩ := xs.open_flat (l := code.map Instr.cells) (instrs_flat code) (by omega) (fun e => hc0 (List.map_eq_nil_iff.1 e))
          rw [List.length_map] at hwv
          subst hwv
          have bo := xo.bxs
          simp only [Bxs, graphRow] at bo
          repeat' (first
           | with_reducible refine stp ?_
           | with_reducible refine k_blk_o rfl ?_
           | with_reducible refine k_seq_n ?_
           | ((try (conv => arg 1; simp [s1, s2, s3, s13, s14, bo, hlt, hlt2, hat, apk.1, apk.2, ltS, nm_ne, tk_ne])); with_reducible refine evp ?_)
           | ((with_reducible refine apn ?na ?_); (case na => simp [appNames, ints, intss] <;> first | kernel_rfl | (refine ⟨?_, ?_⟩ <;> kernel_rfl)))
           | fail)
          repeat (with_reducible first | refine stp ?_ | refine k_seq_n ?_)
          refine st_lz (by kernel_rfl) ?_
          have hF := And.intro s1 (And.intro s2 (And.intro s3 (And.intro s13 (And.intro s14 (And.intro bo (And.intro hlt (And.intro hlt2 (And.intro hat (And.intro apk.1 apk.2)))))))))
          repeat' (first
           | with_reducible refine stp ?_
           | with_reducible refine k_blk_o rfl ?_
           | ((try (conv => arg 1; simp [ltS, nm_ne, tk_ne, hF])); with_reducible refine evp ?_)
           | ((with_reducible refine apn ?na ?_); (case na => simp [appNames, ints, intss] <;> first | kernel_rfl | (refine ⟨?_, ?_⟩ <;> kernel_rfl)))
           | ((with_reducible refine tcl ?_); first | ((apply tg (P)); (case e => rfl); (case d => (refine dq ?_); (repeat' (first | ((refine Da.mk ?_); first | exact dr_blocks (by simp) _ | assumption) | constructor)))))
            | ((with_reducible refine la_id ?_); refine la_end rfl ?_; (repeat (first | refine pl_nil ?_ | refine pl_cons ?_)))
            | ((with_reducible refine la_id ?_); refine la_pick ?_; (conv => arg 1; whnf); (repeat ((fail_if_success (first | ((refine la_q0 rfl ?_); (try (conv => arg 1; simp [ltS, nm_ne, tk_ne, hF])); with_reducible refine evp ?_) | ((refine la_n rfl rfl ?_); (try (conv => arg 1; simp [ltS, nm_ne, tk_ne, hF])); with_reducible refine evp ?_) | ((refine la_q2 rfl (by decide +kernel) ?_); (repeat (first | refine bk_nil ?_ | refine bk_t (by decide +kernel) ?_ | refine bk_f (by decide +kernel) ?_)); (try (conv => arg 1; simp [ltS, nm_ne, tk_ne, hF])); with_reducible refine evp ?_) | ((refine la_q1 rfl (by decide +kernel) ?_); (try (conv => arg 1; simp [ltS, nm_ne, tk_ne, hF])); with_reducible refine evp ?_) | ((refine la_g0 rfl ?_); (try (conv => arg 1; simp [ltS, nm_ne, tk_ne, hF])); with_reducible refine evp ?_; (with_reducible refine evp ?_); try ((try (conv => arg 1; simp [ltS, nm_ne, tk_ne, hF])); with_reducible refine evp ?_)))); (refine la_there ?_); (conv => arg 1; whnf))); first | ((refine la_q0 rfl ?_); (try (conv => arg 1; simp [ltS, nm_ne, tk_ne, hF])); with_reducible refine evp ?_) | ((refine la_n rfl rfl ?_); (try (conv => arg 1; simp [ltS, nm_ne, tk_ne, hF])); with_reducible refine evp ?_) | ((refine la_q2 rfl (by decide +kernel) ?_); (repeat (first | refine bk_nil ?_ | refine bk_t (by decide +kernel) ?_ | refine bk_f (by decide +kernel) ?_)); (try (conv => arg 1; simp [ltS, nm_ne, tk_ne, hF])); with_reducible refine evp ?_) | ((refine la_q1 rfl (by decide +kernel) ?_); (try (conv => arg 1; simp [ltS, nm_ne, tk_ne, hF])); with_reducible refine evp ?_) | ((refine la_g0 rfl ?_); (try (conv => arg 1; simp [ltS, nm_ne, tk_ne, hF])); with_reducible refine evp ?_; (with_reducible refine evp ?_); try ((try (conv => arg 1; simp [ltS, nm_ne, tk_ne, hF])); with_reducible refine evp ?_)))
            | ((with_reducible refine la_id ?_); refine la_all rfl ?_)
            | ((with_reducible refine all_id ?_); (conv => arg 1; whnf); first | exact all_nil | refine all_cons ?_ ?_)
            | (refine la_op rfl (by first | exact frm_s (by decide +kernel) | exact frm_a (by repeat' (first | exact fa_nil | refine fa_cons (by decide +kernel) ?_))) (by intro hq; first | exact trivial | (cases hq; done) | simp [appT, ltS, nm_ne, tk_ne, hF]) ?_; (repeat (first | refine bk_nil ?_ | refine bk_t (by decide +kernel) ?_ | refine bk_f (by decide +kernel) ?_)))
           | fail)
          all_goals
            refine st_heap rfl (forwardI code pl hcl hpl hD hC (Cx.to xo)) ?_
            intro v h' x'
            have z3 := Cx.close_flat (l := (fwd code pl).map Instr.cells) (s := 7) (ver := vc) (sp := spc) x' (instrs_flat _) hs1 hs2
            have hfl : (fwd code pl).length = code.length := by unfold fwd; rw [fwN_len]; simp [hpl]
            rw [List.length_map, hfl] at z3
            obtain ⟨ns', z5⟩ := hx _ _ _ _ _ z3
            repeat' (first
             | with_reducible refine stp ?_
             | with_reducible refine k_blk_o rfl ?_
             | ((try (conv => arg 1; simp [hnil])); with_reducible refine evp ?_)
             | ((with_reducible refine apn ?na ?_); (case na => simp [appNames, ints, intss] <;> first | kernel_rfl | (refine ⟨?_, ?_⟩ <;> kernel_rfl)))
              | ((with_reducible refine la_id ?_); refine la_end rfl ?_; (repeat (first | refine pl_nil ?_ | refine pl_cons ?_)))
              | ((with_reducible refine la_id ?_); refine la_pick ?_; (conv => arg 1; whnf); (repeat ((fail_if_success (first | ((refine la_q0 rfl ?_); (try (conv => arg 1; simp [hnil])); with_reducible refine evp ?_) | ((refine la_n rfl rfl ?_); (try (conv => arg 1; simp [hnil])); with_reducible refine evp ?_) | ((refine la_q2 rfl (by decide +kernel) ?_); (repeat (first | refine bk_nil ?_ | refine bk_t (by decide +kernel) ?_ | refine bk_f (by decide +kernel) ?_)); (try (conv => arg 1; simp [hnil])); with_reducible refine evp ?_) | ((refine la_q1 rfl (by decide +kernel) ?_); (try (conv => arg 1; simp [hnil])); with_reducible refine evp ?_) | ((refine la_g0 rfl ?_); (try (conv => arg 1; simp [hnil])); with_reducible refine evp ?_; (with_reducible refine evp ?_); try ((try (conv => arg 1; simp [hnil])); with_reducible refine evp ?_)))); (refine la_there ?_); (conv => arg 1; whnf))); first | ((refine la_q0 rfl ?_); (try (conv => arg 1; simp [hnil])); with_reducible refine evp ?_) | ((refine la_n rfl rfl ?_); (try (conv => arg 1; simp [hnil])); with_reducible refine evp ?_) | ((refine la_q2 rfl (by decide +kernel) ?_); (repeat (first | refine bk_nil ?_ | refine bk_t (by decide +kernel) ?_ | refine bk_f (by decide +kernel) ?_)); (try (conv => arg 1; simp [hnil])); with_reducible refine evp ?_) | ((refine la_q1 rfl (by decide +kernel) ?_); (try (conv => arg 1; simp [hnil])); with_reducible refine evp ?_) | ((refine la_g0 rfl ?_); (try (conv => arg 1; simp [hnil])); with_reducible refine evp ?_; (with_reducible refine evp ?_); try ((try (conv => arg 1; simp [hnil])); with_reducible refine evp ?_)))
              | ((with_reducible refine la_id ?_); refine la_all rfl ?_)
              | ((with_reducible refine all_id ?_); (conv => arg 1; whnf); first | exact all_nil | refine all_cons ?_ ?_)
              | (refine la_op rfl (by first | exact frm_s (by decide +kernel) | exact frm_a (by repeat' (first | exact fa_nil | refine fa_cons (by decide +kernel) ?_))) (by intro hq; first | exact trivial | (cases hq; done) | simp [appT, hnil]) ?_; (repeat (first | refine bk_nil ?_ | refine bk_t (by decide +kernel) ?_ | refine bk_f (by decide +kernel) ?_)))
             | fail)
            repeat' (first
             | with_reducible refine stp ?_
             | with_reducible refine k_blk_o rfl ?_
             | with_reducible refine k_seq_n ?_
             | ((try (conv => arg 1; simp [s1, s2, s3, s13, s14, hw])); with_reducible refine evp ?_)
             | ((with_reducible refine apn ?na ?_); (case na => simp [appNames, ints, intss] <;> first | kernel_rfl | (refine ⟨?_, ?_⟩ <;> kernel_rfl)))
             | fail)
            refine k_lp_n (i + 1) (by omega) ⟨by omega, by simp [s1], by simp [s2], by simp [s3], by simp [s13], by simp, es.set i [.sl kc vc 0 code.length, .int .i64 bJ, .int .i64 bA, .int .i64 bT, .int .i64 bE], ns', by simp [hle], fun e he => ?_, ?_⟩
            · rcases List.mem_or_eq_of_mem_set he with he | rfl
              · exact he5 e he
              · rfl
            · rw [hms, ← hset, hEs]
              exact Cx.to z5
      · have hge : i = g.Blocks.length := by omega
        have hlt2 : ¬ (i : Int) < g.Blocks.length := by omega
        repeat' (first
         | with_reducible refine stp ?_
         | with_reducible refine k_blk_o rfl ?_
         | with_reducible refine k_seq_n ?_
         | ((try (conv => arg 1; simp [s1, s2, s3, s13, s14, b, hlt, hlt2, q1.1, q1.2.1, q1.2.2, ltS, nm_ne, tk_ne])); with_reducible refine evp ?_)
         | ((with_reducible refine apn ?na ?_); (case na => simp [appNames, ints, intss] <;> first | kernel_rfl | (refine ⟨?_, ?_⟩ <;> kernel_rfl)))
         | fail)
        have e1 : mixB (forwB g.Slots.toNat) g i = g.Blocks.map (forwB g.Slots.toNat) := by unfold mixB; rw [hge, List.take_length, List.drop_length, List.append_nil]
        rw [e1] at x
        have z := Cx.close_row (ts := fun b => (g.Blocks.map (forwB g.Slots.toNat)).map (Block.cells b)) x he5 (fun b => by simp [hle]) (fun b t ht => by simp at ht; obtain ⟨a, _, rfl⟩ := ht; rfl) c1 c2
        rw [hle] at z
        refine fin_own (os := []) (ns := n1 ++ (kk :: (n3 ++ []))) (bs := ?bs3) ?y3
        case y3 => exact Cx.to (Cx.graph_join (g := { g with Blocks := g.Blocks.map (forwB g.Slots.toNat) }) (Cx.rot1 z))
end Go.Proofs.Ytlmlkkkgcbpaoaa.AM

/-
  Graphs whose marks are held.
-/
set_option linter.unusedVariables false
set_option linter.unusedSimpArgs false
set_option maxRecDepth 4000
namespace Go.Proofs.Ytlmlkkkgcbpaoaa.AM
open Go.RowKit

private def MG29 : FuncId → Mode := fun f => .tree

set_option maxHeartbeats 4000000 in
theorem heldInstrS (n : Nat) (k : Int) (hk : 0 ≤ k) (hl : k + 7 * n ≤ 2 ^ 62) : Pure Try.prog 79 [instrs true (minstrs k n), .int .i64 k] (.int .i64 (k + 7 * n)) := by
  intro T
  refine enter mixed MG29 Try.func79 rfl (by kernel_rfl) rfl ?_
  repeat' (first
   | with_reducible refine stp ?_
   | with_reducible refine k_blk_o rfl ?_
   | with_reducible refine k_seq_n ?_
   | ((try (conv => arg 1; simp [instrs])); with_reducible refine evp ?_)
   | ((with_reducible refine apn ?na ?_); (case na => simp [appNames, ints, intss] <;> first | kernel_rfl | (refine ⟨?_, ?_⟩ <;> kernel_rfl)))
   | fail)
  refine st_loop (fun (i : Nat) σ h => i ≤ n ∧ σ 0 = instrs true (minstrs k n) ∧ σ 1 = .int .i64 (k + 7 * i) ∧ σ 5 = .int .i64 i) (fun i => n - i) 0 ?init ?step
  case init => simp
  case step =>
    rintro i σ h ⟨hi, h0, h1, h5⟩
    by_cases hlt : i < n
    · have hlt2 : (i : Int) < n := by omega
      have hg := minstrs_get (k := k) hlt
      have w1 : IntKind.i64.wrap (k + 7 * i + 1) = k + 7 * i + 1 := wrap_id (by omega) (by omega)
      have w2 : IntKind.i64.wrap (k + 7 * i + 1 + 1) = k + 7 * i + 1 + 1 := wrap_id (by omega) (by omega)
      have w3 : IntKind.i64.wrap (k + 7 * i + 1 + 1 + 1) = k + 7 * i + 1 + 1 + 1 := wrap_id (by omega) (by omega)
      have w4 : IntKind.i64.wrap (k + 7 * i + 1 + 1 + 1 + 1) = k + 7 * i + 1 + 1 + 1 + 1 := wrap_id (by omega) (by omega)
      have w5 : IntKind.i64.wrap (k + 7 * i + 1 + 1 + 1 + 1 + 1) = k + 7 * i + 1 + 1 + 1 + 1 + 1 := wrap_id (by omega) (by omega)
      have w6 : IntKind.i64.wrap (k + 7 * i + 1 + 1 + 1 + 1 + 1 + 1) = k + 7 * i + 1 + 1 + 1 + 1 + 1 + 1 := wrap_id (by omega) (by omega)
      have w7 : IntKind.i64.wrap (k + 7 * i + 1 + 1 + 1 + 1 + 1 + 1 + 1) = k + 7 * i + 1 + 1 + 1 + 1 + 1 + 1 + 1 := wrap_id (by omega) (by omega)
      have hw : IntKind.i64.wrap (i + 1) = i + 1 := wrap_id (by omega) (by omega)
      have mt := markText (k + 7 * i + 1 + 1 + 1 + 1 + 1 + 1) (by omega)
      have hml := minstrs_length k n
      generalize minstrs k n = ys at *
      have hg2 := fun hh => Option.some.inj ((List.getElem?_eq_getElem (l := ys) (i := i) hh).symm.trans hg)
      repeat' (first
       | with_reducible refine stp ?_
       | with_reducible refine k_blk_o rfl ?_
       | with_reducible refine k_seq_n ?_
       | ((try (conv => arg 1; simp [instrs, h0, h1, h5, hlt, hlt2, hml, hg2, Instr.cells, w1, w2, w3, w4, w5, w6, w7])); with_reducible refine evp ?_)
       | ((with_reducible refine apn ?na ?_); (case na => simp [appNames, ints, intss] <;> first | kernel_rfl | (refine ⟨?_, ?_⟩ <;> kernel_rfl)))
       | fail)
      repeat (with_reducible first | refine stp ?_ | refine k_seq_n ?_)
      refine st_draw 8 (fun _ => false) (by kernel_rfl) ?_
      simp only [List.take_succ_cons, List.take_zero, List.drop_succ_cons, List.drop_zero, List.take_nil, List.drop_nil]
      repeat' (first
       | with_reducible refine stp ?_
       | with_reducible refine k_blk_o rfl ?_
       | with_reducible refine k_seq_n ?_
       | ((try (conv => arg 1; simp [instrs, h0, h1, h5, hlt, hlt2, hml, hg2, Instr.cells, hw, w7])); with_reducible refine evp ?_)
       | ((with_reducible refine apn ?na ?_); (case na => simp [appNames, ints, intss] <;> first | kernel_rfl | (refine ⟨?_, ?_⟩ <;> kernel_rfl)))
       | ((with_reducible refine tcl ?_); first | ((apply tg (mt)); (case e => rfl); (case d => (refine dq ?_); (repeat' (first | ((refine Da.mk ?_); first | assumption) | constructor)))))
       | fail)
      refine k_lp_n (i + 1) (by omega) ⟨by omega, by simp [h0], by simp; omega, by simp⟩
    · have hge : i = n := by omega
      have hlt2 : ¬ (i : Int) < n := by omega
      repeat' (first
       | with_reducible refine stp ?_
       | with_reducible refine k_blk_o rfl ?_
       | with_reducible refine k_seq_n ?_
       | ((try (conv => arg 1; simp [instrs, h0, h1, h5, hlt2, minstrs_length])); with_reducible refine evp ?_)
       | ((with_reducible refine apn ?na ?_); (case na => simp [appNames, ints, intss] <;> first | kernel_rfl | (refine ⟨?_, ?_⟩ <;> kernel_rfl)))
       | fail)
      rw [hge]
      exact .int _ _
set_option maxHeartbeats 4000000 in
theorem heldBlockS (xs : List Block) (k : Int) (hk : 0 ≤ k) (hl : k + gsum bwt xs xs.length ≤ 2 ^ 62) (hlx : xs.length ≤ 2 ^ 62) : Pure Try.prog 50 [blocks true (mblocks k xs), .int .i64 k] (.int .i64 (k + gsum bwt xs xs.length)) := by
  intro T
  refine enter mixed MG29 Try.func50 rfl (by kernel_rfl) rfl ?_
  repeat' (first
   | with_reducible refine stp ?_
   | with_reducible refine k_blk_o rfl ?_
   | with_reducible refine k_seq_n ?_
   | ((try (conv => arg 1; simp [blocks])); with_reducible refine evp ?_)
   | ((with_reducible refine apn ?na ?_); (case na => simp [appNames, ints, intss] <;> first | kernel_rfl | (refine ⟨?_, ?_⟩ <;> kernel_rfl)))
   | fail)
  refine st_loop (fun (i : Nat) σ h => i ≤ xs.length ∧ σ 0 = blocks true (mblocks k xs) ∧ σ 1 = .int .i64 (k + gsum bwt xs i) ∧ σ 5 = .int .i64 i) (fun i => xs.length - i) 0 ?init ?step
  case init => simp [gsum_zero]
  case step =>
    rintro i σ h ⟨hi, h0, h1, h5⟩
    by_cases hlt : i < xs.length
    · have hlt2 : (i : Int) < xs.length := by omega
      have hg := mblocks_get (k := k) hlt
      have hs := gsum_succ bwt xs i hlt
      have hs2 := gsum_le bwt xs (i + 1)
      have hb : bwt xs[i] = 7 * xs[i].Code.length + 4 := rfl
      have H := heldInstrS xs[i].Code.length (k + gsum bwt xs i) (by omega) (by omega)
      have hml := mblocks_length k xs
      have hw : IntKind.i64.wrap (i + 1) = i + 1 := wrap_id (by omega) (by omega)
      have hblen := block_len true (mblock (k + gsum bwt xs i) xs[i])
      rw [show mblock (k + gsum bwt xs i) xs[i] = ⟨minstrs (k + gsum bwt xs i) xs[i].Code.length, k + gsum bwt xs i + 7 * xs[i].Code.length, k + gsum bwt xs i + 7 * xs[i].Code.length + 1, k + gsum bwt xs i + 7 * xs[i].Code.length + 1 + 1, k + gsum bwt xs i + 7 * xs[i].Code.length + 1 + 1 + 1⟩ from rfl] at hg hblen
      generalize mblocks k xs = ys at *
      have hg2 := fun hh => Option.some.inj ((List.getElem?_eq_getElem (l := ys) (i := i) hh).symm.trans hg)
      replace hblen := fun hh => (congrArg (fun b => (Block.cells true b).length) (hg2 hh)).trans hblen
      generalize hK : (k : Int) + gsum bwt xs i + 7 * xs[i].Code.length = K at *
      have w1 : IntKind.i64.wrap (K + 1) = K + 1 := wrap_id (by omega) (by omega)
      have w2 : IntKind.i64.wrap (K + 1 + 1) = K + 1 + 1 := wrap_id (by omega) (by omega)
      have w3 : IntKind.i64.wrap (K + 1 + 1 + 1) = K + 1 + 1 + 1 := wrap_id (by omega) (by omega)
      have w4 : IntKind.i64.wrap (K + 1 + 1 + 1 + 1) = K + 1 + 1 + 1 + 1 := wrap_id (by omega) (by omega)
      have hK0 : ¬ K < 0 := by omega
      repeat' (first
       | with_reducible refine stp ?_
       | with_reducible refine k_blk_o rfl ?_
       | with_reducible refine k_seq_n ?_
       | ((try (conv => arg 1; simp [blocks, h0, h1, h5, hlt, hlt2, hml, hg2, hblen, Block.cells, hK0, w1, w2, w3, w4, hw])); with_reducible refine evp ?_)
       | ((with_reducible refine apn ?na ?_); (case na => simp [appNames, ints, intss] <;> first | kernel_rfl | (refine ⟨?_, ?_⟩ <;> kernel_rfl)))
       | ((with_reducible refine tcl ?_); first | ((apply tg (H)); (case e => rfl); (case d => (refine dq ?_); (repeat' (first | ((refine Da.mk ?_); first | exact dr_instrs (by simp) _ | assumption) | constructor)))))
       | fail)
      refine k_lp_n (i + 1) (by omega) ⟨by omega, by simp [h0], by simp; omega, by simp⟩
    · have hge : i = xs.length := by omega
      have hlt2 : ¬ (i : Int) < xs.length := by omega
      repeat' (first
       | with_reducible refine stp ?_
       | with_reducible refine k_blk_o rfl ?_
       | with_reducible refine k_seq_n ?_
       | ((try (conv => arg 1; simp [blocks, h0, h1, h5, hlt2, mblocks_length])); with_reducible refine evp ?_)
       | ((with_reducible refine apn ?na ?_); (case na => simp [appNames, ints, intss] <;> first | kernel_rfl | (refine ⟨?_, ?_⟩ <;> kernel_rfl)))
       | fail)
      rw [hge]
      exact .int _ _
theorem heldGraph (g : Graph) (hs : g.Small) (k : Int) (hk : 0 ≤ k) (hk2 : k ≤ 2 ^ 40) : Pure Try.prog 25 [.agg ((mgraph k g).cells true), .int .i64 k] (.int .i64 (k + g.tot)) := by
  intro T
  have ht := hs.tot
  have hsz := hs.sizes
  have hln := hs.len
  have ht2 : g.tot = g.Sizes.length + gsum bwt g.Blocks g.Blocks.length := rfl
  have H1 := heldIntS g.Sizes.length k hk (by omega)
  have H2 := heldBlockS g.Blocks (k + g.Sizes.length) (by omega) (by omega) (by omega)
  have n1 : ¬ k + (g.Sizes.length : Int) < 0 := by omega
  have n2 : ¬ k + (g.Sizes.length : Int) + (gsum bwt g.Blocks g.Blocks.length : Int) < 0 := by omega
  refine enter mixed MG29 Try.func25 rfl (by kernel_rfl) rfl ?_
  repeat' (first
   | with_reducible refine stp ?_
   | with_reducible refine k_blk_o rfl ?_
   | with_reducible refine k_seq_n ?_
   | ((try (conv => arg 1; simp [Graph.cells, mgraph, n1, n2])); with_reducible refine evp ?_)
   | ((with_reducible refine apn ?na ?_); (case na => simp [appNames, ints, intss] <;> first | kernel_rfl | (refine ⟨?_, ?_⟩ <;> kernel_rfl)))
   | ((with_reducible refine tcl ?_); first | ((apply tg (H1)); (case e => rfl); (case d => (refine dq ?_); (repeat' (first | ((refine Da.mk ?_); first | exact dr_blocks (by simp) _ | assumption) | constructor)))) | ((apply tg (H2)); (case e => rfl); (case d => (refine dq ?_); (repeat' (first | ((refine Da.mk ?_); first | exact dr_blocks (by simp) _ | assumption) | constructor)))))
   | fail)
  exact dr_int (by rw [ht2]; push_cast; omega)
end Go.Proofs.Ytlmlkkkgcbpaoaa.AM

/-
  Loads of what a slot has: both sides, and its size.
-/

/-
  The law of Forward.
-/
set_option linter.unusedVariables false
set_option linter.unusedSimpArgs false
set_option maxRecDepth 4000
namespace Go.Proofs.Ytlmlkkkgcbpaoaa.AM
open Go.RowKit

private def MLForward : FuncId → Mode := fun f => if f = 13 ∨ f = 17 ∨ f = 33 then .fresh else if f = 20 ∨ f = 21 then .heap else .tree

set_option maxHeartbeats 2000000 in
theorem lawForward (g : Graph) (d_g : g.Data) : Sound Try.prog 9 [.agg (g.cells true)] (.mt 0) fun v _ => v = .bool true := by
  have hnil : True := trivial
  refine enter mixed MLForward Try.func9 rfl (by kernel_rfl) rfl ?_
  repeat' (first
   | with_reducible refine stp ?_
   | with_reducible refine k_blk_o rfl ?_
   | ((try (conv => arg 1; simp [Graph.cells])); with_reducible refine evp ?_)
   | ((with_reducible refine apn ?na ?_); (case na => simp [appNames, ints, intss] <;> first | kernel_rfl | (refine ⟨?_, ?_⟩ <;> kernel_rfl)))
   | fail)
  refine cx_k Cx.mt_box ?_
  intro h1 x1
  repeat' (first
   | with_reducible refine stp ?_
   | with_reducible refine k_blk_o rfl ?_
   | ((try (conv => arg 1; simp [hnil])); with_reducible refine evp ?_)
   | ((with_reducible refine apn ?na ?_); (case na => simp [appNames, ints, intss] <;> first | kernel_rfl | (refine ⟨?_, ?_⟩ <;> kernel_rfl)))
   | fail)
  refine cx_k x1.next ?_
  intro h2 x2
  obtain ⟨r1, hr_g, hs_g⟩ := szGraph g 1048576 (by omega) (by omega) d_g
  repeat' (first
   | with_reducible refine stp ?_
   | with_reducible refine k_blk_o rfl ?_
   | ((try (conv => arg 1; simp [x2.b0])); with_reducible refine evp ?_)
   | ((with_reducible refine apn ?na ?_); (case na => simp [appNames, ints, intss] <;> first | kernel_rfl | (refine ⟨?_, ?_⟩ <;> kernel_rfl)))
   | fail)
  refine st_tree rfl (hr_g) (.cons (dr_agg (drs_graphL g fun h => h)) (.cons (.int _ _) .nil)) ?_
  repeat' (first
   | with_reducible refine stp ?_
   | with_reducible refine k_blk_o rfl ?_
   | ((try (conv => arg 1; simp [x2.b0])); with_reducible refine evp ?_)
   | ((with_reducible refine apn ?na ?_); (case na => simp [appNames, ints, intss] <;> first | kernel_rfl | (refine ⟨?_, ?_⟩ <;> kernel_rfl)))
   | fail)
  refine cx_k x2.next ?_
  intro h3 x3
  repeat' (first
   | with_reducible refine stp ?_
   | with_reducible refine k_blk_o rfl ?_
   | ((try (conv => arg 1; simp [hnil])); with_reducible refine evp ?_)
   | ((with_reducible refine apn ?na ?_); (case na => simp [appNames, ints, intss] <;> first | kernel_rfl | (refine ⟨?_, ?_⟩ <;> kernel_rfl)))
   | fail)
  refine cx_k x3.next ?_
  intro h4 x4
  by_cases hneg : r1 < 0
  · skip
    repeat' (first
     | with_reducible refine stp ?_
     | with_reducible refine k_blk_o rfl ?_
     | with_reducible refine k_seq_n ?_
     | ((try (conv => arg 1; simp [hneg])); with_reducible refine evp ?_)
     | ((with_reducible refine apn ?na ?_); (case na => simp [appNames, ints, intss] <;> first | kernel_rfl | (refine ⟨?_, ?_⟩ <;> kernel_rfl)))
     | fail)
    rfl
  repeat' (first
   | with_reducible refine stp ?_
   | with_reducible refine k_blk_o rfl ?_
   | ((try (conv => arg 1; simp [hneg])); with_reducible refine evp ?_)
   | ((with_reducible refine apn ?na ?_); (case na => simp [appNames, ints, intss] <;> first | kernel_rfl | (refine ⟨?_, ?_⟩ <;> kernel_rfl)))
   | fail)
  refine k_seq_n ?_
  replace hs_g := hs_g.resolve_left hneg
  obtain ⟨hs_g, hg1_g, hg2_g⟩ := hs_g
  have S := (specForw g hs_g).pure
  have I := implForw g hs_g
  have hr := forwR_small g hs_g
  have ht_g := hs_g.tot
  generalize forwR g = R at S I hr
  have ht_R := hr.tot
  repeat' (first
   | with_reducible refine stp ?_
   | with_reducible refine k_blk_o rfl ?_
   | ((try (conv => arg 1; simp [x4.b0])); with_reducible refine evp ?_)
   | ((with_reducible refine apn ?na ?_); (case na => simp [appNames, ints, intss] <;> first | kernel_rfl | (refine ⟨?_, ?_⟩ <;> kernel_rfl)))
   | fail)
  refine st_freshw rfl (toGraph g hs_g) (.cons (dr_agg (drs_graphL g fun h => h)) .nil) ?_
  intro v1 h5 n1 o1 e1 f1 p1 t1
  have x5 := x4.next.fresh o1 e1 f1 p1 t1
  have z5 : h4.tick < h5.tick := by simp only [hp_next_tick] at t1; omega
  obtain ⟨wa1, wb1, _, _, rfl, _, qa1, qb1⟩ := ownV_graph (o1 true)
  have qa1 := own_one qa1
  have qb1 := own_one' qb1
  repeat' (first
   | with_reducible refine stp ?_
   | with_reducible refine k_blk_o rfl ?_
   | ((try (conv => arg 1; simp [x5.b0, z5, qa1.1, qb1.1])); with_reducible refine evp ?_)
   | ((with_reducible refine apn ?na ?_); (case na => simp [appNames, ints, intss] <;> first | kernel_rfl | (refine ⟨?_, ?_⟩ <;> kernel_rfl)))
   | fail)
  refine st_tree rfl (S) (.cons ((x5.o0 true).dr) .nil) ?_
  repeat' (first
   | with_reducible refine stp ?_
   | with_reducible refine k_blk_o rfl ?_
   | ((try (conv => arg 1; simp [x5.b0, z5, qa1.1, qb1.1, Graph.cells])); with_reducible refine evp ?_)
   | ((with_reducible refine apn ?na ?_); (case na => simp [appNames, ints, intss] <;> first | kernel_rfl | (refine ⟨?_, ?_⟩ <;> kernel_rfl)))
   | fail)
  refine cx_k (x5.box_new (x4.off.fresh f1 (by simp [hp_next_tick])) z5) ?_
  intro h6 x6
  repeat' (first
   | with_reducible refine stp ?_
   | with_reducible refine k_blk_o rfl ?_
   | ((try (conv => arg 1; simp [x6.b1])); with_reducible refine evp ?_)
   | ((with_reducible refine apn ?na ?_); (case na => simp [appNames, ints, intss] <;> first | kernel_rfl | (refine ⟨?_, ?_⟩ <;> kernel_rfl)))
   | fail)
  refine st_freshw rfl (toGraph g hs_g) (.cons (dr_agg (drs_graphL g fun h => h)) .nil) ?_
  intro v2 h7 n2 o2 e2 f2 p2 t2
  have x7 := x6.next.fresh o2 e2 f2 p2 t2
  have z7 : h6.tick < h7.tick := by simp only [hp_next_tick] at t2; omega
  obtain ⟨wa2, wb2, _, _, rfl, _, qa2, qb2⟩ := ownV_graph (o2 true)
  have qa2 := own_one qa2
  have qb2 := own_one' qb2
  repeat' (first
   | with_reducible refine stp ?_
   | with_reducible refine k_blk_o rfl ?_
   | ((try (conv => arg 1; simp [x7.b1, z7, qa2.1, qb2.1])); with_reducible refine evp ?_)
   | ((with_reducible refine apn ?na ?_); (case na => simp [appNames, ints, intss] <;> first | kernel_rfl | (refine ⟨?_, ?_⟩ <;> kernel_rfl)))
   | fail)
  refine cx_k (x7.box_new (x6.off.fresh f2 (by simp [hp_next_tick])) z7) ?_
  intro h8 x8
  repeat' (first
   | with_reducible refine stp ?_
   | with_reducible refine k_blk_o rfl ?_
   | ((try (conv => arg 1; simp [x8.b0, qa2.1, qb2.1])); with_reducible refine evp ?_)
   | ((with_reducible refine apn ?na ?_); (case na => simp [appNames, ints, intss] <;> first | kernel_rfl | (refine ⟨?_, ?_⟩ <;> kernel_rfl)))
   | fail)
  refine st_freshw rfl I (.cons ((x8.next.o0 true).dr) .nil) ?_
  intro v3 h9 n3 o3 e3 f3 p3 t3
  have x9 := x8.next.fresh o3 e3 f3 p3 t3
  have z9 : h8.tick < h9.tick := by simp only [hp_next_tick] at t3; omega
  obtain ⟨wa3, wb3, _, _, rfl, _, qa3, qb3⟩ := ownV_graph (o3 true)
  have qa3 := own_one qa3
  have qb3 := own_one' qb3
  repeat' (first
   | with_reducible refine stp ?_
   | with_reducible refine k_blk_o rfl ?_
   | ((try (conv => arg 1; simp [x9.b0, qa2.1, qb2.1, z9, qa3.1, qb3.1])); with_reducible refine evp ?_)
   | ((with_reducible refine apn ?na ?_); (case na => simp [appNames, ints, intss] <;> first | kernel_rfl | (refine ⟨?_, ?_⟩ <;> kernel_rfl)))
   | fail)
  refine cx_k (x9.box_new (x8.off.fresh f3 (by simp [hp_next_tick])) z9) ?_
  intro h10 x10
  repeat' (first
   | with_reducible refine stp ?_
   | with_reducible refine k_blk_o rfl ?_
   | ((try (conv => arg 1; simp [x10.b0, x10.b2, qa3.1, qb3.1])); with_reducible refine evp ?_)
   | ((with_reducible refine apn ?na ?_); (case na => simp [appNames, ints, intss] <;> first | kernel_rfl | (refine ⟨?_, ?_⟩ <;> kernel_rfl)))
   | fail)
  refine st_tree rfl (eqGraph R hr) (.cons ((x10.next.o0 true).dr) (.cons (dr_agg (drs_graphL R (by simp))) .nil)) ?_
  repeat' (first
   | with_reducible refine stp ?_
   | with_reducible refine k_blk_o rfl ?_
   | ((try (conv => arg 1; simp [x10.b0, x10.b2, qa3.1, qb3.1])); with_reducible refine evp ?_)
   | ((with_reducible refine apn ?na ?_); (case na => simp [appNames, ints, intss] <;> first | kernel_rfl | (refine ⟨?_, ?_⟩ <;> kernel_rfl)))
   | fail)
  refine cx_k x10.next ?_
  intro h11 x11
  repeat' (first
   | with_reducible refine stp ?_
   | with_reducible refine k_blk_o rfl ?_
   | ((try (conv => arg 1; simp [hnil])); with_reducible refine evp ?_)
   | ((with_reducible refine apn ?na ?_); (case na => simp [appNames, ints, intss] <;> first | kernel_rfl | (refine ⟨?_, ?_⟩ <;> kernel_rfl)))
   | fail)
  refine k_seq_n ?_
  repeat' (first
   | with_reducible refine stp ?_
   | with_reducible refine k_blk_o rfl ?_
   | ((try (conv => arg 1; simp [hnil])); with_reducible refine evp ?_)
   | ((with_reducible refine apn ?na ?_); (case na => simp [appNames, ints, intss] <;> first | kernel_rfl | (refine ⟨?_, ?_⟩ <;> kernel_rfl)))
   | fail)
  repeat (with_reducible first | refine stp ?_ | refine k_seq_n ?_)
  refine st_draw 5 (fun _ => false) (by kernel_rfl) ?_
  simp only [List.take_succ_cons, List.take_zero, List.drop_succ_cons, List.drop_zero, List.take_nil, List.drop_nil]
  repeat' (first
   | with_reducible refine stp ?_
   | with_reducible refine k_blk_o rfl ?_
   | ((try (conv => arg 1; simp [x11.b1, x11.b3, x11.l1, x11.l3, qa2.1, qb2.1])); with_reducible refine evp ?_)
   | ((with_reducible refine apn ?na ?_); (case na => simp [appNames, ints, intss] <;> first | kernel_rfl | (refine ⟨?_, ?_⟩ <;> kernel_rfl)))
   | fail)
  refine treeW_pure (toGraph g hs_g).pure (.cons (dr_agg (drs_graphL g fun h => h)) .nil) ?_
  repeat' (first
   | with_reducible refine stp ?_
   | with_reducible refine k_blk_o rfl ?_
   | ((try (conv => arg 1; simp [x11.b1, x11.b3, x11.l1, x11.l3, qa2.1, qb2.1])); with_reducible refine evp ?_)
   | ((with_reducible refine apn ?na ?_); (case na => simp [appNames, ints, intss] <;> first | kernel_rfl | (refine ⟨?_, ?_⟩ <;> kernel_rfl)))
   | fail)
  refine treeW_pure (eqGraph g hs_g) (.cons ((x11.m1 true).dr) (.cons (dr_agg (drs_graphL g (by simp))) .nil)) ?_
  repeat' (first
   | with_reducible refine stp ?_
   | with_reducible refine k_blk_o rfl ?_
   | ((try (conv => arg 1; simp [x11.b1, x11.b3, x11.l1, x11.l3, qa2.1, qb2.1])); with_reducible refine evp ?_)
   | ((with_reducible refine apn ?na ?_); (case na => simp [appNames, ints, intss] <;> first | kernel_rfl | (refine ⟨?_, ?_⟩ <;> kernel_rfl)))
   | fail)
  refine cx_k x11.next ?_
  intro h12 x12
  repeat' (first
   | with_reducible refine stp ?_
   | with_reducible refine k_blk_o rfl ?_
   | ((try (conv => arg 1; simp [hnil])); with_reducible refine evp ?_)
   | ((with_reducible refine apn ?na ?_); (case na => simp [appNames, ints, intss] <;> first | kernel_rfl | (refine ⟨?_, ?_⟩ <;> kernel_rfl)))
   | fail)
  refine k_seq_n ?_
  repeat' (first
   | with_reducible refine stp ?_
   | with_reducible refine k_blk_o rfl ?_
   | ((try (conv => arg 1; simp [hnil])); with_reducible refine evp ?_)
   | ((with_reducible refine apn ?na ?_); (case na => simp [appNames, ints, intss] <;> first | kernel_rfl | (refine ⟨?_, ?_⟩ <;> kernel_rfl)))
   | fail)
  refine cx_k x12.next ?_
  intro h13 x13
  repeat' (first
   | with_reducible refine stp ?_
   | with_reducible refine k_blk_o rfl ?_
   | ((try (conv => arg 1; simp [x13.b1, qa2.1, qb2.1])); with_reducible refine evp ?_)
   | ((with_reducible refine apn ?na ?_); (case na => simp [appNames, ints, intss] <;> first | kernel_rfl | (refine ⟨?_, ?_⟩ <;> kernel_rfl)))
   | fail)
  have y1 := x13.next.rot1
  refine st_heap rfl (markGraph y1 hs_g (1) (by omega) (by omega)) ?_
  rintro r h14 ⟨rfl, yy1⟩
  have x14 := yy1.drop
  repeat' (first
   | with_reducible refine stp ?_
   | with_reducible refine k_blk_o rfl ?_
   | ((try (conv => arg 1; simp [x14.b1, qa2.1, qb2.1])); with_reducible refine evp ?_)
   | ((with_reducible refine apn ?na ?_); (case na => simp [appNames, ints, intss] <;> first | kernel_rfl | (refine ⟨?_, ?_⟩ <;> kernel_rfl)))
   | fail)
  refine cx_k x14 ?_
  intro h15 x15
  have hkneg : ¬ 1 + (g.tot : Int) < 0 := by omega
  repeat' (first
   | with_reducible refine stp ?_
   | with_reducible refine k_blk_o rfl ?_
   | ((try (conv => arg 1; simp [x15.b0, x15.b2, qa3.1, qb3.1, hkneg])); with_reducible refine evp ?_)
   | ((with_reducible refine apn ?na ?_); (case na => simp [appNames, ints, intss] <;> first | kernel_rfl | (refine ⟨?_, ?_⟩ <;> kernel_rfl)))
   | fail)
  refine st_tree rfl (eqGraph R hr) (.cons ((x15.next.o0 true).dr) (.cons (dr_agg (drs_graphL R (by simp))) .nil)) ?_
  repeat' (first
   | with_reducible refine stp ?_
   | with_reducible refine k_blk_o rfl ?_
   | ((try (conv => arg 1; simp [x15.b0, x15.b2, qa3.1, qb3.1, hkneg])); with_reducible refine evp ?_)
   | ((with_reducible refine apn ?na ?_); (case na => simp [appNames, ints, intss] <;> first | kernel_rfl | (refine ⟨?_, ?_⟩ <;> kernel_rfl)))
   | fail)
  refine cx_k x15.next ?_
  intro h16 x16
  repeat' (first
   | with_reducible refine stp ?_
   | with_reducible refine k_blk_o rfl ?_
   | ((try (conv => arg 1; simp [hkneg])); with_reducible refine evp ?_)
   | ((with_reducible refine apn ?na ?_); (case na => simp [appNames, ints, intss] <;> first | kernel_rfl | (refine ⟨?_, ?_⟩ <;> kernel_rfl)))
   | fail)
  refine k_seq_n ?_
  repeat' (first
   | with_reducible refine stp ?_
   | with_reducible refine k_blk_o rfl ?_
   | ((try (conv => arg 1; simp [hkneg])); with_reducible refine evp ?_)
   | ((with_reducible refine apn ?na ?_); (case na => simp [appNames, ints, intss] <;> first | kernel_rfl | (refine ⟨?_, ?_⟩ <;> kernel_rfl)))
   | fail)
  refine cx_k x16.next ?_
  intro h17 x17
  repeat' (first
   | with_reducible refine stp ?_
   | with_reducible refine k_blk_o rfl ?_
   | ((try (conv => arg 1; simp [x17.b0, qa3.1, qb3.1, hkneg])); with_reducible refine evp ?_)
   | ((with_reducible refine apn ?na ?_); (case na => simp [appNames, ints, intss] <;> first | kernel_rfl | (refine ⟨?_, ?_⟩ <;> kernel_rfl)))
   | fail)
  have y2 := x17.next.rot0
  refine st_heap rfl (markGraph y2 hr 1 (by omega) (by omega)) ?_
  rintro r h18 ⟨rfl, x18⟩
  have hgneg : ¬ 1 + (R.tot : Int) < 0 := by omega
  repeat' (first
   | with_reducible refine stp ?_
   | with_reducible refine k_blk_o rfl ?_
   | ((try (conv => arg 1; simp [x18.b0, qa3.1, qb3.1, hkneg, hgneg])); with_reducible refine evp ?_)
   | ((with_reducible refine apn ?na ?_); (case na => simp [appNames, ints, intss] <;> first | kernel_rfl | (refine ⟨?_, ?_⟩ <;> kernel_rfl)))
   | fail)
  refine cx_k x18 ?_
  intro h19 x19
  repeat' (first
   | with_reducible refine stp ?_
   | with_reducible refine k_blk_o rfl ?_
   | ((try (conv => arg 1; simp [hkneg, hgneg])); with_reducible refine evp ?_)
   | ((with_reducible refine apn ?na ?_); (case na => simp [appNames, ints, intss] <;> first | kernel_rfl | (refine ⟨?_, ?_⟩ <;> kernel_rfl)))
   | fail)
  refine cx_k x19.next ?_
  intro h20 x20
  repeat' (first
   | with_reducible refine stp ?_
   | with_reducible refine k_blk_o rfl ?_
   | ((try (conv => arg 1; simp [x20.b0, qa3.1, qb3.1, hkneg, hgneg])); with_reducible refine evp ?_)
   | ((with_reducible refine apn ?na ?_); (case na => simp [appNames, ints, intss] <;> first | kernel_rfl | (refine ⟨?_, ?_⟩ <;> kernel_rfl)))
   | fail)
  refine st_tree rfl (heldGraph R hr 1 (by omega) (by omega)) (.cons ((x20.next.o0 true).dr) (.cons (.int _ _) .nil)) ?_
  repeat' (first
   | with_reducible refine stp ?_
   | with_reducible refine k_blk_o rfl ?_
   | ((try (conv => arg 1; simp [x20.b0, qa3.1, qb3.1, hkneg, hgneg])); with_reducible refine evp ?_)
   | ((with_reducible refine apn ?na ?_); (case na => simp [appNames, ints, intss] <;> first | kernel_rfl | (refine ⟨?_, ?_⟩ <;> kernel_rfl)))
   | fail)
  refine cx_k x20.next ?_
  intro h21 x21
  repeat' (first
   | with_reducible refine stp ?_
   | with_reducible refine k_blk_o rfl ?_
   | ((try (conv => arg 1; simp [hkneg, hgneg])); with_reducible refine evp ?_)
   | ((with_reducible refine apn ?na ?_); (case na => simp [appNames, ints, intss] <;> first | kernel_rfl | (refine ⟨?_, ?_⟩ <;> kernel_rfl)))
   | fail)
  refine cx_k x21.next ?_
  intro h22 x22
  repeat' (first
   | with_reducible refine stp ?_
   | with_reducible refine k_blk_o rfl ?_
   | ((try (conv => arg 1; simp [hkneg, hgneg])); with_reducible refine evp ?_)
   | ((with_reducible refine apn ?na ?_); (case na => simp [appNames, ints, intss] <;> first | kernel_rfl | (refine ⟨?_, ?_⟩ <;> kernel_rfl)))
   | fail)
  refine k_seq_n ?_
  repeat' (first
   | with_reducible refine stp ?_
   | with_reducible refine k_blk_o rfl ?_
   | ((try (conv => arg 1; simp [hkneg, hgneg])); with_reducible refine evp ?_)
   | ((with_reducible refine apn ?na ?_); (case na => simp [appNames, ints, intss] <;> first | kernel_rfl | (refine ⟨?_, ?_⟩ <;> kernel_rfl)))
   | fail)
  refine cx_k x22.next ?_
  intro h23 x23
  repeat' (first
   | with_reducible refine stp ?_
   | with_reducible refine k_blk_o rfl ?_
   | ((try (conv => arg 1; simp [hkneg, hgneg])); with_reducible refine evp ?_)
   | ((with_reducible refine apn ?na ?_); (case na => simp [appNames, ints, intss] <;> first | kernel_rfl | (refine ⟨?_, ?_⟩ <;> kernel_rfl)))
   | fail)
  refine k_seq_n ?_
  repeat' (first
   | with_reducible refine stp ?_
   | with_reducible refine k_blk_o rfl ?_
   | ((try (conv => arg 1; simp [x23.b3, hkneg, hgneg])); with_reducible refine evp ?_)
   | ((with_reducible refine apn ?na ?_); (case na => simp [appNames, ints, intss] <;> first | kernel_rfl | (refine ⟨?_, ?_⟩ <;> kernel_rfl)))
   | fail)
  refine st_freshw rfl (toGraph g hs_g) (.cons (dr_agg (drs_graphL g fun h => h)) .nil) ?_
  intro v4 h24 n4 o4 e4 f4 p4 t4
  have x24 := x23.next.fresh o4 e4 f4 p4 t4
  have z24 : h23.tick < h24.tick := by simp only [hp_next_tick] at t4; omega
  obtain ⟨wa4, wb4, _, _, rfl, _, qa4, qb4⟩ := ownV_graph (o4 true)
  have qa4 := own_one qa4
  have qb4 := own_one' qb4
  repeat' (first
   | with_reducible refine stp ?_
   | with_reducible refine k_blk_o rfl ?_
   | ((try (conv => arg 1; simp [x24.b3, z24, qa4.1, qb4.1, hkneg, hgneg])); with_reducible refine evp ?_)
   | ((with_reducible refine apn ?na ?_); (case na => simp [appNames, ints, intss] <;> first | kernel_rfl | (refine ⟨?_, ?_⟩ <;> kernel_rfl)))
   | fail)
  refine st_freshw rfl I (.cons ((x24.o0 true).dr) .nil) ?_
  intro v5 h25 n5 o5 e5 f5 p5 t5
  have x25 := x24.fresh o5 e5 f5 p5 t5
  have z25 : h23.tick < h25.tick := by omega
  obtain ⟨wa5, wb5, _, _, rfl, _, qa5, qb5⟩ := ownV_graph (o5 true)
  have qa5 := own_one qa5
  have qb5 := own_one' qb5
  repeat' (first
   | with_reducible refine stp ?_
   | with_reducible refine k_blk_o rfl ?_
   | ((try (conv => arg 1; simp [x25.b3, z25, qa5.1, qb5.1, hkneg, hgneg])); with_reducible refine evp ?_)
   | ((with_reducible refine apn ?na ?_); (case na => simp [appNames, ints, intss] <;> first | kernel_rfl | (refine ⟨?_, ?_⟩ <;> kernel_rfl)))
   | fail)
  refine cx_k (x25.box_new ((x23.off.fresh f4 (by simp [hp_next_tick])).fresh f5 z24) z25) ?_
  intro h26 x26
  repeat' (first
   | with_reducible refine stp ?_
   | with_reducible refine k_blk_o rfl ?_
   | ((try (conv => arg 1; simp [x26.b0, x26.b3, qa5.1, qb5.1, hkneg, hgneg])); with_reducible refine evp ?_)
   | ((with_reducible refine apn ?na ?_); (case na => simp [appNames, ints, intss] <;> first | kernel_rfl | (refine ⟨?_, ?_⟩ <;> kernel_rfl)))
   | fail)
  refine st_tree rfl (eqGraph R hr) (.cons ((x26.next.o0 true).dr) (.cons (dr_agg (drs_graphL R (by simp))) .nil)) ?_
  repeat' (first
   | with_reducible refine stp ?_
   | with_reducible refine k_blk_o rfl ?_
   | ((try (conv => arg 1; simp [x26.b0, x26.b3, qa5.1, qb5.1, hkneg, hgneg])); with_reducible refine evp ?_)
   | ((with_reducible refine apn ?na ?_); (case na => simp [appNames, ints, intss] <;> first | kernel_rfl | (refine ⟨?_, ?_⟩ <;> kernel_rfl)))
   | fail)
  refine cx_k x26.next ?_
  intro h27 x27
  repeat' (first
   | with_reducible refine stp ?_
   | with_reducible refine k_blk_o rfl ?_
   | ((try (conv => arg 1; simp [hkneg, hgneg])); with_reducible refine evp ?_)
   | ((with_reducible refine apn ?na ?_); (case na => simp [appNames, ints, intss] <;> first | kernel_rfl | (refine ⟨?_, ?_⟩ <;> kernel_rfl)))
   | fail)
  refine k_seq_n ?_
  repeat' (first
   | with_reducible refine stp ?_
   | with_reducible refine k_blk_o rfl ?_
   | ((try (conv => arg 1; simp [hkneg, hgneg])); with_reducible refine evp ?_)
   | ((with_reducible refine apn ?na ?_); (case na => simp [appNames, ints, intss] <;> first | kernel_rfl | (refine ⟨?_, ?_⟩ <;> kernel_rfl)))
   | fail)
  refine cx_k x27.next ?_
  intro h28 x28
  repeat' (first
   | with_reducible refine stp ?_
   | with_reducible refine k_blk_o rfl ?_
   | ((try (conv => arg 1; simp [x28.b1, qa3.1, qb3.1, hkneg, hgneg])); with_reducible refine evp ?_)
   | ((with_reducible refine apn ?na ?_); (case na => simp [appNames, ints, intss] <;> first | kernel_rfl | (refine ⟨?_, ?_⟩ <;> kernel_rfl)))
   | fail)
  refine st_tree rfl (heldGraph R hr 1 (by omega) (by omega)) (.cons ((x28.next.o2 true).dr) (.cons (.int _ _) .nil)) ?_
  repeat' (first
   | with_reducible refine stp ?_
   | with_reducible refine k_blk_o rfl ?_
   | ((try (conv => arg 1; simp [x28.b1, qa3.1, qb3.1, hkneg, hgneg])); with_reducible refine evp ?_)
   | ((with_reducible refine apn ?na ?_); (case na => simp [appNames, ints, intss] <;> first | kernel_rfl | (refine ⟨?_, ?_⟩ <;> kernel_rfl)))
   | fail)
  refine cx_k x28.next ?_
  intro h29 x29
  repeat' (first
   | with_reducible refine stp ?_
   | with_reducible refine k_blk_o rfl ?_
   | ((try (conv => arg 1; simp [hkneg, hgneg])); with_reducible refine evp ?_)
   | ((with_reducible refine apn ?na ?_); (case na => simp [appNames, ints, intss] <;> first | kernel_rfl | (refine ⟨?_, ?_⟩ <;> kernel_rfl)))
   | fail)
  refine cx_k x29.next ?_
  intro h30 x30
  repeat' (first
   | with_reducible refine stp ?_
   | with_reducible refine k_blk_o rfl ?_
   | ((try (conv => arg 1; simp [hkneg, hgneg])); with_reducible refine evp ?_)
   | ((with_reducible refine apn ?na ?_); (case na => simp [appNames, ints, intss] <;> first | kernel_rfl | (refine ⟨?_, ?_⟩ <;> kernel_rfl)))
   | fail)
  refine k_seq_n ?_
  repeat' (first
   | with_reducible refine stp ?_
   | with_reducible refine k_blk_o rfl ?_
   | ((try (conv => arg 1; simp [hkneg, hgneg])); with_reducible refine evp ?_)
   | ((with_reducible refine apn ?na ?_); (case na => simp [appNames, ints, intss] <;> first | kernel_rfl | (refine ⟨?_, ?_⟩ <;> kernel_rfl)))
   | fail)
  refine cx_k x30.next ?_
  intro h31 x31
  repeat' (first
   | with_reducible refine stp ?_
   | with_reducible refine k_blk_o rfl ?_
   | ((try (conv => arg 1; simp [hkneg, hgneg])); with_reducible refine evp ?_)
   | ((with_reducible refine apn ?na ?_); (case na => simp [appNames, ints, intss] <;> first | kernel_rfl | (refine ⟨?_, ?_⟩ <;> kernel_rfl)))
   | fail)
  refine k_seq_n ?_
  repeat' (first
   | with_reducible refine stp ?_
   | with_reducible refine k_blk_o rfl ?_
   | with_reducible refine k_seq_n ?_
   | ((try (conv => arg 1; simp [hkneg, hgneg])); with_reducible refine evp ?_)
   | ((with_reducible refine apn ?na ?_); (case na => simp [appNames, ints, intss] <;> first | kernel_rfl | (refine ⟨?_, ?_⟩ <;> kernel_rfl)))
   | fail)
  rfl
end Go.Proofs.Ytlmlkkkgcbpaoaa.AM


namespace Go.Proofs.Ytlmlkkkgcbpaoaa.fnExactForward
open Go.ChangeShapes Go.WideShapes Go.ChangeAt Go.RowKit
set_option linter.unusedVariables false
theorem own : ownKnob Try.prog.godebug = none := by kernel_rfl

theorem sound (l : List AM.AV) (h : AM.ShpAll Try.prog [25] l) : AM.Sound Try.prog 9 l (.mt 0) fun v _ => v = .bool true := by
  obtain ⟨cells0, l0, g0, e0, k0⟩ := AM.shpAll_cons h
  have e' := AM.shpAll_nil k0
  subst e' e0
  obtain ⟨a0, rfl, d0⟩ := AM.shp_graph g0
  rw [AM.agg_graph]
  exact AM.lawForward a0 d0

set_option maxRecDepth 100000 in
theorem lifted (os : Os) (started : os.Started) (H : Type) (enc : TypeId × Value → H) :
    ReturnsInHanded {} Try.checked os 9 .any (Rows.fnExactForwardSpec.pre6 enc Try.prog Try.f9 Rows.fnExactForwardRow.domain false) (Rows.fnExactForwardSpec.post enc Try.prog Try.f9 false true false false) := by
  refine returnsInHanded_of_change_sized (C := Try.checked) own started (by kernel_rfl) Try.func9
    (ChangeSpec.witness6 (enc := enc) (C := Try.checked) false ⟨#[], #[.agg #[.slice none 0 0, .int .i64 0, .int .i64 0, .int .i64 0, .slice none 0 0]], []⟩ 8 (by kernel_rfl) (by kernel_rfl) (by kernel_rfl) (by kernel_rfl)) ?_
  intro W base args ds gs before hval0 hW hcnd hsz0 _
  have hval : ∀ (j : Nat) t v, Try.f9.params[j]? = some t → args[j]? = some v → Value.okWide Try.prog W .any base t v := hval0
  have hW' := hW
  obtain ⟨p, q, hA0, hV, rfl, hfz, hnd⟩ := hW
  have hA : DataW.TrodAll enc Try.prog W 0 (fun _ => true) true Try.f9.params.toList args.toList ds p := hA0
  rw [Try.params9] at hA hval
  obtain ⟨v0, vs0, d0, ds0, p0, q0, hargs, rfl, rfl, h0, r0⟩ := trodAll_cons hA
  obtain ⟨rfl, rfl, rfl⟩ := trodAll_nil r0
  obtain rfl : args = #[v0] := by cases args; simp_all
  obtain ⟨rfl, rfl⟩ := trodVars_none hV
  clear hA0 hval0 hsz0
  refine (AM.law_calls (params := [25]) (ts := [25, 3, 22, 23, 80, 78, 156, 9]) sound (by kernel_rfl) (by simp) (args := #[v0]) (fun j t v a b => hval j t v (by simpa using a) b) hA).mono fun e W' ⟨he, bel⟩ => ?_
  subst he
  exact ⟨_, rfl, _, _, _, [], _, [], hW', trodAll_mk1 (shut_bool Try.underlying4 _), AM.back_all AM.laid bel _ _ _ _ (by kernel_rfl) hA, rfl, bel.frame _, fun h => by cases h⟩
theorem over : Rows.fnExactForwardRow.holds Try.pinned (OpenSpec.ofChange Rows.fnExactForwardSpec) :=
  OpenClaim.holds_of_wide 9 Try.f9 rfl rfl rfl rfl rfl rfl rfl ⟨rfl, rfl, rfl, rfl, rfl⟩ rfl rfl rfl rfl rfl (by kernel_rfl) Try.func9 (by kernel_rfl)
    (of_decide_eq_true (by kernel_rfl)) (by unfold Func.isWrapper; first | (rw [if_pos (by decide +kernel)]; kernel_rfl) | (rw [if_neg (by decide +kernel)]; exact ⟨rfl, rfl⟩))
    (fun os started H enc _ => lifted os started H enc)
theorem proved : Rows.FnExactForwardSaid := over
end Go.Proofs.Ytlmlkkkgcbpaoaa.fnExactForward
namespace Go.Proofs.Ytlmlkkkgcbpaoaa
theorem fnExactForward_holds : Rows.FnExactForwardSaid := fnExactForward.proved
end Go.Proofs.Ytlmlkkkgcbpaoaa
