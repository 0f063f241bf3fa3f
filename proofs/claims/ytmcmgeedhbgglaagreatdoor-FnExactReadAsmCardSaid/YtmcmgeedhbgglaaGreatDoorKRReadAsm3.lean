/-
  FnExactReadAsm: for every argument, the law returns true, and the arguments read behind the call as they read before (the tied card: the listed tables as the program's text lays them).
  Conditions: none beyond the given statement's own.
-/
import Derived.Test.YtmcmgeedhbgglaaGreatDoorKk2
import Derived.Handed
import Derived.LaidMore
import Derived.MakeChecks
import Derived.Stop.LaidErr
import Derived.Shelf.Vars
import Derived.Test.YtmcmgeedhbgglaaGreatDoorRows
import Derived.Test.YtmcmgeedhbgglaaGreatDoorTie
import Derived.Test.YtmcmgeedhbgglaaGreatDoorCards
import Derived.Lay
import Derived.WalkKit
import Derived.ProofKit
import Derived.OpenShut
import Derived.ShutString
import Derived.ChangeOld
import Derived.Below
import Derived.SizedLaws
import Derived.SevenTiedAt
set_option linter.unusedVariables false
set_option linter.unusedSimpArgs false
set_option maxRecDepth 4000
namespace Go.Proofs.YtmcmgeedhbgglaaGreatDoor.AM
open Go.RowKit Go.Shelf

/-- The pieces between a byte. -/
def spl (c : UInt8) : List UInt8 → List (List UInt8)
  | [] => [[]]
  | x :: l => if x = c then [] :: spl c l else match spl c l with
    | [] => [[x]]
    | p :: ps => (x :: p) :: ps
theorem spl_ne (c : UInt8) : ∀ l, spl c l ≠ []
  | [] => by simp [spl]
  | x :: l => by
    unfold spl
    split
    · simp
    · split <;> simp
theorem spl_nc {c : UInt8} : ∀ {l : List UInt8}, c ∉ l → spl c l = [l]
  | [], _ => rfl
  | x :: l, h => by
    have h1 : ¬ x = c := fun e => h (by simp [e])
    unfold spl
    rw [if_neg h1, spl_nc (fun hm => h (by simp [hm]))]
theorem spl_hit {c : UInt8} {r : List UInt8} : ∀ {a : List UInt8}, c ∉ a → spl c (a ++ c :: r) = a :: spl c r
  | [], _ => by simp [spl]
  | x :: l, h => by
    have h1 : ¬ x = c := fun e => h (by simp [e])
    rw [List.cons_append]
    conv => lhs; unfold spl
    rw [if_neg h1, spl_hit (fun hm => h (by simp [hm]))]
theorem spl_bound {c : UInt8} : ∀ l : List UInt8, (spl c l).length ≤ l.length + 1 ∧ ∀ p ∈ spl c l, p.length ≤ l.length
  | [] => by simp [spl]
  | x :: l => by
    obtain ⟨h1, h2⟩ := spl_bound (c := c) l
    unfold spl
    split
    · refine ⟨by simp; omega, fun p hp => ?_⟩
      simp only [List.mem_cons] at hp
      rcases hp with rfl | hp
      · simp
      · have := h2 p hp; simp; omega
    · split
      · refine ⟨by simp, fun p hp => ?_⟩
        simp only [List.mem_singleton] at hp
        subst hp
        simp
      · rename_i p ps e
        rw [e] at h1 h2
        refine ⟨by simp at h1 ⊢; omega, fun q hq => ?_⟩
        simp only [List.mem_cons] at hq
        rcases hq with rfl | hq
        · have := h2 p (by simp); simp; omega
        · have := h2 q (by simp [hq]); simp; omega
theorem ix_nc {c : UInt8} : ∀ {l : List UInt8}, c ∉ l → Go.Lib.index l [c] = -1
  | [], _ => rfl
  | x :: l, h => by
    have h1 : ¬ c = x := fun e => h (by simp [e])
    unfold Go.Lib.index
    rw [ix_nc (fun hm => h (by simp [hm]))]
    simp [List.isPrefixOf, h1]
theorem ix_hit {c : UInt8} {r : List UInt8} : ∀ {a : List UInt8}, c ∉ a → Go.Lib.index (a ++ c :: r) [c] = a.length
  | [], _ => by simp [Go.Lib.index, List.isPrefixOf]
  | x :: l, h => by
    have h1 : ¬ c = x := fun e => h (by simp [e])
    rw [List.cons_append]
    unfold Go.Lib.index
    rw [ix_hit (fun hm => h (by simp [hm]))]
    simp [List.isPrefixOf, h1]
    try omega
theorem split_mem {c : UInt8} {l : List UInt8} (h : c ∈ l) : ∃ a r, l = a ++ c :: r ∧ c ∉ a := by
  obtain ⟨a, r, e, h⟩ := List.eq_append_cons_of_mem h
  exact ⟨a, r, e, h⟩
theorem splitB_spl (c : UInt8) : ∀ (n : Nat) (l : List UInt8), l.length ≤ n → Go.Lib.splitB (bs [c]) 0 (Go.Lib.countB (bs l) (bs [c])) (bs l) = (spl c l).map bs := by
  intro n
  induction n with
  | zero =>
    intro l hl
    have : l = [] := List.eq_nil_of_length_eq_zero (by omega)
    subst this
    have hx : Go.Lib.indexB (bs []) (bs [c]) = -1 := by unfold Go.Lib.indexB; rw [bs_data, bs_data]; exact ix_nc (by simp)
    rw [Go.Lib.countB_miss _ _ hx]
    rfl
  | succ n ih =>
    intro l hl
    by_cases hm : c ∈ l
    · obtain ⟨a, r, rfl, ha⟩ := split_mem hm
      have hx : Go.Lib.indexB (bs (a ++ c :: r)) (bs [c]) = a.length := by unfold Go.Lib.indexB; rw [bs_data, bs_data]; exact ix_hit ha
      have hs : (bs [c]).size = 1 := bs_size _
      rw [Go.Lib.countB_hit _ _ a.length (by rw [hs]; exact Nat.le_refl _) hx, Nat.add_comm 1, Go.Lib.splitB_hit _ _ _ _ _ hx, spl_hit ha]
      have e : (bs (a ++ c :: r)).extract (a.length + (bs [c]).size) (bs (a ++ c :: r)).size = bs r := by
        rw [hs, bs_size, bs_extract]
        congr 1
        rw [show a ++ c :: r = (a ++ [c]) ++ r by simp, List.drop_left' (by simp), List.take_of_length_le (by simp; omega)]
      rw [e, ih r (by simp at hl; omega), bs_extract, List.map_cons]
      congr 2
      simp
    · have hx : Go.Lib.indexB (bs l) (bs [c]) = -1 := by unfold Go.Lib.indexB; rw [bs_data, bs_data]; exact ix_nc hm
      rw [Go.Lib.countB_miss _ _ hx, spl_nc hm]
      rfl
theorem below_alloc (w : World) (o : Obj) : Below w.heap.size w (w.alloc o) :=
  ⟨rfl, rfl, rfl, by show w.heap.size ≤ (w.heap.push o).size; simp, fun i hi => by
    show (w.heap.push o)[i]? = _
    rw [Array.getElem?_push_lt hi, Array.getElem?_eq_getElem hi]⟩
theorem tab_max {mu : Nm → Nat → Option Loc} {pr : Bool → Nat → Prop} {h : Hp} {w : World} (R : Rel mu pr h w) : ∃ m, w.cell? ⟨0, 0, none⟩ = some (.int .i64 m) := by
  obtain ⟨_, arr, ty, fr, hb, m, ha⟩ := R.tab 0 _ (by simp only [tabs]; exact List.mem_cons_of_mem _ (List.mem_cons_self ..))
  subst ha
  exact ⟨m, by simp [World.cell?, hb]⟩
/-- strings.Split at one byte: the pieces, a tree. -/
theorem splitP (l : List UInt8) (c : UInt8) (hl : l.length < 4294967281) : Pure Tryz.prog 43 [.str (bs l), .str (bs [c])] (strs false ((spl c l).map bs)) := by
  refine pure_strs Tryz.func43 rfl rfl fun mu pr h w vs R hv => ?_
  obtain ⟨u, u2, rfl⟩ : ∃ u u2, vs = [u, u2] := by
    match vs, hv.1 with
    | [u, u2], _ => exact ⟨u, u2, rfl⟩
  obtain rfl : u = .string (bs l) := by
    obtain ⟨u', h1, h2⟩ := hv.2 0 _ rfl
    simp at h1
    subst h1
    cases h2
    rfl
  obtain rfl : u2 = .string (bs [c]) := by
    obtain ⟨u', h1, h2⟩ := hv.2 1 _ rfl
    simp at h1
    subst h1
    cases h2
    rfl
  obtain ⟨m, hm⟩ := tab_max R
  have h1 : 1 ≤ (bs [c]).size := by rw [bs_size]; exact Nat.le_refl _
  have C := Any.strings_Split laysSplit (by kernel_rfl) (bs l) (bs [c]) m w (by rw [bs_size]; exact hl) hm h1
  have hlen := Go.Lib.splitB_all (bs [c]) h1 0 _ (bs l) rfl
  rw [splitB_spl c _ l (Nat.le_refl _)] at C hlen
  refine Calls.mono (R := _) C ?_
  rintro e w' ⟨rfl, rfl⟩
  refine ⟨w.heap.size, Go.Lib.countB (bs l) (bs [c]) + 1, laysSplit_ren.t 9, (0, 0), ?_, ?_, Nat.le_refl _, ?hb, below_alloc _ _⟩
  case hb =>
    show (w.heap.push _)[w.heap.size]? = _
    simp only [Array.getElem?_push_size]
  · rw [hlen]
  · rw [hlen]; exact Nat.le_refl _
end Go.Proofs.YtmcmgeedhbgglaaGreatDoor.AM

namespace Go.Proofs.YtmcmgeedhbgglaaGreatDoor.AM
open Go.RowKit

private def ME20 : FuncId → Mode := fun f => .tree

/-- A text as an element. -/
def sc (x : List UInt8) : List AV := [.str (bs x)]
theorem sc_flat {l : List (List UInt8)} : ∀ e ∈ l.map sc, ∀ x ∈ e, flatc x = true := fun e he x hx => by
  obtain ⟨a, _, rfl⟩ := List.mem_map.1 he
  simp only [sc, List.mem_singleton] at hx
  subst hx
  rfl
theorem sc_strs (b : Bool) (l : List (List UInt8)) : strs b (l.map bs) = .tr b (l.map sc) := by simp [strs, sc, Function.comp_def]
/-- A cut's state: what is done, and where the next piece begins. -/
structure CutI (c : UInt8) (l : List UInt8) (i a : Nat) (d : List (List UInt8)) : Prop where
  le : a ≤ i
  nc : c ∉ (l.drop a).take (i - a)
  sp : spl c l = d ++ spl c (l.drop a)
  ln : d.length ≤ i
theorem CutI.zero {c : UInt8} {l : List UInt8} : CutI c l 0 0 [] := ⟨Nat.le_refl _, by simp, by simp, Nat.le_refl _⟩
theorem drop_cut {l : List UInt8} {i a : Nat} (ha : a ≤ i) (hi : i < l.length) : l.drop a = (l.drop a).take (i - a) ++ l[i] :: l.drop (i + 1) := by
  conv => lhs; rw [← List.take_append_drop (i - a) (l.drop a)]
  rw [List.drop_drop, show a + (i - a) = i by omega, List.drop_eq_getElem_cons hi]
theorem CutI.hit {c : UInt8} {l : List UInt8} {i a : Nat} {d : List (List UInt8)} (s : CutI c l i a d) (hi : i < l.length) (h : l[i] = c) : CutI c l (i + 1) (i + 1) (d ++ [(l.drop a).take (i - a)]) := by
  refine ⟨Nat.le_refl _, by simp, ?_, by simp; have := s.ln; omega⟩
  rw [s.sp]
  conv => lhs; rw [drop_cut s.le hi, h, spl_hit s.nc]
  simp
theorem CutI.miss {c : UInt8} {l : List UInt8} {i a : Nat} {d : List (List UInt8)} (s : CutI c l i a d) (hi : i < l.length) (h : ¬ l[i] = c) : CutI c l (i + 1) a d := by
  refine ⟨by have := s.le; omega, ?_, s.sp, by have := s.ln; omega⟩
  have hlen : i - a < (l.drop a).length := by rw [List.length_drop]; have := s.le; omega
  have e : (l.drop a)[i - a] = l[i] := by rw [List.getElem_drop]; congr 1; have := s.le; omega
  rw [show i + 1 - a = (i - a) + 1 by have := s.le; omega, List.take_add_one, List.getElem?_eq_getElem hlen, e]
  intro hm
  simp only [Option.toList_some, List.mem_append, List.mem_singleton] at hm
  rcases hm with hm | hm
  · exact s.nc hm
  · exact h hm.symm
theorem CutI.fin {c : UInt8} {l : List UInt8} {a : Nat} {d : List (List UInt8)} (s : CutI c l l.length a d) : spl c l = d ++ [l.drop a] := by
  have h := s.nc
  rw [List.take_of_length_le (by rw [List.length_drop]; exact Nat.le_refl _)] at h
  rw [s.sp, spl_nc h]

set_option maxHeartbeats 4000000 in
theorem specWords (l : List UInt8) (hl : l.length ≤ 2 ^ 21) : Pure Tryz.prog 73 [.str (bs l)] (strs false ((spl 32 l).map bs)) := by
  intro T
  have hlen := bs_size l
  have x0 : Cx (Hp.mt T) [] [] := Cx.mt
  have y1 := x0.next.next.box_one (T := T + 1) (i := 0) (r := ⟨0, 1, []⟩) x0.next.off (by simp)
  refine enter mixed ME20 Tryz.func73 rfl (by kernel_rfl) rfl ?_
  repeat' (first | (with_reducible first | refine stp ?_ | refine k_blk_o rfl ?_ | refine k_seq_n ?_) | ((try (conv => arg 1; simp [bs_mk])); with_reducible refine evp ?_) | fail)
  refine st_loop (fun (i : Nat) σ h => ∃ a d w b, i ≤ l.length ∧ CutI 32 l i a d ∧ T < h.tick ∧ σ 0 = .str (bs l) ∧ σ 3 = w ∧ σ 4 = .int .i64 a ∧ σ 5 = .int .i64 i ∧ FL 1 (d.map sc) w b ∧ Cx h (b ++ []) []) (fun i => l.length - i) 0 ?init ?step
  case init =>
    exact ⟨0, [], _, [((T + 1, 0, 0), ⟨0, 1, []⟩)], Nat.zero_le _, CutI.zero, by simp [ltS], by simp, by simp, by simp, by simp, FL.mt, Cx.to y1⟩
  case step =>
    rintro i σ h ⟨a, d, w, b, hi, cI, ht, s0, s3, s4, s5, fl, z⟩
    have hai := cI.le
    have hdl := cI.ln
    have q := fl.one
    by_cases hlt : i < l.length
    · have hlt2 : (i : Int) < l.length := by omega
      have hw : IntKind.i64.wrap (i + 1) = i + 1 := wrap_id (by omega) (by omega)
      by_cases hc : l[i] = 32
      · have hsl : ∀ rows, sliceA Tryz.prog rows 9 (.str (bs l)) (some (.int .i64 a)) (some (.int .i64 i)) false = some (.str (bs ((l.drop a).take (i - a)))) := fun rows => by
          rw [slice_ft und_9 (by omega) (by omega) (by omega)]
          simp
        have hc2 : l[i].toNat = 32 := by rw [hc]; rfl
        repeat' (first | (with_reducible first | refine stp ?_ | refine k_blk_o rfl ?_ | refine k_seq_n ?_) | ((try (conv => arg 1; simp [s0, s3, s4, s5, hlt, hlt2, hlen, hc, hsl, hw, bs_getE])); with_reducible refine evp ?_) | fail)
        conv => arg 1; simp
        refine ev2_app (s := 1) (fs := []) (os := []) (bs := []) (e := sc ((l.drop a).take (i - a))) (by kernel_rfl) fl ?hx ?hk rfl ?hl ?hn ?ht ?kk
        case hx => exact Cx.to z
        case hk => simp [sc]
        case hl => simp; omega
        case hn => exact Cx.new_nin z (by first | omega | (simp; done) | (simp; omega))
        case ht => simp
        intro w' b' h4 fl' z4 tk q'
        repeat' (first | (with_reducible first | refine stp ?_ | refine k_blk_o rfl ?_ | refine k_seq_n ?_) | ((try (conv => arg 1; simp [s0, s3, s4, s5, hw])); with_reducible refine evp ?_) | fail)
        refine k_lp_n (i + 1) (by omega) ⟨i + 1, d ++ [(l.drop a).take (i - a)], w', b', by omega, cI.hit hlt hc, by simp [tk]; omega, by simp [s0], by simp, by simp, by simp, by simpa using fl', Cx.to z4⟩
      · have hc2 : ¬ (l[i].toNat : Int) = 32 := fun e => hc (UInt8.toNat_inj.1 (by show l[i].toNat = 32; omega))
        repeat' (first | (with_reducible first | refine stp ?_ | refine k_blk_o rfl ?_ | refine k_seq_n ?_) | ((try (conv => arg 1; simp [s0, s3, s4, s5, hlt, hlt2, hlen, hc2, hw, bs_getE])); with_reducible refine evp ?_) | fail)
        refine k_lp_n (i + 1) (by omega) ⟨a, d, w, b, by omega, cI.miss hlt hc, by simp; omega, by simp [s0], by simp [s3], by simp [s4], by simp, fl, Cx.to z⟩
    · have hge : i = l.length := by omega
      subst hge
      have hfr : ∀ rows, sliceA Tryz.prog rows 9 (.str (bs l)) (some (.int .i64 a)) none false = some (.str (bs (l.drop a))) := fun rows => by
        rw [slice_fr und_9 (by omega) (by omega)]
        simp
      repeat' (first | (with_reducible first | refine stp ?_ | refine k_blk_o rfl ?_ | refine k_seq_n ?_) | ((try (conv => arg 1; simp [s0, s3, s4, s5, hlen, hfr])); with_reducible refine evp ?_) | fail)
      conv => arg 1; simp
      refine ev2_app (s := 1) (fs := []) (os := []) (bs := []) (e := sc (l.drop a)) (by kernel_rfl) fl ?hx2 ?hk2 rfl ?hl2 ?hn2 ?ht2 ?kk2
      case hx2 => exact Cx.to z
      case hk2 => simp [sc]
      case hl2 => simp; omega
      case hn2 => exact Cx.new_nin z (by first | omega | (simp; done) | (simp; omega))
      case ht2 => simp
      intro w' b' h4 fl' z4 tk q'
      repeat' (first | (with_reducible first | refine stp ?_ | refine k_blk_o rfl ?_ | refine k_seq_n ?_) | ((try (conv => arg 1; simp [s0])); with_reducible refine evp ?_) | fail)
      rw [sc_strs, cI.fin, List.map_append]
      have fl' : FL 1 (List.map sc d ++ List.map sc [l.drop a]) w' b' := fl'
      exact fl'.dr (by rw [← List.map_append]; exact sc_flat) (fun y hy => (Cx.to z4 : Cx _ (b' ++ []) []).box y (by simp [hy]))
end Go.Proofs.YtmcmgeedhbgglaaGreatDoor.AM

namespace Go.Proofs.YtmcmgeedhbgglaaGreatDoor.AM
open Go.RowKit

private def ME3 : FuncId → Mode := fun f => .tree

set_option maxHeartbeats 4000000 in
theorem l17Word (w : Word) (d : w.Txt) : Pure Tryz.prog 42 [.agg w.cells] (.str (bs (wordT w))) := by
  intro T
  have hop := d.op
  obtain ⟨op, hop0, hop1⟩ : ∃ op : Nat, w.Op = op ∧ op < 12 := ⟨w.Op.toNat, by omega, by omega⟩
  have K0 := l17Form op hop1
  have KR := specDecText w.R d.r
  have KA := specDecText w.A d.a
  have KB := specDecText w.B d.b
  have KN := specDecText w.N d.n
  have KS := l17Signs
  haveI := bd_dg d.r
  haveI := bd_dg d.a
  haveI := bd_dg d.b
  haveI := bd_dg d.n
  have hln := form_len w.Op.toNat
  have hco : w.cells = [.int .i64 w.Op, .int .i64 w.R, .int .i64 w.A, .int .i64 w.B, .int .i64 w.N] := rfl
  have hcl : w.cells.length = 5 := rfl
  refine enter mixed ME3 Tryz.func42 rfl (by kernel_rfl) rfl ?_
  repeat' (first | (with_reducible first | refine stp ?_ | refine k_blk_o rfl ?_ | refine k_seq_n ?_) | ((try (conv => arg 1; simp [hco, hop0, bs_mk, bs_empty])); with_reducible refine evp ?_) | ((with_reducible refine tcl ?_); first | ((apply tg (K0)); (case e => rfl); (case d => (refine dq ?_); (repeat' (first | ((refine Da.mk ?_); first | assumption) | constructor))))) | fail)
  rw [show nameOf op = nameOf w.Op.toNat by rw [hop0]; simp, show formOf op = formOf w.Op.toNat by rw [hop0]; simp]
  refine st_loop (fun (i : Nat) σ h => i ≤ (formOf w.Op.toNat).length ∧ T < h.tick ∧ σ 1 = .ptr (T, 0, 0) 0 0 0 ∧ h.rows (T, 0, 0) = some ⟨0, 5, [w.cells]⟩ ∧ σ 3 = .str (bs (lineT w i)) ∧ σ 4 = .str (bs (formOf w.Op.toNat)) ∧ σ 5 = .int .i64 i) (fun i => (formOf w.Op.toNat).length - i) 0 ?init ?step
  case init =>
    exact ⟨Nat.zero_le _, by simp [ltS], by simp, by simp [hco, hop0], by simp [lineT_zero, hop0], by simp [hop0], by simp⟩
  case step =>
    rintro i σ h ⟨hi, ht, s1, hr, s3, s4, s5⟩
    rw [hco] at hr
    by_cases hlt : i < (formOf w.Op.toNat).length
    · have hb : (formOf w.Op.toNat)[i]? = some (formOf w.Op.toNat)[i] := by simp
      have hm : (formOf w.Op.toNat)[i] ∈ formOf w.Op.toNat := List.getElem_mem hlt
      have hsucc := lineT_succ w hlt
      haveI : Bd (lineT w i) 200 := ⟨lineT_len d i⟩
      have hw : IntKind.i64.wrap (i + 1) = i + 1 := wrap_id (by omega) (by omega)
      have hsg : (formOf w.Op.toNat)[i] = 103 → 0 ≤ w.N ∧ w.N ≤ 5 := fun e => d.sg (by
        rw [e] at hm
        have := form_sign w.Op.toNat (by omega) hm
        omega)
      have hlt2 : (i : Int) < (formOf w.Op.toNat).length := by omega
      generalize hF : formOf w.Op.toNat = F at *
      generalize hB : F[i] = b at *
      have hsz := bs_size F
      have hsl := fun rows => slice_one (P := Tryz.prog) (rows := rows) und_9 hb
      have fin : ∀ (σ' : Nat → AV) (h' : Hp), σ' 1 = .ptr (T, 0, 0) 0 0 0 → T < h'.tick → h'.rows (T, 0, 0) = some ⟨0, 5, [[.int .i64 w.Op, .int .i64 w.R, .int .i64 w.A, .int .i64 w.B, .int .i64 w.N]]⟩ → σ' 3 = .str (bs (lineT w i ++ 32 :: partT w b)) → σ' 4 = .str (bs F) → σ' 5 = .int .i64 (i + 1) →
          ∃ a', F.length - a' < F.length - i ∧ a' ≤ F.length ∧ T < h'.tick ∧ σ' 1 = .ptr (T, 0, 0) 0 0 0 ∧ h'.rows (T, 0, 0) = some ⟨0, 5, [w.cells]⟩ ∧ σ' 3 = .str (bs (lineT w a')) ∧ σ' 4 = .str (bs F) ∧ σ' 5 = .int .i64 a' :=
        fun σ' h' a1 a2 a3 a4 a5 a6 => ⟨i + 1, by omega, by omega, a2, a1, by rw [hco]; exact a3, by rw [hsucc]; exact a4, a5, by simpa using a6⟩
      by_cases c1 : b = 114
      · subst c1
        repeat' (first | (with_reducible first | refine stp ?_ | refine k_blk_o rfl ?_ | refine k_seq_n ?_) | ((try (conv => arg 1; simp [s1, hr, s3, s4, s5, hlt2, hw, hb, bs_get, hsz, bs_mk, cat_le, bs_app])); with_reducible refine evp ?_) | ((with_reducible refine tcl ?_); first | ((apply tg (KR)); (case e => rfl); (case d => (refine dq ?_); (repeat' (first | ((refine Da.mk ?_); first | assumption) | constructor))))) | fail)
        exact fin _ _ (by simp [s1]) (by simp; omega) (by simp [hr]) (by simp [partT]) (by simp [s4]) (by simp)
      have d1 : ¬ (b.toNat : Int) = 114 := fun e => c1 (UInt8.toNat_inj.1 (by show b.toNat = 114; omega))
      by_cases c2 : b = 97
      · subst c2
        repeat' (first | (with_reducible first | refine stp ?_ | refine k_blk_o rfl ?_ | refine k_seq_n ?_) | ((try (conv => arg 1; simp [s1, hr, s3, s4, s5, hlt2, hw, hb, bs_get, hsz, bs_mk, cat_le, bs_app])); with_reducible refine evp ?_) | ((with_reducible refine tcl ?_); first | ((apply tg (KA)); (case e => rfl); (case d => (refine dq ?_); (repeat' (first | ((refine Da.mk ?_); first | assumption) | constructor))))) | fail)
        exact fin _ _ (by simp [s1]) (by simp; omega) (by simp [hr]) (by simp [partT]) (by simp [s4]) (by simp)
      have d2 : ¬ (b.toNat : Int) = 97 := fun e => c2 (UInt8.toNat_inj.1 (by show b.toNat = 97; omega))
      by_cases c3 : b = 98
      · subst c3
        repeat' (first | (with_reducible first | refine stp ?_ | refine k_blk_o rfl ?_ | refine k_seq_n ?_) | ((try (conv => arg 1; simp [s1, hr, s3, s4, s5, hlt2, hw, hb, bs_get, hsz, bs_mk, cat_le, bs_app])); with_reducible refine evp ?_) | ((with_reducible refine tcl ?_); first | ((apply tg (KB)); (case e => rfl); (case d => (refine dq ?_); (repeat' (first | ((refine Da.mk ?_); first | assumption) | constructor))))) | fail)
        exact fin _ _ (by simp [s1]) (by simp; omega) (by simp [hr]) (by simp [partT]) (by simp [s4]) (by simp)
      have d3 : ¬ (b.toNat : Int) = 98 := fun e => c3 (UInt8.toNat_inj.1 (by show b.toNat = 98; omega))
      by_cases c4 : b = 110
      · subst c4
        repeat' (first | (with_reducible first | refine stp ?_ | refine k_blk_o rfl ?_ | refine k_seq_n ?_) | ((try (conv => arg 1; simp [s1, hr, s3, s4, s5, hlt2, hw, hb, bs_get, hsz, bs_mk, cat_le, bs_app])); with_reducible refine evp ?_) | ((with_reducible refine tcl ?_); first | ((apply tg (KN)); (case e => rfl); (case d => (refine dq ?_); (repeat' (first | ((refine Da.mk ?_); first | assumption) | constructor))))) | fail)
        exact fin _ _ (by simp [s1]) (by simp; omega) (by simp [hr]) (by simp [partT]) (by simp [s4]) (by simp)
      have d4 : ¬ (b.toNat : Int) = 110 := fun e => c4 (UInt8.toNat_inj.1 (by show b.toNat = 110; omega))
      have n3 : T < h.tick + 1 + 1 := by omega
      have n4 : T < h.tick + 1 + 1 + 1 := by omega
      have n5 : T < h.tick + 1 + 1 + 1 + 1 := by omega
      have n6 : T < h.tick + 1 + 1 + 1 + 1 + 1 := by omega
      have n7 : T < h.tick + 1 + 1 + 1 + 1 + 1 + 1 := by omega
      by_cases c5 : b = 103
      · have hN := hsg c5
        subst c5
        obtain ⟨n, hn0, hn1⟩ : ∃ n : Nat, w.N = n ∧ n < 6 := ⟨w.N.toNat, by omega, by omega⟩
        have hsn := sign_get hn1
        have hn2 : n < signL.length := hn1
        have hse : signL[n] = signOf n := Option.some.inj ((List.getElem?_eq_getElem hn2).symm.trans hsn)
        haveI : Bd (signOf n) 2 := ⟨sign_len n⟩
        repeat' (first | (with_reducible first | refine stp ?_ | refine k_blk_o rfl ?_ | refine k_seq_n ?_) | ((try (conv => arg 1; simp [s1, hr, s3, s4, s5, hlt2, hw, hb, bs_get, hsz, bs_mk])); with_reducible refine evp ?_) | fail)
        repeat (with_reducible first | refine stp ?_ | refine k_seq_n ?_)
        refine st_draw 9 (fun _ => false) (by kernel_rfl) ?_
        simp only [List.take_succ_cons, List.take_zero, List.drop_succ_cons, List.drop_zero, List.take_nil, List.drop_nil]
        repeat' (first | (with_reducible first | refine stp ?_ | refine k_blk_o rfl ?_ | refine k_seq_n ?_) | ((try (conv => arg 1; simp [s1, hr, s3, s4, s5, hw, hn0, strs, hse, hn2, maskR, tk_ne, n3, n4, n5, n6, n7, bs_mk, cat_le, bs_app])); with_reducible refine evp ?_) | ((with_reducible refine apn ?na ?_); (case na => simp [appNames, ints, intss] <;> first | kernel_rfl | (refine ⟨?_, ?_⟩ <;> kernel_rfl))) | ((with_reducible refine tcl ?_); first | ((apply tg (KS)); (case e => rfl); (case d => (refine dq ?_); (repeat' (first | ((refine Da.mk ?_); first | assumption) | constructor))))) | fail)
        exact fin _ _ (by simp [s1]) (by simp; omega) (by simp [hr, hn0]) (by simp [partT, hn0]) (by simp [s4]) (by simp)
      have d5 : ¬ (b.toNat : Int) = 103 := fun e => c5 (UInt8.toNat_inj.1 (by show b.toNat = 103; omega))
      repeat' (first | (with_reducible first | refine stp ?_ | refine k_blk_o rfl ?_ | refine k_seq_n ?_) | ((try (conv => arg 1; simp [s1, hr, s3, s4, s5, hlt2, hw, hb, d1, d2, d3, d4, d5, bs_get, hsz, bs_mk])); with_reducible refine evp ?_) | ((with_reducible refine apn ?na ?_); (case na => simp [appNames, ints, intss] <;> first | kernel_rfl | (refine ⟨?_, ?_⟩ <;> kernel_rfl))) | fail)
      repeat (with_reducible first | refine stp ?_ | refine k_seq_n ?_)
      refine st_draw 13 (fun _ => false) (by kernel_rfl) ?_
      simp only [List.take_succ_cons, List.take_zero, List.drop_succ_cons, List.drop_zero, List.take_nil, List.drop_nil]
      repeat' (first | (with_reducible first | refine stp ?_ | refine k_blk_o rfl ?_ | refine k_seq_n ?_) | ((try (conv => arg 1; simp [s1, hr, s3, s4, s5, hw, hsl, maskR, tk_ne, n3, n4, n5, n6, n7, bs_mk, cat_le, bs_app])); with_reducible refine evp ?_) | ((with_reducible refine apn ?na ?_); (case na => simp [appNames, ints, intss] <;> first | kernel_rfl | (refine ⟨?_, ?_⟩ <;> kernel_rfl))) | ((with_reducible refine tcl ?_); first | ((apply tg (KN)); (case e => rfl); (case d => (refine dq ?_); (repeat' (first | ((refine Da.mk ?_); first | assumption) | constructor))))) | fail)
      exact fin _ _ (by simp [s1]) (by simp; omega) (by simp [hr]) (by simp [partT, c1, c2, c3, c4, c5]) (by simp [s4]) (by simp)
    · have hge : i = (formOf w.Op.toNat).length := by omega
      subst hge
      repeat' (first | (with_reducible first | refine stp ?_ | refine k_blk_o rfl ?_ | refine k_seq_n ?_) | ((try (conv => arg 1; simp [s1, hr, s3, s4, s5, bs_size, bs_mk])); with_reducible refine evp ?_) | ((with_reducible refine apn ?na ?_); (case na => simp [appNames, ints, intss] <;> first | kernel_rfl | (refine ⟨?_, ?_⟩ <;> kernel_rfl))) | fail)
      rw [lineT_all]
      exact .str _
end Go.Proofs.YtmcmgeedhbgglaaGreatDoor.AM

namespace Go.Proofs.YtmcmgeedhbgglaaGreatDoor.AM
open Go.RowKit

private def ME4 : FuncId → Mode := fun f => .tree

def shapeL : List (List UInt8) := [[108, 105, 32, 114, 32, 110], [108, 100, 32, 114, 32, 115], [115, 100, 32, 114, 32, 115], [97, 108, 117, 32, 114, 32, 97, 32, 43, 32, 98], [108, 120, 32, 114, 32, 109, 32, 97], [115, 120, 32, 114, 32, 109, 32, 97], [105, 110, 32, 114], [111, 117, 116, 32, 114], [106, 109, 112, 32, 119], [106, 122, 32, 114, 32, 119], [114, 101, 116, 32, 114], [109, 118, 32, 114, 32, 97]]
def shapeOf (op : Nat) : List UInt8 := shapeL.getD op []
def shp (b : UInt8) : List UInt8 := if b = 103 then [43] else [b]
theorem shape_spl (op : Nat) (h : op < 12) : spl 32 (shapeOf op) = nameOf op :: (formOf op).map shp := by
  have : ∀ o : Fin 12, spl 32 (shapeOf o) = nameOf o :: (formOf o).map shp := by decide +kernel
  exact this ⟨op, h⟩
theorem shape_len (op : Nat) (h : op < 12) : (shapeOf op).length < 4294967281 := by
  have : ∀ o : Fin 12, (shapeOf o).length < 4294967281 := by decide +kernel
  exact this ⟨op, h⟩
theorem shape_get {op : Nat} (h : op < 12) : shapeL[op]? = some (shapeOf op) := by
  have : ∀ o : Fin 12, shapeL[o.val]? = some (shapeOf o) := by decide +kernel
  exact this ⟨op, h⟩
theorem form_mem (op : Nat) (h : op < 12) : ∀ b ∈ formOf op, b = 114 ∨ b = 97 ∨ b = 98 ∨ b = 103 ∨ b = 110 ∨ b = 115 ∨ b = 109 ∨ b = 119 := by
  have : ∀ o : Fin 12, ∀ b ∈ formOf o, b = 114 ∨ b = 97 ∨ b = 98 ∨ b = 103 ∨ b = 110 ∨ b = 115 ∨ b = 109 ∨ b = 119 := by decide +kernel
  exact this ⟨op, h⟩
theorem strs_tail {P : Program} {rows : Nm → Option Row} {t e : TypeId} {b : Bool} {x : ByteArray} {xs : List ByteArray} (hu : P.underlying t = some (.slice e)) (hs : tsz P e = some 1) : sliceA P rows t (strs b (x :: xs)) (some (.int .i64 1)) none false = some (strs b xs) := by
  unfold sliceA strs
  cases xs with
  | nil => simp [hu, hs, bnd]
  | cons y ys => simp [hu, hs, bnd, List.take_of_length_le]

/-- The shapes, as a tree. -/
def shapesV : AV := .tr false (shapeL.map fun x => [.str (bs x)])
theorem shapesV_eq : shapesV = strs false (shapeL.map bs) := by simp [shapesV, strs]
theorem implShapes : Pure Tryz.prog 80 [] shapesV := by
  intro T
  refine enter mixed ME4 Tryz.func80 rfl (by kernel_rfl) rfl ?_
  repeat' (first | (with_reducible first | refine stp ?_ | refine k_blk_o rfl ?_ | refine k_seq_n ?_) | ((try (conv => arg 1; simp [rg12, bs_mk])); with_reducible refine evp ?_) | fail)
  rw [shapesV_eq]
  exact dr_strs_sl (l := shapeL.map bs) (by simp [shapeL])

set_option maxHeartbeats 4000000 in
theorem partText (w : Word) (d : w.Txt) (b : UInt8) (hb : b = 114 ∨ b = 97 ∨ b = 98 ∨ b = 103 ∨ b = 110 ∨ b = 115 ∨ b = 109 ∨ b = 119) (hg : b = 103 → 0 ≤ w.N ∧ w.N ≤ 5) : Pure Tryz.prog 125 [.str (bs (shp b)), .agg w.cells] (.str (bs (partT w b))) := by
  intro T
  have KR := itoaB w.R d.r
  have KA := itoaB w.A d.a
  have KB := itoaB w.B d.b
  have KN := itoaB w.N d.n
  have KS := implSigns
  haveI := bd_dg d.r
  haveI := bd_dg d.a
  haveI := bd_dg d.b
  haveI := bd_dg d.n
  have hT : ¬ T = T + 1 + 1 := by omega
  have n1 : T < T + 1 + 1 + 1 := by omega
  have n2 : T < T + 1 + 1 + 1 + 1 := by omega
  have n3 : T < T + 1 + 1 + 1 + 1 + 1 := by omega
  have n4 : T < T + 1 + 1 + 1 + 1 + 1 + 1 := by omega
  have hco : w.cells = [.int .i64 w.Op, .int .i64 w.R, .int .i64 w.A, .int .i64 w.B, .int .i64 w.N] := rfl
  refine enter mixed ME4 Tryz.func125 rfl (by kernel_rfl) rfl ?_
  rcases hb with rfl | rfl | rfl | rfl | rfl | rfl | rfl | rfl
  case inr.inr.inr.inl =>
    obtain ⟨n, hn0, hn1⟩ : ∃ n : Nat, w.N = n ∧ n < 6 := ⟨w.N.toNat, by have := hg rfl; omega, by have := hg rfl; omega⟩
    have hsn := sign_get hn1
    have hn2 : n < signL.length := hn1
    have hse : signL[n] = signOf n := Option.some.inj ((List.getElem?_eq_getElem hn2).symm.trans hsn)
    repeat' (first | (with_reducible first | refine stp ?_ | refine k_blk_o rfl ?_ | refine k_seq_n ?_) | ((try (conv => arg 1; simp [hco, shp, bs_mk, bs_empty, bs_toList])); with_reducible refine evp ?_) | fail)
    repeat (with_reducible first | refine stp ?_ | refine k_seq_n ?_)
    refine st_draw 6 (fun _ => false) (by kernel_rfl) ?_
    simp only [List.take_succ_cons, List.take_zero, List.drop_succ_cons, List.drop_zero, List.take_nil, List.drop_nil]
    repeat' (first | (with_reducible first | refine stp ?_ | refine k_blk_o rfl ?_ | refine k_seq_n ?_) | ((try (conv => arg 1; simp [hco, hn0, strs, hse, hn2, maskR, tk_ne, n1, n2, n3, n4])); with_reducible refine evp ?_) | ((with_reducible refine apn ?na ?_); (case na => simp [appNames, ints, intss] <;> first | kernel_rfl | (refine ⟨?_, ?_⟩ <;> kernel_rfl))) | ((with_reducible refine tcl ?_); first | ((apply tg (KS)); (case e => rfl); (case d => (refine dq ?_); (repeat' (first | ((refine Da.mk ?_); first | assumption) | constructor))))) | fail)
    simp [partT, hn0]
    exact .str _
  all_goals
    repeat' (first | (with_reducible first | refine stp ?_ | refine k_blk_o rfl ?_ | refine k_seq_n ?_) | ((try (conv => arg 1; simp [hco, shp, bs_mk, bs_empty, bs_toList, cat_le, bs_app])); with_reducible refine evp ?_) | ((with_reducible refine apn ?na ?_); (case na => simp [appNames, ints, intss] <;> first | kernel_rfl | (refine ⟨?_, ?_⟩ <;> kernel_rfl))) | ((with_reducible refine tcl ?_); first | ((apply tg (KR)); (case e => rfl); (case d => (refine dq ?_); (repeat' (first | ((refine Da.mk ?_); first | assumption) | constructor)))) | ((apply tg (KA)); (case e => rfl); (case d => (refine dq ?_); (repeat' (first | ((refine Da.mk ?_); first | assumption) | constructor)))) | ((apply tg (KB)); (case e => rfl); (case d => (refine dq ?_); (repeat' (first | ((refine Da.mk ?_); first | assumption) | constructor)))) | ((apply tg (KN)); (case e => rfl); (case d => (refine dq ?_); (repeat' (first | ((refine Da.mk ?_); first | assumption) | constructor))))) | fail)
    simp [partT]
    exact .str _

set_option maxHeartbeats 4000000 in
theorem asmWord (w : Word) (d : w.Txt) : Pure Tryz.prog 86 [.agg w.cells] (.str (bs (wordT w))) := by
  intro T
  have hop := d.op
  obtain ⟨op, hop0, hop1⟩ : ∃ op : Nat, w.Op = op ∧ op < 12 := ⟨w.Op.toNat, by omega, by omega⟩
  have hto : w.Op.toNat = op := by omega
  have K0 := implShapes
  have K1 := splitP (shapeOf op) 32 (shape_len op hop1)
  rw [shape_spl op hop1, List.map_cons] at K1
  have hsn := shape_get hop1
  have hn2 : op < shapeL.length := hop1
  have hse : shapeL[op] = shapeOf op := Option.some.inj ((List.getElem?_eq_getElem hn2).symm.trans hsn)
  have n1 : T < T + 1 := by omega
  have hco : w.cells = [.int .i64 w.Op, .int .i64 w.R, .int .i64 w.A, .int .i64 w.B, .int .i64 w.N] := rfl
  have hcl : w.cells.length = 5 := rfl
  have htl := fun rows => strs_tail (P := Tryz.prog) (rows := rows) (t := 38) (e := 9) (b := false) (x := bs (nameOf op)) (xs := (formOf op).map (bs ∘ shp)) (by kernel_rfl) (by kernel_rfl)
  refine enter mixed ME4 Tryz.func86 rfl (by kernel_rfl) rfl ?_
  repeat' (first | (with_reducible first | refine stp ?_ | refine k_blk_o rfl ?_ | refine k_seq_n ?_) | ((try (conv => arg 1; simp [hco, bs_mk, bs_empty])); with_reducible refine evp ?_) | fail)
  repeat (with_reducible first | refine stp ?_ | refine k_seq_n ?_)
  refine st_draw 7 (fun _ => false) (by kernel_rfl) ?_
  simp only [List.take_succ_cons, List.take_zero, List.drop_succ_cons, List.drop_zero, List.take_nil, List.drop_nil]
  repeat' (first | (with_reducible first | refine stp ?_ | refine k_blk_o rfl ?_ | refine k_seq_n ?_) | ((try (conv => arg 1; simp [hco, hop0, shapesV, hse, hn2, maskR, tk_ne, n1, bs_mk])); with_reducible refine evp ?_) | ((with_reducible refine apn ?na ?_); (case na => simp [appNames, ints, intss] <;> first | kernel_rfl | (refine ⟨?_, ?_⟩ <;> kernel_rfl))) | ((with_reducible refine tcl ?_); first | ((apply tg (K0)); (case e => rfl); (case d => (refine dq ?_); (repeat' (first | ((refine Da.mk ?_); first | assumption) | constructor)))) | ((apply tg (K1)); (case e => rfl); (case d => (refine dq ?_); (repeat' (first | ((refine Da.mk ?_); first | assumption) | constructor))))) | fail)
  repeat' (first | (with_reducible first | refine stp ?_ | refine k_blk_o rfl ?_) | ((try (conv => arg 1; simp [strs, bs_mk])); with_reducible refine evp ?_) | ((with_reducible refine apn ?na ?_); (case na => simp [appNames, ints, intss] <;> first | kernel_rfl | (refine ⟨?_, ?_⟩ <;> kernel_rfl))) | fail)
  refine k_seq_n ?_
  repeat' (first | (with_reducible first | refine stp ?_ | refine k_blk_o rfl ?_ | refine k_seq_n ?_) | ((try (conv => arg 1; simp [hco, hop0, htl, bs_mk])); with_reducible refine evp ?_) | ((with_reducible refine apn ?na ?_); (case na => simp [appNames, ints, intss] <;> first | kernel_rfl | (refine ⟨?_, ?_⟩ <;> kernel_rfl))) | fail)
  have hgen : wordT w = lineT w (formOf op).length := by rw [← lineT_all, hto]
  refine st_loop (fun (i : Nat) σ h => i ≤ (formOf op).length ∧ σ 1 = .ptr (T, 0, 0) 0 0 0 ∧ h.rows (T, 0, 0) = some ⟨0, 5, [w.cells]⟩ ∧ σ 4 = .str (bs (lineT w i)) ∧ σ 17 = strs false ((formOf op).map (bs ∘ shp)) ∧ σ 18 = .int .i64 (formOf op).length ∧ σ 19 = .int .i64 i) (fun i => (formOf op).length - i) 0 ?init ?step
  case init =>
    exact ⟨Nat.zero_le _, by simp, by simp [hco, hop0], by simp [lineT_zero, hto], by simp, by simp, by simp⟩
  case step =>
    rintro i σ h ⟨hi, s1, hr, s4, s17, s18, s19⟩
    have hfl := form_len op
    by_cases hlt : i < (formOf op).length
    · have hm : (formOf op)[i] ∈ formOf op := List.getElem_mem hlt
      have hlt2 : (i : Int) < (formOf op).length := by omega
      have hw : IntKind.i64.wrap (i + 1) = i + 1 := wrap_id (by omega) (by omega)
      have hsucc : lineT w (i + 1) = lineT w i ++ 32 :: partT w (formOf op)[i] := by
        have := lineT_succ w (i := i) (by rw [hto]; exact hlt)
        simpa [hto] using this
      have hsg : (formOf op)[i] = 103 → 0 ≤ w.N ∧ w.N ≤ 5 := fun e => d.sg (by
        rw [e] at hm
        have := form_sign op hop1 hm
        omega)
      have KP := partText w d (formOf op)[i] (form_mem op hop1 _ hm) hsg
      haveI : Bd (lineT w i) 200 := ⟨lineT_len d i⟩
      haveI : Bd (partT w (formOf op)[i]) 21 := ⟨part_len d _⟩
      repeat' (first | (with_reducible first | refine stp ?_ | refine k_blk_o rfl ?_ | refine k_seq_n ?_) | ((try (conv => arg 1; simp [hco, hcl, strs, s1, hr, s4, s17, s18, s19, hlt, hlt2, hw, bs_mk, cat_le, bs_app])); with_reducible refine evp ?_) | ((with_reducible refine apn ?na ?_); (case na => simp [appNames, ints, intss] <;> first | kernel_rfl | (refine ⟨?_, ?_⟩ <;> kernel_rfl))) | ((with_reducible refine tcl ?_); first | ((apply tg (KP)); (case e => rfl); (case d => (refine dq ?_); (repeat' (first | ((refine Da.mk ?_); first | assumption) | constructor))))) | fail)
      refine k_lp_n (i + 1) (by omega) ⟨by omega, by simp [s1], by simp [hr, hco], by simp [hsucc], by simp [s17], by simp [s18], by simp⟩
    · have hge : i = (formOf op).length := by omega
      subst hge
      repeat' (first | (with_reducible first | refine stp ?_ | refine k_blk_o rfl ?_ | refine k_seq_n ?_) | ((try (conv => arg 1; simp [s1, s4, s17, s18, s19])); with_reducible refine evp ?_) | ((with_reducible refine apn ?na ?_); (case na => simp [appNames, ints, intss] <;> first | kernel_rfl | (refine ⟨?_, ?_⟩ <;> kernel_rfl))) | fail)
      rw [hgen]
      exact .str _
end Go.Proofs.YtmcmgeedhbgglaaGreatDoor.AM

namespace Go.Proofs.YtmcmgeedhbgglaaGreatDoor.AM
open Go.RowKit

private def ME23 : FuncId → Mode := fun f => .tree

/-- Parts of a line, read into a word. -/
def lineR : Word → List UInt8 → List (List UInt8) → Word × Bool
  | w, [], _ => (w, true)
  | w, b :: f, ps => if (oneR w b (ps.headD [])).2 = true then lineR (oneR w b (ps.headD [])).1 f ps.tail else ((oneR w b (ps.headD [])).1, false)
def opOk (ps : List (List UInt8)) (op : Nat) : Bool := (ps.headD [] == nameOf op) && decide (ps.length = (formOf op).length + 1)
def wordP (ps : List (List UInt8)) : Word × Bool := match (List.range 12).find? (opOk ps) with
  | some op => lineR ⟨op, 0, 0, 0, 0⟩ (formOf op) ps.tail
  | none => (⟨0, 0, 0, 0, 0⟩, false)
def wordR (line : List UInt8) : Word × Bool := wordP (spl 32 line)
theorem wordP_some {ps : List (List UInt8)} {op : Nat} (h : op < 12) (h1 : opOk ps op = true) (hn : ∀ j, j < op → opOk ps j = false) : wordP ps = lineR ⟨op, 0, 0, 0, 0⟩ (formOf op) ps.tail := by
  unfold wordP
  have : (List.range 12).find? (opOk ps) = some op := by
    rw [List.find?_range_eq_some]
    exact ⟨h1, by simpa using h, fun j hj => by simp [hn j hj]⟩
  rw [this]
theorem wordP_none {ps : List (List UInt8)} (hn : ∀ j, j < 12 → opOk ps j = false) : wordP ps = (⟨0, 0, 0, 0, 0⟩, false) := by
  unfold wordP
  have : (List.range 12).find? (opOk ps) = none := by
    rw [List.find?_range_eq_none]
    exact fun j hj => by simp [hn j hj]
  rw [this]
/-- Where a line's reading stands. -/
def lineS (w : Word) (ok : Bool) (f : List UInt8) (ps : List (List UInt8)) : Word × Bool := if ok = true then lineR w f ps else (w, false)
theorem lineS_end (w : Word) (ok : Bool) (ps : List (List UInt8)) : lineS w ok [] ps = (w, ok) := by
  cases ok <;> simp [lineS, lineR]
theorem lineS_false (w : Word) (f : List UInt8) (ps : List (List UInt8)) : lineS w false f ps = (w, false) := by simp [lineS]
theorem lineS_step (w : Word) (b : UInt8) (f : List UInt8) (p : List UInt8) (ps : List (List UInt8)) : lineS w true (b :: f) (p :: ps) = lineS (oneR w b p).1 (oneR w b p).2 f ps := by
  simp [lineS, lineR]
theorem cells5 (w : Word) : w.cells = [.int .i64 w.Op, .int .i64 w.R, .int .i64 w.A, .int .i64 w.B, .int .i64 w.N] := rfl

set_option maxHeartbeats 8000000 in
theorem l17Read (line : List UInt8) (hl : line.length ≤ 2 ^ 21) : Pure Tryz.prog 36 [.str (bs line)] (.tup [.agg (wordR line).1.cells, .bool (wordR line).2]) := by
  intro T
  have K0 := specWords line hl
  have hR : wordR line = wordP (spl 32 line) := rfl
  rw [hR]
  have x0 : Cx (Hp.mt T) [] [] := Cx.mt
  have y1 := x0.next.box_one (T := T) (i := 0) (r := ⟨0, 5, [[.int .i64 0, .int .i64 0, .int .i64 0, .int .i64 0, .int .i64 0]]⟩) x0.off (by simp)
  obtain ⟨p0, ps, hsp⟩ : ∃ p0 ps, spl 32 line = p0 :: ps := by
    cases h : spl 32 line with
    | nil => exact absurd h (spl_ne _ _)
    | cons p ps => exact ⟨p, ps, rfl⟩
  obtain ⟨hb1, hb2⟩ := spl_bound (c := 32) line
  rw [hsp] at K0 hb1 hb2 ⊢
  have hlen2 : ps.length ≤ 2 ^ 21 := by simp at hb1; omega
  refine enter mixed ME23 Tryz.func36 rfl (by kernel_rfl) rfl ?_
  repeat' (first | (with_reducible first | refine stp ?_ | refine k_blk_o rfl ?_ | refine k_seq_n ?_) | ((try (conv => arg 1; simp [bs_mk])); with_reducible refine evp ?_) | ((with_reducible refine tcl ?_); first | ((apply tg (K0)); (case e => rfl); (case d => (refine dq ?_); (repeat' (first | ((refine Da.mk ?_); first | assumption) | constructor))))) | fail)
  refine st_loop (fun (k : Nat) σ h => k ≤ 12 ∧ (∀ j, j < k → opOk (p0 :: ps) j = false) ∧ σ 2 = .ptr (T, 0, 0) 0 0 0 ∧ σ 4 = strs false ((p0 :: ps).map bs) ∧ σ 5 = .int .i64 k ∧ Cx h [((T, 0, 0), ⟨0, 5, [[.int .i64 0, .int .i64 0, .int .i64 0, .int .i64 0, .int .i64 0]]⟩)] []) (fun k => 12 - k) 0 ?init ?step
  case init =>
    exact ⟨by omega, fun j h => by omega, by simp, by simp, by simp, Cx.to y1⟩
  case step =>
    rintro k σ h ⟨hk, hn, s2, s4, s5, z⟩
    have b := z.bxs
    simp only [Bxs] at b
    by_cases hlt : k < 12
    · have hlt2 : (k : Int) ≤ 11 := by omega
      have hw : IntKind.i64.wrap (k + 1) = k + 1 := wrap_id (by omega) (by omega)
      have KF := l17Form k hlt
      have hfl := form_len k
      have hzf := bs_size (formOf k)
      have hw1 : IntKind.i64.wrap ((formOf k).length + 1) = ((formOf k).length : Int) + 1 := wrap_id (by omega) (by omega)
      cases hnm : p0 == nameOf k with
      | false =>
        have ho : opOk (p0 :: ps) k = false := by simp [opOk, hnm]
        repeat' (first | (with_reducible first | refine stp ?_ | refine k_blk_o rfl ?_ | refine k_seq_n ?_) | ((try (conv => arg 1; simp [strs, s2, s4, s5, hlt2, hnm, hw, bs_toList])); with_reducible refine evp ?_) | ((with_reducible refine tcl ?_); first | ((apply tg (KF)); (case e => rfl); (case d => (refine dq ?_); (repeat' (first | ((refine Da.mk ?_); first | assumption) | constructor))))) | fail)
        refine k_lp_n (k + 1) (by omega) ⟨by omega, fun j hj => ?_, by simp [s2], by simp [s4, strs], by simp, Cx.to z⟩
        by_cases e : j = k
        · subst e; exact ho
        · exact hn j (by omega)
      | true =>
        by_cases hc : ps.length = (formOf k).length
        · have ho : opOk (p0 :: ps) k = true := by simp [opOk, hnm, hc]
          have hwp := wordP_some hlt ho hn
          rw [hwp, List.tail_cons]
          have hc2 : (ps.length : Int) = (formOf k).length := by omega
          have y2 := z.next.next.next.next.box_new (T := h.tick + 1 + 1 + 1) (i := 2) (r := ⟨0, 5, [[.int .i64 0, .int .i64 0, .int .i64 0, .int .i64 0, .int .i64 0]]⟩) (r' := ⟨0, 5, [[.int .i64 k, .int .i64 0, .int .i64 0, .int .i64 0, .int .i64 0]]⟩) z.next.next.next.off (by simp)
          repeat' (first | (with_reducible first | refine stp ?_ | refine k_blk_o rfl ?_ | refine k_seq_n ?_) | ((try (conv => arg 1; simp [strs, s2, s4, s5, hlt2, hnm, hc2, hw, hw1, hzf, bs_toList])); with_reducible refine evp ?_) | ((with_reducible refine tcl ?_); first | ((apply tg (KF)); (case e => rfl); (case d => (refine dq ?_); (repeat' (first | ((refine Da.mk ?_); first | assumption) | constructor))))) | fail)
          have hzw : (⟨k, 0, 0, 0, 0⟩ : Word).cells = [.int .i64 k, .int .i64 0, .int .i64 0, .int .i64 0, .int .i64 0] := rfl
          generalize hn8 : h.tick + 1 + 1 + 1 = t8 at *
          refine st_loop (fun (i : Nat) σ h' => ∃ (w : Word) (ok : Bool), i ≤ (formOf k).length ∧ lineR ⟨k, 0, 0, 0, 0⟩ (formOf k) ps = lineS w ok ((formOf k).drop i) (ps.drop i) ∧ σ 2 = .ptr (T, 0, 0) 0 0 0 ∧ σ 4 = strs false ((p0 :: ps).map bs) ∧ σ 7 = .str (bs (formOf k)) ∧ σ 8 = .ptr (t8, 2, 0) 0 0 0 ∧ σ 9 = .bool ok ∧ σ 10 = .int .i64 i ∧
            Cx h' [((t8, 2, 0), ⟨0, 5, [w.cells]⟩), ((T, 0, 0), ⟨0, 5, [[.int .i64 0, .int .i64 0, .int .i64 0, .int .i64 0, .int .i64 0]]⟩)] []) (fun i => (formOf k).length - i) 0 ?init3 ?step3
          case init3 =>
            exact ⟨⟨k, 0, 0, 0, 0⟩, true, Nat.zero_le _, by simp [lineS], by simp [s2], by simp [s4, strs], by simp, by simp, by simp, by simp, by rw [hzw]; exact Cx.to y2⟩
          case step3 =>
            clear y2 z b s2 s4 s5 hn8
            rintro i σ h ⟨w, ok, hi, hL, s2, s4, s7, s8, s9, s10, z⟩
            have b := z.bxs
            simp only [Bxs] at b
            have hcw := cells5 w
            have hcl : w.cells.length = 5 := rfl
            have b1 := b.1
            have fin : ∀ q : Bool, lineR ⟨k, 0, 0, 0, 0⟩ (formOf k) ps = (w, q) → q = ok → True := fun _ _ _ => trivial
            have n4 : t8 < h.tick + 1 + 1 := Nat.lt_of_lt_of_le b.2.1 (by omega)
            by_cases hlt3 : i < (formOf k).length
            · have hlt4 : (i : Int) < (formOf k).length := by omega
              have hip : i < ps.length := by omega
              have hw3 : IntKind.i64.wrap (i + 1) = i + 1 := wrap_id (by omega) (by omega)
              cases ok with
              | true =>
                have hbm : (formOf k)[i] ∈ formOf k := List.getElem_mem hlt3
                have K1 := l17One w (formOf k)[i] ps[i] (by have := hb2 ps[i] (by simp); omega)
                rw [List.drop_eq_getElem_cons hlt3, List.drop_eq_getElem_cons hip, lineS_step] at hL
                have hps : ps[i]? = some ps[i] := by simp
                have hlt5 : i < ps.length := hip
                have h01 : (0 : Int) ≤ (i : Int) + 1 := by omega
                have ht1 : ((i : Int) + 1).toNat = i + 1 := by omega
                rw [hcw] at b1 K1
                generalize oneR w (formOf k)[i] ps[i] = o at K1 hL
                obtain ⟨w', ok'⟩ := o
                dsimp only at K1 hL
                have hcw' := cells5 w'
                rw [hcw'] at K1
                repeat' (first | (with_reducible first | refine stp ?_ | refine k_blk_o rfl ?_ | refine k_seq_n ?_) | ((try (conv => arg 1; simp [s2, s4, s7, s8, s9, s10, hlt3, hlt4, hzf, b1])); with_reducible refine evp ?_) | fail)
                repeat (with_reducible first | refine stp ?_ | refine k_seq_n ?_)
                refine st_lz (by kernel_rfl) ?_
                have hF := And.intro s2 (And.intro s4 (And.intro s7 (And.intro s8 (And.intro s9 (And.intro s10 (And.intro hlt3 (And.intro hlt4 (And.intro hlt5 (And.intro h01 (And.intro ht1 (And.intro hps (And.intro hzf (And.intro hw3 (And.intro b1 (And.intro b.2.1 n4)))))))))))))))
                repeat' (first | (with_reducible first | refine stp ?_ | refine k_blk_o rfl ?_) | ((try (conv => arg 1; simp [strs, ltS, nm_ne, bs_getE, hF])); with_reducible refine evp ?_) | ((with_reducible refine tcl ?_); first | ((apply tg (K1)); (case e => rfl); (case d => (refine dq ?_); (repeat' (first | ((refine Da.mk ?_); first | assumption) | constructor))))) | ((with_reducible refine la_id ?_); refine la_end rfl ?_; (repeat (first | refine pl_nil ?_ | refine pl_cons ?_))) | ((with_reducible refine la_id ?_); refine la_pick ?_; (conv => arg 1; whnf); (repeat ((fail_if_success (first | ((refine la_q0 rfl ?_); (try (conv => arg 1; simp [strs, ltS, nm_ne, bs_getE, hF])); with_reducible refine evp ?_) | ((refine la_n rfl rfl ?_); (try (conv => arg 1; simp [strs, ltS, nm_ne, bs_getE, hF])); with_reducible refine evp ?_) | ((refine la_q2 rfl (by decide +kernel) ?_); (repeat (first | refine bk_nil ?_ | refine bk_t (by decide +kernel) ?_ | refine bk_f (by decide +kernel) ?_)); (try (conv => arg 1; simp [strs, ltS, nm_ne, bs_getE, hF])); with_reducible refine evp ?_) | ((refine la_q1 rfl (by decide +kernel) ?_); (try (conv => arg 1; simp [strs, ltS, nm_ne, bs_getE, hF])); with_reducible refine evp ?_) | ((refine la_g0 rfl ?_); (try (conv => arg 1; simp [strs, ltS, nm_ne, bs_getE, hF])); with_reducible refine evp ?_; (with_reducible refine evp ?_); try ((try (conv => arg 1; simp [strs, ltS, nm_ne, bs_getE, hF])); with_reducible refine evp ?_)))); (refine la_there ?_); (conv => arg 1; whnf))); first | ((refine la_q0 rfl ?_); (try (conv => arg 1; simp [strs, ltS, nm_ne, bs_getE, hF])); with_reducible refine evp ?_) | ((refine la_n rfl rfl ?_); (try (conv => arg 1; simp [strs, ltS, nm_ne, bs_getE, hF])); with_reducible refine evp ?_) | ((refine la_q2 rfl (by decide +kernel) ?_); (repeat (first | refine bk_nil ?_ | refine bk_t (by decide +kernel) ?_ | refine bk_f (by decide +kernel) ?_)); (try (conv => arg 1; simp [strs, ltS, nm_ne, bs_getE, hF])); with_reducible refine evp ?_) | ((refine la_q1 rfl (by decide +kernel) ?_); (try (conv => arg 1; simp [strs, ltS, nm_ne, bs_getE, hF])); with_reducible refine evp ?_) | ((refine la_g0 rfl ?_); (try (conv => arg 1; simp [strs, ltS, nm_ne, bs_getE, hF])); with_reducible refine evp ?_; (with_reducible refine evp ?_); try ((try (conv => arg 1; simp [strs, ltS, nm_ne, bs_getE, hF])); with_reducible refine evp ?_))) | ((with_reducible refine la_id ?_); refine la_all rfl ?_) | ((with_reducible refine all_id ?_); (conv => arg 1; whnf); first | exact all_nil | refine all_cons ?_ ?_) | (refine la_op rfl (by first | exact frm_s (by decide +kernel) | exact frm_a (by repeat' (first | exact fa_nil | refine fa_cons (by decide +kernel) ?_))) (by intro hq; first | exact trivial | (cases hq; done) | simp [appT, strs, ltS, nm_ne, bs_getE, hF]) ?_; (repeat (first | refine bk_nil ?_ | refine bk_t (by decide +kernel) ?_ | refine bk_f (by decide +kernel) ?_))) | fail)
                repeat' (first | (with_reducible first | refine stp ?_ | refine k_blk_o rfl ?_ | refine k_seq_n ?_) | ((try (conv => arg 1; simp [s2, s4, s7, s8, s9, s10, hw3])); with_reducible refine evp ?_) | fail)
                refine k_lp_n (i + 1) (by omega) ⟨w', ok', by omega, hL, by simp [s2], by simp [s4, strs], by simp [s7], by simp [s8], by simp, by simp, by rw [hcw']; exact Cx.to z⟩
              | false =>
                rw [lineS_false] at hL
                rw [hL]
                rw [hcw] at b1
                repeat' (first | (with_reducible first | refine stp ?_ | refine k_blk_o rfl ?_ | refine k_seq_n ?_) | ((try (conv => arg 1; simp [s2, s4, s7, s8, s9, s10, hlt4, hzf, b1, b.2.1, b.2.2.1, b.2.2.2.1, ltS, nm_ne, hcw])); with_reducible refine evp ?_) | fail)
                exact dr_tup2 (dr_agg (.cons (.int _ _) (.cons (.int _ _) (.cons (.int _ _) (.cons (.int _ _) (.cons (.int _ _) .nil)))))) (.bool _)
            · have hge : i = (formOf k).length := by omega
              subst hge
              rw [List.drop_length, lineS_end] at hL
              rw [hL]
              rw [hcw] at b1
              repeat' (first | (with_reducible first | refine stp ?_ | refine k_blk_o rfl ?_ | refine k_seq_n ?_) | ((try (conv => arg 1; simp [s2, s4, s7, s8, s9, s10, hzf, b1, b.2.1, b.2.2.1, b.2.2.2.1, ltS, nm_ne, hcw])); with_reducible refine evp ?_) | fail)
              exact dr_tup2 (dr_agg (.cons (.int _ _) (.cons (.int _ _) (.cons (.int _ _) (.cons (.int _ _) (.cons (.int _ _) .nil)))))) (.bool _)
        · have ho : opOk (p0 :: ps) k = false := by simp [opOk, hnm, hc]
          have hc2 : ¬ (ps.length : Int) = (formOf k).length := by omega
          repeat' (first | (with_reducible first | refine stp ?_ | refine k_blk_o rfl ?_ | refine k_seq_n ?_) | ((try (conv => arg 1; simp [strs, s2, s4, s5, hlt2, hnm, hc2, hw, hw1, hzf, bs_toList])); with_reducible refine evp ?_) | ((with_reducible refine tcl ?_); first | ((apply tg (KF)); (case e => rfl); (case d => (refine dq ?_); (repeat' (first | ((refine Da.mk ?_); first | assumption) | constructor))))) | fail)
          refine k_lp_n (k + 1) (by omega) ⟨by omega, fun j hj => ?_, by simp [s2], by simp [s4, strs], by simp, Cx.to z⟩
          by_cases e : j = k
          · subst e; exact ho
          · exact hn j (by omega)
    · have hge : k = 12 := by omega
      subst hge
      rw [wordP_none fun j hj => hn j hj]
      repeat' (first | (with_reducible first | refine stp ?_ | refine k_blk_o rfl ?_ | refine k_seq_n ?_) | ((try (conv => arg 1; simp [s2, s4, s5, b, ltS, nm_ne])); with_reducible refine evp ?_) | fail)
      exact dr_tup2 (dr_agg (.cons (.int _ _) (.cons (.int _ _) (.cons (.int _ _) (.cons (.int _ _) (.cons (.int _ _) .nil)))))) (.bool _)
end Go.Proofs.YtmcmgeedhbgglaaGreatDoor.AM

namespace Go.Proofs.YtmcmgeedhbgglaaGreatDoor.AM
open Go.RowKit

private def ME30 : FuncId → Mode := fun f => .tree

/-- What stands behind a head. -/
def cutP (s p : List UInt8) : List UInt8 × Bool := if p.length ≤ s.length ∧ s.take p.length = p then (s.drop p.length, true) else (s, false)
theorem hasPrefix (s p : List UInt8) : Pure Tryz.prog 136 [.str (bs s), .str (bs p)] (.bool (cutP s p).2) := by
  intro T
  have hs := bs_size s
  have hp := bs_size p
  refine enter mixed ME30 Tryz.func136 rfl (by kernel_rfl) rfl ?_
  by_cases h1 : p.length ≤ s.length
  · have h1i : (p.length : Int) ≤ s.length := by omega
    have hsl : ∀ rows, sliceA Tryz.prog rows 9 (.str (bs s)) none (some (.int .i64 p.length)) false = some (.str (bs (s.take p.length))) := fun rows => by
      rw [slice_to und_9 (by omega) (by omega)]
      simp
    by_cases h2 : s.take p.length = p
    · have hb : (s.take p.length == p) = true := by simp [h2]
      have hR : (cutP s p).2 = true := by unfold cutP; rw [if_pos ⟨h1, h2⟩]
      rw [hR]
      repeat' (first | (with_reducible first | refine stp ?_ | refine k_blk_o rfl ?_ | refine k_seq_n ?_) | ((try (conv => arg 1; simp [hs, hp, h1i, h1, hsl, hb, bs_toList])); with_reducible refine evp ?_) | fail)
      exact .bool _
    · have hb : (s.take p.length == p) = false := by simp [h2]
      have hR : (cutP s p).2 = false := by unfold cutP; rw [if_neg (fun h => h2 h.2)]
      rw [hR]
      repeat' (first | (with_reducible first | refine stp ?_ | refine k_blk_o rfl ?_ | refine k_seq_n ?_) | ((try (conv => arg 1; simp [hs, hp, h1i, h1, hsl, hb, bs_toList])); with_reducible refine evp ?_) | fail)
      exact .bool _
  · have h1i : ¬ (p.length : Int) ≤ s.length := by omega
    have hR : (cutP s p).2 = false := by unfold cutP; rw [if_neg (fun h => h1 h.1)]
    rw [hR]
    repeat' (first | (with_reducible first | refine stp ?_ | refine k_blk_o rfl ?_ | refine k_seq_n ?_) | ((try (conv => arg 1; simp [hs, hp, h1i, h1])); with_reducible refine evp ?_) | fail)
    exact .bool _
theorem cutPrefix' (s p : List UInt8) : Pure Tryz.prog 149 [.str (bs s), .str (bs p)] (.tup [.str (bs (cutP s p).1), .bool (cutP s p).2]) := by
  intro T
  have hp := bs_size p
  have K := hasPrefix s p
  refine enter mixed ME30 Tryz.func149 rfl (by kernel_rfl) rfl ?_
  by_cases h : p.length ≤ s.length ∧ s.take p.length = p
  · have hR : cutP s p = (s.drop p.length, true) := by unfold cutP; rw [if_pos h]
    have hsl : ∀ rows, sliceA Tryz.prog rows 9 (.str (bs s)) (some (.int .i64 p.length)) none false = some (.str (bs (s.drop p.length))) := fun rows => by
      rw [slice_fr und_9 (by omega) (by omega)]
      simp
    rw [hR] at K ⊢
    repeat' (first | (with_reducible first | refine stp ?_ | refine k_blk_o rfl ?_ | refine k_seq_n ?_) | ((try (conv => arg 1; simp [hp, hsl])); with_reducible refine evp ?_) | ((with_reducible refine tcl ?_); first | ((apply tg (K)); (case e => rfl); (case d => (refine dq ?_); (repeat' (first | ((refine Da.mk ?_); first | assumption) | constructor))))) | fail)
    exact dr_tup2 (.str _) (.bool _)
  · have hR : cutP s p = (s, false) := by unfold cutP; rw [if_neg h]
    rw [hR] at K ⊢
    repeat' (first | (with_reducible first | refine stp ?_ | refine k_blk_o rfl ?_ | refine k_seq_n ?_) | ((try (conv => arg 1; simp [hp])); with_reducible refine evp ?_) | ((with_reducible refine tcl ?_); first | ((apply tg (K)); (case e => rfl); (case d => (refine dq ?_); (repeat' (first | ((refine Da.mk ?_); first | assumption) | constructor))))) | fail)
    exact dr_tup2 (.str _) (.bool _)
theorem cutPrefix (s p : List UInt8) : Pure Tryz.prog 121 [.str (bs s), .str (bs p)] (.tup [.str (bs (cutP s p).1), .bool (cutP s p).2]) := by
  intro T
  have K := cutPrefix' s p
  refine enter mixed ME30 Tryz.func121 rfl (by kernel_rfl) rfl ?_
  repeat' (first | (with_reducible first | refine stp ?_ | refine k_blk_o rfl ?_ | refine k_seq_n ?_) | ((try (conv => arg 1; simp [bs_mk])); with_reducible refine evp ?_) | ((with_reducible refine tcl ?_); first | ((apply tg (K)); (case e => rfl); (case d => (refine dq ?_); (repeat' (first | ((refine Da.mk ?_); first | assumption) | constructor))))) | fail)
  exact dr_tup2 (.str _) (.bool _)
theorem cutP_nil (s : List UInt8) : cutP s [] = (s, true) := by simp [cutP]
theorem cutP_hit (c : UInt8) (r : List UInt8) : cutP (c :: r) [c] = (r, true) := by simp [cutP]
theorem cutP_miss {c : UInt8} {s : List UInt8} (h : ∀ r, ¬ s = c :: r) : cutP s [c] = (s, false) := by
  unfold cutP
  rw [if_neg]
  rintro ⟨h1, h2⟩
  cases s with
  | nil => simp at h1
  | cons x r => simp at h2; subst h2; exact h r rfl

set_option maxHeartbeats 1000000 in
theorem indexT (L : List (List UInt8)) (s : List UInt8) (hl : L.length ≤ 2 ^ 40) : Pure Tryz.prog 119 [strs true (L.map bs), .str (bs s)] (.int .i64 (findI L s)) := by
  intro T
  refine enter mixed ME30 Tryz.func119 rfl (by kernel_rfl) rfl ?_
  repeat' (first | (with_reducible first | refine stp ?_ | refine k_blk_o rfl ?_ | refine k_seq_n ?_) | ((try (conv => arg 1; simp [bs_mk])); with_reducible refine evp ?_) | fail)
  refine st_loop (fun (i : Nat) σ h => i ≤ L.length ∧ (∀ j (hj : j < L.length), j < i → ¬ L[j] = s) ∧ σ 0 = strs true (L.map bs) ∧ σ 1 = .str (bs s) ∧ σ 7 = .int .i64 L.length ∧ σ 8 = .int .i64 i) (fun i => L.length - i) 0 ?init ?step
  case init =>
    exact ⟨Nat.zero_le _, fun j _ h => by omega, by simp, by simp, by simp, by simp⟩
  case step =>
    rintro i σ h ⟨hi, hn, s0, s1, s7, s8⟩
    by_cases hlt : i < L.length
    · have hlt2 : (i : Int) < L.length := by omega
      have hw : IntKind.i64.wrap (i + 1) = i + 1 := wrap_id (by omega) (by omega)
      by_cases he : L[i] = s
      · have hR := findI_some hlt he hn
        have heb : (s == L[i]) = true := by simp [he]
        repeat' (first | (with_reducible first | refine stp ?_ | refine k_blk_o rfl ?_ | refine k_seq_n ?_) | ((try (conv => arg 1; simp [strs, s0, s1, s7, s8, hlt, hlt2, heb, bs_toList])); with_reducible refine evp ?_) | fail)
        rw [hR]
        exact .int _ _
      · have heb : (s == L[i]) = false := beq_false_of_ne fun h => he h.symm
        repeat' (first | (with_reducible first | refine stp ?_ | refine k_blk_o rfl ?_ | refine k_seq_n ?_) | ((try (conv => arg 1; simp [strs, s0, s1, s7, s8, hlt, hlt2, heb, hw, bs_toList])); with_reducible refine evp ?_) | fail)
        refine k_lp_n (i + 1) (by omega) ⟨by omega, fun j hj hji => ?_, by simp [s0, strs], by simp [s1], by simp [s7], by simp⟩
        by_cases e : j = i
        · subst e; exact he
        · exact hn j hj (by omega)
    · have hge : i = L.length := by omega
      subst hge
      have hR := findI_none fun j hj => hn j hj hj
      repeat' (first | (with_reducible first | refine stp ?_ | refine k_blk_o rfl ?_ | refine k_seq_n ?_) | ((try (conv => arg 1; simp [strs, s0, s1, s7, s8])); with_reducible refine evp ?_) | fail)
      rw [hR]
      exact .int _ _
end Go.Proofs.YtmcmgeedhbgglaaGreatDoor.AM

namespace Go.Proofs.YtmcmgeedhbgglaaGreatDoor.AM
open Go.RowKit

private def ME31 : FuncId → Mode := fun f => .tree

set_option maxHeartbeats 16000000 in
theorem readPart (w : Word) (b : UInt8) (s : List UInt8) (hl : s.length ≤ 2 ^ 40) (hb : b = 114 ∨ b = 97 ∨ b = 98 ∨ b = 103 ∨ b = 110 ∨ b = 115 ∨ b = 109 ∨ b = 119) {h : Hp} {bs1 : Bx} {os : Ox} {n : Nm} (z : Cx h ((n, ⟨0, 5, [w.cells]⟩) :: bs1) os) :
    Sound Tryz.prog 81 [.str (bs (shp b)), .str (bs s), .ptr n 0 0 0] h fun v h' => v = .bool (oneR w b s).2 ∧ h.tick ≤ h'.tick ∧ ∃ w' : Word, ((oneR w b s).2 = true → w' = (oneR w b s).1) ∧ Cx h' ((n, ⟨0, 5, [w'.cells]⟩) :: bs1) os := by
  have KI := indexT signL s (by decide)
  have KS := implSigns
  have b1 := z.bxs
  simp only [Bxs] at b1
  have n4 : n.1 < h.tick + 1 + 1 + 1 + 1 := by have := b1.2.1; omega
  have n5 : n.1 < h.tick + 1 + 1 + 1 + 1 + 1 := by have := b1.2.1; omega
  have n6 : n.1 < h.tick + 1 + 1 + 1 + 1 + 1 + 1 := by have := b1.2.1; omega
  obtain ⟨Op, R, A, B, N⟩ := w
  refine enter mixed ME31 Tryz.func81 rfl (by kernel_rfl) rfl ?_
  rcases hb with rfl | rfl | rfl | rfl | rfl | rfl | rfl | rfl
  case inr.inr.inr.inl =>
    repeat' (first | (with_reducible first | refine stp ?_ | refine k_blk_o rfl ?_ | refine k_seq_n ?_) | ((try (conv => arg 1; simp [shp, Word.cells, b1, n4, n5, n6, bs_mk, bs_empty, bs_toList])); with_reducible refine evp ?_) | ((with_reducible refine tcl ?_); first | ((apply tg (KS)); (case e => rfl); (case d => (refine dq ?_); (repeat' (first | ((refine Da.mk ?_); first | exact dr_strs (by simp) _ | assumption) | constructor)))) | ((apply tg (KI)); (case e => rfl); (case d => (refine dq ?_); (repeat' (first | ((refine Da.mk ?_); first | exact dr_strs (by simp) _ | assumption) | constructor))))) | fail)
    exact ⟨by simp [resV, oneR], by simp; omega, ⟨Op, R, A, B, findI signL s⟩, fun _ => by simp [oneR], Cx.to z⟩
  case inl =>
    by_cases hx : ∃ r, s = 114 :: r
    · obtain ⟨r, rfl⟩ := hx
      have KC := cutPrefix (114 :: r) [114]
      rw [cutP_hit] at KC
      have KN := implReadNum r (by simp at hl; omega)
      repeat' (first | (with_reducible first | refine stp ?_ | refine k_blk_o rfl ?_ | refine k_seq_n ?_) | ((try (conv => arg 1; simp [shp, Word.cells, b1, n4, n5, n6, bs_mk, bs_empty, bs_toList])); with_reducible refine evp ?_) | ((with_reducible refine tcl ?_); first | ((apply tg (KC)); (case e => rfl); (case d => (refine dq ?_); (repeat' (first | ((refine Da.mk ?_); first | assumption) | constructor)))) | ((apply tg (KN)); (case e => rfl); (case d => (refine dq ?_); (repeat' (first | ((refine Da.mk ?_); first | assumption) | constructor))))) | fail)
      exact ⟨by simp [resV, oneR, npR], by simp; omega, ⟨Op, (readR r).1, A, B, N⟩, fun _ => by simp [oneR, npR], Cx.to z⟩
    · have KC := cutPrefix s [114]
      rw [cutP_miss fun r hr => hx ⟨r, hr⟩] at KC
      have KN := implReadNum s hl
      have hnp : npR 114 s = (0, false) := by
        unfold npR
        split
        · rfl
        · rename_i x r
          rw [if_neg (fun e => hx ⟨r, by rw [e]⟩)]
      repeat' (first | (with_reducible first | refine stp ?_ | refine k_blk_o rfl ?_ | refine k_seq_n ?_) | ((try (conv => arg 1; simp [shp, Word.cells, b1, n4, n5, n6, bs_mk, bs_empty, bs_toList])); with_reducible refine evp ?_) | ((with_reducible refine tcl ?_); first | ((apply tg (KC)); (case e => rfl); (case d => (refine dq ?_); (repeat' (first | ((refine Da.mk ?_); first | assumption) | constructor)))) | ((apply tg (KN)); (case e => rfl); (case d => (refine dq ?_); (repeat' (first | ((refine Da.mk ?_); first | assumption) | constructor))))) | fail)
      exact ⟨by simp [resV, oneR, hnp], by simp; omega, ⟨Op, (readR s).1, A, B, N⟩, fun hq => by simp [oneR, hnp] at hq, Cx.to z⟩
  case inr.inl =>
    by_cases hx : ∃ r, s = 114 :: r
    · obtain ⟨r, rfl⟩ := hx
      have KC := cutPrefix (114 :: r) [114]
      rw [cutP_hit] at KC
      have KN := implReadNum r (by simp at hl; omega)
      repeat' (first | (with_reducible first | refine stp ?_ | refine k_blk_o rfl ?_ | refine k_seq_n ?_) | ((try (conv => arg 1; simp [shp, Word.cells, b1, n4, n5, n6, bs_mk, bs_empty, bs_toList])); with_reducible refine evp ?_) | ((with_reducible refine tcl ?_); first | ((apply tg (KC)); (case e => rfl); (case d => (refine dq ?_); (repeat' (first | ((refine Da.mk ?_); first | assumption) | constructor)))) | ((apply tg (KN)); (case e => rfl); (case d => (refine dq ?_); (repeat' (first | ((refine Da.mk ?_); first | assumption) | constructor))))) | fail)
      exact ⟨by simp [resV, oneR, npR], by simp; omega, ⟨Op, R, (readR r).1, B, N⟩, fun _ => by simp [oneR, npR], Cx.to z⟩
    · have KC := cutPrefix s [114]
      rw [cutP_miss fun r hr => hx ⟨r, hr⟩] at KC
      have KN := implReadNum s hl
      have hnp : npR 114 s = (0, false) := by
        unfold npR
        split
        · rfl
        · rename_i x r
          rw [if_neg (fun e => hx ⟨r, by rw [e]⟩)]
      repeat' (first | (with_reducible first | refine stp ?_ | refine k_blk_o rfl ?_ | refine k_seq_n ?_) | ((try (conv => arg 1; simp [shp, Word.cells, b1, n4, n5, n6, bs_mk, bs_empty, bs_toList])); with_reducible refine evp ?_) | ((with_reducible refine tcl ?_); first | ((apply tg (KC)); (case e => rfl); (case d => (refine dq ?_); (repeat' (first | ((refine Da.mk ?_); first | assumption) | constructor)))) | ((apply tg (KN)); (case e => rfl); (case d => (refine dq ?_); (repeat' (first | ((refine Da.mk ?_); first | assumption) | constructor))))) | fail)
      exact ⟨by simp [resV, oneR, hnp], by simp; omega, ⟨Op, R, (readR s).1, B, N⟩, fun hq => by simp [oneR, hnp] at hq, Cx.to z⟩
  case inr.inr.inl =>
    by_cases hx : ∃ r, s = 114 :: r
    · obtain ⟨r, rfl⟩ := hx
      have KC := cutPrefix (114 :: r) [114]
      rw [cutP_hit] at KC
      have KN := implReadNum r (by simp at hl; omega)
      repeat' (first | (with_reducible first | refine stp ?_ | refine k_blk_o rfl ?_ | refine k_seq_n ?_) | ((try (conv => arg 1; simp [shp, Word.cells, b1, n4, n5, n6, bs_mk, bs_empty, bs_toList])); with_reducible refine evp ?_) | ((with_reducible refine tcl ?_); first | ((apply tg (KC)); (case e => rfl); (case d => (refine dq ?_); (repeat' (first | ((refine Da.mk ?_); first | assumption) | constructor)))) | ((apply tg (KN)); (case e => rfl); (case d => (refine dq ?_); (repeat' (first | ((refine Da.mk ?_); first | assumption) | constructor))))) | fail)
      exact ⟨by simp [resV, oneR, npR], by simp; omega, ⟨Op, R, A, (readR r).1, N⟩, fun _ => by simp [oneR, npR], Cx.to z⟩
    · have KC := cutPrefix s [114]
      rw [cutP_miss fun r hr => hx ⟨r, hr⟩] at KC
      have KN := implReadNum s hl
      have hnp : npR 114 s = (0, false) := by
        unfold npR
        split
        · rfl
        · rename_i x r
          rw [if_neg (fun e => hx ⟨r, by rw [e]⟩)]
      repeat' (first | (with_reducible first | refine stp ?_ | refine k_blk_o rfl ?_ | refine k_seq_n ?_) | ((try (conv => arg 1; simp [shp, Word.cells, b1, n4, n5, n6, bs_mk, bs_empty, bs_toList])); with_reducible refine evp ?_) | ((with_reducible refine tcl ?_); first | ((apply tg (KC)); (case e => rfl); (case d => (refine dq ?_); (repeat' (first | ((refine Da.mk ?_); first | assumption) | constructor)))) | ((apply tg (KN)); (case e => rfl); (case d => (refine dq ?_); (repeat' (first | ((refine Da.mk ?_); first | assumption) | constructor))))) | fail)
      exact ⟨by simp [resV, oneR, hnp], by simp; omega, ⟨Op, R, A, (readR s).1, N⟩, fun hq => by simp [oneR, hnp] at hq, Cx.to z⟩
  case inr.inr.inr.inr.inl =>
    have KC := cutPrefix s []
    rw [cutP_nil] at KC
    have KN := implReadNum s hl
    repeat' (first | (with_reducible first | refine stp ?_ | refine k_blk_o rfl ?_ | refine k_seq_n ?_) | ((try (conv => arg 1; simp [shp, Word.cells, b1, n4, n5, n6, bs_mk, bs_empty, bs_toList])); with_reducible refine evp ?_) | ((with_reducible refine tcl ?_); first | ((apply tg (KC)); (case e => rfl); (case d => (refine dq ?_); (repeat' (first | ((refine Da.mk ?_); first | assumption) | constructor)))) | ((apply tg (KN)); (case e => rfl); (case d => (refine dq ?_); (repeat' (first | ((refine Da.mk ?_); first | assumption) | constructor))))) | fail)
    exact ⟨by simp [resV, oneR], by simp; omega, ⟨Op, R, A, B, (readR s).1⟩, fun _ => by simp [oneR], Cx.to z⟩
  case inr.inr.inr.inr.inr.inl =>
    by_cases hx : ∃ r, s = 115 :: r
    · obtain ⟨r, rfl⟩ := hx
      have KC := cutPrefix (115 :: r) [115]
      rw [cutP_hit] at KC
      have KN := implReadNum r (by simp at hl; omega)
      repeat' (first | (with_reducible first | refine stp ?_ | refine k_blk_o rfl ?_ | refine k_seq_n ?_) | ((try (conv => arg 1; simp [shp, Word.cells, b1, n4, n5, n6, bs_mk, bs_empty, bs_toList])); with_reducible refine evp ?_) | ((with_reducible refine tcl ?_); first | ((apply tg (KC)); (case e => rfl); (case d => (refine dq ?_); (repeat' (first | ((refine Da.mk ?_); first | assumption) | constructor)))) | ((apply tg (KN)); (case e => rfl); (case d => (refine dq ?_); (repeat' (first | ((refine Da.mk ?_); first | assumption) | constructor))))) | fail)
      exact ⟨by simp [resV, oneR, npR], by simp; omega, ⟨Op, R, A, B, (readR r).1⟩, fun _ => by simp [oneR, npR], Cx.to z⟩
    · have KC := cutPrefix s [115]
      rw [cutP_miss fun r hr => hx ⟨r, hr⟩] at KC
      have KN := implReadNum s hl
      have hnp : npR 115 s = (0, false) := by
        unfold npR
        split
        · rfl
        · rename_i x r
          rw [if_neg (fun e => hx ⟨r, by rw [e]⟩)]
      repeat' (first | (with_reducible first | refine stp ?_ | refine k_blk_o rfl ?_ | refine k_seq_n ?_) | ((try (conv => arg 1; simp [shp, Word.cells, b1, n4, n5, n6, bs_mk, bs_empty, bs_toList])); with_reducible refine evp ?_) | ((with_reducible refine tcl ?_); first | ((apply tg (KC)); (case e => rfl); (case d => (refine dq ?_); (repeat' (first | ((refine Da.mk ?_); first | assumption) | constructor)))) | ((apply tg (KN)); (case e => rfl); (case d => (refine dq ?_); (repeat' (first | ((refine Da.mk ?_); first | assumption) | constructor))))) | fail)
      exact ⟨by simp [resV, oneR, hnp], by simp; omega, ⟨Op, R, A, B, (readR s).1⟩, fun hq => by simp [oneR, hnp] at hq, Cx.to z⟩
  case inr.inr.inr.inr.inr.inr.inl =>
    by_cases hx : ∃ r, s = 109 :: r
    · obtain ⟨r, rfl⟩ := hx
      have KC := cutPrefix (109 :: r) [109]
      rw [cutP_hit] at KC
      have KN := implReadNum r (by simp at hl; omega)
      repeat' (first | (with_reducible first | refine stp ?_ | refine k_blk_o rfl ?_ | refine k_seq_n ?_) | ((try (conv => arg 1; simp [shp, Word.cells, b1, n4, n5, n6, bs_mk, bs_empty, bs_toList])); with_reducible refine evp ?_) | ((with_reducible refine tcl ?_); first | ((apply tg (KC)); (case e => rfl); (case d => (refine dq ?_); (repeat' (first | ((refine Da.mk ?_); first | assumption) | constructor)))) | ((apply tg (KN)); (case e => rfl); (case d => (refine dq ?_); (repeat' (first | ((refine Da.mk ?_); first | assumption) | constructor))))) | fail)
      exact ⟨by simp [resV, oneR, npR], by simp; omega, ⟨Op, R, A, B, (readR r).1⟩, fun _ => by simp [oneR, npR], Cx.to z⟩
    · have KC := cutPrefix s [109]
      rw [cutP_miss fun r hr => hx ⟨r, hr⟩] at KC
      have KN := implReadNum s hl
      have hnp : npR 109 s = (0, false) := by
        unfold npR
        split
        · rfl
        · rename_i x r
          rw [if_neg (fun e => hx ⟨r, by rw [e]⟩)]
      repeat' (first | (with_reducible first | refine stp ?_ | refine k_blk_o rfl ?_ | refine k_seq_n ?_) | ((try (conv => arg 1; simp [shp, Word.cells, b1, n4, n5, n6, bs_mk, bs_empty, bs_toList])); with_reducible refine evp ?_) | ((with_reducible refine tcl ?_); first | ((apply tg (KC)); (case e => rfl); (case d => (refine dq ?_); (repeat' (first | ((refine Da.mk ?_); first | assumption) | constructor)))) | ((apply tg (KN)); (case e => rfl); (case d => (refine dq ?_); (repeat' (first | ((refine Da.mk ?_); first | assumption) | constructor))))) | fail)
      exact ⟨by simp [resV, oneR, hnp], by simp; omega, ⟨Op, R, A, B, (readR s).1⟩, fun hq => by simp [oneR, hnp] at hq, Cx.to z⟩
  case inr.inr.inr.inr.inr.inr.inr =>
    by_cases hx : ∃ r, s = 119 :: r
    · obtain ⟨r, rfl⟩ := hx
      have KC := cutPrefix (119 :: r) [119]
      rw [cutP_hit] at KC
      have KN := implReadNum r (by simp at hl; omega)
      repeat' (first | (with_reducible first | refine stp ?_ | refine k_blk_o rfl ?_ | refine k_seq_n ?_) | ((try (conv => arg 1; simp [shp, Word.cells, b1, n4, n5, n6, bs_mk, bs_empty, bs_toList])); with_reducible refine evp ?_) | ((with_reducible refine tcl ?_); first | ((apply tg (KC)); (case e => rfl); (case d => (refine dq ?_); (repeat' (first | ((refine Da.mk ?_); first | assumption) | constructor)))) | ((apply tg (KN)); (case e => rfl); (case d => (refine dq ?_); (repeat' (first | ((refine Da.mk ?_); first | assumption) | constructor))))) | fail)
      exact ⟨by simp [resV, oneR, npR], by simp; omega, ⟨Op, R, A, B, (readR r).1⟩, fun _ => by simp [oneR, npR], Cx.to z⟩
    · have KC := cutPrefix s [119]
      rw [cutP_miss fun r hr => hx ⟨r, hr⟩] at KC
      have KN := implReadNum s hl
      have hnp : npR 119 s = (0, false) := by
        unfold npR
        split
        · rfl
        · rename_i x r
          rw [if_neg (fun e => hx ⟨r, by rw [e]⟩)]
      repeat' (first | (with_reducible first | refine stp ?_ | refine k_blk_o rfl ?_ | refine k_seq_n ?_) | ((try (conv => arg 1; simp [shp, Word.cells, b1, n4, n5, n6, bs_mk, bs_empty, bs_toList])); with_reducible refine evp ?_) | ((with_reducible refine tcl ?_); first | ((apply tg (KC)); (case e => rfl); (case d => (refine dq ?_); (repeat' (first | ((refine Da.mk ?_); first | assumption) | constructor)))) | ((apply tg (KN)); (case e => rfl); (case d => (refine dq ?_); (repeat' (first | ((refine Da.mk ?_); first | assumption) | constructor))))) | fail)
      exact ⟨by simp [resV, oneR, hnp], by simp; omega, ⟨Op, R, A, B, (readR s).1⟩, fun hq => by simp [oneR, hnp] at hq, Cx.to z⟩
end Go.Proofs.YtmcmgeedhbgglaaGreatDoor.AM

namespace Go.Proofs.YtmcmgeedhbgglaaGreatDoor.AM
open Go.RowKit

private def ME32 : FuncId → Mode := fun f => if f = 81 then .heap else .tree

/-- A line's word, or none. -/
def wordQ (r : Word × Bool) : Word := if r.2 = true then r.1 else ⟨0, 0, 0, 0, 0⟩
theorem lineR_step (w : Word) (b : UInt8) (f : List UInt8) (p : List UInt8) (ps : List (List UInt8)) : lineR w (b :: f) (p :: ps) = if (oneR w b p).2 = true then lineR (oneR w b p).1 f ps else ((oneR w b p).1, false) := by simp [lineR]
theorem lineR_nil (w : Word) (ps : List (List UInt8)) : lineR w [] ps = (w, true) := by simp [lineR]

set_option maxHeartbeats 16000000 in
theorem readWord (line : List UInt8) (hl : line.length ≤ 2 ^ 21) : Pure Tryz.prog 45 [.str (bs line)] (.tup [.agg (wordQ (wordR line)).cells, .bool (wordR line).2]) := by
  intro T
  have K0 := splitP line 32 (by omega)
  have KS := implShapes
  have hR : wordR line = wordP (spl 32 line) := rfl
  rw [hR]
  have x0 : Cx (Hp.mt T) [] [] := Cx.mt
  have y1 := x0.next.box_one (T := T) (i := 0) (r := ⟨0, 5, [[.int .i64 0, .int .i64 0, .int .i64 0, .int .i64 0, .int .i64 0]]⟩) x0.off (by simp)
  obtain ⟨p0, ps, hsp⟩ : ∃ p0 ps, spl 32 line = p0 :: ps := by
    cases h : spl 32 line with
    | nil => exact absurd h (spl_ne _ _)
    | cons p ps => exact ⟨p, ps, rfl⟩
  obtain ⟨hb1, hb2⟩ := spl_bound (c := 32) line
  rw [hsp] at K0 hb1 hb2 ⊢
  have hlen2 : ps.length ≤ 2 ^ 21 := by simp at hb1; omega
  have hsl12 : (shapeL.length : Int) = 12 := rfl
  refine enter mixed ME32 Tryz.func45 rfl (by kernel_rfl) rfl ?_
  repeat' (first | (with_reducible first | refine stp ?_ | refine k_blk_o rfl ?_ | refine k_seq_n ?_) | ((try (conv => arg 1; simp [bs_mk, shapesV, hsl12])); with_reducible refine evp ?_) | ((with_reducible refine tcl ?_); first | ((apply tg (K0)); (case e => rfl); (case d => (refine dq ?_); (repeat' (first | ((refine Da.mk ?_); first | assumption) | constructor)))) | ((apply tg (KS)); (case e => rfl); (case d => (refine dq ?_); (repeat' (first | ((refine Da.mk ?_); first | assumption) | constructor))))) | fail)
  refine st_loop (fun (k : Nat) σ h => k ≤ 12 ∧ (∀ j, j < k → opOk (p0 :: ps) j = false) ∧ σ 2 = .ptr (T, 0, 0) 0 0 0 ∧ σ 4 = strs false ((p0 :: ps).map bs) ∧ σ 13 = shapesV ∧ σ 14 = .int .i64 12 ∧ σ 15 = .int .i64 k ∧ Cx h [((T, 0, 0), ⟨0, 5, [[.int .i64 0, .int .i64 0, .int .i64 0, .int .i64 0, .int .i64 0]]⟩)] []) (fun k => 12 - k) 0 ?init ?step
  case init =>
    exact ⟨by omega, fun j h => by omega, by simp, by simp, by simp [shapesV], by simp, by simp, Cx.to y1⟩
  case step =>
    rintro k σ h ⟨hk, hn, s2, s4, s13, s14, s15, z⟩
    have b := z.bxs
    simp only [Bxs] at b
    by_cases hlt : k < 12
    · have hlt2 : (k : Int) < 12 := by omega
      have hw : IntKind.i64.wrap (k + 1) = k + 1 := wrap_id (by omega) (by omega)
      have hkn : k < shapeL.length := hlt
      have hse : shapeL[k] = shapeOf k := Option.some.inj ((List.getElem?_eq_getElem hkn).symm.trans (shape_get hlt))
      have K1 := splitP (shapeOf k) 32 (shape_len k hlt)
      rw [shape_spl k hlt] at K1
      have hfl := form_len k
      cases hnm : p0 == nameOf k with
      | false =>
        have ho : opOk (p0 :: ps) k = false := by simp [opOk, hnm]
        have hnm2 : (nameOf k == p0) = false := by rw [Bool.beq_comm]; exact hnm
        repeat' (first | (with_reducible first | refine stp ?_ | refine k_blk_o rfl ?_ | refine k_seq_n ?_) | ((try (conv => arg 1; simp [shapesV, s2, s4, s13, s14, s15, hlt2, hkn, hse, bs_mk])); with_reducible refine evp ?_) | ((with_reducible refine tcl ?_); first | ((apply tg (K1)); (case e => rfl); (case d => (refine dq ?_); (repeat' (first | ((refine Da.mk ?_); first | assumption) | constructor))))) | fail)
        repeat (with_reducible first | refine stp ?_ | refine k_seq_n ?_)
        refine st_draw 14 (fun _ => false) (by kernel_rfl) ?_
        simp only [List.take_succ_cons, List.take_zero, List.drop_succ_cons, List.drop_zero, List.take_nil, List.drop_nil]
        repeat' (first | (with_reducible first | refine stp ?_ | refine k_blk_o rfl ?_ | refine k_seq_n ?_) | ((try (conv => arg 1; simp [strs, s2, s4, s13, s14, s15, hnm2, hw, bs_toList])); with_reducible refine evp ?_) | ((with_reducible refine apn ?na ?_); (case na => simp [appNames, ints, intss] <;> first | kernel_rfl | (refine ⟨?_, ?_⟩ <;> kernel_rfl))) | fail)
        refine k_lp_n (k + 1) (by omega) ⟨by omega, fun j hj => ?_, by simp [s2], by simp [s4, strs], by simp [s13], by simp [s14], by simp, Cx.to z⟩
        by_cases e : j = k
        · subst e; exact ho
        · exact hn j (by omega)
      | true =>
        have hnm2 : (nameOf k == p0) = true := by rw [Bool.beq_comm]; exact hnm
        by_cases hc : ps.length = (formOf k).length
        · have ho : opOk (p0 :: ps) k = true := by simp [opOk, hnm, hc]
          have hwp := wordP_some hlt ho hn
          rw [hwp, List.tail_cons]
          have hc2 : ((formOf k).length : Int) = (ps.length : Int) := by omega
          have y2 := z.next.next.next.next.next.box_new (T := h.tick + 1 + 1 + 1 + 1) (i := 2) (r := ⟨0, 5, [[.int .i64 0, .int .i64 0, .int .i64 0, .int .i64 0, .int .i64 0]]⟩) (r' := ⟨0, 5, [[.int .i64 k, .int .i64 0, .int .i64 0, .int .i64 0, .int .i64 0]]⟩) z.next.next.next.next.off (by simp)
          have htl : ∀ rows, sliceA Tryz.prog rows 38 (.tr false ([.str (bs (nameOf k))] :: List.map ((fun x => [AV.str x]) ∘ bs ∘ shp) (formOf k))) (some (.int .i64 1)) none false = some (.tr false (List.map ((fun x => [AV.str x]) ∘ bs ∘ shp) (formOf k))) := fun rows => by
            have := strs_tail (P := Tryz.prog) (rows := rows) (t := 38) (e := 9) (b := false) (x := bs (nameOf k)) (xs := (formOf k).map (bs ∘ shp)) (by kernel_rfl) (by kernel_rfl)
            simpa [strs, Function.comp_def] using this
          have hzw : (⟨k, 0, 0, 0, 0⟩ : Word).cells = [.int .i64 k, .int .i64 0, .int .i64 0, .int .i64 0, .int .i64 0] := rfl
          repeat' (first | (with_reducible first | refine stp ?_ | refine k_blk_o rfl ?_ | refine k_seq_n ?_) | ((try (conv => arg 1; simp [shapesV, s2, s4, s13, s14, s15, hlt2, hkn, hse, bs_mk])); with_reducible refine evp ?_) | ((with_reducible refine apn ?na ?_); (case na => simp [appNames, ints, intss] <;> first | kernel_rfl | (refine ⟨?_, ?_⟩ <;> kernel_rfl))) | ((with_reducible refine tcl ?_); first | ((apply tg (K1)); (case e => rfl); (case d => (refine dq ?_); (repeat' (first | ((refine Da.mk ?_); first | assumption) | constructor))))) | fail)
          repeat (with_reducible first | refine stp ?_ | refine k_seq_n ?_)
          refine st_draw 14 (fun _ => false) (by kernel_rfl) ?_
          simp only [List.take_succ_cons, List.take_zero, List.drop_succ_cons, List.drop_zero, List.take_nil, List.drop_nil]
          repeat' (first | (with_reducible first | refine stp ?_ | refine k_blk_o rfl ?_ | refine k_seq_n ?_) | ((try (conv => arg 1; simp [strs, s2, s4, s13, s14, s15, hnm2, hc2, hw, htl, bs_toList])); with_reducible refine evp ?_) | ((with_reducible refine apn ?na ?_); (case na => simp [appNames, ints, intss] <;> first | kernel_rfl | (refine ⟨?_, ?_⟩ <;> kernel_rfl))) | fail)
          generalize hn8 : h.tick + 1 + 1 + 1 + 1 = t8 at *
          refine st_loop (fun (i : Nat) σ h' => ∃ (w : Word), i ≤ (formOf k).length ∧ lineR ⟨k, 0, 0, 0, 0⟩ (formOf k) ps = lineR w ((formOf k).drop i) (ps.drop i) ∧ σ 2 = .ptr (T, 0, 0) 0 0 0 ∧ σ 4 = strs false ((p0 :: ps).map bs) ∧ σ 8 = .ptr (t8, 2, 0) 0 0 0 ∧ σ 39 = strs false ((formOf k).map (bs ∘ shp)) ∧ σ 40 = .int .i64 (formOf k).length ∧ σ 41 = .int .i64 i ∧
            Cx h' [((t8, 2, 0), ⟨0, 5, [w.cells]⟩), ((T, 0, 0), ⟨0, 5, [[.int .i64 0, .int .i64 0, .int .i64 0, .int .i64 0, .int .i64 0]]⟩)] []) (fun i => (formOf k).length - i) 0 ?init3 ?step3
          case init3 =>
            exact ⟨⟨k, 0, 0, 0, 0⟩, Nat.zero_le _, by simp, by simp [s2], by simp [s4, strs], by simp, by simp [strs], by simp; omega, by simp, by rw [hzw]; exact Cx.to y2⟩
          case step3 =>
            clear y2 z b s2 s4 s13 s14 s15 hn8
            rintro i σ h ⟨w, hi, hL, s2, s4, s8, s39, s40, s41, z⟩
            have b := z.bxs
            simp only [Bxs] at b
            have hcw := cells5 w
            have b1 := b.1
            rw [hcw] at b1
            by_cases hlt3 : i < (formOf k).length
            · have hlt4 : (i : Int) < (formOf k).length := by omega
              have hip : i < ps.length := by omega
              have hw3 : IntKind.i64.wrap (i + 1) = i + 1 := wrap_id (by omega) (by omega)
              have h01 : (0 : Int) ≤ (i : Int) + 1 := by omega
              have ht1 : ((i : Int) + 1).toNat = i + 1 := by omega
              have hbm := form_mem k hlt _ (List.getElem_mem hlt3)
              have hpl : ps[i].length ≤ 2 ^ 40 := by have := hb2 ps[i] (by simp); omega
              rw [List.drop_eq_getElem_cons hlt3, List.drop_eq_getElem_cons hip, lineR_step] at hL
              repeat' (first | (with_reducible first | refine stp ?_ | refine k_blk_o rfl ?_ | refine k_seq_n ?_) | ((try (conv => arg 1; simp [strs, s2, s4, s8, s39, s40, s41, hlt3, hlt4, hip, h01, ht1, hw3])); with_reducible refine evp ?_) | ((with_reducible refine apn ?na ?_); (case na => simp [appNames, ints, intss] <;> first | kernel_rfl | (refine ⟨?_, ?_⟩ <;> kernel_rfl))) | fail)
              refine st_heap rfl (readPart w (formOf k)[i] ps[i] hpl hbm (Cx.to z)) ?_
              rintro v h5 ⟨rfl, tk5, w', hw', z5⟩
              have b5 := z5.bxs
              simp only [Bxs] at b5
              cases ho5 : (oneR w (formOf k)[i] ps[i]).2 with
              | true =>
                rw [ho5, if_pos rfl, ← hw' ho5] at hL
                repeat' (first | (with_reducible first | refine stp ?_ | refine k_blk_o rfl ?_ | refine k_seq_n ?_) | ((try (conv => arg 1; simp [s2, s4, s8, s39, s40, s41, hw3])); with_reducible refine evp ?_) | ((with_reducible refine apn ?na ?_); (case na => simp [appNames, ints, intss] <;> first | kernel_rfl | (refine ⟨?_, ?_⟩ <;> kernel_rfl))) | fail)
                refine k_lp_n (i + 1) (by omega) ⟨w', by omega, hL, by simp [s2], by simp [s4], by simp [s8], by simp [s39], by simp [s40], by simp, Cx.to z5⟩
              | false =>
                rw [ho5, if_neg (by decide)] at hL
                rw [hL]
                repeat' (first | (with_reducible first | refine stp ?_ | refine k_blk_o rfl ?_ | refine k_seq_n ?_) | ((try (conv => arg 1; simp [s2, s4, s8, s39, s40, s41, b5, ltS, nm_ne])); with_reducible refine evp ?_) | ((with_reducible refine apn ?na ?_); (case na => simp [appNames, ints, intss] <;> first | kernel_rfl | (refine ⟨?_, ?_⟩ <;> kernel_rfl))) | fail)
                simp only [wordQ]
                exact dr_tup2 (dr_agg (.cons (.int _ _) (.cons (.int _ _) (.cons (.int _ _) (.cons (.int _ _) (.cons (.int _ _) .nil)))))) (.bool _)
            · have hge : i = (formOf k).length := by omega
              subst hge
              rw [List.drop_length, lineR_nil] at hL
              rw [hL]
              repeat' (first | (with_reducible first | refine stp ?_ | refine k_blk_o rfl ?_ | refine k_seq_n ?_) | ((try (conv => arg 1; simp [s2, s4, s8, s39, s40, s41, b1, b.2.1, b.2.2.1, b.2.2.2.1, ltS, nm_ne, hcw])); with_reducible refine evp ?_) | ((with_reducible refine apn ?na ?_); (case na => simp [appNames, ints, intss] <;> first | kernel_rfl | (refine ⟨?_, ?_⟩ <;> kernel_rfl))) | fail)
              exact dr_tup2 (dr_agg (.cons (.int _ _) (.cons (.int _ _) (.cons (.int _ _) (.cons (.int _ _) (.cons (.int _ _) .nil)))))) (.bool _)
        · have ho : opOk (p0 :: ps) k = false := by simp [opOk, hnm, hc]
          have hc2 : ¬ ((formOf k).length : Int) = (ps.length : Int) := by omega
          repeat' (first | (with_reducible first | refine stp ?_ | refine k_blk_o rfl ?_ | refine k_seq_n ?_) | ((try (conv => arg 1; simp [shapesV, s2, s4, s13, s14, s15, hlt2, hkn, hse, bs_mk])); with_reducible refine evp ?_) | ((with_reducible refine apn ?na ?_); (case na => simp [appNames, ints, intss] <;> first | kernel_rfl | (refine ⟨?_, ?_⟩ <;> kernel_rfl))) | ((with_reducible refine tcl ?_); first | ((apply tg (K1)); (case e => rfl); (case d => (refine dq ?_); (repeat' (first | ((refine Da.mk ?_); first | assumption) | constructor))))) | fail)
          repeat (with_reducible first | refine stp ?_ | refine k_seq_n ?_)
          refine st_draw 14 (fun _ => false) (by kernel_rfl) ?_
          simp only [List.take_succ_cons, List.take_zero, List.drop_succ_cons, List.drop_zero, List.take_nil, List.drop_nil]
          repeat' (first | (with_reducible first | refine stp ?_ | refine k_blk_o rfl ?_ | refine k_seq_n ?_) | ((try (conv => arg 1; simp [strs, s2, s4, s13, s14, s15, hnm2, hc2, hw, bs_toList])); with_reducible refine evp ?_) | ((with_reducible refine apn ?na ?_); (case na => simp [appNames, ints, intss] <;> first | kernel_rfl | (refine ⟨?_, ?_⟩ <;> kernel_rfl))) | fail)
          refine k_lp_n (k + 1) (by omega) ⟨by omega, fun j hj => ?_, by simp [s2], by simp [s4, strs], by simp [s13], by simp [s14], by simp, Cx.to z⟩
          by_cases e : j = k
          · subst e; exact ho
          · exact hn j (by omega)
    · have hge : k = 12 := by omega
      subst hge
      rw [wordP_none fun j hj => hn j hj]
      repeat' (first | (with_reducible first | refine stp ?_ | refine k_blk_o rfl ?_ | refine k_seq_n ?_) | ((try (conv => arg 1; simp [s2, s4, s13, s14, s15, b, ltS, nm_ne])); with_reducible refine evp ?_) | ((with_reducible refine apn ?na ?_); (case na => simp [appNames, ints, intss] <;> first | kernel_rfl | (refine ⟨?_, ?_⟩ <;> kernel_rfl))) | fail)
      exact dr_tup2 (dr_agg (.cons (.int _ _) (.cons (.int _ _) (.cons (.int _ _) (.cons (.int _ _) (.cons (.int _ _) .nil)))))) (.bool _)
end Go.Proofs.YtmcmgeedhbgglaaGreatDoor.AM

namespace Go.Proofs.YtmcmgeedhbgglaaGreatDoor.AM
open Go.RowKit

private def ME24 : FuncId → Mode := fun f => .tree

/-- Numbers behind a name. -/
def numsP (ps : List (List UInt8)) (word : List UInt8) : List Int × Bool := if (ps.tail.all fun p => (readR p).2) = true then (ps.tail.map fun p => (readR p).1, ps.headD [] == word) else ([], false)
def numsR (line word : List UInt8) : List Int × Bool := numsP (spl 32 line) word
def rds (ps : List (List UInt8)) (i : Nat) : List Int := (ps.take i).map fun p => (readR p).1
theorem rds_succ {ps : List (List UInt8)} {i : Nat} (h : i < ps.length) : rds ps (i + 1) = rds ps i ++ [(readR ps[i]).1] := by
  unfold rds
  rw [List.take_add_one, List.getElem?_eq_getElem h, List.map_append]
  rfl
theorem rds_len {ps : List (List UInt8)} {i : Nat} (h : i ≤ ps.length) : (rds ps i).length = i := by simp [rds]; omega
theorem numsP_f {p0 word : List UInt8} {ps : List (List UInt8)} {i : Nat} (h : i < ps.length) (hf : (readR ps[i]).2 = false) : numsP (p0 :: ps) word = ([], false) := by
  unfold numsP
  rw [if_neg]
  intro ha
  rw [List.all_eq_true] at ha
  have := ha ps[i] (by simp)
  rw [hf] at this
  cases this
theorem numsP_t {p0 word : List UInt8} {ps : List (List UInt8)} (h : ∀ j (hj : j < ps.length), (readR ps[j]).2 = true) : numsP (p0 :: ps) word = (rds ps ps.length, p0 == word) := by
  unfold numsP
  rw [if_pos]
  · simp [rds]
  · rw [List.all_eq_true]
    intro p hp
    obtain ⟨j, hj, rfl⟩ := List.getElem_of_mem hp
    exact h j hj
theorem Cx.drop_pre {h : Hp} {bs : Bx} {os : Ox} : ∀ {b : Bx}, Cx h (b ++ bs) os → Cx h bs os
  | [], x => x
  | _ :: b, x => Cx.drop_pre (b := b) x.box_drop
theorem fl_ints_own {xs : List Int} {w : AV} {b : Bx} {h : Hp} {q : Bool} (f : FL 1 (cl1 xs) w b) (x : Cx h (b ++ []) []) : ∃ ns, (∀ c, OwnV h.rows c (.tup [w, .bool q]) (.tup [ints c xs, .bool q]) ns) ∧ ns.Nodup ∧ ∀ n ∈ ns, n.1 < h.tick := by
  obtain ⟨ns, z⟩ := f.own (fun e he => by
    simp only [cl1, List.mem_map] at he
    obtain ⟨n, _, rfl⟩ := he
    exact ⟨rfl, fun y hy => by simp at hy; subst hy; rfl⟩) x
  refine ⟨ns ++ [], fun c => .tup2 (z.o0 c) (.one (.bool _ .nil)), by simpa using z.nodup, fun n hn => z.lts n (by simpa using hn)⟩

set_option maxHeartbeats 4000000 in
theorem l17Head (line word : List UInt8) (hl : line.length ≤ 2 ^ 21) : FreshW Tryz.prog 37 [.str (bs line), .str (bs word)] (fun c => .tup [ints c (numsR line word).1, .bool (numsR line word).2]) := by
  intro T
  have K0 := specWords line hl
  have hR : numsR line word = numsP (spl 32 line) word := rfl
  rw [hR]
  have x0 : Cx (Hp.mt T) [] [] := Cx.mt
  have y1 := x0.next.next.next.box_one (T := T + 1 + 1) (i := 0) (r := ⟨0, 1, []⟩) x0.next.next.off (by simp)
  obtain ⟨p0, ps, hsp⟩ : ∃ p0 ps, spl 32 line = p0 :: ps := by
    cases h : spl 32 line with
    | nil => exact absurd h (spl_ne _ _)
    | cons p ps => exact ⟨p, ps, rfl⟩
  obtain ⟨hb1, hb2⟩ := spl_bound (c := 32) line
  rw [hsp] at K0 hb1 hb2 ⊢
  have hlen2 : ps.length ≤ 2 ^ 21 := by simp at hb1; omega
  refine enter mixed ME24 Tryz.func37 rfl (by kernel_rfl) rfl ?_
  repeat' (first | (with_reducible first | refine stp ?_ | refine k_blk_o rfl ?_ | refine k_seq_n ?_) | ((try (conv => arg 1; simp [bs_mk])); with_reducible refine evp ?_) | ((with_reducible refine tcl ?_); first | ((apply tg (K0)); (case e => rfl); (case d => (refine dq ?_); (repeat' (first | ((refine Da.mk ?_); first | assumption) | constructor))))) | fail)
  refine st_loop (fun (i : Nat) σ h => i ≤ ps.length ∧ (∀ j (hj : j < ps.length), j < i → (readR ps[j]).2 = true) ∧ σ 1 = .str (bs word) ∧ σ 6 = strs false ((p0 :: ps).map bs) ∧ σ 8 = .int .i64 (i + 1) ∧ ∃ w b, σ 7 = w ∧ FL 1 (cl1 (rds ps i)) w b ∧ Cx h (b ++ []) []) (fun i => ps.length - i) 0 ?init ?step
  case init =>
    exact ⟨by omega, fun j hj h => by omega, by simp, by simp, by simp, _, [((T + 1 + 1, 0, 0), ⟨0, 1, []⟩)], by simp, FL.mt, Cx.to y1⟩
  case step =>
    rintro i σ h ⟨hi, hn, s1, s6, s8, w, b, s7, fl, z⟩
    have q := fl.one
    by_cases hlt : i < ps.length
    · have hlt2 : (i : Int) < ps.length := by omega
      have h01 : (0 : Int) ≤ (i : Int) + 1 := by omega
      have ht1 : ((i : Int) + 1).toNat = i + 1 := by omega
      have hps : ps[i]? = some ps[i] := by simp
      have hw : IntKind.i64.wrap ((i : Int) + 1 + 1) = (i : Int) + 1 + 1 := wrap_id (by omega) (by omega)
      have K1 := specReadNum' ps[i] (by have := hb2 ps[i] (by simp); omega)
      cases hr : (readR ps[i]).2 with
      | false =>
        rw [hr] at K1
        rw [numsP_f hlt hr]
        repeat' (first | (with_reducible first | refine stp ?_ | refine k_blk_o rfl ?_ | refine k_seq_n ?_) | ((try (conv => arg 1; simp [strs, s1, s6, s7, s8, hlt, hlt2, h01, ht1, hps])); with_reducible refine evp ?_) | ((with_reducible refine tcl ?_); first | ((apply tg (K1)); (case e => rfl); (case d => (refine dq ?_); (repeat' (first | ((refine Da.mk ?_); first | assumption) | constructor))))) | fail)
        have y := (z.drop_pre (b := b)).next.next.next.next.box_one (T := h.tick + 1 + 1 + 1) (i := 0) (r := ⟨0, 1, []⟩) (z.drop_pre (b := b)).next.next.next.off (by simp)
        exact fl_ints_own (xs := []) (b := [((h.tick + 1 + 1 + 1, 0, 0), ⟨0, 1, []⟩)]) FL.mt (Cx.to y)
      | true =>
        rw [hr] at K1
        repeat' (first | (with_reducible first | refine stp ?_ | refine k_blk_o rfl ?_ | refine k_seq_n ?_) | ((try (conv => arg 1; simp [strs, s1, s6, s7, s8, hlt, hlt2, h01, ht1, hps, hw])); with_reducible refine evp ?_) | ((with_reducible refine tcl ?_); first | ((apply tg (K1)); (case e => rfl); (case d => (refine dq ?_); (repeat' (first | ((refine Da.mk ?_); first | assumption) | constructor))))) | fail)
        conv => arg 1; simp
        refine ev2_app (s := 1) (fs := []) (os := []) (bs := []) (e := [.int .i64 (readR ps[i]).1]) (by kernel_rfl) fl ?hx ?hk rfl ?hl ?hn ?ht ?kk
        case hx => exact Cx.to z
        case hk => simp
        case hl => simp [cl1, rds_len hi]; omega
        case hn => exact Cx.new_nin z (by omega)
        case ht => simp
        intro w' b' h4 fl' z4 tk q'
        repeat' (first | (with_reducible first | refine stp ?_ | refine k_blk_o rfl ?_ | refine k_seq_n ?_) | ((try (conv => arg 1; simp [s1, s6, s8, hw])); with_reducible refine evp ?_) | fail)
        refine k_lp_n (i + 1) (by omega) ⟨by omega, fun j hj hji => ?_, by simp [s1], by simp [s6, strs], by simp, w', b', by simp, by rw [rds_succ hlt]; simpa [cl1] using fl', Cx.to z4⟩
        by_cases e : j = i
        · subst e; exact hr
        · exact hn j hj (by omega)
    · have hge : i = ps.length := by omega
      subst hge
      rw [numsP_t fun j hj => hn j hj hj]
      repeat' (first | (with_reducible first | refine stp ?_ | refine k_blk_o rfl ?_ | refine k_seq_n ?_) | ((try (conv => arg 1; simp [strs, s1, s6, s7, s8])); with_reducible refine evp ?_) | fail)
      repeat (with_reducible first | refine stp ?_ | refine k_seq_n ?_)
      refine st_draw 8 (fun _ => false) (by kernel_rfl) ?_
      simp only [List.take_succ_cons, List.take_zero, List.drop_succ_cons, List.drop_zero, List.take_nil, List.drop_nil]
      repeat' (first | (with_reducible first | refine stp ?_ | refine k_blk_o rfl ?_ | refine k_seq_n ?_) | ((try (conv => arg 1; simp [strs, s1, s6, s7, s8, bs_toList])); with_reducible refine evp ?_) | ((with_reducible refine apn ?na ?_); (case na => simp [appNames, ints, intss] <;> first | kernel_rfl | (refine ⟨?_, ?_⟩ <;> kernel_rfl))) | fail)
      exact fl_ints_own fl (Cx.to z)
end Go.Proofs.YtmcmgeedhbgglaaGreatDoor.AM

namespace Go.Proofs.YtmcmgeedhbgglaaGreatDoor.AM
open Go.RowKit

private def ME33 : FuncId → Mode := fun f => .tree

set_option maxHeartbeats 4000000 in
theorem readNums (line word : List UInt8) (hl : line.length ≤ 2 ^ 21) : FreshW Tryz.prog 44 [.str (bs line), .str (bs word)] (fun c => .tup [ints c (numsR line word).1, .bool (numsR line word).2]) := by
  intro T
  have K0 := splitP line 32 (by omega)
  have hR : numsR line word = numsP (spl 32 line) word := rfl
  rw [hR]
  have x0 : Cx (Hp.mt T) [] [] := Cx.mt
  have y1 := x0.next.next.next.box_one (T := T + 1 + 1) (i := 0) (r := ⟨0, 1, []⟩) x0.next.next.off (by simp)
  obtain ⟨p0, ps, hsp⟩ : ∃ p0 ps, spl 32 line = p0 :: ps := by
    cases h : spl 32 line with
    | nil => exact absurd h (spl_ne _ _)
    | cons p ps => exact ⟨p, ps, rfl⟩
  obtain ⟨hb1, hb2⟩ := spl_bound (c := 32) line
  rw [hsp] at K0 hb1 hb2 ⊢
  have hlen2 : ps.length ≤ 2 ^ 21 := by simp at hb1; omega
  have htl : ∀ rows, sliceA Tryz.prog rows 38 (strs false (bs p0 :: ps.map bs)) (some (.int .i64 1)) none false = some (strs false (ps.map bs)) := fun rows => strs_tail (e := 9) (by kernel_rfl) (by kernel_rfl)
  refine enter mixed ME33 Tryz.func44 rfl (by kernel_rfl) rfl ?_
  repeat' (first | (with_reducible first | refine stp ?_ | refine k_blk_o rfl ?_ | refine k_seq_n ?_) | ((try (conv => arg 1; simp [bs_mk, htl])); with_reducible refine evp ?_) | ((with_reducible refine tcl ?_); first | ((apply tg (K0)); (case e => rfl); (case d => (refine dq ?_); (repeat' (first | ((refine Da.mk ?_); first | assumption) | constructor))))) | fail)
  refine st_loop (fun (i : Nat) σ h => i ≤ ps.length ∧ (∀ j (hj : j < ps.length), j < i → (readR ps[j]).2 = true) ∧ σ 1 = .str (bs word) ∧ σ 6 = strs false ((p0 :: ps).map bs) ∧ σ 16 = strs false (ps.map bs) ∧ σ 17 = .int .i64 ps.length ∧ σ 18 = .int .i64 i ∧ ∃ w b, σ 7 = w ∧ FL 1 (cl1 (rds ps i)) w b ∧ Cx h (b ++ []) []) (fun i => ps.length - i) 0 ?init ?step
  case init =>
    exact ⟨by omega, fun j hj h => by omega, by simp, by simp, by simp, by simp, by simp, _, [((T + 1 + 1, 0, 0), ⟨0, 1, []⟩)], by simp, FL.mt, Cx.to y1⟩
  case step =>
    rintro i σ h ⟨hi, hn, s1, s6, s16, s17, s18, w, b, s7, fl, z⟩
    have q := fl.one
    by_cases hlt : i < ps.length
    · have hlt2 : (i : Int) < ps.length := by omega
      have hps : ps[i]? = some ps[i] := by simp
      have hw : IntKind.i64.wrap ((i : Int) + 1) = (i : Int) + 1 := wrap_id (by omega) (by omega)
      have K1 := implReadNum ps[i] (by have := hb2 ps[i] (by simp); omega)
      cases hr : (readR ps[i]).2 with
      | false =>
        rw [hr] at K1
        rw [numsP_f hlt hr]
        repeat' (first | (with_reducible first | refine stp ?_ | refine k_blk_o rfl ?_ | refine k_seq_n ?_) | ((try (conv => arg 1; simp [strs, s1, s6, s7, s16, s17, s18, hlt, hlt2, hps])); with_reducible refine evp ?_) | ((with_reducible refine tcl ?_); first | ((apply tg (K1)); (case e => rfl); (case d => (refine dq ?_); (repeat' (first | ((refine Da.mk ?_); first | assumption) | constructor))))) | fail)
        exact ⟨[], fun c => .tup2 (ns := []) (ns' := []) (.one (.nilsl .nil)) (.one (.bool _ .nil)), .nil, fun n hn => by cases hn⟩
      | true =>
        rw [hr] at K1
        repeat' (first | (with_reducible first | refine stp ?_ | refine k_blk_o rfl ?_ | refine k_seq_n ?_) | ((try (conv => arg 1; simp [strs, s1, s6, s7, s16, s17, s18, hlt, hlt2, hps, hw])); with_reducible refine evp ?_) | ((with_reducible refine tcl ?_); first | ((apply tg (K1)); (case e => rfl); (case d => (refine dq ?_); (repeat' (first | ((refine Da.mk ?_); first | assumption) | constructor))))) | fail)
        conv => arg 1; simp
        refine ev2_app (s := 1) (fs := []) (os := []) (bs := []) (e := [.int .i64 (readR ps[i]).1]) (by kernel_rfl) fl ?hx ?hk rfl ?hl ?hn ?ht ?kk
        case hx => exact Cx.to z
        case hk => simp
        case hl => simp [cl1, rds_len hi]; omega
        case hn => exact Cx.new_nin z (by omega)
        case ht => simp
        intro w' b' h4 fl' z4 tk q'
        repeat' (first | (with_reducible first | refine stp ?_ | refine k_blk_o rfl ?_ | refine k_seq_n ?_) | ((try (conv => arg 1; simp [s1, s6, s16, s17, s18, hw])); with_reducible refine evp ?_) | fail)
        refine k_lp_n (i + 1) (by omega) ⟨by omega, fun j hj hji => ?_, by simp [s1], by simp [s6, strs], by simp [s16], by simp [s17], by simp, w', b', by simp, by rw [rds_succ hlt]; simpa [cl1] using fl', Cx.to z4⟩
        by_cases e : j = i
        · subst e; exact hr
        · exact hn j hj (by omega)
    · have hge : i = ps.length := by omega
      subst hge
      rw [numsP_t fun j hj => hn j hj hj]
      repeat' (first | (with_reducible first | refine stp ?_ | refine k_blk_o rfl ?_ | refine k_seq_n ?_) | ((try (conv => arg 1; simp [s1, s6, s7, s16, s17, s18])); with_reducible refine evp ?_) | fail)
      repeat (with_reducible first | refine stp ?_ | refine k_seq_n ?_)
      refine st_draw 8 (fun _ => false) (by kernel_rfl) ?_
      simp only [List.take_succ_cons, List.take_zero, List.drop_succ_cons, List.drop_zero, List.take_nil, List.drop_nil]
      repeat' (first | (with_reducible first | refine stp ?_ | refine k_blk_o rfl ?_ | refine k_seq_n ?_) | ((try (conv => arg 1; simp [strs, s1, s6, s7, s16, s17, s18, bs_toList])); with_reducible refine evp ?_) | ((with_reducible refine apn ?na ?_); (case na => simp [appNames, ints, intss] <;> first | kernel_rfl | (refine ⟨?_, ?_⟩ <;> kernel_rfl))) | fail)
      exact fl_ints_own fl (Cx.to z)
end Go.Proofs.YtmcmgeedhbgglaaGreatDoor.AM

namespace Go.Proofs.YtmcmgeedhbgglaaGreatDoor.AM
open Go.RowKit

private def MW9 : FuncId → Mode := fun f => .tree

theorem specImageOk (m : Image) (hs : m.Sizes.length ≤ 2 ^ 62) (hcd : m.Code.length ≤ 2 ^ 62) : Pure Tryz.prog 17 [.agg (m.cells true)] (.bool (imageOk m)) := by
  intro T
  refine enter mixed MW9 Tryz.func17 rfl (by kernel_rfl) rfl ?_
  repeat' (first | (with_reducible first | refine stp ?_ | refine k_blk_o rfl ?_ | refine k_seq_n ?_) | ((try (conv => arg 1; simp [Image.cells])); with_reducible refine evp ?_) | fail)
  refine st_loop (fun (i : Nat) σ h => i ≤ m.Sizes.length ∧ σ 1 = .ptr (T, 0, 0) 0 0 0 ∧ σ 3 = .int .i64 i ∧ T < h.tick ∧ h.rows (T, 0, 0) = some ⟨0, 4, [[ints true m.Sizes, .int .i64 m.Params, .int .i64 m.Slots, words true m.Code]]⟩ ∧ ∀ j (hj : j < m.Sizes.length), j < i → inB m.Sizes[j] 1 16 = true) (fun i => m.Sizes.length - i) 0 ?init ?step
  case init =>
    simp
  case step =>
    rintro i σ h ⟨hi, h1, h3, ht, hr, hall⟩
    repeat' (first | (with_reducible first | refine stp ?_ | refine k_blk_o rfl ?_ | refine k_seq_n ?_) | ((try (conv => arg 1; simp [h1, h3, hr])); with_reducible refine evp ?_) | fail)
    (try with_reducible refine st_if ?_)
    (try (conv => arg 1; simp [h1]))
    (try with_reducible refine at_mk ?_)
    refine ⟨fun hb => ?_, fun hb => ?_⟩
    · have hlt : i < m.Sizes.length := by simpa using hb
      have hx : m.Sizes[i]? = some (m.Sizes[i]) := by simp
      have hw : IntKind.i64.wrap (i + 1) = i + 1 := wrap_id (by omega) (by omega)
      repeat' (first | (with_reducible first | refine stp ?_ | refine k_blk_o rfl ?_ | refine k_seq_n ?_) | ((try (conv => arg 1; simp [ints, h1, h3, hr, hx])); with_reducible refine evp ?_) | fail)
      refine st_tree rfl (l01In _ _ _) (.cons (.int _ _) (.cons (.int _ _) (.cons (.int _ _) .nil))) ?_
      repeat' (first | (with_reducible first | refine stp ?_ | refine k_blk_o rfl ?_ | refine k_seq_n ?_) | ((try (conv => arg 1; simp [h1, h3, hr])); with_reducible refine evp ?_) | fail)
      (try with_reducible refine st_if ?_)
      (try (conv => arg 1; simp [h1]))
      (try with_reducible refine at_mk ?_)
      refine ⟨fun hb => ?_, fun hb => ?_⟩
      · skip
        repeat' (first | (with_reducible first | refine stp ?_ | refine k_blk_o rfl ?_ | refine k_seq_n ?_) | ((try (conv => arg 1; simp [h1])); with_reducible refine evp ?_) | fail)
        refine dr_bool ?_
        have e2 : (m.Sizes.all fun n => inB n 1 16) = false := by
          rw [List.all_eq_false]
          exact ⟨m.Sizes[i], List.getElem_mem hlt, by simpa using hb⟩
        simp only [imageOk, e2, Bool.and_false, Bool.false_and]
      · have hgood : inB m.Sizes[i] 1 16 = true := by simpa using hb
        repeat' (first | (with_reducible first | refine stp ?_ | refine k_blk_o rfl ?_ | refine k_seq_n ?_) | ((try (conv => arg 1; simp [h1, h3, hr, hw])); with_reducible refine evp ?_) | fail)
        refine k_lp_n (i + 1) (by omega) ⟨by omega, by simp [h1], by simp [h3], by simp; omega, by simp [hr], fun j hj hji => ?_⟩
        by_cases e : j = i
        · subst e; exact hgood
        · exact hall j hj (by omega)
    · have hge : i = m.Sizes.length := by simp at hb; omega
      have e2 : (m.Sizes.all fun n => inB n 1 16) = true := by
        rw [List.all_eq_true]
        intro x hx
        obtain ⟨j, hj, rfl⟩ := List.getElem_of_mem hx
        exact hall j hj (by omega)
      repeat' (first
        | (with_reducible first | refine st_seq ?_ | refine st_reg ?_ | refine st_block ?_ | refine st_nil ?_ | refine st_skip ?_ | refine st_ret ?_ | refine st_exit ?_ | refine fr_nil ?_ | refine k_seq_n ?_ | refine k_seq_r ?_ | refine k_seq_e ?_ | refine k_blk_n ?_ | refine k_blk_r ?_ | refine k_blk_s ?_ | refine k_blk_o rfl ?_ | refine k_fn_r ?_ | refine k_fn_n ?_ | refine k_lp_r ?_ | refine k_lp_e ?_)
        | ((with_reducible first | refine st_move ?_ | refine st_asg ?_ | refine st_c ?_ | refine fr_c ?_); (try (conv => arg 1; simp [h1, h3, hr])); (with_reducible refine at_mk ?_))
        | ((with_reducible first | refine st_g ?_ | refine fr_g ?_); (try (conv => arg 1; simp [h1, h3, hr])); (with_reducible refine at_mk ?_); with_reducible first | refine gd_tt ?_ | refine gd_ff ?_ | refine gd_tf ?_ | refine gd_ft ?_ | refine gd_no ?_)
        | ((with_reducible first | refine st_gm ?_ | refine fr_gm ?_); (try (conv => arg 1; simp [h1, h3, hr])); (with_reducible refine at_mk ?_); (with_reducible first | refine gm_bool ?_ | refine gm_gv ?_); refine ⟨_, (by intro hc; first | ((try simp only [Bool.and_eq_true] at hc); (try (conv => lhs; simp [hc, h1, h3, hr])); first | done | exact rfl) | ((try simp [gq] at hc); (try (conv => lhs; simp [gq, hc, h1, h3, hr])); first | done | exact rfl)), ?_⟩)
        | ((with_reducible refine st_gmc ?_); (try (conv => arg 1; simp [h1, h3, hr])); (with_reducible refine at_mk ?_); (with_reducible first | refine gm_bool ?_ | refine gm_gv ?_); refine ⟨_, _, _, (by intro hc; first | ((try simp only [Bool.and_eq_true] at hc); (try (conv => lhs; simp [hc, h1, h3, hr])); first | done | exact rfl) | ((try simp [gq] at hc); (try (conv => lhs; simp [gq, hc, h1, h3, hr])); first | done | exact rfl)), rfl, l01In _ _ _, (by intro hc; (try simp at hc); (repeat' (first | exact DRs.nil | refine DRs.cons ?_ ?_ | exact .int _ _ | exact .bool _ | exact .str _ | exact .nilsl | exact .nilp | exact dr_ints (by simp) _ | exact dr_intss (by simp) _ | refine dr_agg ?_ | refine dr_fn ?_ | refine dr_tptr' (by simp) ?_ | assumption))), ?_⟩)
        | ((with_reducible refine fr_gmc ?_); (try (conv => arg 1; simp [h1, h3, hr])); (with_reducible refine at_mk ?_); (with_reducible first | refine gm_bool ?_ | refine gm_gv ?_); refine ⟨_, _, _, (by intro hc; first | ((try simp only [Bool.and_eq_true] at hc); (try (conv => lhs; simp [hc, h1, h3, hr])); first | done | exact rfl) | ((try simp [gq] at hc); (try (conv => lhs; simp [gq, hc, h1, h3, hr])); first | done | exact rfl)), l01In _ _ _, (by intro hc; (try simp at hc); (repeat' (first | exact DRs.nil | refine DRs.cons ?_ ?_ | exact .int _ _ | exact .bool _ | exact .str _ | exact .nilsl | exact .nilp | exact dr_ints (by simp) _ | exact dr_intss (by simp) _ | refine dr_agg ?_ | refine dr_fn ?_ | refine dr_tptr' (by simp) ?_ | assumption))), ?_⟩)
        | ((with_reducible refine st_gmv ?_); (try (conv => arg 1; simp [h1, h3, hr])); (with_reducible refine at_mk ?_); (with_reducible first | refine gm_bool ?_ | refine gm_gv ?_); refine ⟨_, _, _, _, _, (by intro hc; first | ((try simp only [Bool.and_eq_true] at hc); (try (conv => lhs; simp [hc, h1, h3, hr])); first | done | exact rfl) | ((try simp [gq] at hc); (try (conv => lhs; simp [gq, hc, h1, h3, hr])); first | done | exact rfl)), (by intro hc; first | ((try simp only [Bool.and_eq_true] at hc); (try (conv => lhs; simp [hc, h1, h3, hr])); first | done | exact rfl) | ((try simp [gq] at hc); (try (conv => lhs; simp [gq, hc, h1, h3, hr])); first | done | exact rfl)), rfl, l01In _ _ _, (by intro hc; (try simp at hc); (repeat' (first | exact DRs.nil | refine DRs.cons ?_ ?_ | exact .int _ _ | exact .bool _ | exact .str _ | exact .nilsl | exact .nilp | exact dr_ints (by simp) _ | exact dr_intss (by simp) _ | refine dr_agg ?_ | refine dr_fn ?_ | refine dr_tptr' (by simp) ?_ | assumption))), ?_⟩)
        | ((with_reducible refine st_m rfl ?_); (try (conv => arg 1; simp [h1, h3, hr])); (with_reducible refine ev2_some ?_))
        | ((with_reducible refine fr_n rfl ?_); (try (conv => arg 1; simp [h1, h3, hr])); (with_reducible refine evn_some ?_))
        | ((with_reducible first | refine st_cv ?_ | refine fr_cv ?_); (try (conv => arg 1; simp [h1, h3, hr])); (with_reducible refine at_mk ?_); (with_reducible refine fn_mk ?_); (try (conv => arg 1; simp [h1, h3, hr])); (with_reducible refine at_mk ?_))
        | ((with_reducible refine fr_a ?_); (try (conv => arg 1; simp [h1, h3, hr])); (with_reducible refine at_mk ?_); (try (conv => arg 1; simp [h1, h3, hr])); (with_reducible refine at_mk ?_); refine ⟨?names, ?_⟩; (case names => (simp [appNames, ints, intss] <;> first | kernel_rfl | (refine ⟨?_, ?_⟩ <;> kernel_rfl))); (try (conv => arg 1; simp [h1, h3, hr])); (with_reducible refine ev2_some ?_))
        | ((with_reducible first | refine st_q ?_ | refine fr_q ?_ | refine st_res ?_); (try (conv => arg 1; simp [h1, h3, hr])); (with_reducible refine ev_some ?_))
        | ((with_reducible refine st_if ?_); (try (conv => arg 1; simp [h1, h3, hr])); (with_reducible refine at_mk ?_); with_reducible first | refine br_t ?_ | refine br_f ?_)
        | ((with_reducible refine ct_id ?_); refine st_tree rfl (l01In _ _ _) (by (repeat' (first | exact DRs.nil | refine DRs.cons ?_ ?_ | exact .int _ _ | exact .bool _ | exact .str _ | exact .nilsl | exact .nilp | exact dr_ints (by simp) _ | exact dr_intss (by simp) _ | refine dr_agg ?_ | refine dr_fn ?_ | refine dr_tptr' (by simp) ?_ | assumption))) ?_)
        | ((with_reducible refine tw_id ?_); refine treeW_pure (l01In _ _ _) (by (repeat' (first | exact DRs.nil | refine DRs.cons ?_ ?_ | exact .int _ _ | exact .bool _ | exact .str _ | exact .nilsl | exact .nilp | exact dr_ints (by simp) _ | exact dr_intss (by simp) _ | refine dr_agg ?_ | refine dr_fn ?_ | refine dr_tptr' (by simp) ?_ | assumption))) ?_))
      (try with_reducible refine st_if ?_)
      (try (conv => arg 1; simp [h1]))
      (try with_reducible refine at_mk ?_)
      refine ⟨fun hb => ?_, fun hb => ?_⟩
      · skip
        repeat' (first | (with_reducible first | refine stp ?_ | refine k_blk_o rfl ?_ | refine k_seq_n ?_) | ((try (conv => arg 1; simp [h1])); with_reducible refine evp ?_) | fail)
        refine dr_bool ?_
        simp only [Bool.or_eq_true, Bool.not_eq_true'] at hb
        rcases hb with ((h | h) | h) | h <;> simp only [imageOk, h, Bool.false_and, Bool.and_false]
      · simp at hb
        obtain ⟨⟨⟨c1, c3⟩, c4⟩, c5⟩ := hb
        repeat' (first | (with_reducible first | refine stp ?_ | refine k_blk_o rfl ?_ | refine k_seq_n ?_) | ((try (conv => arg 1; simp [h1])); with_reducible refine evp ?_) | fail)
        refine st_loop (fun (i : Nat) σ h => i ≤ m.Code.length ∧ σ 1 = .ptr (T, 0, 0) 0 0 0 ∧ σ 4 = .int .i64 m.Code.length ∧ σ 5 = .int .i64 i ∧ T < h.tick ∧ h.rows (T, 0, 0) = some ⟨0, 4, [[ints true m.Sizes, .int .i64 m.Params, .int .i64 m.Slots, words true m.Code]]⟩ ∧ ∀ j (hj : j < m.Code.length), j < i → wordOk m m.Code[j] = true) (fun i => m.Code.length - i) 0 ?init2 ?step2
        case init2 =>
          simp [h1, hr]
          omega
        case step2 =>
          clear hi h1 h3 ht hr hall hb hge h σ i
          rintro i σ h ⟨hi, h1, h4, h5, ht, hr, hall⟩
          repeat' (first | (with_reducible first | refine stp ?_ | refine k_blk_o rfl ?_ | refine k_seq_n ?_) | ((try (conv => arg 1; simp [h1, h4, h5, hr])); with_reducible refine evp ?_) | fail)
          (try with_reducible refine st_if ?_)
          (try (conv => arg 1; simp [h1]))
          (try with_reducible refine at_mk ?_)
          refine ⟨fun hb => ?_, fun hb => ?_⟩
          · have hlt : i < m.Code.length := by simpa using hb
            have hx : m.Code[i]? = some (m.Code[i]) := by simp
            have hlen : (m.Code[i]).cells.length = 5 := rfl
            have hw : IntKind.i64.wrap (i + 1) = i + 1 := wrap_id (by omega) (by omega)
            have htn : ¬ T = h.tick + 1 := by omega
            repeat' (first | (with_reducible first | refine stp ?_ | refine k_blk_o rfl ?_ | refine k_seq_n ?_) | ((try (conv => arg 1; simp [h1, h5, hr, hx])); with_reducible refine evp ?_) | fail)
            repeat (with_reducible first | refine stp ?_ | refine k_seq_n ?_)
            refine st_draw 8 (fun _ => false) (by kernel_rfl) ?_
            simp only [List.take_succ_cons, List.take_zero, List.drop_succ_cons, List.drop_zero, List.take_nil, List.drop_nil]
            repeat' (first | (with_reducible first | refine stp ?_ | refine k_blk_o rfl ?_ | refine k_seq_n ?_) | ((try (conv => arg 1; simp [words, h1, h5, hr, hx, hlen, htn, Word.cells])); with_reducible refine evp ?_) | ((with_reducible refine apn ?na ?_); (case na => simp [appNames, ints, intss] <;> first | kernel_rfl | (refine ⟨?_, ?_⟩ <;> kernel_rfl))) | fail)
            refine treeW_pure (l13WordOk m m.Code[i]) (.cons (dr_agg (drs_image m (fun h => h))) (.cons (dr_agg (drs_word _)) .nil)) ?_
            repeat' (first | (with_reducible first | refine stp ?_ | refine k_blk_o rfl ?_ | refine k_seq_n ?_) | ((try (conv => arg 1; simp [h1, h5, hr])); with_reducible refine evp ?_) | ((with_reducible refine apn ?na ?_); (case na => simp [appNames, ints, intss] <;> first | kernel_rfl | (refine ⟨?_, ?_⟩ <;> kernel_rfl))) | fail)
            (try with_reducible refine st_if ?_)
            (try (conv => arg 1; simp [h1]))
            (try with_reducible refine at_mk ?_)
            refine ⟨fun hb => ?_, fun hb => ?_⟩
            · skip
              repeat' (first | (with_reducible first | refine stp ?_ | refine k_blk_o rfl ?_ | refine k_seq_n ?_) | ((try (conv => arg 1; simp [h1])); with_reducible refine evp ?_) | ((with_reducible refine apn ?na ?_); (case na => simp [appNames, ints, intss] <;> first | kernel_rfl | (refine ⟨?_, ?_⟩ <;> kernel_rfl))) | fail)
              refine dr_bool ?_
              have e3 : m.Code.all (wordOk m) = false := by
                rw [List.all_eq_false]
                exact ⟨m.Code[i], List.getElem_mem hlt, by simpa using hb⟩
              simp only [imageOk, e3, Bool.and_false, Bool.false_and]
            · have hgood : wordOk m m.Code[i] = true := by simpa using hb
              repeat' (first | (with_reducible first | refine stp ?_ | refine k_blk_o rfl ?_ | refine k_seq_n ?_) | ((try (conv => arg 1; simp [h1, h5, hr, hw])); with_reducible refine evp ?_) | ((with_reducible refine apn ?na ?_); (case na => simp [appNames, ints, intss] <;> first | kernel_rfl | (refine ⟨?_, ?_⟩ <;> kernel_rfl))) | fail)
              refine k_lp_n (i + 1) (by omega) ⟨by omega, by simp [h1], by simp [h4], by simp [h5], by simp; omega, by simp [hr], fun j hj hji => ?_⟩
              by_cases e : j = i
              · subst e; exact hgood
              · exact hall j hj (by omega)
          · have hge : i = m.Code.length := by simp at hb; omega
            have e3 : m.Code.all (wordOk m) = true := by
              rw [List.all_eq_true]
              intro x hx
              obtain ⟨j, hj, rfl⟩ := List.getElem_of_mem hx
              exact hall j hj (by omega)
            obtain ⟨k, hk⟩ : ∃ k, m.Code.length = k + 1 := ⟨m.Code.length - 1, by simp [inB] at c5; omega⟩
            have hkl : k < m.Code.length := by omega
            obtain ⟨w, hx⟩ : ∃ w, m.Code[k]? = some w := ⟨m.Code[k], by simp⟩
            have hlast : m.Code.getLast? = some w := by rw [List.getLast?_eq_getElem?, hk]; exact hx
            have hw : IntKind.i64.wrap ((m.Code.length : Int) - 1) = (k : Int) := by rw [hk, wrap_id (by omega) (by omega)]; omega
            repeat' (first
              | (with_reducible first | refine st_seq ?_ | refine st_reg ?_ | refine st_block ?_ | refine st_nil ?_ | refine st_skip ?_ | refine st_ret ?_ | refine st_exit ?_ | refine fr_nil ?_ | refine k_seq_n ?_ | refine k_seq_r ?_ | refine k_seq_e ?_ | refine k_blk_n ?_ | refine k_blk_r ?_ | refine k_blk_s ?_ | refine k_blk_o rfl ?_ | refine k_fn_r ?_ | refine k_fn_n ?_ | refine k_lp_r ?_ | refine k_lp_e ?_)
              | ((with_reducible first | refine st_move ?_ | refine st_asg ?_ | refine st_c ?_ | refine fr_c ?_); (try (conv => arg 1; simp [h1, h4, h5, hr, hw, hx, words, Word.cells])); (with_reducible refine at_mk ?_))
              | ((with_reducible first | refine st_g ?_ | refine fr_g ?_); (try (conv => arg 1; simp [h1, h4, h5, hr, hw, hx, words, Word.cells])); (with_reducible refine at_mk ?_); with_reducible first | refine gd_tt ?_ | refine gd_ff ?_ | refine gd_tf ?_ | refine gd_ft ?_ | refine gd_no ?_)
              | ((with_reducible first | refine st_gm ?_ | refine fr_gm ?_); (try (conv => arg 1; simp [h1, h4, h5, hr, hw, hx, words, Word.cells])); (with_reducible refine at_mk ?_); (with_reducible first | refine gm_bool ?_ | refine gm_gv ?_); refine ⟨_, (by intro hc; first | ((try simp only [Bool.and_eq_true] at hc); (try (conv => lhs; simp [hc, h1, h4, h5, hr, hw, hx, words, Word.cells])); first | done | exact rfl) | ((try simp [gq] at hc); (try (conv => lhs; simp [gq, hc, h1, h4, h5, hr, hw, hx, words, Word.cells])); first | done | exact rfl)), ?_⟩)
              | ((with_reducible refine st_m rfl ?_); (try (conv => arg 1; simp [h1, h4, h5, hr, hw, hx, words, Word.cells])); (with_reducible refine ev2_some ?_))
              | ((with_reducible refine fr_n rfl ?_); (try (conv => arg 1; simp [h1, h4, h5, hr, hw, hx, words, Word.cells])); (with_reducible refine evn_some ?_))
              | ((with_reducible first | refine st_cv ?_ | refine fr_cv ?_); (try (conv => arg 1; simp [h1, h4, h5, hr, hw, hx, words, Word.cells])); (with_reducible refine at_mk ?_); (with_reducible refine fn_mk ?_); (try (conv => arg 1; simp [h1, h4, h5, hr, hw, hx, words, Word.cells])); (with_reducible refine at_mk ?_))
              | ((with_reducible refine fr_a ?_); (try (conv => arg 1; simp [h1, h4, h5, hr, hw, hx, words, Word.cells])); (with_reducible refine at_mk ?_); (try (conv => arg 1; simp [h1, h4, h5, hr, hw, hx, words, Word.cells])); (with_reducible refine at_mk ?_); refine ⟨?names, ?_⟩; (case names => (simp [appNames, ints, intss] <;> first | kernel_rfl | (refine ⟨?_, ?_⟩ <;> kernel_rfl))); (try (conv => arg 1; simp [h1, h4, h5, hr, hw, hx, words, Word.cells])); (with_reducible refine ev2_some ?_))
              | ((with_reducible first | refine st_q ?_ | refine fr_q ?_ | refine st_res ?_); (try (conv => arg 1; simp [h1, h4, h5, hr, hw, hx, words, Word.cells])); (with_reducible refine ev_some ?_))
              | ((with_reducible refine st_if ?_); (try (conv => arg 1; simp [h1, h4, h5, hr, hw, hx, words, Word.cells])); (with_reducible refine at_mk ?_); with_reducible first | refine br_t ?_ | refine br_f ?_))
            refine dr_bool ?_
            simp only [imageOk, c1, e2, e3, c3, c4, c5, Bool.true_and, Bool.and_true, lastOk, hlast]
end Go.Proofs.YtmcmgeedhbgglaaGreatDoor.AM

namespace Go.Proofs.YtmcmgeedhbgglaaGreatDoor.AM
open Go.RowKit

private def ME5 : FuncId → Mode := fun f => .tree

/-- What of an image its text asks. -/
structure Image.Txt (m : Image) : Prop where
  sizes : m.Sizes.length ≤ 2 ^ 20
  code : m.Code.length ≤ 2 ^ 20
  sizes' : ∀ x ∈ m.Sizes, I64 x
  params : I64 m.Params
  slots : I64 m.Slots
  code' : ∀ w ∈ m.Code, I64 w.Op ∧ I64 w.R ∧ I64 w.A ∧ I64 w.B ∧ I64 w.N
theorem word_txt {m : Image} {w : Word} (h : wordOk m w = true) (d : I64 w.Op ∧ I64 w.R ∧ I64 w.A ∧ I64 w.B ∧ I64 w.N) : w.Txt := by
  have hop : 0 ≤ w.Op ∧ w.Op ≤ 11 := by
    apply Classical.byContradiction
    intro hn
    unfold wordOk at h
    have e0 : ¬ w.Op = 0 := by omega
    have e1 : ¬ (w.Op = 1 ∨ w.Op = 2) := by omega
    have e2 : ¬ w.Op = 3 := by omega
    have e3 : ¬ (w.Op = 4 ∨ w.Op = 5) := by omega
    have e4 : ¬ w.Op = 11 := by omega
    have e5 : ¬ (w.Op = 6 ∨ w.Op = 7 ∨ w.Op = 10) := by omega
    have e6 : ¬ w.Op = 8 := by omega
    have e7 : ¬ w.Op = 9 := by omega
    rw [if_neg e0, if_neg e1, if_neg e2, if_neg e3, if_neg e4, if_neg e5, if_neg e6, if_neg e7] at h
    cases h
  refine ⟨hop, d.2.1, d.2.2.1, d.2.2.2.1, d.2.2.2.2, fun h3 => ?_⟩
  unfold wordOk at h
  rw [if_neg (by omega), if_neg (by omega), if_pos h3] at h
  simp only [inB, Bool.and_eq_true, decide_eq_true_eq] at h
  omega
theorem image_word {m : Image} (h : imageOk m = true) (d : m.Txt) : ∀ w ∈ m.Code, w.Txt := fun w hw => by
  simp only [imageOk, Bool.and_eq_true, List.all_eq_true] at h
  exact word_txt (h.2 w hw) (d.code' w hw)
theorem image_code {m : Image} (h : imageOk m = true) : 1 ≤ m.Code.length ∧ m.Code.length ≤ 6000 := by
  simp only [imageOk, inB, Bool.and_eq_true, decide_eq_true_eq] at h
  omega
theorem wordT_len {w : Word} (d : w.Txt) : (wordT w).length ≤ 200 := by
  have := lineT_len d (formOf w.Op.toNat).length
  rwa [lineT_all] at this
def asmWR (m : Image) (a : Int) : List UInt8 := if imageOk m = true ∧ inB a 0 ((m.Code.length : Int) - 1) = true then wordT (m.Code.getD a.toNat ⟨0, 0, 0, 0, 0⟩) else []

end Go.Proofs.YtmcmgeedhbgglaaGreatDoor.AM

namespace Go.Proofs.YtmcmgeedhbgglaaGreatDoor.AM
open Go.RowKit

private def ME6 : FuncId → Mode := fun f => .tree

/-- The lines of a code's first words. -/
def codeT (c : List Word) (i : Nat) : List UInt8 := (c.take i).flatMap fun w => wordT w ++ [10]
theorem codeT_zero (c : List Word) : codeT c 0 = [] := by simp [codeT]
theorem codeT_succ {c : List Word} {i : Nat} (h : i < c.length) : codeT c (i + 1) = codeT c i ++ (wordT c[i] ++ [10]) := by
  unfold codeT
  rw [List.take_add_one, List.getElem?_eq_getElem h, List.flatMap_append]
  simp
theorem codeT_len {c : List Word} (d : ∀ w ∈ c, w.Txt) : ∀ i, i ≤ c.length → (codeT c i).length ≤ i * 201
  | 0, _ => by simp [codeT_zero]
  | i + 1, h => by
    have ih := codeT_len d i (by omega)
    have := wordT_len (d _ (List.getElem_mem (show i < c.length by omega)))
    rw [codeT_succ (by omega), List.length_append, List.length_append]
    simp only [List.length_singleton]
    omega
/-- The head of an image's text. -/
def asmH (m : Image) : List UInt8 := 109 :: 101 :: 109 :: (spd m.Sizes m.Sizes.length ++ 10 :: 112 :: 97 :: 114 :: 97 :: 109 :: 115 :: 32 :: (dg m.Params ++ 10 :: 115 :: 108 :: 111 :: 116 :: 115 :: 32 :: (dg m.Slots ++ [10])))
def asmT (m : Image) : List UInt8 := asmH m ++ codeT m.Code m.Code.length
def asmR (m : Image) : List UInt8 := if imageOk m = true then asmT m else []
theorem asmH_len {m : Image} (d : m.Txt) : (asmH m).length ≤ 8589934592 := by
  have h1 := spd_len d.sizes' m.Sizes.length d.sizes
  have h2 := dg_len d.params
  have h3 := dg_len d.slots
  simp only [asmH, List.length_cons, List.length_append, List.length_nil]
  omega

set_option maxHeartbeats 2000000 in
theorem l17Ints (l : List Int) (hl : l.length ≤ 2 ^ 20) (hx : ∀ x ∈ l, I64 x) : Pure Tryz.prog 40 [ints true l] (.str (bs (spd l l.length))) := by
  intro T
  refine enter mixed ME6 Tryz.func40 rfl (by kernel_rfl) rfl ?_
  repeat' (first | (with_reducible first | refine stp ?_ | refine k_blk_o rfl ?_ | refine k_seq_n ?_) | ((try (conv => arg 1; simp [bs_mk, bs_empty])); with_reducible refine evp ?_) | fail)
  refine st_loop (fun (i : Nat) σ h => i ≤ l.length ∧ σ 0 = ints true l ∧ σ 3 = .str (bs (spd l i)) ∧ σ 4 = .int .i64 i) (fun i => l.length - i) 0 ?init ?step
  case init =>
    exact ⟨Nat.zero_le _, by simp, by simp [spd_zero, bs_empty], by simp⟩
  case step =>
    rintro i σ h ⟨hi, s0, s3, s4⟩
    by_cases hlt : i < l.length
    · have hlt2 : (i : Int) < l.length := by omega
      have hxi : l[i]? = some l[i] := by simp
      have hw : IntKind.i64.wrap (i + 1) = i + 1 := wrap_id (by omega) (by omega)
      have K := specDecText l[i] (hx _ (List.getElem_mem hlt))
      haveI := bd_dg (hx _ (List.getElem_mem hlt))
      haveI : Bd (spd l i) 4294967296 := ⟨spd_len hx i hl⟩
      repeat' (first | (with_reducible first | refine stp ?_ | refine k_blk_o rfl ?_ | refine k_seq_n ?_) | ((try (conv => arg 1; simp [ints, s0, s3, s4, hlt2, hxi, hw, bs_mk, cat_le, bs_app])); with_reducible refine evp ?_) | ((with_reducible refine tcl ?_); first | ((apply tg (K)); (case e => rfl); (case d => (refine dq ?_); (repeat' (first | ((refine Da.mk ?_); first | assumption) | constructor))))) | fail)
      refine k_lp_n (i + 1) (by omega) ⟨by omega, by simp [s0], by simp [spd_succ hlt], by simp⟩
    · have hge : i = l.length := by omega
      subst hge
      repeat' (first | (with_reducible first | refine stp ?_ | refine k_blk_o rfl ?_ | refine k_seq_n ?_) | ((try (conv => arg 1; simp [ints, s0, s3, s4])); with_reducible refine evp ?_) | fail)
      exact .str _

set_option maxHeartbeats 4000000 in
theorem specAsm (m : Image) (d : m.Txt) : Pure Tryz.prog 18 [.agg (m.cells true)] (.str (bs (asmR m))) := by
  intro T
  have K0 := specImageOk m (by have := d.sizes; omega) (by have := d.code; omega)
  have hmc : m.cells true = [ints true m.Sizes, .int .i64 m.Params, .int .i64 m.Slots, words true m.Code] := rfl
  refine enter mixed ME6 Tryz.func18 rfl (by kernel_rfl) rfl ?_
  cases hI : imageOk m with
  | false =>
    rw [hI] at K0
    repeat' (first | (with_reducible first | refine stp ?_ | refine k_blk_o rfl ?_ | refine k_seq_n ?_) | ((try (conv => arg 1; simp [hmc, bs_empty])); with_reducible refine evp ?_) | ((with_reducible refine tcl ?_); first | ((apply tg (K0)); (case e => rfl); (case d => (refine dq ?_); (repeat' (first | ((refine Da.mk ?_); first | exact dr_words (by simp) _ | assumption) | constructor))))) | fail)
    simp [asmR, hI]
    exact .str _
  | true =>
    rw [hI] at K0
    have dw := image_word hI d
    have K1 := l17Ints m.Sizes d.sizes d.sizes'
    have K2 := specDecText m.Params d.params
    have K3 := specDecText m.Slots d.slots
    haveI := bd_dg d.params
    haveI := bd_dg d.slots
    haveI : Bd (spd m.Sizes m.Sizes.length) 4294967296 := ⟨spd_len d.sizes' _ d.sizes⟩
    have h1 : ¬ T = T + 1 + 1 := by omega
    have hR : asmR m = asmT m := by simp [asmR, hI]
    rw [hR]
    have hcl := (image_code hI).2
    repeat' (first | (with_reducible first | refine stp ?_ | refine k_blk_o rfl ?_ | refine k_seq_n ?_) | ((try (conv => arg 1; simp [hmc, bs_empty])); with_reducible refine evp ?_) | ((with_reducible refine tcl ?_); first | ((apply tg (K0)); (case e => rfl); (case d => (refine dq ?_); (repeat' (first | ((refine Da.mk ?_); first | exact dr_words (by simp) _ | assumption) | constructor))))) | fail)
    repeat (with_reducible first | refine stp ?_ | refine k_seq_n ?_)
    refine st_draw 16 (fun _ => false) (by kernel_rfl) ?_
    simp only [List.take_succ_cons, List.take_zero, List.drop_succ_cons, List.drop_zero, List.take_nil, List.drop_nil]
    repeat' (first | (with_reducible first | refine stp ?_ | refine k_blk_o rfl ?_ | refine k_seq_n ?_) | ((try (conv => arg 1; simp [hmc, maskR, h1, bs_mk, cat_le, bs_app])); with_reducible refine evp ?_) | ((with_reducible refine apn ?na ?_); (case na => simp [appNames, ints, intss] <;> first | kernel_rfl | (refine ⟨?_, ?_⟩ <;> kernel_rfl))) | ((with_reducible refine tcl ?_); first | ((apply tg (K1)); (case e => rfl); (case d => (refine dq ?_); (repeat' (first | ((refine Da.mk ?_); first | assumption) | constructor)))) | ((apply tg (K2)); (case e => rfl); (case d => (refine dq ?_); (repeat' (first | ((refine Da.mk ?_); first | assumption) | constructor)))) | ((apply tg (K3)); (case e => rfl); (case d => (refine dq ?_); (repeat' (first | ((refine Da.mk ?_); first | assumption) | constructor))))) | fail)
    refine st_loop (fun (i : Nat) σ h => i ≤ m.Code.length ∧ σ 1 = .ptr (T, 0, 0) 0 0 0 ∧ h.rows (T, 0, 0) = some ⟨0, 4, [m.cells true]⟩ ∧ σ 3 = .str (bs (asmH m ++ codeT m.Code i)) ∧ σ 4 = .int .i64 i) (fun i => m.Code.length - i) 0 ?init ?step
    case init =>
      exact ⟨Nat.zero_le _, by simp, by simp [hmc], by simp [asmH, codeT_zero], by simp⟩
    case step =>
      rintro i σ h ⟨hi, s1, hr, s3, s4⟩
      rw [hmc] at hr
      haveI : Bd (asmH m) 8589934592 := ⟨asmH_len d⟩
      by_cases hlt : i < m.Code.length
      · have hlt2 : (i : Int) < m.Code.length := by omega
        have hxi : m.Code[i]? = some m.Code[i] := by simp
        have hw : IntKind.i64.wrap (i + 1) = i + 1 := wrap_id (by omega) (by omega)
        have hdw := dw _ (List.getElem_mem hlt)
        have K := l17Word m.Code[i] hdw
        haveI : Bd (wordT m.Code[i]) 200 := ⟨wordT_len hdw⟩
        haveI : Bd (codeT m.Code i) 4294967296 := ⟨by have := codeT_len dw i hi; omega⟩
        have hs := codeT_succ hlt
        generalize hW : m.Code[i] = w at *
        obtain ⟨Op, R, A, B, N⟩ := w
        repeat' (first | (with_reducible first | refine stp ?_ | refine k_blk_o rfl ?_ | refine k_seq_n ?_) | ((try (conv => arg 1; simp [words, hW, Word.cells, s1, hr, s3, s4, hlt, hlt2, hxi, hw, bs_mk, cat_le, bs_app])); with_reducible refine evp ?_) | ((with_reducible refine apn ?na ?_); (case na => simp [appNames, ints, intss] <;> first | kernel_rfl | (refine ⟨?_, ?_⟩ <;> kernel_rfl))) | ((with_reducible refine tcl ?_); first | ((apply tg (K)); (case e => rfl); (case d => (refine dq ?_); (repeat' (first | ((refine Da.mk ?_); first | assumption) | constructor))))) | fail)
        refine k_lp_n (i + 1) (by omega) ⟨by omega, by simp [s1], by simp [hr, hmc, words], by simp [hs], by simp⟩
      · have hge : i = m.Code.length := by omega
        subst hge
        repeat' (first | (with_reducible first | refine stp ?_ | refine k_blk_o rfl ?_ | refine k_seq_n ?_) | ((try (conv => arg 1; simp [words, s1, hr, s3, s4])); with_reducible refine evp ?_) | ((with_reducible refine apn ?na ?_); (case na => simp [appNames, ints, intss] <;> first | kernel_rfl | (refine ⟨?_, ?_⟩ <;> kernel_rfl))) | fail)
        exact .str _

set_option maxHeartbeats 4000000 in
theorem implasm (m : Image) (d : m.Txt) (dw : ∀ w ∈ m.Code, w.Txt) (hcl : m.Code.length ≤ 6000) : Pure Tryz.prog 47 [.agg (m.cells true)] (.str (bs (asmT m))) := by
  intro T
  have hmc : m.cells true = [ints true m.Sizes, .int .i64 m.Params, .int .i64 m.Slots, words true m.Code] := rfl
  have K2 := itoaB m.Params d.params
  have K3 := itoaB m.Slots d.slots
  have hsl := d.sizes
  refine enter mixed ME6 Tryz.func47 rfl (by kernel_rfl) rfl ?_
  repeat' (first | (with_reducible first | refine stp ?_ | refine k_blk_o rfl ?_ | refine k_seq_n ?_) | ((try (conv => arg 1; simp [hmc, bs_mk, bs_empty])); with_reducible refine evp ?_) | fail)
  refine st_loop (fun (i : Nat) σ h => i ≤ m.Sizes.length ∧ T < h.tick ∧ σ 1 = .ptr (T, 0, 0) 0 0 0 ∧ h.rows (T, 0, 0) = some ⟨0, 4, [m.cells true]⟩ ∧ σ 3 = .str (bs (109 :: 101 :: 109 :: spd m.Sizes i)) ∧ σ 9 = ints true m.Sizes ∧ σ 10 = .int .i64 m.Sizes.length ∧ σ 11 = .int .i64 i) (fun i => m.Sizes.length - i) 0 ?init ?step
  case init =>
    exact ⟨Nat.zero_le _, by simp [ltS], by simp, by simp [hmc], by simp [spd_zero], by simp, by simp, by simp⟩
  case step =>
    rintro i σ h ⟨hi, ht, s1, hr, s3, s9, s10, s11⟩
    haveI : Bd (spd m.Sizes i) 4294967296 := ⟨spd_len d.sizes' _ d.sizes⟩
    by_cases hlt : i < m.Sizes.length
    · have hlt2 : (i : Int) < m.Sizes.length := by omega
      have hxi : m.Sizes[i]? = some m.Sizes[i] := by simp
      have hw : IntKind.i64.wrap (i + 1) = i + 1 := wrap_id (by omega) (by omega)
      have K := itoaB m.Sizes[i] (d.sizes' _ (List.getElem_mem hlt))
      haveI := bd_dg (d.sizes' _ (List.getElem_mem hlt))
      repeat' (first | (with_reducible first | refine stp ?_ | refine k_blk_o rfl ?_ | refine k_seq_n ?_) | ((try (conv => arg 1; simp [ints, s1, s3, s9, s10, s11, hlt2, hxi, hw, bs_mk, cat_le, bs_app])); with_reducible refine evp ?_) | ((with_reducible refine tcl ?_); first | ((apply tg (K)); (case e => rfl); (case d => (refine dq ?_); (repeat' (first | ((refine Da.mk ?_); first | assumption) | constructor))))) | fail)
      refine k_lp_n (i + 1) (by omega) ⟨by omega, by simp; omega, by simp [s1], by simp [hr], by simp [spd_succ hlt], by simp [s9], by simp [s10], by simp⟩
    · have hge : i = m.Sizes.length := by omega
      subst hge
      rw [hmc] at hr
      haveI := bd_dg d.params
      haveI := bd_dg d.slots
      have n1 : T < h.tick + 1 := by omega
      repeat' (first | (with_reducible first | refine stp ?_ | refine k_blk_o rfl ?_ | refine k_seq_n ?_) | ((try (conv => arg 1; simp [s1, s3, s9, s10, s11])); with_reducible refine evp ?_) | fail)
      repeat (with_reducible first | refine stp ?_ | refine k_seq_n ?_)
      refine st_draw 13 (fun _ => false) (by kernel_rfl) ?_
      simp only [List.take_succ_cons, List.take_zero, List.drop_succ_cons, List.drop_zero, List.take_nil, List.drop_nil]
      repeat' (first | (with_reducible first | refine stp ?_ | refine k_blk_o rfl ?_ | refine k_seq_n ?_) | ((try (conv => arg 1; simp [s1, hr, s3, maskR, tk_ne, n1, bs_mk, cat_le, bs_app])); with_reducible refine evp ?_) | ((with_reducible refine apn ?na ?_); (case na => simp [appNames, ints, intss] <;> first | kernel_rfl | (refine ⟨?_, ?_⟩ <;> kernel_rfl))) | ((with_reducible refine tcl ?_); first | ((apply tg (K2)); (case e => rfl); (case d => (refine dq ?_); (repeat' (first | ((refine Da.mk ?_); first | assumption) | constructor)))) | ((apply tg (K3)); (case e => rfl); (case d => (refine dq ?_); (repeat' (first | ((refine Da.mk ?_); first | assumption) | constructor))))) | fail)
      refine st_loop (fun (i : Nat) σ h => i ≤ m.Code.length ∧ σ 3 = .str (bs (asmH m ++ codeT m.Code i)) ∧ σ 34 = words true m.Code ∧ σ 35 = .int .i64 m.Code.length ∧ σ 36 = .int .i64 i) (fun i => m.Code.length - i) 0 ?init2 ?step2
      case init2 =>
        exact ⟨Nat.zero_le _, by simp [asmH, codeT_zero], by simp, by simp, by simp⟩
      case step2 =>
        rintro i σ h ⟨hi, s3, s34, s35, s36⟩
        haveI : Bd (asmH m) 8589934592 := ⟨asmH_len d⟩
        by_cases hlt : i < m.Code.length
        · have hlt2 : (i : Int) < m.Code.length := by omega
          have hxi : m.Code[i]? = some m.Code[i] := by simp
          have hw : IntKind.i64.wrap (i + 1) = i + 1 := wrap_id (by omega) (by omega)
          have hdw := dw _ (List.getElem_mem hlt)
          have K := asmWord m.Code[i] hdw
          haveI : Bd (wordT m.Code[i]) 200 := ⟨wordT_len hdw⟩
          haveI : Bd (codeT m.Code i) 4294967296 := ⟨by have := codeT_len dw i hi; omega⟩
          have hs := codeT_succ hlt
          generalize hW : m.Code[i] = w at *
          obtain ⟨Op, R, A, B, N⟩ := w
          repeat' (first | (with_reducible first | refine stp ?_ | refine k_blk_o rfl ?_ | refine k_seq_n ?_) | ((try (conv => arg 1; simp [words, hW, Word.cells, s3, s34, s35, s36, hlt, hlt2, hxi, hw, bs_mk, cat_le, bs_app])); with_reducible refine evp ?_) | ((with_reducible refine apn ?na ?_); (case na => simp [appNames, ints, intss] <;> first | kernel_rfl | (refine ⟨?_, ?_⟩ <;> kernel_rfl))) | ((with_reducible refine tcl ?_); first | ((apply tg (K)); (case e => rfl); (case d => (refine dq ?_); (repeat' (first | ((refine Da.mk ?_); first | assumption) | constructor))))) | fail)
          refine k_lp_n (i + 1) (by omega) ⟨by omega, by simp [hs], by simp [s34], by simp [s35], by simp⟩
        · have hge : i = m.Code.length := by omega
          subst hge
          repeat' (first | (with_reducible first | refine stp ?_ | refine k_blk_o rfl ?_ | refine k_seq_n ?_) | ((try (conv => arg 1; simp [words, s3, s34, s35, s36])); with_reducible refine evp ?_) | ((with_reducible refine apn ?na ?_); (case na => simp [appNames, ints, intss] <;> first | kernel_rfl | (refine ⟨?_, ?_⟩ <;> kernel_rfl))) | fail)
          exact .str _

end Go.Proofs.YtmcmgeedhbgglaaGreatDoor.AM

namespace Go.Proofs.YtmcmgeedhbgglaaGreatDoor.AM
open Go.RowKit

private def ME25 : FuncId → Mode := fun f => if f = 37 then .fresh else .tree

/-- The names of the head's lines. -/
def headW (i : Nat) : List UInt8 := if i = 0 then [109, 101, 109] else if i = 1 then [112, 97, 114, 97, 109, 115] else [115, 108, 111, 116, 115]
/-- A line, read into an image. -/
def stepR (m : Image) (i : Nat) (line : List UInt8) : Image × Bool :=
  if 2 < i then ({ m with Code := m.Code ++ [(wordR line).1] }, (wordR line).2)
  else if (numsR line (headW i)).2 = false ∨ (0 < i ∧ (numsR line (headW i)).1.length ≠ 1) then (m, false)
  else if i = 0 then ({ m with Sizes := (numsR line (headW i)).1 }, true)
  else if i = 1 then ({ m with Params := (numsR line (headW i)).1.headD 0 }, true)
  else ({ m with Slots := (numsR line (headW i)).1.headD 0 }, true)

theorem len_own {rows : Nm → Option Row} {w : AV} {xs : List Int} {ns : List Nm} (h : Own rows true [w] [ints true xs] ns) : lenA Tryz.prog 22 w = some (.int .i64 xs.length) := by
  rcases own_ints_inv h with ⟨rfl, _, h⟩ | ⟨k, ver, pre, sp, rfl, rfl, hr, _⟩
  · rcases h with ⟨rfl, _⟩ | ⟨n, ver, off, rfl, _⟩ <;> simp
  · simp

set_option maxHeartbeats 8000000 in
theorem l17Line (m : Image) (i : Nat) (line : List UInt8) (hl : line.length ≤ 2 ^ 21) (hi : i ≤ 2 ^ 40) (hcl : m.Code.length ≤ 4294967290) {h : Hp} {bs1 bC : Bx} {os : Ox} {ns : List Nm} {wS wC : AV} (fl : FL 5 (m.Code.map Word.cells) wC bC) (z : Cx h (bC ++ bs1) ((wS, (fun c => ints c m.Sizes), ns) :: os)) :
    Sound Tryz.prog 16 [.agg [wS, .int .i64 m.Params, .int .i64 m.Slots, wC], .int .i64 i, .str (bs line)] h fun v h' => ∃ wS' wC' bC' ns', v = .tup [.agg [wS', .int .i64 (stepR m i line).1.Params, .int .i64 (stepR m i line).1.Slots, wC'], .bool (stepR m i line).2] ∧
      FL 5 ((stepR m i line).1.Code.map Word.cells) wC' bC' ∧ h.tick ≤ h'.tick ∧ (∀ n ∈ bC'.map (·.1) ++ ns', n ∈ bC.map (·.1) ++ ns ∨ h.tick ≤ n.1) ∧ Cx h' (bC' ++ bs1) ((wS', (fun c => ints c (stepR m i line).1.Sizes), ns') :: os) := by
  have qS := own_one (own_of (z.o0 true) rfl)
  have qC := fl.one
  have hnil : True := trivial
  have y1 := z.next.box_one (T := h.tick) (i := 0) (r := ⟨0, 4, [[wS, .int .i64 m.Params, .int .i64 m.Slots, wC]]⟩) z.off (by simp)
  have y2 := y1.box_add (n := (h.tick, 1, 0)) (r := ⟨0, 4, [[.nilsl, .int .i64 0, .int .i64 0, .nilsl]]⟩) (by rw [nms_box]; simp; exact fun e => by have := z.lt _ e; simp at this) (by simp)
  refine enter mixed ME25 Tryz.func16 rfl (by kernel_rfl) rfl ?_
  by_cases h2 : 2 < i
  · have h2i : 2 < (i : Int) := by omega
    have K1 := l17Read line hl
    have hS : stepR m i line = ({ m with Code := m.Code ++ [(wordR line).1] }, (wordR line).2) := by unfold stepR; rw [if_pos h2]
    rw [hS]
    generalize wordR line = o at K1 ⊢
    obtain ⟨w, ok⟩ := o
    dsimp only at K1 ⊢
    have hcw := cells5 w
    rw [hcw] at K1
    have y3 := y2.next.next.box_new (T := h.tick + 1 + 1) (i := 5) (r := ⟨0, 5, [[.int .i64 0, .int .i64 0, .int .i64 0, .int .i64 0, .int .i64 0]]⟩) (r' := ⟨0, 5, [[.int .i64 w.Op, .int .i64 w.R, .int .i64 w.A, .int .i64 w.B, .int .i64 w.N]]⟩) y2.next.off (by simp)
    repeat' (first | (with_reducible first | refine stp ?_ | refine k_blk_o rfl ?_ | refine k_seq_n ?_) | ((try (conv => arg 1; simp [qS.1, qS.2.1, qS.2.2, qC.1, qC.2.1, qC.2.2, h2i, bs_mk])); with_reducible refine evp ?_) | ((with_reducible refine tcl ?_); first | ((apply tg (K1)); (case e => rfl); (case d => (refine dq ?_); (repeat' (first | ((refine Da.mk ?_); first | assumption) | constructor))))) | fail)
    conv => arg 1; simp
    refine ev2_appN (s := 5) (fs := [((h.tick + 1 + 1, 5, 0), ⟨0, 5, [[.int .i64 w.Op, .int .i64 w.R, .int .i64 w.A, .int .i64 w.B, .int .i64 w.N]]⟩), ((h.tick, 1, 0), ⟨0, 4, [[.nilsl, .int .i64 0, .int .i64 0, .nilsl]]⟩), ((h.tick, 0, 0), ⟨0, 4, [[wS, .int .i64 m.Params, .int .i64 m.Slots, wC]]⟩)]) (os := (wS, (fun c => ints c m.Sizes), ns) :: os) (bs := bs1) (e := w.cells) (by kernel_rfl) fl ?hx ?hk rfl ?hl ?hn ?ht ?kk
    case hx => exact y3.next.put_junk (Cx.new_nin y3 (by simp))
    case hk => simp [hcw]
    case hl => simp; omega
    case hn => exact Cx.new_nin y3 (by simp)
    case ht => simp
    intro w' b' h4 fl' z4 tk q' qn
    have z4 : Cx h4 (_ :: _ :: _ :: (b' ++ bs1)) _ := z4
    have b4 := z4.bxs
    simp only [Bxs] at b4
    repeat' (first | (with_reducible first | refine stp ?_ | refine k_blk_o rfl ?_ | refine k_seq_n ?_) | ((try (conv => arg 1; simp [qS.1, qS.2.1, qS.2.2, b4, q'.1, q'.2.1, q'.2.2, ltS, nm_ne])); with_reducible refine evp ?_) | fail)
    exact ⟨wS, w', b', ns, rfl, by simpa using fl', by simp [tk]; omega, fun n hn => by
      simp only [List.mem_append, List.mem_map] at hn ⊢
      rcases hn with ⟨y, hy, rfl⟩ | hn
      · rcases qn y hy with e | e
        · rw [e]; exact .inr (by simp; omega)
        · exact .inl (.inl (by simpa using e))
      · exact .inl (.inr hn), (Cx.to z4).box_drop.box_drop.box_drop⟩
  · have h2i : ¬ 2 < (i : Int) := by omega
    have K1 := l17Head line (headW i) hl
    have hi2 : i = 0 ∨ i = 1 ∨ i = 2 := by omega
    have hS : stepR m i line = if (numsR line (headW i)).2 = false ∨ (0 < i ∧ (numsR line (headW i)).1.length ≠ 1) then (m, false)
      else if i = 0 then ({ m with Sizes := (numsR line (headW i)).1 }, true)
      else if i = 1 then ({ m with Params := (numsR line (headW i)).1.headD 0 }, true)
      else ({ m with Slots := (numsR line (headW i)).1.headD 0 }, true) := by unfold stepR; rw [if_neg h2]
    rw [hS]
    generalize numsR line (headW i) = o at K1 ⊢
    obtain ⟨xs, ok⟩ := o
    dsimp only at K1 ⊢
    have y3 := y2.next.next
    have nin : (h.tick + 1 + 1, 1, 0) ∉ nms (((h.tick, 1, 0), ⟨0, 4, [[.nilsl, .int .i64 0, .int .i64 0, .nilsl]]⟩) :: ((h.tick, 0, 0), ⟨0, 4, [[wS, .int .i64 m.Params, .int .i64 m.Slots, wC]]⟩) :: (bC ++ bs1)) ((wS, (fun c => ints c m.Sizes), ns) :: os) := Cx.new_nin y2.next (by simp)
    rcases hi2 with rfl | rfl | rfl
    case inl =>
      simp only [headW] at K1
      repeat' (first | (with_reducible first | refine stp ?_ | refine k_blk_o rfl ?_ | refine k_seq_n ?_) | ((try (conv => arg 1; simp [qS.1, qS.2.1, qS.2.2, qC.1, qC.2.1, qC.2.2, h2i, rg3, bs_mk])); with_reducible refine evp ?_) | fail)
      refine st_freshw rfl K1 (.cons (.str _) (.cons (.str _) .nil)) ?_
      intro v1 h5 n1 o1 d1 f1 p1 t1
      obtain ⟨w1, rfl, o2⟩ := ownV_pair o1
      have z5 := (y3.put_junk nin).fresh o2 d1 f1 p1 t1
      have q1 := own_one (own_of (o2 true) rfl)
      have b5 := z5.bxs
      simp only [Bxs] at b5
      cases ok with
      | false =>
        rw [if_pos (.inl rfl)]
        repeat' (first | (with_reducible first | refine stp ?_ | refine k_blk_o rfl ?_ | refine k_seq_n ?_) | ((try (conv => arg 1; simp [qS.1, qS.2.1, qS.2.2, qC.1, qC.2.1, qC.2.2, q1.1, q1.2.1, q1.2.2, b5, ltS, nm_ne])); with_reducible refine evp ?_) | fail)
        exact ⟨wS, wC, bC, ns, rfl, fl, by simp at t1 ⊢; omega, fun n hn => .inl hn, (Cx.to z5).drop.box_drop.box_drop⟩
      | true =>
        rw [if_neg (by simp), if_pos rfl]
        repeat' (first | (with_reducible first | refine stp ?_ | refine k_blk_o rfl ?_ | refine k_seq_n ?_) | ((try (conv => arg 1; simp [qS.1, qS.2.1, qS.2.2, qC.1, qC.2.1, qC.2.2, q1.1, q1.2.1, q1.2.2, b5, ltS, nm_ne])); with_reducible refine evp ?_) | fail)
        exact ⟨w1, wC, bC, n1, rfl, fl, by simp at t1 ⊢; omega, fun n hn => by
          simp only [List.mem_append] at hn ⊢
          rcases hn with hn | hn
          · exact .inl (.inl hn)
          · have := (f1 n hn).1; simp at this; exact .inr (by omega), (Cx.to z5).rot1.drop.box_drop.box_drop⟩
    all_goals
      simp only [headW] at K1
      repeat' (first | (with_reducible first | refine stp ?_ | refine k_blk_o rfl ?_ | refine k_seq_n ?_) | ((try (conv => arg 1; simp [qS.1, qS.2.1, qS.2.2, qC.1, qC.2.1, qC.2.2, h2i, rg3, bs_mk])); with_reducible refine evp ?_) | fail)
      refine st_freshw rfl K1 (.cons (.str _) (.cons (.str _) .nil)) ?_
      intro v1 h5 n1 o1 d1 f1 p1 t1
      obtain ⟨w1, rfl, o2⟩ := ownV_pair o1
      have z5 := (y3.put_junk nin).fresh o2 d1 f1 p1 t1
      have q1 := own_one (own_of (o2 true) rfl)
      have b5 := z5.bxs
      simp only [Bxs] at b5
      cases ok with
      | false =>
        rw [if_pos (.inl rfl)]
        repeat' (first | (with_reducible first | refine stp ?_ | refine k_blk_o rfl ?_ | refine k_seq_n ?_) | ((try (conv => arg 1; simp [qS.1, qS.2.1, qS.2.2, qC.1, qC.2.1, qC.2.2, q1.1, q1.2.1, q1.2.2, b5, ltS, nm_ne])); with_reducible refine evp ?_) | fail)
        exact ⟨wS, wC, bC, ns, rfl, fl, by simp at t1 ⊢; omega, fun n hn => .inl hn, (Cx.to z5).drop.box_drop.box_drop⟩
      | true =>
        by_cases hx : xs.length = 1
        · obtain ⟨x, rfl⟩ := List.length_eq_one_iff.1 hx
          rw [if_neg (by simp), if_neg (by decide)]
          rcases own_ints_inv (own_of (o2 true) rfl) with ⟨h0, _⟩ | ⟨k, ver, pre, sp, rfl, rfl, hr, _⟩
          · cases h0
          have hel : (pre ++ (cl1 [x] ++ sp))[pre.length]? = some [.int .i64 x] := by simp [cl1]
          repeat' (first | (with_reducible first | refine stp ?_ | refine k_blk_o rfl ?_ | refine k_seq_n ?_) | ((try (conv => arg 1; simp [qS.1, qS.2.1, qS.2.2, qC.1, qC.2.1, qC.2.2, hr, hel, b5, ltS, nm_ne])); with_reducible refine evp ?_) | fail)
          first | rw [if_pos rfl] | rw [if_neg (by decide)]
          exact ⟨wS, wC, bC, ns, rfl, fl, by simp at t1 ⊢; omega, fun n hn => .inl hn, (Cx.to z5).drop.box_drop.box_drop⟩
        · have hx2 : ¬ (xs.length : Int) = 1 := by omega
          rw [if_pos (.inr ⟨by decide, hx⟩)]
          have ll : lenA Tryz.prog 22 w1 = some (.int .i64 xs.length) := len_own (own_of (o2 true) rfl)
          repeat' (first | (with_reducible first | refine stp ?_ | refine k_blk_o rfl ?_ | refine k_seq_n ?_) | ((try (conv => arg 1; simp [qS.1, qS.2.1, qS.2.2, qC.1, qC.2.1, qC.2.2, q1.1, q1.2.1, q1.2.2, hx2, ll, b5, ltS, nm_ne])); with_reducible refine evp ?_) | fail)
          exact ⟨wS, wC, bC, ns, rfl, fl, by simp at t1 ⊢; omega, fun n hn => .inl hn, (Cx.to z5).drop.box_drop.box_drop⟩
end Go.Proofs.YtmcmgeedhbgglaaGreatDoor.AM

namespace Go.Proofs.YtmcmgeedhbgglaaGreatDoor.AM
open Go.RowKit

private def ME21 : FuncId → Mode := fun f => .tree

set_option maxHeartbeats 4000000 in
theorem l17Lines (l : List UInt8) (hl : l.length ≤ 2 ^ 21) : Pure Tryz.prog 15 [.str (bs l)] (.tup [strs false ((spl 10 l).dropLast.map bs), .str (bs ((spl 10 l).getLast (spl_ne 10 l)))]) := by
  intro T
  have hlen := bs_size l
  have x0 : Cx (Hp.mt T) [] [] := Cx.mt
  have y1 := x0.next.next.box_one (T := T + 1) (i := 0) (r := ⟨0, 1, []⟩) x0.next.off (by simp)
  refine enter mixed ME21 Tryz.func15 rfl (by kernel_rfl) rfl ?_
  repeat' (first | (with_reducible first | refine stp ?_ | refine k_blk_o rfl ?_ | refine k_seq_n ?_) | ((try (conv => arg 1; simp [bs_mk])); with_reducible refine evp ?_) | fail)
  refine st_loop (fun (i : Nat) σ h => ∃ a d w b, i ≤ l.length ∧ CutI 10 l i a d ∧ T < h.tick ∧ σ 0 = .str (bs l) ∧ σ 4 = w ∧ σ 5 = .int .i64 a ∧ σ 6 = .int .i64 i ∧ FL 1 (d.map sc) w b ∧ Cx h (b ++ []) []) (fun i => l.length - i) 0 ?init ?step
  case init =>
    exact ⟨0, [], _, [((T + 1, 0, 0), ⟨0, 1, []⟩)], Nat.zero_le _, CutI.zero, by simp [ltS], by simp, by simp, by simp, by simp, FL.mt, Cx.to y1⟩
  case step =>
    rintro i σ h ⟨a, d, w, b, hi, cI, ht, s0, s4, s5, s6, fl, z⟩
    have hai := cI.le
    have hdl := cI.ln
    have q := fl.one
    by_cases hlt : i < l.length
    · have hlt2 : (i : Int) < l.length := by omega
      have hw : IntKind.i64.wrap (i + 1) = i + 1 := wrap_id (by omega) (by omega)
      by_cases hc : l[i] = 10
      · have hsl : ∀ rows, sliceA Tryz.prog rows 9 (.str (bs l)) (some (.int .i64 a)) (some (.int .i64 i)) false = some (.str (bs ((l.drop a).take (i - a)))) := fun rows => by
          rw [slice_ft und_9 (by omega) (by omega) (by omega)]
          simp
        have hc2 : l[i].toNat = 10 := by rw [hc]; rfl
        repeat' (first | (with_reducible first | refine stp ?_ | refine k_blk_o rfl ?_ | refine k_seq_n ?_) | ((try (conv => arg 1; simp [s0, s4, s5, s6, hlt, hlt2, hlen, hc, hsl, hw, bs_getE])); with_reducible refine evp ?_) | fail)
        conv => arg 1; simp
        refine ev2_app (s := 1) (fs := []) (os := []) (bs := []) (e := sc ((l.drop a).take (i - a))) (by kernel_rfl) fl ?hx ?hk rfl ?hl ?hn ?ht ?kk
        case hx => exact Cx.to z
        case hk => simp [sc]
        case hl => simp; omega
        case hn => exact Cx.new_nin z (by first | omega | (simp; done) | (simp; omega))
        case ht => simp
        intro w' b' h4 fl' z4 tk q'
        repeat' (first | (with_reducible first | refine stp ?_ | refine k_blk_o rfl ?_ | refine k_seq_n ?_) | ((try (conv => arg 1; simp [s0, s4, s5, s6, hw])); with_reducible refine evp ?_) | fail)
        refine k_lp_n (i + 1) (by omega) ⟨i + 1, d ++ [(l.drop a).take (i - a)], w', b', by omega, cI.hit hlt hc, by simp [tk]; omega, by simp [s0], by simp, by simp, by simp, by simpa using fl', Cx.to z4⟩
      · have hc2 : ¬ (l[i].toNat : Int) = 10 := fun e => hc (UInt8.toNat_inj.1 (by show l[i].toNat = 10; omega))
        repeat' (first | (with_reducible first | refine stp ?_ | refine k_blk_o rfl ?_ | refine k_seq_n ?_) | ((try (conv => arg 1; simp [s0, s4, s5, s6, hlt, hlt2, hlen, hc2, hw, bs_getE])); with_reducible refine evp ?_) | fail)
        refine k_lp_n (i + 1) (by omega) ⟨a, d, w, b, by omega, cI.miss hlt hc, by simp; omega, by simp [s0], by simp [s4], by simp [s5], by simp, fl, Cx.to z⟩
    · have hge : i = l.length := by omega
      subst hge
      have hfr : ∀ rows, sliceA Tryz.prog rows 9 (.str (bs l)) (some (.int .i64 a)) none false = some (.str (bs (l.drop a))) := fun rows => by
        rw [slice_fr und_9 (by omega) (by omega)]
        simp
      repeat' (first | (with_reducible first | refine stp ?_ | refine k_blk_o rfl ?_ | refine k_seq_n ?_) | ((try (conv => arg 1; simp [s0, s4, s5, s6, hlen, hfr])); with_reducible refine evp ?_) | fail)
      repeat (with_reducible first | refine stp ?_ | refine k_seq_n ?_)
      refine st_draw 6 (fun _ => false) (by kernel_rfl) ?_
      simp only [List.take_succ_cons, List.take_zero, List.drop_succ_cons, List.drop_zero, List.take_nil, List.drop_nil]
      repeat' (first | (with_reducible first | refine stp ?_ | refine k_blk_o rfl ?_ | refine k_seq_n ?_) | ((try (conv => arg 1; simp [s0, s4, s5, s6, hlen, hfr])); with_reducible refine evp ?_) | ((with_reducible refine apn ?na ?_); (case na => simp [appNames, ints, intss] <;> first | kernel_rfl | (refine ⟨?_, ?_⟩ <;> kernel_rfl))) | fail)
      have e1 : (spl 10 l).dropLast = d := by rw [cI.fin]; simp
      have e2 : (spl 10 l).getLast (spl_ne 10 l) = l.drop a := by simp [cI.fin]
      rw [e1, e2, sc_strs]
      exact dr_tup2 (fl.dr sc_flat (fun y hy => (Cx.to z : Cx _ (b ++ []) []).box y (by simp [hy]))) (.str _)
end Go.Proofs.YtmcmgeedhbgglaaGreatDoor.AM

namespace Go.Proofs.YtmcmgeedhbgglaaGreatDoor.AM
open Go.RowKit

private def ME26 : FuncId → Mode := fun f => if f = 16 then .heap else .tree

def img0 : Image := ⟨[], 0, 0, []⟩
/-- Lines, read one by one. -/
def runR : Image → Nat → List (List UInt8) → Image × Option Nat
  | m, _, [] => (m, none)
  | m, i, l :: ls => if (stepR m i l).2 = true then runR (stepR m i l).1 (i + 1) ls else (img0, some (i + 1))
def linesOf (s : List UInt8) : List (List UInt8) := (spl 10 s).dropLast
def restOf (s : List UInt8) : List UInt8 := (spl 10 s).getLast (spl_ne 10 s)
/-- A text, read. -/
def readAR (s : List UInt8) : Image × Int := match (runR img0 0 (linesOf s)).2 with
  | some k => (img0, k)
  | none => if restOf s = [] ∧ imageOk (runR img0 0 (linesOf s)).1 = true ∧ asmT (runR img0 0 (linesOf s)).1 = s then ((runR img0 0 (linesOf s)).1, 0) else (img0, (linesOf s).length + 1)
/-- Numbers that fit. -/
structure ImgI (m : Image) : Prop where
  sizes : ∀ x ∈ m.Sizes, I64 x
  params : I64 m.Params
  slots : I64 m.Slots
  code : ∀ w ∈ m.Code, I64 w.Op ∧ I64 w.R ∧ I64 w.A ∧ I64 w.B ∧ I64 w.N
theorem i0 : I64 0 := ⟨by decide, by decide⟩
theorem img0_in : ImgI img0 := ⟨by simp [img0], i0, i0, by simp [img0]⟩
def WordI (w : Word) : Prop := I64 w.Op ∧ I64 w.R ∧ I64 w.A ∧ I64 w.B ∧ I64 w.N
theorem oneR_in {w : Word} (b : UInt8) (s : List UInt8) (h : WordI w) : WordI (oneR w b s).1 := by
  obtain ⟨h1, h2, h3, h4, h5⟩ := h
  have hf : I64 (findI signL s) := by
    have := findI_lt signL s
    have e : signL.length = 6 := rfl
    exact ⟨by omega, by omega⟩
  unfold oneR
  split
  · exact ⟨h1, npR_in _ _, h3, h4, h5⟩
  · split
    · exact ⟨h1, h2, npR_in _ _, h4, h5⟩
    · split
      · exact ⟨h1, h2, h3, npR_in _ _, h5⟩
      · split
        · exact ⟨h1, h2, h3, h4, readR_in _⟩
        · split
          · exact ⟨h1, h2, h3, h4, hf⟩
          · exact ⟨h1, h2, h3, h4, npR_in _ _⟩
theorem lineR_in : ∀ (f : List UInt8) (w : Word) (ps : List (List UInt8)), WordI w → WordI (lineR w f ps).1
  | [], w, ps, h => by simpa [lineR] using h
  | b :: f, w, ps, h => by
    unfold lineR
    split
    · exact lineR_in f _ _ (oneR_in _ _ h)
    · exact oneR_in _ _ h
theorem wordR_in (l : List UInt8) : WordI (wordR l).1 := by
  unfold wordR wordP
  split
  · rename_i op h
    have hop := (List.find?_range_eq_some.1 h).2.1
    simp only [List.mem_range] at hop
    exact lineR_in _ _ _ ⟨⟨by simp only; omega, by simp only; omega⟩, i0, i0, i0, i0⟩
  · exact ⟨i0, i0, i0, i0, i0⟩
theorem numsR_in (l word : List UInt8) : ∀ x ∈ (numsR l word).1, I64 x := by
  unfold numsR numsP
  split
  · intro x hx
    simp only [List.mem_map] at hx
    obtain ⟨p, _, rfl⟩ := hx
    exact readR_in p
  · simp
theorem headD_in {l : List Int} (h : ∀ x ∈ l, I64 x) : I64 (l.headD 0) := by
  cases l with
  | nil => exact i0
  | cons x l => exact h x (by simp)
theorem stepR_in {m : Image} (h : ImgI m) (i : Nat) (l : List UInt8) : ImgI (stepR m i l).1 := by
  unfold stepR
  split
  · refine ⟨h.sizes, h.params, h.slots, fun w hw => ?_⟩
    simp only [List.mem_append, List.mem_singleton] at hw
    rcases hw with hw | rfl
    · exact h.code w hw
    · exact wordR_in l
  · split
    · exact h
    · split
      · exact ⟨numsR_in _ _, h.params, h.slots, h.code⟩
      · split
        · exact ⟨h.sizes, headD_in (numsR_in _ _), h.slots, h.code⟩
        · exact ⟨h.sizes, h.params, headD_in (numsR_in _ _), h.code⟩
theorem stepR_code (m : Image) (i : Nat) (l : List UInt8) : (stepR m i l).1.Code.length ≤ m.Code.length + 1 := by
  unfold stepR
  split
  · simp
  · split
    · exact Nat.le_succ _
    · split
      · exact Nat.le_succ _
      · split <;> exact Nat.le_succ _
theorem runR_step {m : Image} {i : Nat} {L : List (List UInt8)} (h : i < L.length) : runR m i (L.drop i) = if (stepR m i L[i]).2 = true then runR (stepR m i L[i]).1 (i + 1) (L.drop (i + 1)) else (img0, some (i + 1)) := by
  rw [List.drop_eq_getElem_cons h, runR]
theorem runR_end {m : Image} {L : List (List UInt8)} : runR m L.length (L.drop L.length) = (m, none) := by
  rw [List.drop_length, runR]
end Go.Proofs.YtmcmgeedhbgglaaGreatDoor.AM

namespace Go.Proofs.YtmcmgeedhbgglaaGreatDoor.AM
open Go.RowKit

private def ME27 : FuncId → Mode := fun f => if f = 16 then .heap else .tree

theorem lines_eq (s : List UInt8) : spl 10 s = linesOf s ++ [restOf s] := (List.dropLast_concat_getLast (spl_ne 10 s)).symm
theorem lines_len (s : List UInt8) : (linesOf s).length ≤ s.length := by
  have := (spl_bound (c := 10) s).1
  rw [lines_eq] at this
  simpa using this
theorem lines_mem (s : List UInt8) : ∀ p ∈ linesOf s, p.length ≤ s.length := fun p hp => (spl_bound (c := 10) s).2 p (by rw [lines_eq]; simp [hp])
theorem img_txt {m : Image} (h : ImgI m) (hI : imageOk m = true) : m.Txt := by
  have hs : m.Sizes.length ≤ 4 := by
    simp only [imageOk, inB, Bool.and_eq_true, decide_eq_true_eq] at hI
    omega
  have hc := (image_code hI).2
  exact ⟨by omega, by omega, h.sizes, h.params, h.slots, h.code⟩
theorem stepR_sizes (m : Image) (i : Nat) (l : List UInt8) (hl : m.Sizes.length ≤ 2 ^ 21) (hn : (numsR l (headW i)).1.length ≤ 2 ^ 21) : (stepR m i l).1.Sizes.length ≤ 2 ^ 21 := by
  unfold stepR
  split
  · exact hl
  · split
    · exact hl
    · split
      · exact hn
      · split <;> exact hl
theorem numsR_len (l word : List UInt8) : (numsR l word).1.length ≤ l.length + 1 := by
  have := (spl_bound (c := 32) l).1
  unfold numsR numsP
  split
  · simp; omega
  · simp

set_option maxHeartbeats 16000000 in
theorem specReadAsm (s : List UInt8) (hl : s.length ≤ 2 ^ 20) : Pure Tryz.prog 5 [.str (bs s)] (.tup [.agg ((readAR s).1.cells false), .int .i64 (readAR s).2]) := by
  intro T
  have K0 : Pure Tryz.prog 15 [.str (bs s)] (.tup [strs false ((linesOf s).map bs), .str (bs (restOf s))]) := l17Lines s (by omega)
  have hll := lines_len s
  have hlm := lines_mem s
  have x0 : Cx (Hp.mt T) [] [] := Cx.mt
  have y1 := x0.next.box_one (T := T) (i := 0) (r := ⟨0, 4, [[.nilsl, .int .i64 0, .int .i64 0, .nilsl]]⟩) x0.off (by simp)
  have y2 := y1.next.next.box_new (T := T + 1 + 1) (i := 1) (r := ⟨0, 4, [[.nilsl, .int .i64 0, .int .i64 0, .nilsl]]⟩) (r' := ⟨0, 4, [[.nilsl, .int .i64 0, .int .i64 0, .nilsl]]⟩) y1.next.off (by simp)
  have y3 : Cx _ _ [(.nilsl, (fun c => ints c ([] : List Int)), [])] := y2.add_own (fun b => .one (.nilsl .nil)) .nil (fun n hn => by cases hn) (fun n _ => rfl) (Nat.le_refl _)
  refine enter mixed ME27 Tryz.func5 rfl (by kernel_rfl) rfl ?_
  repeat' (first | (with_reducible first | refine stp ?_ | refine k_blk_o rfl ?_ | refine k_seq_n ?_) | ((try (conv => arg 1; simp [bs_mk])); with_reducible refine evp ?_) | ((with_reducible refine tcl ?_); first | ((apply tg (K0)); (case e => rfl); (case d => (refine dq ?_); (repeat' (first | ((refine Da.mk ?_); first | assumption) | constructor))))) | fail)
  refine st_loop (fun (i : Nat) σ h => ∃ (m : Image) (wS wC : AV) (bC : Bx) (ns : List Nm), i ≤ (linesOf s).length ∧ runR img0 0 (linesOf s) = runR m i ((linesOf s).drop i) ∧ ImgI m ∧ m.Code.length ≤ i ∧ m.Sizes.length ≤ 2 ^ 21 ∧
    σ 0 = .str (bs s) ∧ σ 2 = .ptr (T, 0, 0) 0 0 0 ∧ σ 4 = strs false ((linesOf s).map bs) ∧ σ 5 = .str (bs (restOf s)) ∧ σ 6 = .ptr (T + 1 + 1, 1, 0) 0 0 0 ∧ σ 7 = .int .i64 i ∧ FL 5 (m.Code.map Word.cells) wC bC ∧
    Cx h (((T + 1 + 1, 1, 0), ⟨0, 4, [[wS, .int .i64 m.Params, .int .i64 m.Slots, wC]]⟩) :: ((T, 0, 0), ⟨0, 4, [[.nilsl, .int .i64 0, .int .i64 0, .nilsl]]⟩) :: (bC ++ [])) [(wS, (fun c => ints c m.Sizes), ns)]) (fun i => (linesOf s).length - i) 0 ?init ?step
  case init =>
    exact ⟨img0, .nilsl, .nilsl, [], [], Nat.zero_le _, by simp, img0_in, by simp [img0], by simp [img0], by simp, by simp, by simp, by simp, by simp, by simp, FL.nil, Cx.to y3⟩
  case step =>
    rintro i σ h ⟨m, wS, wC, bC, ns, hi, hrun, hin, hcl, hsl, s0, s2, s4, s5, s6, s7, fl, z⟩
    have b := z.bxs
    simp only [Bxs] at b
    have qS := own_one (own_of (z.o0 true) rfl)
    have qC := fl.one
    by_cases hlt : i < (linesOf s).length
    · have hlt2 : (i : Int) < (linesOf s).length := by omega
      have hli : (linesOf s)[i]? = some (linesOf s)[i] := by simp
      have hlb := hlm _ (List.getElem_mem hlt)
      have hw : IntKind.i64.wrap (i + 1) = i + 1 := wrap_id (by omega) (by omega)
      rw [runR_step hlt] at hrun
      generalize hLn : (linesOf s)[i] = ln at *
      repeat' (first | (with_reducible first | refine stp ?_ | refine k_blk_o rfl ?_ | refine k_seq_n ?_) | ((try (conv => arg 1; simp [strs, s0, s2, s4, s5, s6, s7, hlt, hlt2])); with_reducible refine evp ?_) | fail)
      repeat (with_reducible first | refine stp ?_ | refine k_seq_n ?_)
      refine st_lz (by kernel_rfl) ?_
      have hF := And.intro s0 (And.intro s2 (And.intro s4 (And.intro s5 (And.intro s6 (And.intro s7 (And.intro hlt (And.intro hlt2 (And.intro hli (And.intro hLn (And.intro b.1 (And.intro b.2.1 (And.intro qS.1 (And.intro qS.2.1 (And.intro qS.2.2 (And.intro qC.1 (And.intro qC.2.1 qC.2.2))))))))))))))))
      repeat' (first | (with_reducible first | refine stp ?_ | refine k_blk_o rfl ?_) | ((try (conv => arg 1; simp [strs, ltS, nm_ne, hF])); with_reducible refine evp ?_) | ((with_reducible refine la_id ?_); refine la_end rfl ?_; (repeat (first | refine pl_nil ?_ | refine pl_cons ?_))) | ((with_reducible refine la_id ?_); refine la_pick ?_; (conv => arg 1; whnf); (repeat ((fail_if_success (first | ((refine la_q0 rfl ?_); (try (conv => arg 1; simp [strs, ltS, nm_ne, hF])); with_reducible refine evp ?_) | ((refine la_q2 rfl (by decide +kernel) ?_); (repeat (first | refine bk_nil ?_ | refine bk_t (by decide +kernel) ?_ | refine bk_f (by decide +kernel) ?_)); (try (conv => arg 1; simp [strs, ltS, nm_ne, hF])); with_reducible refine evp ?_) | ((refine la_q1 rfl (by decide +kernel) ?_); (try (conv => arg 1; simp [strs, ltS, nm_ne, hF])); with_reducible refine evp ?_) | ((refine la_g0 rfl ?_); (try (conv => arg 1; simp [strs, ltS, nm_ne, hF])); with_reducible refine evp ?_; (with_reducible refine evp ?_); try ((try (conv => arg 1; simp [strs, ltS, nm_ne, hF])); with_reducible refine evp ?_)))); (refine la_there ?_); (conv => arg 1; whnf))); first | ((refine la_q0 rfl ?_); (try (conv => arg 1; simp [strs, ltS, nm_ne, hF])); with_reducible refine evp ?_) | ((refine la_q2 rfl (by decide +kernel) ?_); (repeat (first | refine bk_nil ?_ | refine bk_t (by decide +kernel) ?_ | refine bk_f (by decide +kernel) ?_)); (try (conv => arg 1; simp [strs, ltS, nm_ne, hF])); with_reducible refine evp ?_) | ((refine la_q1 rfl (by decide +kernel) ?_); (try (conv => arg 1; simp [strs, ltS, nm_ne, hF])); with_reducible refine evp ?_) | ((refine la_g0 rfl ?_); (try (conv => arg 1; simp [strs, ltS, nm_ne, hF])); with_reducible refine evp ?_; (with_reducible refine evp ?_); try ((try (conv => arg 1; simp [strs, ltS, nm_ne, hF])); with_reducible refine evp ?_))) | ((with_reducible refine la_id ?_); refine la_all rfl ?_) | ((with_reducible refine all_id ?_); (conv => arg 1; whnf); first | exact all_nil | refine all_cons ?_ ?_) | (refine la_op rfl (by first | exact frm_s (by decide +kernel) | exact frm_a (by repeat' (first | exact fa_nil | refine fa_cons (by decide +kernel) ?_))) (by intro hq; first | exact trivial | (cases hq; done) | simp [appT, strs, ltS, nm_ne, hF]) ?_; (repeat (first | refine bk_nil ?_ | refine bk_t (by decide +kernel) ?_ | refine bk_f (by decide +kernel) ?_))) | fail)
      · refine st_heap rfl (l17Line m i ln (by omega) (by omega) (by omega) fl (Cx.to_front (fs := [_, _]) (b := bC) (bs := []) (Cx.to z))) ?_
        rintro v h5 ⟨wS5, wC5, bC5, ns5, rfl, fl5, tk5, nm5, z5⟩
        have z6 : Cx h5 (_ :: _ :: (bC5 ++ [])) _ := Cx.to_front (fs := bC5) (b := [_, _]) (bs := []) z5
        have hin' := stepR_in hin i ln
        have hcode := stepR_code m i ln
        have hsz := stepR_sizes m i ln hsl (by have := numsR_len ln (headW i); omega)
        generalize stepR m i ln = o at *
        obtain ⟨m', ok⟩ := o
        dsimp only at hin' hcode hsz fl5 z5 z6 hrun ⊢
        have ht5 : h.tick + 1 < h5.tick := by simp at tk5; omega
        have nin : (h.tick + 1, 10, 0) ∉ nms (((T + 1 + 1, 1, 0), ⟨0, 4, [[wS, .int .i64 m.Params, .int .i64 m.Slots, wC]]⟩) :: ((T, 0, 0), ⟨0, 4, [[.nilsl, .int .i64 0, .int .i64 0, .nilsl]]⟩) :: (bC5 ++ [])) [(wS5, (fun c => ints c m'.Sizes), ns5)] := by
          intro e
          have t1 := b.2.1
          have t2 := b.2.2.2.1
          change T + 1 + 1 < h.tick at t1
          change T < h.tick at t2
          simp only [nms, List.map_cons, List.map_append, List.map_nil, List.append_nil, List.flatten_cons, List.flatten_nil, List.cons_append, List.mem_cons, Prod.mk.injEq] at e
          rcases e with e | e | e
          · omega
          · omega
          · rcases nm5 _ e with e | e
            · have := z.lt (h.tick + 1, 10, 0) (by
                simp only [nms, List.map_cons, List.map_append, List.map_nil, List.append_nil, List.flatten_cons, List.flatten_nil, List.cons_append, List.mem_cons]
                exact .inr (.inr e))
              change h.tick + 1 < h.tick at this
              omega
            · simp at e
              try omega
        have z7 := z6.box_add (n := (h.tick + 1, 10, 0)) (r := ⟨0, 4, [[.nilsl, .int .i64 0, .int .i64 0, .nilsl]]⟩) nin ht5
        have q5 := own_one (own_of (z7.o0 true) rfl)
        have qC5 := fl5.one
        have b6 := z6.bxs
        simp only [Bxs] at b6
        have z8 := z7.box_set (r' := ⟨0, 4, [[wS5, .int .i64 m'.Params, .int .i64 m'.Slots, wC5]]⟩)
        have hF := And.intro s0 (And.intro s2 (And.intro s4 (And.intro s5 (And.intro s6 (And.intro s7 (And.intro ht5 (And.intro q5.1 (And.intro q5.2.1 (And.intro q5.2.2 (And.intro qC5.1 (And.intro qC5.2.1 qC5.2.2)))))))))))
        repeat' (first | (with_reducible first | refine stp ?_ | refine k_blk_o rfl ?_) | ((try (conv => arg 1; simp [strs, ltS, nm_ne, hF])); with_reducible refine evp ?_) | ((with_reducible refine la_id ?_); refine la_end rfl ?_; (repeat (first | refine pl_nil ?_ | refine pl_cons ?_))) | ((with_reducible refine la_id ?_); refine la_pick ?_; (conv => arg 1; whnf); (repeat ((fail_if_success (first | ((refine la_q0 rfl ?_); (try (conv => arg 1; simp [strs, ltS, nm_ne, hF])); with_reducible refine evp ?_) | ((refine la_q2 rfl (by decide +kernel) ?_); (repeat (first | refine bk_nil ?_ | refine bk_t (by decide +kernel) ?_ | refine bk_f (by decide +kernel) ?_)); (try (conv => arg 1; simp [strs, ltS, nm_ne, hF])); with_reducible refine evp ?_) | ((refine la_q1 rfl (by decide +kernel) ?_); (try (conv => arg 1; simp [strs, ltS, nm_ne, hF])); with_reducible refine evp ?_) | ((refine la_g0 rfl ?_); (try (conv => arg 1; simp [strs, ltS, nm_ne, hF])); with_reducible refine evp ?_; (with_reducible refine evp ?_); try ((try (conv => arg 1; simp [strs, ltS, nm_ne, hF])); with_reducible refine evp ?_)))); (refine la_there ?_); (conv => arg 1; whnf))); first | ((refine la_q0 rfl ?_); (try (conv => arg 1; simp [strs, ltS, nm_ne, hF])); with_reducible refine evp ?_) | ((refine la_q2 rfl (by decide +kernel) ?_); (repeat (first | refine bk_nil ?_ | refine bk_t (by decide +kernel) ?_ | refine bk_f (by decide +kernel) ?_)); (try (conv => arg 1; simp [strs, ltS, nm_ne, hF])); with_reducible refine evp ?_) | ((refine la_q1 rfl (by decide +kernel) ?_); (try (conv => arg 1; simp [strs, ltS, nm_ne, hF])); with_reducible refine evp ?_) | ((refine la_g0 rfl ?_); (try (conv => arg 1; simp [strs, ltS, nm_ne, hF])); with_reducible refine evp ?_; (with_reducible refine evp ?_); try ((try (conv => arg 1; simp [strs, ltS, nm_ne, hF])); with_reducible refine evp ?_))) | ((with_reducible refine la_id ?_); refine la_all rfl ?_) | ((with_reducible refine all_id ?_); (conv => arg 1; whnf); first | exact all_nil | refine all_cons ?_ ?_) | (refine la_op rfl (by first | exact frm_s (by decide +kernel) | exact frm_a (by repeat' (first | exact fa_nil | refine fa_cons (by decide +kernel) ?_))) (by intro hq; first | exact trivial | (cases hq; done) | simp [appT, strs, ltS, nm_ne, hF]) ?_; (repeat (first | refine bk_nil ?_ | refine bk_t (by decide +kernel) ?_ | refine bk_f (by decide +kernel) ?_))) | fail)
        cases ok with
        | false =>
          rw [if_neg (by decide)] at hrun
          have hA : readAR s = (img0, (i : Int) + 1) := by unfold readAR; rw [hrun]; simp
          rw [hA]
          repeat' (first | (with_reducible first | refine stp ?_ | refine k_blk_o rfl ?_ | refine k_seq_n ?_) | ((try (conv => arg 1; simp [s0, s2, s4, s5, s6, s7, hw, ht5, b6, ltS, nm_ne])); with_reducible refine evp ?_) | fail)
          exact dr_tup2 (dr_agg (.cons .nilsl (.cons (.int _ _) (.cons (.int _ _) (.cons .nilsl .nil))))) (.int _ _)
        | true =>
          rw [if_pos rfl] at hrun
          repeat' (first | (with_reducible first | refine stp ?_ | refine k_blk_o rfl ?_ | refine k_seq_n ?_) | ((try (conv => arg 1; simp [s0, s2, s4, s5, s6, s7, hw, q5.1, q5.2.1, q5.2.2, qC5.1, qC5.2.1, qC5.2.2, ht5, b6, ltS, nm_ne])); with_reducible refine evp ?_) | fail)
          refine k_lp_n (i + 1) (by omega) ⟨m', wS5, wC5, bC5, ns5, by omega, hrun, hin', by omega, hsz, by simp [s0], by simp [s2], by simp [s4, strs], by simp [s5], by simp [s6], by simp, fl5, ?_⟩
          exact (Cx.to z8).box_drop
      · have yb := z.next.next.box_one (T := h.tick + 1) (i := 10) (r := ⟨0, 4, [[.nilsl, .int .i64 0, .int .i64 0, .nilsl]]⟩) z.next.off (by simp)
        refine st_heap rfl (l17Line m i ln (by omega) (by omega) (by omega) fl (Cx.to_front (fs := [_, _, _]) (b := bC) (bs := []) yb)) ?_
        rintro v h5 ⟨wS5, wC5, bC5, ns5, rfl, fl5, tk5, nm5, z5⟩
        have ht5 : h.tick + 1 < h5.tick := by simp at tk5; omega
        have z7 : Cx h5 (_ :: _ :: _ :: (bC5 ++ [])) _ := Cx.to_front (fs := bC5) (b := [_, _, _]) (bs := []) z5
        have hin' := stepR_in hin i ln
        have hcode := stepR_code m i ln
        have hsz := stepR_sizes m i ln hsl (by have := numsR_len ln (headW i); omega)
        generalize stepR m i ln = o at *
        obtain ⟨m', ok⟩ := o
        dsimp only at hin' hcode hsz fl5 z5 z7 hrun ⊢
        have q5 := own_one (own_of (z7.o0 true) rfl)
        have qC5 := fl5.one
        have b6 := z7.bxs
        simp only [Bxs] at b6
        have z8 := z7.box_set (r' := ⟨0, 4, [[wS5, .int .i64 m'.Params, .int .i64 m'.Slots, wC5]]⟩)
        have hF := And.intro s0 (And.intro s2 (And.intro s4 (And.intro s5 (And.intro s6 (And.intro s7 (And.intro b6.1 (And.intro b6.2.1 (And.intro q5.1 (And.intro q5.2.1 (And.intro q5.2.2 (And.intro qC5.1 (And.intro qC5.2.1 qC5.2.2))))))))))))
        repeat' (first | (with_reducible first | refine stp ?_ | refine k_blk_o rfl ?_) | ((try (conv => arg 1; simp [strs, ltS, nm_ne, hF])); with_reducible refine evp ?_) | ((with_reducible refine la_id ?_); refine la_end rfl ?_; (repeat (first | refine pl_nil ?_ | refine pl_cons ?_))) | ((with_reducible refine la_id ?_); refine la_pick ?_; (conv => arg 1; whnf); (repeat ((fail_if_success (first | ((refine la_q0 rfl ?_); (try (conv => arg 1; simp [strs, ltS, nm_ne, hF])); with_reducible refine evp ?_) | ((refine la_q2 rfl (by decide +kernel) ?_); (repeat (first | refine bk_nil ?_ | refine bk_t (by decide +kernel) ?_ | refine bk_f (by decide +kernel) ?_)); (try (conv => arg 1; simp [strs, ltS, nm_ne, hF])); with_reducible refine evp ?_) | ((refine la_q1 rfl (by decide +kernel) ?_); (try (conv => arg 1; simp [strs, ltS, nm_ne, hF])); with_reducible refine evp ?_) | ((refine la_g0 rfl ?_); (try (conv => arg 1; simp [strs, ltS, nm_ne, hF])); with_reducible refine evp ?_; (with_reducible refine evp ?_); try ((try (conv => arg 1; simp [strs, ltS, nm_ne, hF])); with_reducible refine evp ?_)))); (refine la_there ?_); (conv => arg 1; whnf))); first | ((refine la_q0 rfl ?_); (try (conv => arg 1; simp [strs, ltS, nm_ne, hF])); with_reducible refine evp ?_) | ((refine la_q2 rfl (by decide +kernel) ?_); (repeat (first | refine bk_nil ?_ | refine bk_t (by decide +kernel) ?_ | refine bk_f (by decide +kernel) ?_)); (try (conv => arg 1; simp [strs, ltS, nm_ne, hF])); with_reducible refine evp ?_) | ((refine la_q1 rfl (by decide +kernel) ?_); (try (conv => arg 1; simp [strs, ltS, nm_ne, hF])); with_reducible refine evp ?_) | ((refine la_g0 rfl ?_); (try (conv => arg 1; simp [strs, ltS, nm_ne, hF])); with_reducible refine evp ?_; (with_reducible refine evp ?_); try ((try (conv => arg 1; simp [strs, ltS, nm_ne, hF])); with_reducible refine evp ?_))) | ((with_reducible refine la_id ?_); refine la_all rfl ?_) | ((with_reducible refine all_id ?_); (conv => arg 1; whnf); first | exact all_nil | refine all_cons ?_ ?_) | (refine la_op rfl (by first | exact frm_s (by decide +kernel) | exact frm_a (by repeat' (first | exact fa_nil | refine fa_cons (by decide +kernel) ?_))) (by intro hq; first | exact trivial | (cases hq; done) | simp [appT, strs, ltS, nm_ne, hF]) ?_; (repeat (first | refine bk_nil ?_ | refine bk_t (by decide +kernel) ?_ | refine bk_f (by decide +kernel) ?_))) | fail)
        cases ok with
        | false =>
          rw [if_neg (by decide)] at hrun
          have hA : readAR s = (img0, (i : Int) + 1) := by unfold readAR; rw [hrun]; simp
          rw [hA]
          repeat' (first | (with_reducible first | refine stp ?_ | refine k_blk_o rfl ?_ | refine k_seq_n ?_) | ((try (conv => arg 1; simp [s0, s2, s4, s5, s6, s7, hw, ht5, b6, ltS, nm_ne])); with_reducible refine evp ?_) | fail)
          exact dr_tup2 (dr_agg (.cons .nilsl (.cons (.int _ _) (.cons (.int _ _) (.cons .nilsl .nil))))) (.int _ _)
        | true =>
          rw [if_pos rfl] at hrun
          repeat' (first | (with_reducible first | refine stp ?_ | refine k_blk_o rfl ?_ | refine k_seq_n ?_) | ((try (conv => arg 1; simp [s0, s2, s4, s5, s6, s7, hw, q5.1, q5.2.1, q5.2.2, qC5.1, qC5.2.1, qC5.2.2, ht5, b6, ltS, nm_ne])); with_reducible refine evp ?_) | fail)
          refine k_lp_n (i + 1) (by omega) ⟨m', wS5, wC5, bC5, ns5, by omega, hrun, hin', by omega, hsz, by simp [s0], by simp [s2], by simp [s4, strs], by simp [s5], by simp [s6], by simp, fl5, ?_⟩
          exact (Cx.to z8).box_drop
    · have hge : i = (linesOf s).length := by omega
      subst hge
      rw [runR_end] at hrun
      have drS2 : ∀ (c : Bool) (h' : Hp), Cx h' (((T + 1 + 1, 1, 0), ⟨0, 4, [[wS, .int .i64 m.Params, .int .i64 m.Slots, wC]]⟩) :: ((T, 0, 0), ⟨0, 4, [[wS, .int .i64 m.Params, .int .i64 m.Slots, wC]]⟩) :: (bC ++ [])) [(wS, (fun c => ints c m.Sizes), ns)] → DRs c h'.rows [wS, .int .i64 m.Params, .int .i64 m.Slots, wC] (m.cells c) := fun c h' x =>
        .cons (x.o0 c).dr (.cons (.int _ _) (.cons (.int _ _) (.cons (fl.dr (fun e he => (words_flat _ e he).2) (fun y hy => x.box y (by simp [hy]))) .nil)))
      have drW : ∀ (h' : Hp), Cx h' (((T + 1 + 1, 1, 0), ⟨0, 4, [[wS, .int .i64 m.Params, .int .i64 m.Slots, wC]]⟩) :: ((T, 0, 0), ⟨0, 4, [[.nilsl, .int .i64 0, .int .i64 0, .nilsl]]⟩) :: (bC ++ [])) [(wS, (fun c => ints c m.Sizes), ns)] → DR true h'.rows wS (ints true m.Sizes) := fun h' x => (x.o0 true).dr
      have drC : ∀ (h' : Hp), Cx h' (((T + 1 + 1, 1, 0), ⟨0, 4, [[wS, .int .i64 m.Params, .int .i64 m.Slots, wC]]⟩) :: ((T, 0, 0), ⟨0, 4, [[.nilsl, .int .i64 0, .int .i64 0, .nilsl]]⟩) :: (bC ++ [])) [(wS, (fun c => ints c m.Sizes), ns)] → DR true h'.rows wC (words true m.Code) := fun h' x => fl.dr (fun e he => (words_flat _ e he).2) (fun y hy => x.box y (by simp [hy]))
      have hwl : IntKind.i64.wrap (((linesOf s).length : Int) + 1) = ((linesOf s).length : Int) + 1 := wrap_id (by omega) (by omega)
      have hbad : ∀ (_ : ¬ (restOf s = [] ∧ imageOk m = true ∧ asmT m = s)), readAR s = (img0, ((linesOf s).length : Int) + 1) := fun hn => by
        unfold readAR
        rw [hrun]
        simp only
        rw [if_neg hn]
      by_cases hrest : restOf s = []
      · have K1 := specImageOk m (by omega) (by omega)
        cases hI : imageOk m with
        | false =>
          rw [hI] at K1
          rw [hbad (fun hn => by rw [hI] at hn; exact absurd hn.2.1 (by decide))]
          repeat' (first | (with_reducible first | refine stp ?_ | refine k_blk_o rfl ?_ | refine k_seq_n ?_) | ((try (conv => arg 1; simp [strs, s0, s2, s4, s5, s6, s7, hrest, hwl, qS.1, qS.2.1, qS.2.2, qC.1, qC.2.1, qC.2.2, b, ltS, nm_ne, bs_mk, bs_toList])); with_reducible refine evp ?_) | ((with_reducible refine tcl ?_); first | ((apply tg (K1)); (case e => rfl); (case d => (refine dq ?_); (repeat' (first | ((refine Da.mk ?_); first | exact drW _ (Cx.to z) | exact drC _ (Cx.to z) | assumption) | constructor))))) | fail)
          exact dr_tup2 (dr_agg (.cons .nilsl (.cons (.int _ _) (.cons (.int _ _) (.cons .nilsl .nil))))) (.int _ _)
        | true =>
          rw [hI] at K1
          have K2 := specAsm m (img_txt hin hI)
          have hR2 : asmR m = asmT m := by simp [asmR, hI]
          rw [hR2] at K2
          by_cases he : asmT m = s
          · have hA : readAR s = (m, 0) := by
              unfold readAR
              rw [hrun]
              simp only
              rw [if_pos ⟨hrest, hI, he⟩]
            have heb : (asmT m == s) = true := by simp [he]
            rw [hA]
            repeat' (first | (with_reducible first | refine stp ?_ | refine k_blk_o rfl ?_ | refine k_seq_n ?_) | ((try (conv => arg 1; simp [strs, s0, s2, s4, s5, s6, s7, hrest, heb, hwl, qS.1, qS.2.1, qS.2.2, qC.1, qC.2.1, qC.2.2, b, ltS, nm_ne, bs_mk, bs_toList])); with_reducible refine evp ?_) | ((with_reducible refine tcl ?_); first | ((apply tg (K1)); (case e => rfl); (case d => (refine dq ?_); (repeat' (first | ((refine Da.mk ?_); first | exact drW _ (Cx.to z) | exact drC _ (Cx.to z) | assumption) | constructor)))) | ((apply tg (K2)); (case e => rfl); (case d => (refine dq ?_); (repeat' (first | ((refine Da.mk ?_); first | exact drW _ (Cx.to z) | exact drC _ (Cx.to z) | assumption) | constructor))))) | fail)
            exact dr_tup2 (dr_agg (drS2 false _ (Cx.to z))) (.int _ _)
          · have heb : (asmT m == s) = false := by simp [he]
            rw [hbad (fun hn => he hn.2.2)]
            repeat' (first | (with_reducible first | refine stp ?_ | refine k_blk_o rfl ?_ | refine k_seq_n ?_) | ((try (conv => arg 1; simp [strs, s0, s2, s4, s5, s6, s7, hrest, heb, hwl, qS.1, qS.2.1, qS.2.2, qC.1, qC.2.1, qC.2.2, b, ltS, nm_ne, bs_mk, bs_toList])); with_reducible refine evp ?_) | ((with_reducible refine tcl ?_); first | ((apply tg (K1)); (case e => rfl); (case d => (refine dq ?_); (repeat' (first | ((refine Da.mk ?_); first | exact drW _ (Cx.to z) | exact drC _ (Cx.to z) | assumption) | constructor)))) | ((apply tg (K2)); (case e => rfl); (case d => (refine dq ?_); (repeat' (first | ((refine Da.mk ?_); first | exact drW _ (Cx.to z) | exact drC _ (Cx.to z) | assumption) | constructor))))) | fail)
            exact dr_tup2 (dr_agg (.cons .nilsl (.cons (.int _ _) (.cons (.int _ _) (.cons .nilsl .nil))))) (.int _ _)
      · have hrb : (restOf s == []) = false := by simp [hrest]
        rw [hbad (fun hn => hrest hn.1)]
        repeat' (first | (with_reducible first | refine stp ?_ | refine k_blk_o rfl ?_ | refine k_seq_n ?_) | ((try (conv => arg 1; simp [strs, s0, s2, s4, s5, s6, s7, hrb, hwl, qS.1, qS.2.1, qS.2.2, qC.1, qC.2.1, qC.2.2, b, ltS, nm_ne, bs_mk, bs_toList])); with_reducible refine evp ?_) | fail)
        exact dr_tup2 (dr_agg (.cons .nilsl (.cons (.int _ _) (.cons (.int _ _) (.cons .nilsl .nil))))) (.int _ _)
end Go.Proofs.YtmcmgeedhbgglaaGreatDoor.AM

namespace Go.Proofs.YtmcmgeedhbgglaaGreatDoor.AM
open Go.RowKit

private def ME34 : FuncId → Mode := fun f => if f = 44 then .fresh else .tree

theorem strs_init {P : Program} {rows : Nm → Option Row} {t e : TypeId} {b : Bool} {xs : List ByteArray} {y : ByteArray} (hu : P.underlying t = some (.slice e)) (hs : tsz P e = some 1) : sliceA P rows t (strs b (xs ++ [y])) none (some (.int .i64 xs.length)) false = some (strs b xs) := by
  have h1 : (xs.map fun x => [AV.str x]) ++ [[AV.str y]] = (xs ++ [y]).map fun x => [AV.str x] := by simp
  have h3 : List.take xs.length ((xs.map fun x => [AV.str x]) ++ [[AV.str y]]) = xs.map fun x => [AV.str x] := by
    have := List.take_left (l₁ := xs.map fun x => [AV.str x]) (l₂ := [[AV.str y]])
    simp
  unfold sliceA strs
  have hnn : (0:Int) ≤ (xs.length : Int) := by omega
  simp [hu, hs, bnd, hnn, h3]
  cases xs <;> simp
theorem img0_own {rows : Nm → Option Row} {q : Int} {tk : Nat} : ∃ ns, (∀ c, OwnV rows c (resV [.agg [.nilsl, .int .i64 0, .int .i64 0, .nilsl], .int .i64 q]) (.tup [.agg (img0.cells c), .int .i64 q]) ns) ∧ ns.Nodup ∧ ∀ n ∈ ns, n.1 < tk :=
  ⟨[] ++ [], fun c => .tup2 (.agg (.nilsl (.int _ _ (.int _ _ (.nilsl .nil))))) (.one (.int _ _ .nil)), .nil, fun n hn => by cases hn⟩

theorem img_own {h : Hp} {m : Image} {wS wC : AV} {n1 n2 : List Nm} {q : Int} (x : Cx h [] [(wC, (fun c => .tr c (m.Code.map Word.cells)), n2), (wS, (fun c => ints c m.Sizes), n1)]) : ∃ ns, (∀ c, OwnV h.rows c (resV [.agg [wS, .int .i64 m.Params, .int .i64 m.Slots, wC], .int .i64 q]) (.tup [.agg (m.cells c), .int .i64 q]) ns) ∧ ns.Nodup ∧ ∀ n ∈ ns, n.1 < h.tick := by
  have x := x.rot1
  refine ⟨(n1 ++ n2) ++ [], fun c => .tup2 (.agg (Own.append (own_of (x.o0 c) rfl) (.int _ _ (.int _ _ (own_of (x.o1 c) rfl))))) (.one (.int _ _ .nil)), by simpa using x.nodup2, fun n hn => x.lt n (by simpa [nms] using hn)⟩

set_option maxHeartbeats 32000000 in
theorem implreadAsm (s : List UInt8) (hl : s.length ≤ 2 ^ 20) : FreshW Tryz.prog 19 [.str (bs s)] (fun c => .tup [.agg ((readAR s).1.cells c), .int .i64 (readAR s).2]) := by
  intro T
  have K0 := splitP s 10 (by omega)
  rw [lines_eq, List.map_append, List.map_cons, List.map_nil] at K0
  have hll := lines_len s
  have hlm := lines_mem s
  have hsl : ∀ rows, sliceA Tryz.prog rows 38 (strs false ((linesOf s).map bs ++ [bs (restOf s)])) none (some (.int .i64 (linesOf s).length)) false = some (strs false ((linesOf s).map bs)) := fun rows => by
    have := strs_init (P := Tryz.prog) (rows := rows) (t := 38) (e := 9) (b := false) (xs := (linesOf s).map bs) (y := bs (restOf s)) (by kernel_rfl) (by kernel_rfl)
    simpa using this
  have hw1 : IntKind.i64.wrap ((linesOf s).length : Int) = (linesOf s).length := wrap_id (by omega) (by omega)
  have x0 : Cx (Hp.mt T) [] [] := Cx.mt
  have y1 := x0.next.box_one (T := T) (i := 0) (r := ⟨0, 4, [[.nilsl, .int .i64 0, .int .i64 0, .nilsl]]⟩) x0.off (by simp)
  have y2 := y1.next.next.box_new (T := T + 1 + 1) (i := 1) (r := ⟨0, 4, [[.nilsl, .int .i64 0, .int .i64 0, .nilsl]]⟩) (r' := ⟨0, 4, [[.nilsl, .int .i64 0, .int .i64 0, .nilsl]]⟩) y1.next.off (by simp)
  have y3 : Cx _ _ [(.nilsl, (fun c => ints c ([] : List Int)), [])] := y2.add_own (fun b => .one (.nilsl .nil)) .nil (fun n hn => by cases hn) (fun n _ => rfl) (Nat.le_refl _)
  refine enter mixed ME34 Tryz.func19 rfl (by kernel_rfl) rfl ?_
  repeat' (first | (with_reducible first | refine stp ?_ | refine k_blk_o rfl ?_ | refine k_seq_n ?_) | ((try (conv => arg 1; simp [bs_mk, hsl, hw1])); with_reducible refine evp ?_) | ((with_reducible refine tcl ?_); first | ((apply tg (K0)); (case e => rfl); (case d => (refine dq ?_); (repeat' (first | ((refine Da.mk ?_); first | assumption) | constructor))))) | fail)
  refine st_loop (fun (i : Nat) σ h => ∃ (m : Image) (wS wC : AV) (bC : Bx) (ns : List Nm), i ≤ (linesOf s).length ∧ runR img0 0 (linesOf s) = runR m i ((linesOf s).drop i) ∧ ImgI m ∧ m.Code.length ≤ i ∧ m.Sizes.length ≤ 2 ^ 21 ∧
    σ 0 = .str (bs s) ∧ σ 2 = .ptr (T, 0, 0) 0 0 0 ∧ σ 4 = strs false ((linesOf s).map bs ++ [bs (restOf s)]) ∧ σ 5 = .ptr (T + 1 + 1, 1, 0) 0 0 0 ∧ σ 20 = strs false ((linesOf s).map bs) ∧ σ 21 = .int .i64 (linesOf s).length ∧ σ 22 = .int .i64 i ∧ FL 5 (m.Code.map Word.cells) wC bC ∧
    Cx h (((T + 1 + 1, 1, 0), ⟨0, 4, [[wS, .int .i64 m.Params, .int .i64 m.Slots, wC]]⟩) :: ((T, 0, 0), ⟨0, 4, [[.nilsl, .int .i64 0, .int .i64 0, .nilsl]]⟩) :: (bC ++ [])) [(wS, (fun c => ints c m.Sizes), ns)]) (fun i => (linesOf s).length - i) 0 ?init ?step
  case init =>
    exact ⟨img0, .nilsl, .nilsl, [], [], Nat.zero_le _, by simp, img0_in, by simp [img0], by simp [img0], by simp, by simp, by simp, by simp, by simp, by simp, by simp, FL.nil, Cx.to y3⟩
  case step =>
    rintro i σ h ⟨m, wS, wC, bC, ns, hi, hrun, hin, hcl, hsz, s0, s2, s4, s5, s20, s21, s22, fl, z⟩
    have b := z.bxs
    simp only [Bxs] at b
    have qS := own_one (own_of (z.o0 true) rfl)
    have qC := fl.one
    by_cases hlt : i < (linesOf s).length
    · have hlt2 : (i : Int) < (linesOf s).length := by omega
      have hlb := hlm _ (List.getElem_mem hlt)
      have hw : IntKind.i64.wrap (i + 1) = i + 1 := wrap_id (by omega) (by omega)
      have hin' := stepR_in hin i (linesOf s)[i]
      have hcode := stepR_code m i (linesOf s)[i]
      have hsz' := stepR_sizes m i (linesOf s)[i] hsz (by have := numsR_len (linesOf s)[i] (headW i); omega)
      rw [runR_step hlt] at hrun
      have hli : (linesOf s)[i]? = some (linesOf s)[i] := by simp
      generalize hLn : (linesOf s)[i] = ln at *
      have bad : (stepR m i ln).2 = false → readAR s = (img0, (i : Int) + 1) := fun hf => by
        rw [hf, if_neg (by decide)] at hrun
        unfold readAR
        rw [hrun]
        simp
      have good : (stepR m i ln).2 = true → runR img0 0 (linesOf s) = runR (stepR m i ln).1 (i + 1) ((linesOf s).drop (i + 1)) := fun ht => by
        rw [ht, if_pos rfl] at hrun
        exact hrun
      by_cases h2 : 2 < i
      · have f0 : ¬ i = 0 := by omega
        have f1 : ¬ i = 1 := by omega
        have f2 : ¬ i = 2 := by omega
        have e0 : ¬ (i : Int) = 0 := by omega
        have e1 : ¬ (i : Int) = 1 := by omega
        have e2 : ¬ (i : Int) = 2 := by omega
        have K1 := readWord ln (by omega)
        have hS : stepR m i ln = ({ m with Code := m.Code ++ [(wordR ln).1] }, (wordR ln).2) := by unfold stepR; rw [if_pos h2]
        rw [hS] at bad good hin' hcode hsz'
        generalize wordR ln = o at K1 bad good hin' hcode hsz'
        obtain ⟨w, ok⟩ := o
        dsimp only at K1 bad good hin' hcode hsz'
        generalize hu : wordQ (w, ok) = u at K1
        have hcw := cells5 u
        rw [hcw] at K1
        have y2 := z.next.next.next.next.next.next.next.next.box_new (T := h.tick + 1 + 1 + 1 + 1 + 1 + 1 + 1) (i := 5) (r := ⟨0, 5, [[.int .i64 0, .int .i64 0, .int .i64 0, .int .i64 0, .int .i64 0]]⟩) (r' := ⟨0, 5, [[.int .i64 u.Op, .int .i64 u.R, .int .i64 u.A, .int .i64 u.B, .int .i64 u.N]]⟩) z.next.next.next.next.next.next.next.off (by simp)
        repeat' (first | (with_reducible first | refine stp ?_ | refine k_blk_o rfl ?_ | refine k_seq_n ?_) | ((try (conv => arg 1; simp [strs, s0, s2, s4, s5, s20, s21, s22, hlt, hlt2, hli, hLn, hw, b, e0, e1, e2, f0, f1, f2, qS.1, qS.2.1, qS.2.2, qC.1, qC.2.1, qC.2.2, ltS, nm_ne, bs_mk])); with_reducible refine evp ?_) | ((with_reducible refine tcl ?_); first | ((apply tg (K1)); (case e => rfl); (case d => (refine dq ?_); (repeat' (first | ((refine Da.mk ?_); first | assumption) | constructor))))) | fail)
        conv => arg 1; simp
        refine ev2_appN (s := 5) (fs := [((h.tick + 1 + 1 + 1 + 1 + 1 + 1 + 1, 5, 0), ⟨0, 5, [[.int .i64 u.Op, .int .i64 u.R, .int .i64 u.A, .int .i64 u.B, .int .i64 u.N]]⟩), ((T + 1 + 1, 1, 0), ⟨0, 4, [[wS, .int .i64 m.Params, .int .i64 m.Slots, wC]]⟩), ((T, 0, 0), ⟨0, 4, [[.nilsl, .int .i64 0, .int .i64 0, .nilsl]]⟩)]) (os := [(wS, (fun c => ints c m.Sizes), ns)]) (bs := []) (e := u.cells) (by kernel_rfl) fl ?hx ?hk rfl ?hl ?hn ?ht ?kk
        case hx => exact y2.next.next.put_junk (Cx.new_nin y2.next (by simp))
        case hk => simp [hcw]
        case hl => simp; omega
        case hn => exact Cx.new_nin y2.next (by simp)
        case ht => simp
        intro w' b' h4 fl' z4 tk q' qn
        have z4 : Cx h4 (_ :: _ :: _ :: (b' ++ [])) _ := z4
        have b4 := z4.bxs
        simp only [Bxs] at b4
        cases ok with
        | false =>
          rw [bad rfl]
          repeat' (first | (with_reducible first | refine stp ?_ | refine k_blk_o rfl ?_ | refine k_seq_n ?_) | ((try (conv => arg 1; simp [strs, s0, s2, s4, s5, s20, s21, s22, hw, b4, qS.1, qS.2.1, qS.2.2, q'.1, q'.2.1, q'.2.2, ltS, nm_ne])); with_reducible refine evp ?_) | fail)
          exact img0_own
        | true =>
          have good := good rfl
          have hu : w = u := hu
          subst hu
          repeat' (first | (with_reducible first | refine stp ?_ | refine k_blk_o rfl ?_ | refine k_seq_n ?_) | ((try (conv => arg 1; simp [strs, s0, s2, s4, s5, s20, s21, s22, hw, b4, qS.1, qS.2.1, qS.2.2, q'.1, q'.2.1, q'.2.2, ltS, nm_ne])); with_reducible refine evp ?_) | fail)
          refine k_lp_n (i + 1) (by omega) ⟨_, wS, w', b', ns, by omega, good, hin', by simp at hcode ⊢; omega, hsz', by simp [s0], by simp [s2], by simp [s4, strs], by simp [s5], by simp [s20, strs], by simp [s21], by simp, by simpa using fl', ?_⟩
          exact (Cx.to z4).box_drop
      · have hi2 : i = 0 ∨ i = 1 ∨ i = 2 := by omega
        have hwr1 : IntKind.i64.wrap 1 = 1 := by decide
        have hwr2 : IntKind.i64.wrap 2 = 2 := by decide
        have hwr3 : IntKind.i64.wrap 3 = 3 := by decide
        have K1 := readNums ln (headW i) (by omega)
        have hS : stepR m i ln = if (numsR ln (headW i)).2 = false ∨ (0 < i ∧ (numsR ln (headW i)).1.length ≠ 1) then (m, false)
          else if i = 0 then ({ m with Sizes := (numsR ln (headW i)).1 }, true)
          else if i = 1 then ({ m with Params := (numsR ln (headW i)).1.headD 0 }, true)
          else ({ m with Slots := (numsR ln (headW i)).1.headD 0 }, true) := by unfold stepR; rw [if_neg h2]
        rw [hS] at bad good hin' hcode hsz'
        generalize numsR ln (headW i) = o at K1 bad good hin' hcode hsz'
        obtain ⟨xs, ok⟩ := o
        dsimp only at K1 bad good hin' hcode hsz'
        rcases hi2 with rfl | rfl | rfl
        case inl =>
          simp only [headW] at K1
          repeat' (first | (with_reducible first | refine stp ?_ | refine k_blk_o rfl ?_ | refine k_seq_n ?_) | ((try (conv => arg 1; simp [strs, s0, s2, s4, s5, s20, s21, s22, hlt, hlt2, hli, hLn, hw, b, qS.1, qS.2.1, qS.2.2, qC.1, qC.2.1, qC.2.2, ltS, nm_ne, bs_mk])); with_reducible refine evp ?_) | fail)
          refine st_freshw rfl K1 (.cons (.str _) (.cons (.str _) .nil)) ?_
          intro v1 h5 n1 o1 d1 f1 p1 t1
          obtain ⟨w1, rfl, o2⟩ := ownV_pair o1
          have z5 := z.next.next.next.next.next.next.fresh o2 d1 f1 p1 t1
          have q1 := own_one (own_of (o2 true) rfl)
          have b5 := z5.bxs
          simp only [Bxs] at b5
          cases ok with
          | false =>
            rw [bad (by rw [if_pos (.inl rfl)])]
            repeat' (first | (with_reducible first | refine stp ?_ | refine k_blk_o rfl ?_ | refine k_seq_n ?_) | ((try (conv => arg 1; simp [strs, s0, s2, s4, s5, s20, s21, s22, hw, b5, qS.1, qS.2.1, qS.2.2, qC.1, qC.2.1, qC.2.2, q1.1, q1.2.1, q1.2.2, ltS, nm_ne])); with_reducible refine evp ?_) | fail)
            exact img0_own
          | true =>
            rw [if_neg (by simp), if_pos rfl] at good hin' hcode hsz'
            have good := good rfl
            repeat' (first | (with_reducible first | refine stp ?_ | refine k_blk_o rfl ?_ | refine k_seq_n ?_) | ((try (conv => arg 1; simp [strs, s0, s2, s4, s5, s20, s21, s22, hw, b5, qS.1, qS.2.1, qS.2.2, qC.1, qC.2.1, qC.2.2, q1.1, q1.2.1, q1.2.2, ltS, nm_ne])); with_reducible refine evp ?_) | fail)
            refine k_lp_n 1 (by omega) ⟨_, w1, wC, bC, n1, by omega, good, hin', by simp at hcode ⊢; omega, hsz', by simp [s0], by simp [s2], by simp [s4, strs], by simp [s5], by simp [s20, strs], by simp [s21], by simp [hwr1], fl, ?_⟩
            exact (Cx.to z5).rot1.drop
        all_goals
          simp at hlt2
          simp only [headW] at K1
          repeat' (first | (with_reducible first | refine stp ?_ | refine k_blk_o rfl ?_ | refine k_seq_n ?_) | ((try (conv => arg 1; simp [strs, s0, s2, s4, s5, s20, s21, s22, hlt, hlt2, hli, hLn, hw, hwr2, hwr3, b, rg3, qS.1, qS.2.1, qS.2.2, qC.1, qC.2.1, qC.2.2, ltS, nm_ne, bs_mk])); with_reducible refine evp ?_) | fail)
          refine st_freshw rfl K1 (.cons (.str _) (.cons (.str _) .nil)) ?_
          intro v1 h5 n1 o1 d1 f1 p1 t1
          obtain ⟨w1, rfl, o2⟩ := ownV_pair o1
          have z5 := (Cx.to z).fresh o2 d1 f1 p1 t1
          have q1 := own_one (own_of (o2 true) rfl)
          have b5 := z5.bxs
          simp only [Bxs] at b5
          cases ok with
          | false =>
            rw [bad (by rw [if_pos (.inl rfl)])]
            repeat' (first | (with_reducible first | refine stp ?_ | refine k_blk_o rfl ?_ | refine k_seq_n ?_) | ((try (conv => arg 1; simp [strs, s0, s2, s4, s5, s20, s21, s22, hw, hwr2, hwr3, b5, qS.1, qS.2.1, qS.2.2, qC.1, qC.2.1, qC.2.2, q1.1, q1.2.1, q1.2.2, ltS, nm_ne])); with_reducible refine evp ?_) | fail)
            exact img0_own
          | true =>
            by_cases hx : xs.length = 1
            · obtain ⟨x, rfl⟩ := List.length_eq_one_iff.1 hx
              rw [if_neg (by simp), if_neg (by decide)] at good hin' hcode hsz'
              have good := good (by first | rw [if_pos rfl] | rw [if_neg (by decide)])
              first | rw [if_pos rfl] at good hin' hcode hsz' | rw [if_neg (by decide)] at good hin' hcode hsz'
              rcases own_ints_inv (own_of (o2 true) rfl) with ⟨h0, _⟩ | ⟨k, ver, pre, sp, rfl, rfl, hr, _⟩
              · cases h0
              have hel : (pre ++ (cl1 [x] ++ sp))[pre.length]? = some [.int .i64 x] := by simp [cl1]
              repeat' (first | (with_reducible first | refine stp ?_ | refine k_blk_o rfl ?_ | refine k_seq_n ?_) | ((try (conv => arg 1; simp [strs, s0, s2, s4, s5, s20, s21, s22, hw, hwr2, hwr3, hr, hel, b5, qS.1, qS.2.1, qS.2.2, qC.1, qC.2.1, qC.2.2, ltS, nm_ne])); with_reducible refine evp ?_) | fail)
              refine k_lp_n _ (Nat.lt_of_le_of_ne (by omega) (by omega)) ⟨_, wS, wC, bC, ns, ?_, good, hin', by simp at hcode ⊢; omega, hsz', by simp [s0], by simp [s2], by simp [s4, strs], by simp [s5], by simp [s20, strs], by simp [s21], by simp [hwr2, hwr3], fl, ?_⟩
              · omega
              exact (Cx.to z5).drop
            · have hx2 : ¬ (xs.length : Int) = 1 := by omega
              have ll : lenA Tryz.prog 22 w1 = some (.int .i64 xs.length) := len_own (own_of (o2 true) rfl)
              rw [bad (by rw [if_pos (.inr ⟨by decide, hx⟩)])]
              repeat' (first | (with_reducible first | refine stp ?_ | refine k_blk_o rfl ?_ | refine k_seq_n ?_) | ((try (conv => arg 1; simp [strs, s0, s2, s4, s5, s20, s21, s22, hw, hwr2, hwr3, b5, hx, hx2, ll, qS.1, qS.2.1, qS.2.2, qC.1, qC.2.1, qC.2.2, q1.1, q1.2.1, q1.2.2, ltS, nm_ne])); with_reducible refine evp ?_) | fail)
              exact img0_own
    · have hge : i = (linesOf s).length := by omega
      subst hge
      rw [runR_end] at hrun
      have hwl : IntKind.i64.wrap (((linesOf s).length : Int) + 1) = ((linesOf s).length : Int) + 1 := wrap_id (by omega) (by omega)
      have drW : ∀ (h' : Hp), Cx h' (((T + 1 + 1, 1, 0), ⟨0, 4, [[wS, .int .i64 m.Params, .int .i64 m.Slots, wC]]⟩) :: ((T, 0, 0), ⟨0, 4, [[.nilsl, .int .i64 0, .int .i64 0, .nilsl]]⟩) :: (bC ++ [])) [(wS, (fun c => ints c m.Sizes), ns)] → DR true h'.rows wS (ints true m.Sizes) := fun h' x => (x.o0 true).dr
      have drC : ∀ (h' : Hp), Cx h' (((T + 1 + 1, 1, 0), ⟨0, 4, [[wS, .int .i64 m.Params, .int .i64 m.Slots, wC]]⟩) :: ((T, 0, 0), ⟨0, 4, [[.nilsl, .int .i64 0, .int .i64 0, .nilsl]]⟩) :: (bC ++ [])) [(wS, (fun c => ints c m.Sizes), ns)] → DR true h'.rows wC (words true m.Code) := fun h' x => fl.dr (fun e he => (words_flat _ e he).2) (fun y hy => x.box y (by simp [hy]))
      have hbad : ∀ (_ : ¬ (restOf s = [] ∧ imageOk m = true ∧ asmT m = s)), readAR s = (img0, ((linesOf s).length : Int) + 1) := fun hn => by
        unfold readAR
        rw [hrun]
        simp only
        rw [if_neg hn]
      by_cases hrest : restOf s = []
      · have K1 := isImage m (by omega) (by omega)
        cases hI : imageOk m with
        | false =>
          rw [hI] at K1
          rw [hbad (fun hn => by rw [hI] at hn; exact absurd hn.2.1 (by decide))]
          repeat' (first | (with_reducible first | refine stp ?_ | refine k_blk_o rfl ?_ | refine k_seq_n ?_) | ((try (conv => arg 1; simp [strs, s0, s2, s4, s5, s20, s21, s22, hrest, hw1, hwl, qS.1, qS.2.1, qS.2.2, qC.1, qC.2.1, qC.2.2, b, ltS, nm_ne, bs_mk, bs_toList])); with_reducible refine evp ?_) | ((with_reducible refine tcl ?_); first | ((apply tg (K1)); (case e => rfl); (case d => (refine dq ?_); (repeat' (first | ((refine Da.mk ?_); first | exact drW _ (Cx.to z) | exact drC _ (Cx.to z) | assumption) | constructor))))) | fail)
          exact img0_own
        | true =>
          rw [hI] at K1
          have K2 := implasm m (img_txt hin hI) (image_word hI (img_txt hin hI)) (image_code hI).2
          by_cases he : asmT m = s
          · have hA : readAR s = (m, 0) := by
              unfold readAR
              rw [hrun]
              simp only
              rw [if_pos ⟨hrest, hI, he⟩]
            have heb : (asmT m == s) = true := by simp [he]
            rw [hA]
            repeat' (first | (with_reducible first | refine stp ?_ | refine k_blk_o rfl ?_ | refine k_seq_n ?_) | ((try (conv => arg 1; simp [strs, s0, s2, s4, s5, s20, s21, s22, hrest, heb, hw1, hwl, qS.1, qS.2.1, qS.2.2, qC.1, qC.2.1, qC.2.2, b, ltS, nm_ne, bs_mk, bs_toList])); with_reducible refine evp ?_) | ((with_reducible refine tcl ?_); first | ((apply tg (K1)); (case e => rfl); (case d => (refine dq ?_); (repeat' (first | ((refine Da.mk ?_); first | exact drW _ (Cx.to z) | exact drC _ (Cx.to z) | assumption) | constructor)))) | ((apply tg (K2)); (case e => rfl); (case d => (refine dq ?_); (repeat' (first | ((refine Da.mk ?_); first | exact drW _ (Cx.to z) | exact drC _ (Cx.to z) | assumption) | constructor))))) | fail)
            have z1 : Cx _ _ _ := (Cx.to z : Cx (h.next.next.next.put (T, 0, 0) ⟨0, 4, [[wS, .int .i64 m.Params, .int .i64 m.Slots, wC]]⟩) (((T + 1 + 1, 1, 0), ⟨0, 4, [[wS, .int .i64 m.Params, .int .i64 m.Slots, wC]]⟩) :: ((T, 0, 0), ⟨0, 4, [[wS, .int .i64 m.Params, .int .i64 m.Slots, wC]]⟩) :: (bC ++ [])) [(wS, (fun c => ints c m.Sizes), ns)])
            obtain ⟨ns2, z2⟩ := fl.own (words_flat _) z1.box_drop.box_drop
            exact img_own z2
          · have heb : (asmT m == s) = false := by simp [he]
            rw [hbad (fun hn => he hn.2.2)]
            repeat' (first | (with_reducible first | refine stp ?_ | refine k_blk_o rfl ?_ | refine k_seq_n ?_) | ((try (conv => arg 1; simp [strs, s0, s2, s4, s5, s20, s21, s22, hrest, heb, hw1, hwl, qS.1, qS.2.1, qS.2.2, qC.1, qC.2.1, qC.2.2, b, ltS, nm_ne, bs_mk, bs_toList])); with_reducible refine evp ?_) | ((with_reducible refine tcl ?_); first | ((apply tg (K1)); (case e => rfl); (case d => (refine dq ?_); (repeat' (first | ((refine Da.mk ?_); first | exact drW _ (Cx.to z) | exact drC _ (Cx.to z) | assumption) | constructor)))) | ((apply tg (K2)); (case e => rfl); (case d => (refine dq ?_); (repeat' (first | ((refine Da.mk ?_); first | exact drW _ (Cx.to z) | exact drC _ (Cx.to z) | assumption) | constructor))))) | fail)
            exact img0_own
      · have hrb : (restOf s == []) = false := by simp [hrest]
        rw [hbad (fun hn => hrest hn.1)]
        repeat' (first | (with_reducible first | refine stp ?_ | refine k_blk_o rfl ?_ | refine k_seq_n ?_) | ((try (conv => arg 1; simp [strs, s0, s2, s4, s5, s20, s21, s22, hrb, hw1, hwl, qS.1, qS.2.1, qS.2.2, qC.1, qC.2.1, qC.2.2, b, ltS, nm_ne, bs_mk, bs_toList])); with_reducible refine evp ?_) | fail)
        exact img0_own
end Go.Proofs.YtmcmgeedhbgglaaGreatDoor.AM

namespace Go.Proofs.YtmcmgeedhbgglaaGreatDoor.AM
open Go.RowKit

private def ME35 : FuncId → Mode := fun f => if f = 19 then .fresh else if f = 22 ∨ f = 23 then .heap else .tree

theorem ownV_img2 {rows : Nm → Option Row} {v : AV} {m : Image} {q : Int} {ns : List Nm} (o : ∀ b, OwnV rows b v (.tup [.agg (m.cells b), .int .i64 q]) ns) : ∃ w1 w2, v = .tup [.agg [w1, .int .i64 m.Params, .int .i64 m.Slots, w2], .int .i64 q] ∧ (∀ b, OwnV rows b (.agg [w1, .int .i64 m.Params, .int .i64 m.Slots, w2]) (.agg (m.cells b)) ns) := by
  have one : ∀ b, ∃ w1 w2, v = .tup [.agg [w1, .int .i64 m.Params, .int .i64 m.Slots, w2], .int .i64 q] ∧ OwnV rows b (.agg [w1, .int .i64 m.Params, .int .i64 m.Slots, w2]) (.agg (m.cells b)) ns := fun b => by
    have h := o b
    generalize hu : AV.tup [.agg (m.cells b), .int .i64 q] = u at h
    cases h with
    | one h => subst hu; cases h
    | agg h => cases hu
    | @tup2 a t1 a' t2 ns1 ns2 h1 h2 =>
      cases hu
      cases h2 with
      | one h2 => cases h2 with
        | int _ _ h2 =>
          cases h2
          obtain ⟨w1, w2, _, _, rfl, _, _, _⟩ := ownV_image h1
          exact ⟨w1, w2, rfl, by simpa using h1⟩
  obtain ⟨w1, w2, rfl, _⟩ := one true
  refine ⟨w1, w2, rfl, fun b => ?_⟩
  obtain ⟨u1, u2, e, h⟩ := one b
  cases e
  exact h

theorem readAR_small (s : List UInt8) : (readAR s).1.Sizes.length ≤ 4 ∧ (readAR s).1.Code.length ≤ 6000 := by
  unfold readAR
  split
  · exact ⟨by simp [img0], by simp [img0]⟩
  · split
    · rename_i h
      have hI := h.2.1
      have hc := (image_code hI).2
      simp only [imageOk, inB, Bool.and_eq_true, decide_eq_true_eq] at hI
      exact ⟨by simp only; omega, hc⟩
    · exact ⟨by simp [img0], by simp [img0]⟩

set_option maxHeartbeats 2000000 in
theorem implReadAsm (s : List UInt8) (hl : s.length ≤ 2 ^ 20) : FreshW Tryz.prog 6 [.str (bs s)] (fun c => .tup [.agg ((readAR s).1.cells c), .int .i64 (readAR s).2]) := by
  intro T
  have x0 : Cx (Hp.mt T) [] [] := Cx.mt
  have y1 := x0.next.box_one (T := T) (i := 0) (r := ⟨0, 4, [[.nilsl, .int .i64 0, .int .i64 0, .nilsl]]⟩) x0.off (by simp)
  have K1 := implreadAsm s hl
  generalize readAR s = o at K1 ⊢
  obtain ⟨m, q⟩ := o
  dsimp only at K1 ⊢
  refine enter mixed ME35 Tryz.func6 rfl (by kernel_rfl) rfl ?_
  repeat' (first | (with_reducible first | refine stp ?_ | refine k_blk_o rfl ?_ | refine k_seq_n ?_) | ((try (conv => arg 1; simp [bs_mk])); with_reducible refine evp ?_) | fail)
  refine st_freshw rfl K1 (.cons (.str _) .nil) ?_
  intro v1 h5 n1 o1 d1 f1 p1 t1
  obtain ⟨w1, w2, rfl, o2⟩ := ownV_img2 o1
  have z5 := y1.next.fresh o2 d1 f1 p1 t1
  obtain ⟨wa, wb, na, nb, e, _, qa, qb⟩ := ownV_image (o2 true)
  cases e
  have qa := own_one qa
  have qb := own_one' qb
  have b5 := z5.bxs
  simp only [Bxs] at b5
  repeat' (first | (with_reducible first | refine stp ?_ | refine k_blk_o rfl ?_ | refine k_seq_n ?_) | ((try (conv => arg 1; simp [b5, qa.1, qa.2.1, qa.2.2, qb.1, qb.2.1, qb.2.2, ltS, nm_ne])); with_reducible refine evp ?_) | fail)
  have z6 : Cx _ _ _ := (Cx.to z5 : Cx (h5.put (T, 0, 0) ⟨0, 4, [[w1, .int .i64 m.Params, .int .i64 m.Slots, w2]]⟩) [((T, 0, 0), ⟨0, 4, [[w1, .int .i64 m.Params, .int .i64 m.Slots, w2]]⟩)] _)
  exact ⟨n1 ++ [], fun c => .tup2 (z6.o0 c) (.one (.int _ _ .nil)), by simpa using z6.nodup, fun n hn => z6.lts n (by simpa using hn)⟩

theorem heldWordS (n : Nat) (k : Int) (hk : 0 ≤ k) (hl : k + 5 * n ≤ 2 ^ 62) : Pure Tryz.prog 25 [words true (mwords k n), .int .i64 k] (.int .i64 (k + 5 * n)) := by
  intro T
  refine enter mixed ME35 Tryz.func25 rfl (by kernel_rfl) rfl ?_
  repeat' (first | (with_reducible first | refine stp ?_ | refine k_blk_o rfl ?_ | refine k_seq_n ?_) | ((try (conv => arg 1; simp [words])); with_reducible refine evp ?_) | fail)
  refine st_loop (fun (i : Nat) σ h => i ≤ n ∧ σ 0 = words true (mwords k n) ∧ σ 1 = .int .i64 (k + 5 * i) ∧ σ 5 = .int .i64 i) (fun i => n - i) 0 ?init ?step
  case init =>
    simp [words]
  case step =>
    rintro i σ h ⟨hi, h0, h1, h5⟩
    by_cases hlt : i < n
    · have hlt2 : (i : Int) < n := by omega
      have hg := mwords_get (k := k) hlt
      have hg2 : ∀ (hh : i < (mwords k n).length), (mwords k n)[i]'hh = ⟨k + 5 * i, k + 5 * i + 1, k + 5 * i + 1 + 1, k + 5 * i + 1 + 1 + 1, k + 5 * i + 1 + 1 + 1 + 1⟩ := fun hh => Option.some.inj ((List.getElem?_eq_getElem hh).symm.trans hg)
      have hw : IntKind.i64.wrap (i + 1) = i + 1 := wrap_id (by omega) (by omega)
      have w1 : IntKind.i64.wrap (k + 5 * i + 1) = k + 5 * i + 1 := wrap_id (by omega) (by omega)
      have w2 : IntKind.i64.wrap (k + 5 * i + 1 + 1) = k + 5 * i + 1 + 1 := wrap_id (by omega) (by omega)
      have w3 : IntKind.i64.wrap (k + 5 * i + 1 + 1 + 1) = k + 5 * i + 1 + 1 + 1 := wrap_id (by omega) (by omega)
      have w4 : IntKind.i64.wrap (k + 5 * i + 1 + 1 + 1 + 1) = k + 5 * i + 1 + 1 + 1 + 1 := wrap_id (by omega) (by omega)
      have w5 : IntKind.i64.wrap (k + 5 * i + 1 + 1 + 1 + 1 + 1) = k + 5 * i + 1 + 1 + 1 + 1 + 1 := wrap_id (by omega) (by omega)
      repeat' (first | (with_reducible first | refine stp ?_ | refine k_blk_o rfl ?_ | refine k_seq_n ?_) | ((try (conv => arg 1; simp [words, h0, h1, h5, hlt, hlt2, hg, hg2, mwords_length, hw, w1, w2, w3, w4, w5, Word.cells])); with_reducible refine evp ?_) | fail)
      refine k_lp_n (i + 1) (by omega) ⟨by omega, by simp [h0, words], by simp; omega, by simp [h5]⟩
    · have hge : i = n := by omega
      subst hge
      repeat' (first | (with_reducible first | refine stp ?_ | refine k_blk_o rfl ?_ | refine k_seq_n ?_) | ((try (conv => arg 1; simp [words, h0, h1, h5, mwords_length])); with_reducible refine evp ?_) | fail)
      exact .int _ _
/-- An image whose numbers are marks. -/
def mimg (m : Image) (k : Int) : Image := { m with Sizes := marks k m.Sizes.length, Code := mwords (k + m.Sizes.length) m.Code.length }

theorem heldImage (m : Image) (k : Int) (hk : 0 ≤ k) (hl : k + m.Sizes.length + 5 * m.Code.length ≤ 2 ^ 62) : Pure Tryz.prog 9 [.agg ((mimg m k).cells true), .int .i64 k] (.int .i64 (k + m.Sizes.length + 5 * m.Code.length)) := by
  intro T
  have K1 := heldIntS m.Sizes.length k hk (by omega)
  have K2 := heldWordS m.Code.length (k + m.Sizes.length) (by omega) (by omega)
  have hmc : (mimg m k).cells true = [ints true (marks k m.Sizes.length), .int .i64 m.Params, .int .i64 m.Slots, words true (mwords (k + m.Sizes.length) m.Code.length)] := rfl
  have h1 : ¬ k + (m.Sizes.length : Int) < 0 := by omega
  have h2 : ¬ k + (m.Sizes.length : Int) + 5 * (m.Code.length : Int) < 0 := by omega
  rw [hmc]
  refine enter mixed ME35 Tryz.func9 rfl (by kernel_rfl) rfl ?_
  repeat' (first | (with_reducible first | refine stp ?_ | refine k_blk_o rfl ?_ | refine k_seq_n ?_) | ((try (conv => arg 1; simp [h1, h2])); with_reducible refine evp ?_) | ((with_reducible refine tcl ?_); first | ((apply tg (K1)); (case e => rfl); (case d => (refine dq ?_); (repeat' (first | ((refine Da.mk ?_); first | exact dr_ints (by simp) _ | exact dr_words (by simp) _ | assumption) | constructor)))) | ((apply tg (K2)); (case e => rfl); (case d => (refine dq ?_); (repeat' (first | ((refine Da.mk ?_); first | exact dr_ints (by simp) _ | exact dr_words (by simp) _ | assumption) | constructor))))) | fail)
  exact .int _ _

theorem markImageX {h : Hp} {v : AV} {m : Image} {ns : List Nm} (ho : OwnV h.rows true v (.agg (m.cells true)) ns) (hnd : ns.Nodup) (hns : ∀ n ∈ ns, n.1 < h.tick) (k : Int) (hk : 0 ≤ k) (hk2 : k + m.Sizes.length + 5 * m.Code.length ≤ 2 ^ 62) :
    Sound Tryz.prog 8 [v, .int .i64 k] h fun r h' => r = .int .i64 (k + m.Sizes.length + 5 * m.Code.length) ∧ (∀ c, OwnV h'.rows c v (.agg ((mimg m k).cells c)) ns) ∧ (∀ n, n ∉ ns → n.1 < h.tick → h'.rows n = h.rows n) ∧ h.tick ≤ h'.tick := by
  obtain ⟨w1, w2, n1, n2, rfl, rfl, o1, o2⟩ := ownV_image ho
  have q1 := own_one o1
  have q2 := own_one' o2
  simp only [List.nodup_append, List.mem_append] at hnd
  have b1 : ∀ n ∈ n1, n.1 < h.tick := fun n hn => hns n (by simp [hn])
  have b2 : ∀ n ∈ n2, n.1 < h.tick := fun n hn => hns n (by simp [hn])
  have a1 : (h.tick, 0, 0) ∉ n1 := fun e => by have := b1 _ e; simp at this
  have a2 : (h.tick, 0, 0) ∉ n2 := fun e => by have := b2 _ e; simp at this
  refine enter mixed ME35 Tryz.func8 rfl (by kernel_rfl) rfl ?_
  repeat' (first | (with_reducible first | refine stp ?_ | refine k_blk_o rfl ?_ | refine k_seq_n ?_) | ((try (conv => arg 1; simp [q1.1, q2.1])); with_reducible refine evp ?_) | fail)
  refine st_heap rfl (markIntS (o1.congr fun n hn => ?_) (fun n hn => ?_) k (by omega) (by omega)) ?_
  · have hne : n ≠ (h.tick, 0, 0) := fun e => a1 (e ▸ hn)
    simp [hne]
  · have := b1 n hn
    simp; omega
  rintro r h1 ⟨rfl, g1, p1, t1⟩
  simp only [hp_next_tick, hp_put_tick] at t1
  have r1 : h1.rows (h.tick, 0, 0) = some ⟨0, 4, [[w1, .int .i64 m.Params, .int .i64 m.Slots, w2]]⟩ := by
    rw [p1 _ a1]; simp
  repeat' (first | (with_reducible first | refine stp ?_ | refine k_blk_o rfl ?_ | refine k_seq_n ?_) | ((try (conv => arg 1; simp [q1.1, q2.1, r1])); with_reducible refine evp ?_) | fail)
  refine st_heap rfl (markWordS (o2.congr fun n hn => ?_) (fun n hn => ?_) (k + m.Sizes.length) (by omega) (by omega)) ?_
  · have hne : n ≠ (h.tick, 0, 0) := fun e => a2 (e ▸ hn)
    have : n ∉ n1 := fun e => hnd.2.2 n e n hn rfl
    simp [p1 n this, hne]
  · have := b2 n hn
    simp; omega
  rintro r h2 ⟨rfl, g2, p2, t2⟩
  simp only [hp_next_tick, hp_put_tick] at t2
  repeat' (first | (with_reducible first | refine stp ?_ | refine k_blk_o rfl ?_ | refine k_seq_n ?_) | ((try (conv => arg 1; simp [q1.1, q2.1])); with_reducible refine evp ?_) | fail)
  refine ⟨by simp [resV], fun c => ?_, fun n hn hlt => ?_, by simp; omega⟩
  · have e1 : Own h2.rows c [w1] [ints c (marks k m.Sizes.length)] n1 := (g1 c).congr fun n hn => by
      have : n ∉ n2 := fun e => hnd.2.2 n hn n e rfl
      simp [p2 n this]
    exact (OwnV.agg (Own.append e1 (.int _ _ (.int _ _ (g2 c))))).congr fun n _ => by simp
  have hne : n ≠ (h.tick, 0, 0) := fun e => by rw [e] at hlt; simp at hlt
  simp only [List.mem_append, not_or] at hn
  simp [p2 n hn.2, p1 n hn.1, hne]
end Go.Proofs.YtmcmgeedhbgglaaGreatDoor.AM

namespace Go.Proofs.YtmcmgeedhbgglaaGreatDoor.AM
open Go.RowKit

private def MLReadAsm : FuncId → Mode := fun f => if f = 6 then .fresh else if f = 8 then .heap else .tree

set_option maxHeartbeats 4000000 in
theorem lawReadAsm (s : ByteArray) (hs : s.size ≤ maxLen) : Sound Tryz.prog 3 [.str s] (.mt 0) fun v _ => v = .bool true := by
  obtain ⟨l, rfl⟩ := bs_of s
  have hz := bs_size l
  have hnil : True := trivial
  refine enter mixed MLReadAsm Tryz.func3 rfl (by kernel_rfl) rfl ?_
  by_cases hl : l.length ≤ 1048576
  · have hl2 : ¬ 1048576 < (l.length : Int) := by omega
    have S := specReadAsm l (by omega)
    have I := implReadAsm l (by omega)
    have sm := readAR_small l
    generalize readAR l = o at S I sm
    obtain ⟨m, q⟩ := o
    dsimp only at S I sm
    have hsm : m.Small := ⟨by omega, by omega⟩
    have E1 := eqImage m hsm
    have hmc : m.cells false = [ints false m.Sizes, .int .i64 m.Params, .int .i64 m.Slots, words false m.Code] := rfl
    rw [hmc] at S
    repeat' (first | (with_reducible first | refine stp ?_ | refine k_blk_o rfl ?_ | refine k_seq_n ?_) | ((try (conv => arg 1; simp [hz, hl2])); with_reducible refine evp ?_) | ((with_reducible refine tcl ?_); first | ((apply tg (S)); (case e => rfl); (case d => (refine dq ?_); (repeat' (first | ((refine Da.mk ?_); first | assumption) | constructor))))) | fail)
    refine st_freshw rfl I (.cons (.str _) .nil) ?_
    intro v1 h1 n1 o1 d1 f1 p1 t1
    have x0 : Cx (Hp.mt 0) [] [] := Cx.mt
    have y0 := x0.next.next.next.box_new (T := 2) (i := 5) (r := ⟨0, 4, [[.nilsl, .int .i64 0, .int .i64 0, .nilsl]]⟩) (r' := ⟨0, 4, [[ints false m.Sizes, .int .i64 m.Params, .int .i64 m.Slots, words false m.Code]]⟩) x0.next.next.off (by simp)
    obtain ⟨w1, w2, rfl, o2⟩ := ownV_img2 o1
    have x1 := y0.next.fresh o2 d1 f1 p1 t1
    have z1 : 3 < h1.tick := by simp at t1; omega
    have x2 := x1.box_new (T := 3) (i := 5) (r := ⟨0, 4, [[.nilsl, .int .i64 0, .int .i64 0, .nilsl]]⟩) (r' := ⟨0, 4, [[w1, .int .i64 m.Params, .int .i64 m.Slots, w2]]⟩) (y0.off.fresh f1 (by simp)) z1
    obtain ⟨wa, wb, na, nb, e, _, qa, qb⟩ := ownV_image (o2 true)
    cases e
    have qa := own_one qa
    have qb := own_one' qb
    have b1 := x1.bxs
    have b2 := x2.bxs
    simp only [Bxs] at b1 b2
    have hmt : m.cells true = [ints true m.Sizes, .int .i64 m.Params, .int .i64 m.Slots, words true m.Code] := rfl
    repeat' (first | (with_reducible first | refine stp ?_ | refine k_blk_o rfl ?_ | refine k_seq_n ?_) | ((try (conv => arg 1; simp [hz, hl2, z1, b1, b2, qa.1, qa.2.1, qa.2.2, qb.1, qb.2.1, qb.2.2, ltS, nm_ne])); with_reducible refine evp ?_) | fail)
    refine st_tree rfl E1 (.cons ((x2.next.o0 true).dr) (.cons (dr_agg (drs_image m (by simp))) .nil)) ?_
    repeat' (first | (with_reducible first | refine stp ?_ | refine k_blk_o rfl ?_ | refine k_seq_n ?_) | ((try (conv => arg 1; simp [hz, hl2, z1, b2, qa.1, qa.2.1, qa.2.2, qb.1, qb.2.1, qb.2.2, ltS, nm_ne])); with_reducible refine evp ?_) | fail)
    have y3 := x2.next.next.next
    refine st_heap rfl (markImageX (y3.o0 true) y3.nodup y3.lts 1 (by omega) (by omega)) ?_
    rintro r h3 ⟨rfl, og, pg, tg⟩
    have x4 := y3.mark og (fun n a b => pg n a b) tg
    have b4 := x4.bxs
    simp only [Bxs] at b4
    have hkneg : ¬ 1 + (m.Sizes.length : Int) + 5 * (m.Code.length : Int) < 0 := by omega
    have H := heldImage m 1 (by omega) (by omega)
    repeat' (first | (with_reducible first | refine stp ?_ | refine k_blk_o rfl ?_ | refine k_seq_n ?_) | ((try (conv => arg 1; simp [hkneg, b4, qa.1, qa.2.1, qa.2.2, qb.1, qb.2.1, qb.2.2, ltS, nm_ne])); with_reducible refine evp ?_) | fail)
    refine st_tree rfl H (.cons ((x4.next.next.o0 true).dr) (.cons (.int _ _) .nil)) ?_
    repeat' (first | (with_reducible first | refine stp ?_ | refine k_blk_o rfl ?_ | refine k_seq_n ?_) | ((try (conv => arg 1; simp [hkneg, b4, qa.1, qa.2.1, qa.2.2, qb.1, qb.2.1, qb.2.2, ltS, nm_ne])); with_reducible refine evp ?_) | fail)
    refine st_freshw rfl I (.cons (.str _) .nil) ?_
    intro v2 h5 n2 o5 d5 f5 p5 t5
    have x4' := x4.next.next.next.next
    obtain ⟨u1, u2, rfl, o6⟩ := ownV_img2 o5
    have x5 := x4'.next.fresh o6 d5 f5 p5 t5
    have z5 : h3.tick + 1 + 1 + 1 + 1 < h5.tick := by simp at t5; omega
    have x6 := x5.box_new (T := h3.tick + 1 + 1 + 1 + 1) (i := 5) (r := ⟨0, 4, [[.nilsl, .int .i64 0, .int .i64 0, .nilsl]]⟩) (r' := ⟨0, 4, [[u1, .int .i64 m.Params, .int .i64 m.Slots, u2]]⟩) (x4'.off.fresh f5 (by simp)) z5
    obtain ⟨_, _, _, _, e, _, qc, qd⟩ := ownV_image (o6 true)
    cases e
    have qc := own_one qc
    have qd := own_one' qd
    have b5 := x5.bxs
    have b6 := x6.bxs
    simp only [Bxs] at b5 b6
    repeat' (first | (with_reducible first | refine stp ?_ | refine k_blk_o rfl ?_ | refine k_seq_n ?_) | ((try (conv => arg 1; simp [z5, b5, b6, qc.1, qc.2.1, qc.2.2, qd.1, qd.2.1, qd.2.2, ltS, nm_ne])); with_reducible refine evp ?_) | fail)
    refine st_tree rfl E1 (.cons ((x6.next.o0 true).dr) (.cons (dr_agg (drs_image m (by simp))) .nil)) ?_
    have z3 : 3 < h3.tick := b4.2.1
    have hne : ¬ (3 : Nat) = h3.tick + 1 + 1 + 1 + 1 := by omega
    have hne2 : ¬ h3.tick + 1 + 1 + 1 + 1 = (3 : Nat) := by omega
    repeat' (first | (with_reducible first | refine stp ?_ | refine k_blk_o rfl ?_ | refine k_seq_n ?_) | ((try (conv => arg 1; simp [hkneg, z5, b5, hne, hne2, qa.1, qa.2.1, qa.2.2, qb.1, qb.2.1, qb.2.2, qc.1, qc.2.1, qc.2.2, qd.1, qd.2.1, qd.2.2, ltS, nm_ne])); with_reducible refine evp ?_) | fail)
    refine st_tree rfl H (.cons ((x6.next.next.next.o1 true).dr) (.cons (.int _ _) .nil)) ?_
    have z3 : 3 < h3.tick := b4.2.1
    have hne : ¬ (3 : Nat) = h3.tick + 1 + 1 + 1 + 1 := by omega
    have hne2 : ¬ h3.tick + 1 + 1 + 1 + 1 = (3 : Nat) := by omega
    repeat' (first | (with_reducible first | refine stp ?_ | refine k_blk_o rfl ?_ | refine k_seq_n ?_) | ((try (conv => arg 1; simp [hkneg, z5, b5, hne, hne2, qa.1, qa.2.1, qa.2.2, qb.1, qb.2.1, qb.2.2, qc.1, qc.2.1, qc.2.2, qd.1, qd.2.1, qd.2.2, ltS, nm_ne])); with_reducible refine evp ?_) | fail)
    rfl
  · have hl2 : 1048576 < (l.length : Int) := by omega
    repeat' (first | (with_reducible first | refine stp ?_ | refine k_blk_o rfl ?_ | refine k_seq_n ?_) | ((try (conv => arg 1; simp [hz, hl2])); with_reducible refine evp ?_) | fail)
    rfl
end Go.Proofs.YtmcmgeedhbgglaaGreatDoor.AM

namespace Go.Proofs.YtmcmgeedhbgglaaGreatDoor.AM
open Go Go.RowKit

theorem handed_laid {H : Type} {enc : TypeId × Value → H} {a : Assume} {C : Checked} {os : Os} {f : FuncId} {fn : Func} {s : ChangeSpec} {conds : List PathCond} {apart fresh handsOn again : Bool} {X : World → Array Value → Prop}
    (hX : ∀ (w w' : World) (args : Array Value), w.heap = w'.heap → X w args → X w' args)
    (own : ownKnob C.prog.godebug = none) (started : os.Started) (noInit : C.prog.inits.idxOf? f = none) (hfn : C.prog.funcs[f]? = some fn)
    (witness : ∃ (w : World) (tape : Tape) (i : Input), w.os = os ∧ (w.forCall tape i).Shaped C.prog ∧ i.vars = [] ∧ Input.okWide C.prog (w.forCall tape i) .any w.heap.size f i ∧
      ((s.pre enc C.prog fn conds apart (w.forCall tape i).memory i.args ∧ X (w.forCall tape i).memory i.args) ∧ sizedMet enc C.prog fn (OpenSpec.ofChange s) apart (w.forCall tape i).memory i.args) ∧ a.holds C.prog (lone (Frame.enter C.prog f i.args .normal) [] (w.forCall tape i)))
    (contract : ∀ (W : World) (base : Nat) (args : Array Value) (ds gs : List (DataW H)) (before : List MemPlace),
      (∀ (j : Nat) t v, fn.params[j]? = some t → args[j]? = some v → Value.okWide C.prog W .any base t v) →
      DataW.Whole enc C.prog fn.params.toList s.vars apart W args.toList ds gs before → X W args → W.ShapedOpen C.prog →
      Calls C.prog f args W fun e W' => ∃ v, e = .returned v ∧ s.post enc C.prog fn apart fresh handsOn again W args v W') :
    ReturnsInHanded a C os f .any (fun w args => (s.pre enc C.prog fn conds apart w args ∧ X w args) ∧ sizedMet enc C.prog fn (OpenSpec.ofChange s) apart w args) (s.post enc C.prog fn apart fresh handsOn again) := by
  refine returnsInHanded_of_calls own started noInit witness ?_
  intro w tape i _ hsh _ hok hpre hholds
  obtain ⟨_, _, _, fn', hfn', _, _, _, _, hval⟩ := hok
  have e : fn' = fn := Option.some.inj (hfn'.symm.trans hfn)
  subst e
  obtain ⟨⟨⟨ds, gs, before, hw, hc⟩, hx⟩, hz⟩ := hpre
  have hw' := DataW.Whole.of_heap (w' := w.forCall tape i) (by rfl) hw
  refine (contract (w.forCall tape i) w.heap.size i.args ds gs before hval hw' (hX _ _ _ (by rfl) hx) hsh).mono fun e W' ⟨v, he, hp⟩ => ?_
  subst he
  exact ChangeSpec.post_blind hp

theorem var_cells {P : Program} {w : World} {name : String} {g : Nat} {cs : Array Value} (hg : P.globalNamed name = some g) (h : w.var? P name = some cs) : g < w.heap.size ∧ ∃ ty fr, w.heap[g]? = some (.cells cs ty fr) := by
  unfold World.var? at h
  rw [hg] at h
  simp only [Option.bind_some] at h
  split at h
  · rename_i cs' ty fr hb
    cases h
    exact ⟨(Array.getElem?_eq_some_iff.1 hb).1, ty, fr, hb⟩
  · cases h
theorem int_block {P : Program} {w : World} {g : Nat} {t : TypeId} {zero : Array Value} {k : IntKind}
    (h : w.ShapedOpen P) (hg : g < P.globals.size)
    (h0 : ((begin P (fun _ _ => 0) default).world.heap[g]?).bind Obj.row? = some (zero, t)) (hz : zero.size = 1)
    (hb : P.buildable t = true) (hc : P.cellTypes P.depth t = some [t]) (hu : P.underlying t = some (.int k)) : g < w.heap.size ∧ ∃ m ty fr, w.heap[g]? = some (.cells #[.int k m] ty fr) := by
  obtain ⟨m, hm⟩ := cell_of_shapedOpen_int h hg h0 hz hb hc hu
  obtain ⟨cs, hh, hs, _⟩ := h.1 g zero t hg h0
  refine ⟨(Array.getElem?_eq_some_iff.1 hh).1, m, t, (0, 0), ?_⟩
  rw [hh]
  have h1 : cs.size = 1 := by omega
  have : cs = #[.int k m] := by
    apply Array.ext
    · simp [h1]
    · intro i h2 h3
      have hi : i = 0 := by simpa using h3
      subst hi
      simp only [World.cell?, hh] at hm
      simpa [h2] using hm
  rw [this]

theorem av_3 (c : AV) : avOf Tryz.prog 3 [c] = c := av_oneX und_3 rfl c
theorem av_9 (c : AV) : avOf Tryz.prog 9 [c] = c := av_oneX und_9 rfl c
/-- The tables that the rows list, and bytealg.MaxLen. -/
theorem tab_pow10 {W : World} (h : Go.Lib.TabIs Tryz.prog W "internal/strconv.uint64pow10" .u64 Go.Lib.pow10Tab) : 5 < W.heap.size ∧ ∃ arr ty fr, W.heap[5]? = some (.cells arr ty fr) ∧ arr = (Go.Lib.pow10Tab.map fun z => Value.int .u64 z).toArray := by
  obtain ⟨h1, ty, fr, h2⟩ := var_cells (by kernel_rfl) h
  exact ⟨h1, _, ty, fr, h2, rfl⟩
theorem tab_maxlen {W : World} (h : W.ShapedOpen Tryz.prog) : 0 < W.heap.size ∧ ∃ arr ty fr, W.heap[0]? = some (.cells arr ty fr) ∧ ∃ m, arr = #[Value.int .i64 m] := by
  obtain ⟨h1, m, ty, fr, h2⟩ := int_block (g := 0) (t := 3) (zero := #[.int .i64 0]) (k := .i64) h (of_decide_eq_true (by kernel_rfl)) (by kernel_rfl) rfl (by kernel_rfl) (by kernel_rfl) (by kernel_rfl)
  exact ⟨h1, _, ty, fr, h2, m, rfl⟩
theorem pow_of_laid {W : World} {rest : List (String × DataW Unit)} (h : laidMet Tryz.prog (("internal/strconv.uint64pow10", Rows.laid_internal_strconv_uint64pow10) :: rest) W) : Go.Lib.TabIs Tryz.prog W "internal/strconv.uint64pow10" .u64 Go.Lib.pow10Tab :=
  Go.Lib.tabIs_of_head (n := 20) (g := 5) (t := 194) (e := 175) (by kernel_rfl) (by kernel_rfl) (by kernel_rfl) (by kernel_rfl) (by kernel_rfl) (by kernel_rfl) (rest := rest) h
end Go.Proofs.YtmcmgeedhbgglaaGreatDoor.AM

namespace Go.Proofs.YtmcmgeedhbgglaaGreatDoor.AM
open Go Go.RowKit

theorem err_star : "*" ++ "errors.errorString" = "*errors.errorString" := by decide
theorem err_row (u : TypeId) (h : Tryz.prog.typeName? 3 u = some "*errors.errorString") : u = 199 :=
  typeName_ptr_named (nm := "errors.errorString") (by rw [err_star]; kernel_rfl) (by kernel_rfl) (by decide) u (by rw [err_star]; exact h)
theorem err_var {W : World} {n : String} {text : List UInt8} {rest : List (String × DataW Unit)} {g : Nat} (h : laidMet Tryz.prog ((n, .iface "*errors.errorString" (.ptr (.agg [.lit (.string text)]))) :: rest) W)
    (hg : Tryz.prog.globalNamed n = some g) (ht : (Tryz.prog.globals[g]?).map (·.type) = some 125) : g < W.heap.size ∧ ∃ arr ty fr, W.heap[g]? = some (.cells arr ty fr) ∧ ∃ t p, arr = #[Value.iface t p] := by
  obtain ⟨a, s, hv, _⟩ := laid_sentinel (ti := 125) (tp := 199) (te := 201) (ts := 9) h hg ht Tryz.underlying125 err_row Tryz.underlying199 Tryz.underlying201 rfl rfl Tryz.underlying9 (by kernel_rfl) (by kernel_rfl)
  obtain ⟨h1, ty, fr, h2⟩ := var_cells hg hv
  exact ⟨h1, _, ty, fr, h2, _, _, rfl⟩
theorem tab_allE {W : World} (h1 : Go.Lib.TabIs Tryz.prog W "internal/strconv.uint64pow10" .u64 Go.Lib.pow10Tab) (h2 : W.ShapedOpen Tryz.prog) {rs rr : List (String × DataW Unit)}
    (h3 : laidMet Tryz.prog (("strconv.ErrSyntax", Rows.laid_strconv_ErrSyntax) :: rs) W) (h4 : laidMet Tryz.prog (("strconv.ErrRange", Rows.laid_strconv_ErrRange) :: rr) W) : Tab (prLent (fun _ _ => False) W.heap.size) W.heap := by
  intro b q hm
  simp only [tabs, List.mem_cons, List.mem_nil_iff, or_false, Prod.mk.injEq] at hm
  rcases hm with ⟨rfl, rfl⟩ | ⟨rfl, rfl⟩ | ⟨rfl, rfl⟩ | ⟨rfl, rfl⟩
  · exact tab_pow10 h1
  · exact tab_maxlen h2
  · exact err_var h3 (by kernel_rfl) (by kernel_rfl)
  · exact err_var h4 (by kernel_rfl) (by kernel_rfl)
end Go.Proofs.YtmcmgeedhbgglaaGreatDoor.AM


namespace Go.Proofs.YtmcmgeedhbgglaaGreatDoor.fnExactReadAsm
open Go Go.ChangeShapes Go.WideShapes Go.ChangeAt Go.RowKit
theorem own : ownKnob Tryz.prog.godebug = none := by kernel_rfl

theorem sound (l : List AM.AV) (h : AM.ShpAll Tryz.prog [9] l) : AM.Sound Tryz.prog 3 l (.mt 0) fun v _ => v = .bool true := by
  obtain ⟨cells0, l0, g0, e0, k0⟩ := AM.shpAll_cons h
  have e' := AM.shpAll_nil k0
  subst e' e0
  obtain ⟨a0, rfl, d0⟩ := g0.str_inv AM.und_9
  rw [AM.av_9]
  exact AM.lawReadAsm a0 d0

set_option maxRecDepth 100000 in
theorem met (os : Os) (args : Array Value) : laidMetH Tryz.prog Rows.fnExactReadAsmRow.laid ((World.laidAll Tryz.prog os Rows.fnExactReadAsmRow.laid).forCall (fun _ _ => 0) ⟨#[], args, []⟩).memory := by
  rw [MakeChecks.laidMetH_plain _ _ _ (by kernel_rfl)]
  exact laidMet_laidAll args (by kernel_rfl) (by kernel_rfl)

theorem tabs {W : World} (h : laidMetH Tryz.prog Rows.fnExactReadAsmRow.laid W) (hsh : W.ShapedOpen Tryz.prog) : AM.Tab (AM.prLent (fun _ _ => False) W.heap.size) W.heap := by
  rw [MakeChecks.laidMetH_plain _ _ _ (by kernel_rfl)] at h
  exact AM.tab_allE (AM.pow_of_laid h.tail.tail) hsh h.tail.tail.tail.tail.tail h.tail.tail.tail.tail

set_option maxRecDepth 100000 in
theorem lifted (os : Os) (started : os.Started) (H : Type) (enc : TypeId × Value → H) :
    ReturnsInHanded {} Tryz.checked os 3 .any (fun w args => (Rows.fnExactReadAsmSpec.pre enc Tryz.prog Tryz.f3 [] false w args ∧ laidMetH Tryz.prog Rows.fnExactReadAsmRow.laid w) ∧ sizedMet enc Tryz.prog Tryz.f3 (OpenSpec.ofChange Rows.fnExactReadAsmSpec) false w args) (Rows.fnExactReadAsmSpec.post enc Tryz.prog Tryz.f3 false true false false) := by
  refine AM.handed_laid (C := Tryz.checked) (X := fun w _ => laidMetH Tryz.prog Rows.fnExactReadAsmRow.laid w) (fun _ _ _ hh h => h.of_heap hh) own started (by kernel_rfl) Tryz.func3
    (ChangeSpec.witness_shaped (enc := enc) (C := Tryz.checked) (os := os) (X := fun w _ => laidMetH Tryz.prog Rows.fnExactReadAsmRow.laid w) false (World.laidAll Tryz.prog os Rows.fnExactReadAsmRow.laid) #[.string ⟨#[]⟩] 8 (World.laidAll_os _ _ _) (World.shaped_of_RefB (by kernel_rfl) (by kernel_rfl)) (by kernel_rfl) (by kernel_rfl) (by kernel_rfl) (met os _)) ?_
  intro W base args ds gs before hval0 hW hL hsh
  have hval : ∀ (j : Nat) t v, Tryz.f3.params[j]? = some t → args[j]? = some v → Value.okWide Tryz.prog W .any base t v := hval0
  have hW' := hW
  obtain ⟨p, q, hA0, hV, rfl, hfz, hnd⟩ := hW
  have hA : DataW.TrodAll enc Tryz.prog W 0 (fun _ => true) true Tryz.f3.params.toList args.toList ds p := hA0
  rw [Tryz.params3] at hA hval
  obtain ⟨v0, vs0, d0, ds0, p0, q0, hargs, rfl, rfl, h0, r0⟩ := trodAll_cons hA
  obtain ⟨rfl, rfl, rfl⟩ := trodAll_nil r0
  obtain rfl : args = #[v0] := by cases args; simp_all
  obtain ⟨rfl, rfl⟩ := trodVars_none hV
  clear hA0 hval0
  refine (AM.law_calls (params := [9]) (ts := [9]) sound (by kernel_rfl) (by simp) (args := #[v0]) (fun j t v a b => hval j t v (by simpa using a) b) hA (tabs hL hsh)).mono fun e W' ⟨he, bel⟩ => ?_
  subst he
  exact ⟨_, rfl, _, _, _, [], _, [], hW', trodAll_mk1 (shut_bool Tryz.underlying4 _), AM.back_all AM.laid bel _ _ _ _ (by kernel_rfl) hA, rfl, bel.frame _, fun h => by cases h⟩
theorem over : Rows.fnExactReadAsmRow.holds Tryz.pinned (OpenSpec.ofChange Rows.fnExactReadAsmSpec) :=
  OpenClaim.holds_of_wide 3 Tryz.f3 rfl rfl rfl rfl rfl rfl rfl ⟨rfl, rfl, rfl, rfl, rfl⟩ rfl rfl rfl rfl rfl (by kernel_rfl) Tryz.func3 (by kernel_rfl)
    (of_decide_eq_true (by kernel_rfl)) (by unfold Func.isWrapper; first | (rw [if_pos (by decide +kernel)]; kernel_rfl) | (rw [if_neg (by decide +kernel)]; exact ⟨rfl, rfl⟩))
    (fun os started H enc _ => lifted os started H enc)
theorem card : Rows.FnExactReadAsmCardSaid :=
  Claim7.holds_tied_plain_at .later [] [.data, .data, .data, .data, .sentinel, .sentinel, .pinned] true (Rows.fnExactReadAsmCard.stood.harness) true
    over (fun _ h => by cases h) (by kernel_rfl) (fun _ h => by cases h) fnExactReadAsm_row_tie rfl ⟨rfl, rfl⟩ (by kernel_rfl) rfl
    (fun f fn hf hfn => by
      obtain rfl : f = 3 := Option.some.inj ((show Tryz.prog.funcNamed "loop.example/g00385/laws.FnExactReadAsm" = some 3 by kernel_rfl).symm.trans hf) |>.symm
      obtain rfl : fn = Tryz.f3 := (Option.some.inj (Tryz.func3.symm.trans hfn)).symm
      exact ⟨by kernel_rfl, fun j t ht => by
        rw [Tryz.params3] at ht
        have hm : t ∈ [9] := by simpa using Array.mem_of_getElem? ht
        have hall : ([9].all fun u => !Tryz.prog.wantsStandIn u) = true := by kernel_rfl
        exact (show Tryz.prog.wantsStandIn t = false by simpa using List.all_eq_true.1 hall t hm)⟩)
    (by kernel_rfl)
end Go.Proofs.YtmcmgeedhbgglaaGreatDoor.fnExactReadAsm
namespace Go.Proofs.YtmcmgeedhbgglaaGreatDoor
theorem fnExactReadAsm_holds : Rows.FnExactReadAsmCardSaid := fnExactReadAsm.card
end Go.Proofs.YtmcmgeedhbgglaaGreatDoor
