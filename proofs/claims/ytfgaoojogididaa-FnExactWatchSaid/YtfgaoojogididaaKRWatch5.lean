/-
  FnExactWatch: for every argument, the law returns true, and the arguments read behind the call as they read before.
  Conditions: none beyond the given statement's own.
-/
import Derived.Test.YtfgaoojogididaaKk4
import Derived.WalkKit
import Derived.ProofKit
import Derived.OpenShut
import Derived.ShutString
import Derived.ChangeOld
import Derived.Below
import Derived.SizedLaws
/-
  A stepper's state: marked exactly, held.
-/
set_option linter.unusedVariables false
set_option linter.unusedSimpArgs false
set_option maxRecDepth 4000
namespace Go.Proofs.Ytfgaoojogididaa.AM
open Go.RowKit

private def MW33 : FuncId → Mode := fun f => if f = 33 ∨ f = 52 then .heap else .tree

/-- A state whose sizes are bounded, less tightly. -/
structure Cpu.Mid (c : Cpu) : Prop where
  regs : c.Regs.length ≤ 2 ^ 30
  slots : c.Slots.length ≤ 2 ^ 30
  mem : wtSS c.Mem ≤ 2 ^ 30
  input : c.Input.length ≤ 2 ^ 30
  out : c.Out.length ≤ 2 ^ 30
theorem Cpu.Small.mid {c : Cpu} (h : c.Small) : c.Mid := ⟨by have := h.regs; omega, by have := h.slots; omega, by have := h.mem; omega, by have := h.input; omega, by have := h.out; omega⟩

theorem eqCpuM (c : Cpu) (hs : c.Mid) : Pure Try.prog 17 [.agg (c.cells true), .agg (c.cells true)] (.bool true) := by
  intro T
  have k1 := eqIntS c.Regs (by have := hs.regs; omega)
  have k2 := eqIntS c.Slots (by have := hs.slots; omega)
  have k3 := eqIntSS c.Mem (by have := (mem_small hs.mem).1; omega) (fun x hx => by have := (mem_small hs.mem).2 x hx; omega)
  have k4 := eqIntS c.Input (by have := hs.input; omega)
  have k5 := eqIntS c.Out (by have := hs.out; omega)
  refine enter mixed MW33 Try.func17 rfl (by kernel_rfl) rfl ?_
  by_cases ho : c.Over = true
  all_goals
    repeat' (first
     | with_reducible refine stp ?_
     | with_reducible refine k_blk_o rfl ?_
     | with_reducible refine k_seq_n ?_
     | ((try (conv => arg 1; simp [Cpu.cells, ho])); with_reducible refine evp ?_)
     | ((with_reducible refine apn ?na ?_); (case na => simp [appNames, ints, intss] <;> first | kernel_rfl | (refine ⟨?_, ?_⟩ <;> kernel_rfl)))
     | ((with_reducible refine tcl ?_); first | ((apply tg (k1)); (case e => rfl); (case d => (refine dq ?_); (repeat' (first | ((refine Da.mk ?_); first | assumption) | constructor)))) | ((apply tg (k2)); (case e => rfl); (case d => (refine dq ?_); (repeat' (first | ((refine Da.mk ?_); first | assumption) | constructor)))) | ((apply tg (k3)); (case e => rfl); (case d => (refine dq ?_); (repeat' (first | ((refine Da.mk ?_); first | assumption) | constructor)))) | ((apply tg (k4)); (case e => rfl); (case d => (refine dq ?_); (repeat' (first | ((refine Da.mk ?_); first | assumption) | constructor)))) | ((apply tg (k5)); (case e => rfl); (case d => (refine dq ?_); (repeat' (first | ((refine Da.mk ?_); first | assumption) | constructor)))))
     | fail)
    exact .bool true

/-- How many numbers a state holds. -/
def Cpu.tot (c : Cpu) : Int := c.Regs.length + c.Slots.length + psum c.Mem c.Mem.length + c.Input.length + c.Out.length
def Cpu.marked (k : Int) (c : Cpu) : Cpu := { c with Regs := marks k c.Regs.length, Slots := marks (k + c.Regs.length) c.Slots.length, Mem := marksSS (k + c.Regs.length + c.Slots.length) c.Mem, Input := marks (k + c.Regs.length + c.Slots.length + psum c.Mem c.Mem.length) c.Input.length, Out := marks (k + c.Regs.length + c.Slots.length + psum c.Mem c.Mem.length + c.Input.length) c.Out.length }

set_option maxHeartbeats 1000000 in
theorem markCpuX {h : Hp} {bs : Bx} {os : Ox} {l : List AV} {ns : List Nm} {c : Cpu} (x : Cx h bs ((.agg l, (fun b => .agg (c.cells b)), ns) :: os)) (hs : c.Mid) (k : Int) (hk : 0 ≤ k) (hk2 : k ≤ 2 ^ 40) :
    Sound Try.prog 18 [.agg l, .int .i64 k] h fun r h' => r = .int .i64 (k + c.tot) ∧ ∃ ns', Cx h' bs ((.agg l, (fun b => .agg ((c.marked k).cells b)), ns') :: os) := by
  have z1 := hs.regs
  have z2 := hs.slots
  have z3 := hs.mem
  have z4 := hs.input
  have z5 := hs.out
  have z6 : psum c.Mem c.Mem.length ≤ wtSS c.Mem := by simp only [wtSS]; omega
  obtain ⟨w1, w2, w3, w4, w5, n1, n2, n3, n4, n5, rfl, y⟩ := x.cpu_split
  have q1 := own_one (own_of (y.o0 true) rfl)
  have q2 := own_one (own_of (y.o1 true) rfl)
  have q3 := own_one (own_of (y.o2 true) rfl)
  have q4 := own_one (own_of (y.o3 true) rfl)
  have q5 := own_one (own_of (y.o4 true) rfl)
  refine enter mixed MW33 Try.func18 rfl (by kernel_rfl) rfl ?_
  repeat' (first
   | with_reducible refine stp ?_
   | with_reducible refine k_blk_o rfl ?_
   | ((try (conv => arg 1; simp [q1, q2, q3, q4, q5])); with_reducible refine evp ?_)
   | ((with_reducible refine apn ?na ?_); (case na => simp [appNames, ints, intss] <;> first | kernel_rfl | (refine ⟨?_, ?_⟩ <;> kernel_rfl)))
   | fail)
  refine cx_k (y.next.box_one y.off (by simp)) ?_
  intro h1 y1
  repeat' (first
   | with_reducible refine stp ?_
   | with_reducible refine k_blk_o rfl ?_
   | with_reducible refine k_seq_n ?_
   | ((try (conv => arg 1; simp [y1.b0])); with_reducible refine evp ?_)
   | ((with_reducible refine apn ?na ?_); (case na => simp [appNames, ints, intss] <;> first | kernel_rfl | (refine ⟨?_, ?_⟩ <;> kernel_rfl)))
   | fail)
  refine st_heap rfl (markIntS (own_of (y1.next.o0 true) rfl) y1.next.lts k (by omega) (by omega)) ?_
  rintro r h2 ⟨rfl, o, p, t⟩
  have y2 := (y1.next.mark (fun b => .one (o b)) (fun n hn _ => p n hn) t).rot1
  repeat' (first
   | with_reducible refine stp ?_
   | with_reducible refine k_blk_o rfl ?_
   | with_reducible refine k_seq_n ?_
   | ((try (conv => arg 1; simp [y2.b0])); with_reducible refine evp ?_)
   | ((with_reducible refine apn ?na ?_); (case na => simp [appNames, ints, intss] <;> first | kernel_rfl | (refine ⟨?_, ?_⟩ <;> kernel_rfl)))
   | fail)
  refine st_heap rfl (markIntS (own_of (y2.next.o0 true) rfl) y2.next.lts (k + c.Regs.length) (by omega) (by omega)) ?_
  rintro r h3 ⟨rfl, o, p, t⟩
  have y3 := (y2.next.mark (fun b => .one (o b)) (fun n hn _ => p n hn) t).rot2
  repeat' (first
   | with_reducible refine stp ?_
   | with_reducible refine k_blk_o rfl ?_
   | with_reducible refine k_seq_n ?_
   | ((try (conv => arg 1; simp [y3.b0])); with_reducible refine evp ?_)
   | ((with_reducible refine apn ?na ?_); (case na => simp [appNames, ints, intss] <;> first | kernel_rfl | (refine ⟨?_, ?_⟩ <;> kernel_rfl)))
   | fail)
  refine st_heap rfl (markIntSS (own_of (y3.next.o0 true) rfl) y3.nodup y3.next.lts (k + c.Regs.length + c.Slots.length) (by omega) (by omega)) ?_
  rintro r h4 ⟨rfl, o, p, t⟩
  have y4 := (y3.next.mark (fun b => .one (o b)) (fun n hn _ => p n hn) t).rot3
  repeat' (first
   | with_reducible refine stp ?_
   | with_reducible refine k_blk_o rfl ?_
   | with_reducible refine k_seq_n ?_
   | ((try (conv => arg 1; simp [y4.b0])); with_reducible refine evp ?_)
   | ((with_reducible refine apn ?na ?_); (case na => simp [appNames, ints, intss] <;> first | kernel_rfl | (refine ⟨?_, ?_⟩ <;> kernel_rfl)))
   | fail)
  refine st_heap rfl (markIntS (own_of (y4.next.o0 true) rfl) y4.next.lts (k + c.Regs.length + c.Slots.length + psum c.Mem c.Mem.length) (by omega) (by omega)) ?_
  rintro r h5 ⟨rfl, o, p, t⟩
  have y5 := (y4.next.mark (fun b => .one (o b)) (fun n hn _ => p n hn) t).rot4
  repeat' (first
   | with_reducible refine stp ?_
   | with_reducible refine k_blk_o rfl ?_
   | with_reducible refine k_seq_n ?_
   | ((try (conv => arg 1; simp [y5.b0])); with_reducible refine evp ?_)
   | ((with_reducible refine apn ?na ?_); (case na => simp [appNames, ints, intss] <;> first | kernel_rfl | (refine ⟨?_, ?_⟩ <;> kernel_rfl)))
   | fail)
  refine st_heap rfl (markIntS (own_of (y5.next.o0 true) rfl) y5.next.lts (k + c.Regs.length + c.Slots.length + psum c.Mem c.Mem.length + c.Input.length) (by omega) (by omega)) ?_
  rintro r h6 ⟨rfl, o, p, t⟩
  have y6 := (y5.next.mark (fun b => .one (o b)) (fun n hn _ => p n hn) t).rot1.rot2.rot3.rot4
  repeat' (first
   | with_reducible refine stp ?_
   | with_reducible refine k_blk_o rfl ?_
   | with_reducible refine k_seq_n ?_
   | ((try (conv => arg 1; simp [y6.b0])); with_reducible refine evp ?_)
   | ((with_reducible refine apn ?na ?_); (case na => simp [appNames, ints, intss] <;> first | kernel_rfl | (refine ⟨?_, ?_⟩ <;> kernel_rfl)))
   | fail)
  refine ⟨?_, _, (Cx.box_drop (by first | exact y6 | exact y6.next)).cpu_join (c := c.marked k)⟩
  show AV.int _ _ = AV.int _ _
  congr 1
  simp only [Cpu.tot]
  omega

theorem heldIntSS (xs : List (List Int)) (k : Int) (hk : 0 ≤ k) (hl : k + wtSS xs ≤ 2 ^ 62) : Pure Try.prog 65 [intss true (marksSS k xs), .int .i64 k] (.int .i64 (k + psum xs xs.length)) := by
  intro T
  have zw : xs.length + psum xs xs.length ≤ wtSS xs ∨ psum xs xs.length ≤ wtSS xs ∧ xs.length ≤ wtSS xs := by
    right
    simp only [wtSS]
    omega
  refine enter mixed MW33 Try.func65 rfl (by kernel_rfl) rfl ?_
  repeat' (first
   | with_reducible refine stp ?_
   | with_reducible refine k_blk_o rfl ?_
   | with_reducible refine k_seq_n ?_
   | ((try (conv => arg 1; simp [intss])); with_reducible refine evp ?_)
   | ((with_reducible refine apn ?na ?_); (case na => simp [appNames, ints, intss] <;> first | kernel_rfl | (refine ⟨?_, ?_⟩ <;> kernel_rfl)))
   | fail)
  refine st_loop (fun (i : Nat) σ h => i ≤ xs.length ∧ σ 0 = intss true (marksSS k xs) ∧ σ 1 = .int .i64 (k + psum xs i) ∧ σ 5 = .int .i64 i) (fun i => xs.length - i) 0 ?init ?step
  case init =>
    simp [psum_zero]
  case step =>
    rintro i σ h ⟨hi, h0, h1, h5⟩
    repeat' (first
     | with_reducible refine stp ?_
     | with_reducible refine k_blk_o rfl ?_
     | with_reducible refine k_seq_n ?_
     | ((try (conv => arg 1; simp [intss, h0, h5, marksSS_length])); with_reducible refine evp ?_)
     | ((with_reducible refine apn ?na ?_); (case na => simp [appNames, ints, intss] <;> first | kernel_rfl | (refine ⟨?_, ?_⟩ <;> kernel_rfl)))
     | fail)
    (try with_reducible refine st_if ?_)
    (try (conv => arg 1; simp [intss]))
    (try with_reducible refine at_mk ?_)
    refine ⟨fun hb => ?_, fun hb => ?_⟩
    · have hlt : i < xs.length := by simpa using hb
      have hp := psum_succ xs i hlt
      have hp2 := psum_le xs (i + 1)
      have hw : IntKind.i64.wrap (i + 1) = i + 1 := wrap_id (by omega) (by omega)
      have hneg : ¬ k + (psum xs i : Int) + (xs[i].length : Int) < 0 := by omega
      repeat' (first
       | with_reducible refine stp ?_
       | with_reducible refine k_blk_o rfl ?_
       | with_reducible refine k_seq_n ?_
       | ((try (conv => arg 1; simp [intss, h0, h1, h5, marksSS_get k xs i hlt])); with_reducible refine evp ?_)
       | ((with_reducible refine apn ?na ?_); (case na => simp [appNames, ints, intss] <;> first | kernel_rfl | (refine ⟨?_, ?_⟩ <;> kernel_rfl)))
       | ((with_reducible refine tcl ?_); first | ((apply tg (heldIntS xs[i].length (k + psum xs i) (by omega) (by simp only [wtSS] at hl; omega))); (case e => rfl); (case d => (refine dq ?_); (repeat' (first | ((refine Da.mk ?_); first | assumption) | constructor)))))
       | fail)
      repeat' (first
       | with_reducible refine stp ?_
       | with_reducible refine k_blk_o rfl ?_
       | with_reducible refine k_seq_n ?_
       | ((try (conv => arg 1; simp [h1, h5, hw, hneg])); with_reducible refine evp ?_)
       | ((with_reducible refine apn ?na ?_); (case na => simp [appNames, ints, intss] <;> first | kernel_rfl | (refine ⟨?_, ?_⟩ <;> kernel_rfl)))
       | fail)
      refine k_lp_n (i + 1) (by omega) ⟨by omega, by simp [h0], by simp [h1, hp]; omega, by simp [h5]⟩
    · have : i = xs.length := by simp at hb; omega
      subst this
      repeat' (first
       | with_reducible refine stp ?_
       | with_reducible refine k_blk_o rfl ?_
       | with_reducible refine k_seq_n ?_
       | ((try (conv => arg 1; simp [h1])); with_reducible refine evp ?_)
       | ((with_reducible refine apn ?na ?_); (case na => simp [appNames, ints, intss] <;> first | kernel_rfl | (refine ⟨?_, ?_⟩ <;> kernel_rfl)))
       | fail)
      exact .int _ _

theorem heldCpu (c : Cpu) (hs : c.Mid) (k : Int) (hk : 0 ≤ k) (hk2 : k ≤ 2 ^ 40) :
    Pure Try.prog 34 [.agg ((c.marked k).cells true), .int .i64 k] (.int .i64 (k + c.tot)) := by
  intro T
  have z1 := hs.regs
  have z2 := hs.slots
  have z3 := hs.mem
  have z4 := hs.input
  have z5 := hs.out
  have z6 : psum c.Mem c.Mem.length ≤ wtSS c.Mem := by simp only [wtSS]; omega
  have hh := heldIntSS c.Mem (k + c.Regs.length + c.Slots.length) (by omega) (by omega)
  have a1 : ¬ k + (c.Regs.length : Int) < 0 := by omega
  have a2 : ¬ k + (c.Regs.length : Int) + c.Slots.length < 0 := by omega
  have a3 : ¬ k + (c.Regs.length : Int) + c.Slots.length + psum c.Mem c.Mem.length < 0 := by omega
  have a4 : ¬ k + (c.Regs.length : Int) + c.Slots.length + psum c.Mem c.Mem.length + c.Input.length < 0 := by omega
  have a5 : ¬ k + (c.Regs.length : Int) + c.Slots.length + psum c.Mem c.Mem.length + c.Input.length + c.Out.length < 0 := by omega
  refine enter mixed MW33 Try.func34 rfl (by kernel_rfl) rfl ?_
  repeat' (first
   | with_reducible refine stp ?_
   | with_reducible refine k_blk_o rfl ?_
   | with_reducible refine k_seq_n ?_
   | ((try (conv => arg 1; simp [Cpu.cells, Cpu.marked, a1, a2, a3, a4, a5])); with_reducible refine evp ?_)
   | ((with_reducible refine apn ?na ?_); (case na => simp [appNames, ints, intss] <;> first | kernel_rfl | (refine ⟨?_, ?_⟩ <;> kernel_rfl)))
   | ((with_reducible refine tcl ?_); first | ((apply tg (heldIntS c.Regs.length k (by omega) (by omega))); (case e => rfl); (case d => (refine dq ?_); (repeat' (first | ((refine Da.mk ?_); first | assumption) | constructor)))) | ((apply tg (heldIntS c.Slots.length (k + c.Regs.length) (by omega) (by omega))); (case e => rfl); (case d => (refine dq ?_); (repeat' (first | ((refine Da.mk ?_); first | assumption) | constructor)))) | ((apply tg (hh)); (case e => rfl); (case d => (refine dq ?_); (repeat' (first | ((refine Da.mk ?_); first | assumption) | constructor)))) | ((apply tg (heldIntS c.Input.length (k + c.Regs.length + c.Slots.length + psum c.Mem c.Mem.length) (by omega) (by omega))); (case e => rfl); (case d => (refine dq ?_); (repeat' (first | ((refine Da.mk ?_); first | assumption) | constructor)))) | ((apply tg (heldIntS c.Out.length (k + c.Regs.length + c.Slots.length + psum c.Mem c.Mem.length + c.Input.length) (by omega) (by omega))); (case e => rfl); (case d => (refine dq ?_); (repeat' (first | ((refine Da.mk ?_); first | assumption) | constructor)))))
   | fail)
  refine dr_int ?_
  simp only [Cpu.tot]
  omega
end Go.Proofs.Ytfgaoojogididaa.AM

/-
  A stepper's run: sizes.
-/
set_option linter.unusedVariables false
set_option linter.unusedSimpArgs false
set_option maxRecDepth 4000
namespace Go.Proofs.Ytfgaoojogididaa.AM
open Go.RowKit

theorem wtSS_lens {a b : List (List Int)} (h : lens a = lens b) : wtSS a = wtSS b := by
  have e : a.map List.length = b.map List.length := by
    have := congrArg (List.map Int.toNat) h
    unfold lens at this
    rw [List.map_map, List.map_map] at this
    exact this
  have el : a.length = b.length := by simpa using congrArg List.length e
  simp [wtSS, psum, e, el]
  rw [List.take_of_length_le (by simp)]
theorem stepC_mem (c : Cpu) (w : Word) : lens (stepC c w).Mem = lens c.Mem := by
  have ite : ∀ (Q : Cpu → Prop) (p : Prop) [Decidable p] (a b : Cpu), Q a → Q b → Q (if p then a else b) := fun Q p _ a b ha hb => by
    by_cases h : p
    · rw [if_pos h]; exact ha
    · rw [if_neg h]; exact hb
  unfold stepC
  repeat' (first | (refine ite (fun x => lens x.Mem = lens c.Mem) _ _ _ ?_ ?_) | exact rfl | (refine lens_set fun hq => ?_; simp [hq]; done))
structure RunInv (k : Nat) (c d : Cpu) : Prop where
  regs : d.Regs.length = c.Regs.length
  slots : d.Slots.length = c.Slots.length
  mem : lens d.Mem = lens c.Mem
  input : d.Input.length ≤ c.Input.length
  out : d.Out.length ≤ c.Out.length + k
theorem runN_inv (m : Image) : ∀ (n : Nat) (c : Cpu), RunInv n c (runN m n c)
  | 0, c => ⟨rfl, rfl, rfl, Nat.le_refl _, Nat.le_refl _⟩
  | n + 1, c => by
    unfold runN
    split
    · have h := runN_inv m n (nextC m c)
      have s := stepC_slots c (m.Code.getD c.At.toNat ⟨0, 0, 0, 0, 0⟩)
      have e := stepC_mem c (m.Code.getD c.At.toNat ⟨0, 0, 0, 0, 0⟩)
      exact ⟨h.regs.trans s.2.1, h.slots.trans s.1, h.mem.trans e, Nat.le_trans h.input s.2.2.2, by have := h.out; have := s.2.2.1; unfold nextC at *; omega⟩
    · exact ⟨rfl, rfl, rfl, Nat.le_refl _, by omega⟩
theorem RunInv.mid {k : Nat} {c d : Cpu} (h : RunInv k c d) (hc : c.Small) (hk : k ≤ 100000) : d.Mid :=
  ⟨by have := hc.regs; have := h.regs; omega, by have := hc.slots; have := h.slots; omega, by have := hc.mem; rw [wtSS_lens h.mem]; omega, by have := hc.input; have := h.input; omega, by have := hc.out; have := h.out; omega⟩
theorem runRes_mid (m : Image) {c : Cpu} (hc : c.Small) {n : Nat} (hn : n ≤ 100000) : (runRes m n c).Mid := by
  unfold runRes
  split
  · exact (runN_inv m n c).mid hc hn
  · exact hc.mid
theorem runResI_mid (m : Image) {c : Cpu} (hc : c.Small) (n : Int) : (runResI m n c).Mid := by
  unfold runResI
  split
  · rename_i h
    obtain ⟨k, rfl, hk⟩ := inB_nat h
    exact runRes_mid m hc (by simp; omega)
  · exact hc.mid
theorem Cpu.Mid.tot {c : Cpu} (h : c.Mid) : 0 ≤ c.tot ∧ c.tot ≤ 2 ^ 40 := by
  have := h.regs; have := h.slots; have z := h.mem; have := h.input; have := h.out
  have : psum c.Mem c.Mem.length ≤ wtSS c.Mem := by simp only [wtSS]; omega
  unfold Cpu.tot
  omega
theorem av_one {P : Program} {t : TypeId} {d : TypeDesc} (h : P.underlying t = some d) (hd : (match d with | .struct _ => false | _ => true) = true) (c : AV) : avOf P t [c] = c := by
  unfold avOf
  rw [h]
  cases d <;> first | rfl | cases hd
theorem av_3 (c : AV) : avOf Try.prog 3 [c] = c := av_one und_3 rfl c
theorem av_22 (c : AV) : avOf Try.prog 22 [c] = c := av_one und_22 rfl c
end Go.Proofs.Ytfgaoojogididaa.AM

/-
  A slot watched: how long.
-/
set_option linter.unusedVariables false
set_option linter.unusedSimpArgs false
set_option maxRecDepth 4000
namespace Go.Proofs.Ytfgaoojogididaa.AM
open Go.RowKit

theorem watchN_len (m : Image) (s : Nat) : ∀ (n : Nat) (c : Cpu) (out : List Int), (watchN m s n c out).length ≤ out.length + n
  | 0, c, out => Nat.le_refl _
  | n + 1, c, out => by
    unfold watchN
    split
    · split
      · have := watchN_len m s n (nextC m c) out
        omega
      · have := watchN_len m s n (nextC m c) (out ++ [rd (nextC m c).Slots s])
        simp at this
        omega
    · omega
theorem watchRes_len (m : Image) (c : Cpu) (slot n : Int) : (watchRes m c slot n).length ≤ 2000 := by
  unfold watchRes
  split
  · rename_i h
    obtain ⟨k, rfl, hk⟩ := inB_nat h.2.2
    have := watchN_len m slot.toNat k c [rd c.Slots slot]
    simp at this ⊢
    omega
  · simp
end Go.Proofs.Ytfgaoojogididaa.AM

/-
  The law of Watch.
-/
set_option linter.unusedVariables false
set_option linter.unusedSimpArgs false
set_option maxRecDepth 4000
namespace Go.Proofs.Ytfgaoojogididaa.AM
open Go.RowKit

private def MLWatch : FuncId → Mode := fun f => if f = 14 ∨ f = 23 ∨ f = 27 ∨ f = 38 then .fresh else if f = 18 ∨ f = 32 ∨ f = 33 ∨ f = 19 then .heap else .tree

set_option maxHeartbeats 2000000 in
theorem lawWatch (m : Image) (c : Cpu) (slot : Int) (n : Int) (d_m : m.Data) (d_c : c.Data) (d_slot : I64 slot) (d_n : I64 n) : Sound Try.prog 8 [.agg (m.cells true), .agg (c.cells true), .int .i64 slot, .int .i64 n] (.mt 0) fun v _ => v = .bool true := by
  have hnil : True := trivial
  refine enter mixed MLWatch Try.func8 rfl (by kernel_rfl) rfl ?_
  repeat' (first
   | with_reducible refine stp ?_
   | with_reducible refine k_blk_o rfl ?_
   | ((try (conv => arg 1; simp [Image.cells, Cpu.cells])); with_reducible refine evp ?_)
   | ((with_reducible refine apn ?na ?_); (case na => simp [appNames, ints, intss] <;> first | kernel_rfl | (refine ⟨?_, ?_⟩ <;> kernel_rfl)))
   | fail)
  refine cx_k Cx.mt_box2 ?_
  intro h1 x1
  repeat' (first
   | with_reducible refine stp ?_
   | with_reducible refine k_blk_o rfl ?_
   | ((try (conv => arg 1; simp [hnil])); with_reducible refine evp ?_)
   | ((with_reducible refine apn ?na ?_); (case na => simp [appNames, ints, intss] <;> first | kernel_rfl | (refine ⟨?_, ?_⟩ <;> kernel_rfl)))
   | fail)
  refine cx_k x1.next ?_
  intro h2 x2
  obtain ⟨r1, hr_m, hs_m⟩ := szImage m 1048576 (by omega) (by omega) d_m.sizes d_m.code
  repeat' (first
   | with_reducible refine stp ?_
   | with_reducible refine k_blk_o rfl ?_
   | ((try (conv => arg 1; simp [x2.b1])); with_reducible refine evp ?_)
   | ((with_reducible refine apn ?na ?_); (case na => simp [appNames, ints, intss] <;> first | kernel_rfl | (refine ⟨?_, ?_⟩ <;> kernel_rfl)))
   | fail)
  refine st_tree rfl (hr_m) (.cons (dr_agg (drs_image m fun h => h)) (.cons (.int _ _) .nil)) ?_
  repeat' (first
   | with_reducible refine stp ?_
   | with_reducible refine k_blk_o rfl ?_
   | ((try (conv => arg 1; simp [x2.b1])); with_reducible refine evp ?_)
   | ((with_reducible refine apn ?na ?_); (case na => simp [appNames, ints, intss] <;> first | kernel_rfl | (refine ⟨?_, ?_⟩ <;> kernel_rfl)))
   | fail)
  refine cx_k x2.next ?_
  intro h3 x3
  repeat' (first
   | with_reducible refine stp ?_
   | with_reducible refine k_blk_o rfl ?_
   | ((try (conv => arg 1; simp [hnil])); with_reducible refine evp ?_)
   | ((with_reducible refine apn ?na ?_); (case na => simp [appNames, ints, intss] <;> first | kernel_rfl | (refine ⟨?_, ?_⟩ <;> kernel_rfl)))
   | fail)
  refine cx_k x3.next ?_
  intro h4 x4
  by_cases hneg : r1 < 0
  · skip
    repeat' (first
     | with_reducible refine stp ?_
     | with_reducible refine k_blk_o rfl ?_
     | with_reducible refine k_seq_n ?_
     | ((try (conv => arg 1; simp [hneg])); with_reducible refine evp ?_)
     | ((with_reducible refine apn ?na ?_); (case na => simp [appNames, ints, intss] <;> first | kernel_rfl | (refine ⟨?_, ?_⟩ <;> kernel_rfl)))
     | fail)
    rfl
  repeat' (first
   | with_reducible refine stp ?_
   | with_reducible refine k_blk_o rfl ?_
   | ((try (conv => arg 1; simp [hneg])); with_reducible refine evp ?_)
   | ((with_reducible refine apn ?na ?_); (case na => simp [appNames, ints, intss] <;> first | kernel_rfl | (refine ⟨?_, ?_⟩ <;> kernel_rfl)))
   | fail)
  refine k_seq_n ?_
  replace hs_m := hs_m.resolve_left hneg
  obtain ⟨hs_m, hg1_m, hg2_m⟩ := hs_m
  obtain ⟨r2, hr_c, hs_c⟩ := szCpu c r1 (by omega) (by omega) d_c.regs d_c.slots d_c.mem d_c.mem' d_c.input d_c.out
  repeat' (first
   | with_reducible refine stp ?_
   | with_reducible refine k_blk_o rfl ?_
   | ((try (conv => arg 1; simp [x4.b0])); with_reducible refine evp ?_)
   | ((with_reducible refine apn ?na ?_); (case na => simp [appNames, ints, intss] <;> first | kernel_rfl | (refine ⟨?_, ?_⟩ <;> kernel_rfl)))
   | fail)
  refine st_tree rfl (hr_c) (.cons (dr_agg (drs_cpu c fun h => h)) (.cons (.int _ _) .nil)) ?_
  repeat' (first
   | with_reducible refine stp ?_
   | with_reducible refine k_blk_o rfl ?_
   | ((try (conv => arg 1; simp [x4.b0])); with_reducible refine evp ?_)
   | ((with_reducible refine apn ?na ?_); (case na => simp [appNames, ints, intss] <;> first | kernel_rfl | (refine ⟨?_, ?_⟩ <;> kernel_rfl)))
   | fail)
  refine cx_k x4.next ?_
  intro h5 x5
  repeat' (first
   | with_reducible refine stp ?_
   | with_reducible refine k_blk_o rfl ?_
   | ((try (conv => arg 1; simp [hnil])); with_reducible refine evp ?_)
   | ((with_reducible refine apn ?na ?_); (case na => simp [appNames, ints, intss] <;> first | kernel_rfl | (refine ⟨?_, ?_⟩ <;> kernel_rfl)))
   | fail)
  refine cx_k x5.next ?_
  intro h6 x6
  by_cases hneg : r2 < 0
  · skip
    repeat' (first
     | with_reducible refine stp ?_
     | with_reducible refine k_blk_o rfl ?_
     | with_reducible refine k_seq_n ?_
     | ((try (conv => arg 1; simp [hneg])); with_reducible refine evp ?_)
     | ((with_reducible refine apn ?na ?_); (case na => simp [appNames, ints, intss] <;> first | kernel_rfl | (refine ⟨?_, ?_⟩ <;> kernel_rfl)))
     | fail)
    rfl
  repeat' (first
   | with_reducible refine stp ?_
   | with_reducible refine k_blk_o rfl ?_
   | ((try (conv => arg 1; simp [hneg])); with_reducible refine evp ?_)
   | ((with_reducible refine apn ?na ?_); (case na => simp [appNames, ints, intss] <;> first | kernel_rfl | (refine ⟨?_, ?_⟩ <;> kernel_rfl)))
   | fail)
  refine k_seq_n ?_
  replace hs_c := hs_c.resolve_left hneg
  have S := (specWatch m c hs_m hs_c slot n).pure
  have I := implWatch m c hs_m hs_c slot n
  have hr := watchRes_len m c slot n
  generalize watchRes m c slot n = R at S I hr
  repeat' (first
   | with_reducible refine stp ?_
   | with_reducible refine k_blk_o rfl ?_
   | ((try (conv => arg 1; simp [hnil])); with_reducible refine evp ?_)
   | ((with_reducible refine apn ?na ?_); (case na => simp [appNames, ints, intss] <;> first | kernel_rfl | (refine ⟨?_, ?_⟩ <;> kernel_rfl)))
   | fail)
  repeat (with_reducible first | refine stp ?_ | refine k_seq_n ?_)
  refine st_draw 8 (fun _ => false) (by kernel_rfl) ?_
  simp only [List.take_succ_cons, List.take_zero, List.drop_succ_cons, List.drop_zero, List.take_nil, List.drop_nil]
  repeat' (first
   | with_reducible refine stp ?_
   | with_reducible refine k_blk_o rfl ?_
   | ((try (conv => arg 1; simp [x6.b1, x6.b0, x6.l1, x6.l0])); with_reducible refine evp ?_)
   | ((with_reducible refine apn ?na ?_); (case na => simp [appNames, ints, intss] <;> first | kernel_rfl | (refine ⟨?_, ?_⟩ <;> kernel_rfl)))
   | fail)
  refine treeW_pure (toImage m hs_m).pure (.cons (dr_agg (drs_image m fun h => h)) .nil) ?_
  repeat' (first
   | with_reducible refine stp ?_
   | with_reducible refine k_blk_o rfl ?_
   | ((try (conv => arg 1; simp [x6.b1, x6.b0, x6.l1, x6.l0])); with_reducible refine evp ?_)
   | ((with_reducible refine apn ?na ?_); (case na => simp [appNames, ints, intss] <;> first | kernel_rfl | (refine ⟨?_, ?_⟩ <;> kernel_rfl)))
   | fail)
  refine treeW_pure (toCpu c hs_c).pure (.cons (dr_agg (drs_cpu c fun h => h)) .nil) ?_
  repeat' (first
   | with_reducible refine stp ?_
   | with_reducible refine k_blk_o rfl ?_
   | ((try (conv => arg 1; simp [x6.b1, x6.b0, x6.l1, x6.l0])); with_reducible refine evp ?_)
   | ((with_reducible refine apn ?na ?_); (case na => simp [appNames, ints, intss] <;> first | kernel_rfl | (refine ⟨?_, ?_⟩ <;> kernel_rfl)))
   | fail)
  refine treeW_pure (S) (.cons (dr_agg (drs_image m (by simp))) (.cons (dr_agg (drs_cpu c (by simp))) (.cons (.int _ _) (.cons (.int _ _) .nil)))) ?_
  repeat' (first
   | with_reducible refine stp ?_
   | with_reducible refine k_blk_o rfl ?_
   | ((try (conv => arg 1; simp [x6.b1, x6.b0, x6.l1, x6.l0])); with_reducible refine evp ?_)
   | ((with_reducible refine apn ?na ?_); (case na => simp [appNames, ints, intss] <;> first | kernel_rfl | (refine ⟨?_, ?_⟩ <;> kernel_rfl)))
   | fail)
  refine cx_k x6.next ?_
  intro h7 x7
  repeat' (first
   | with_reducible refine stp ?_
   | with_reducible refine k_blk_o rfl ?_
   | ((try (conv => arg 1; simp [x7.b1])); with_reducible refine evp ?_)
   | ((with_reducible refine apn ?na ?_); (case na => simp [appNames, ints, intss] <;> first | kernel_rfl | (refine ⟨?_, ?_⟩ <;> kernel_rfl)))
   | fail)
  refine st_fresh rfl (toImage m hs_m) (.cons (dr_agg (drs_image m fun h => h)) .nil) ?_
  intro v1 h8 n1 o1 e1 f1 p1 t1
  have x8 := x7.next.fresh o1 e1 f1 p1 t1
  have z8 : h7.tick < h8.tick := by simp only [hp_next_tick] at t1; omega
  obtain ⟨wa1, wb1, _, _, rfl, _, qa1, qb1⟩ := ownV_image (o1 true)
  have qa1 := own_one qa1
  have qb1 := own_one' qb1
  repeat' (first
   | with_reducible refine stp ?_
   | with_reducible refine k_blk_o rfl ?_
   | ((try (conv => arg 1; simp [x8.b1, z8, qa1.1, qb1.1])); with_reducible refine evp ?_)
   | ((with_reducible refine apn ?na ?_); (case na => simp [appNames, ints, intss] <;> first | kernel_rfl | (refine ⟨?_, ?_⟩ <;> kernel_rfl)))
   | fail)
  refine cx_k (x8.box_new (x7.off.fresh f1 (by simp [hp_next_tick])) z8) ?_
  intro h9 x9
  repeat' (first
   | with_reducible refine stp ?_
   | with_reducible refine k_blk_o rfl ?_
   | ((try (conv => arg 1; simp [x9.b1])); with_reducible refine evp ?_)
   | ((with_reducible refine apn ?na ?_); (case na => simp [appNames, ints, intss] <;> first | kernel_rfl | (refine ⟨?_, ?_⟩ <;> kernel_rfl)))
   | fail)
  refine st_fresh rfl (toCpu c hs_c) (.cons (dr_agg (drs_cpu c fun h => h)) .nil) ?_
  intro v2 h10 n2 o2 e2 f2 p2 t2
  have x10 := x9.next.fresh o2 e2 f2 p2 t2
  have z10 : h9.tick < h10.tick := by simp only [hp_next_tick] at t2; omega
  obtain ⟨wa2, wb2, wc2, wd2, we2, _, _, _, _, _, rfl, _, qa2, qb2, qc2, qd2, qe2⟩ := ownV_cpu (o2 true)
  have qa2 := own_one qa2
  have qb2 := own_one qb2
  have qc2 := own_one qc2
  have qd2 := own_one qd2
  have qe2 := own_one qe2
  repeat' (first
   | with_reducible refine stp ?_
   | with_reducible refine k_blk_o rfl ?_
   | ((try (conv => arg 1; simp [x10.b1, z10, qa2.1, qb2.1, qc2.1, qd2.1, qe2.1])); with_reducible refine evp ?_)
   | ((with_reducible refine apn ?na ?_); (case na => simp [appNames, ints, intss] <;> first | kernel_rfl | (refine ⟨?_, ?_⟩ <;> kernel_rfl)))
   | fail)
  refine cx_k (x10.box_new (x9.off.fresh f2 (by simp [hp_next_tick])) z10) ?_
  intro h11 x11
  repeat' (first
   | with_reducible refine stp ?_
   | with_reducible refine k_blk_o rfl ?_
   | ((try (conv => arg 1; simp [x11.b1, x11.b0, qa1.1, qb1.1, qa2.1, qb2.1, qc2.1, qd2.1, qe2.1])); with_reducible refine evp ?_)
   | ((with_reducible refine apn ?na ?_); (case na => simp [appNames, ints, intss] <;> first | kernel_rfl | (refine ⟨?_, ?_⟩ <;> kernel_rfl)))
   | fail)
  refine st_freshw rfl I (.cons ((x11.next.o1 true).dr) (.cons ((x11.next.o0 true).dr) (.cons (.int _ _) (.cons (.int _ _) .nil)))) ?_
  intro v3 h12 n3 o3 e3 f3 p3 t3
  have x12 := x11.next.fresh o3 e3 f3 p3 t3
  have z12 : h11.tick < h12.tick := by simp only [hp_next_tick] at t3; omega
  repeat' (first
   | with_reducible refine stp ?_
   | with_reducible refine k_blk_o rfl ?_
   | ((try (conv => arg 1; simp [x12.b1, x12.b0, qa1.1, qb1.1, qa2.1, qb2.1, qc2.1, qd2.1, qe2.1, z12])); with_reducible refine evp ?_)
   | ((with_reducible refine apn ?na ?_); (case na => simp [appNames, ints, intss] <;> first | kernel_rfl | (refine ⟨?_, ?_⟩ <;> kernel_rfl)))
   | fail)
  refine cx_k x12 ?_
  intro h13 x13
  repeat' (first
   | with_reducible refine stp ?_
   | with_reducible refine k_blk_o rfl ?_
   | ((try (conv => arg 1; simp [hnil])); with_reducible refine evp ?_)
   | ((with_reducible refine apn ?na ?_); (case na => simp [appNames, ints, intss] <;> first | kernel_rfl | (refine ⟨?_, ?_⟩ <;> kernel_rfl)))
   | fail)
  refine st_tree rfl (eqIntS R (by omega)) (.cons ((x13.next.o0 true).dr) (.cons (dr_ints (by simp) _) .nil)) ?_
  repeat' (first
   | with_reducible refine stp ?_
   | with_reducible refine k_blk_o rfl ?_
   | ((try (conv => arg 1; simp [hnil])); with_reducible refine evp ?_)
   | ((with_reducible refine apn ?na ?_); (case na => simp [appNames, ints, intss] <;> first | kernel_rfl | (refine ⟨?_, ?_⟩ <;> kernel_rfl)))
   | fail)
  refine cx_k x13.next ?_
  intro h14 x14
  repeat' (first
   | with_reducible refine stp ?_
   | with_reducible refine k_blk_o rfl ?_
   | ((try (conv => arg 1; simp [hnil])); with_reducible refine evp ?_)
   | ((with_reducible refine apn ?na ?_); (case na => simp [appNames, ints, intss] <;> first | kernel_rfl | (refine ⟨?_, ?_⟩ <;> kernel_rfl)))
   | fail)
  refine k_seq_n ?_
  repeat' (first
   | with_reducible refine stp ?_
   | with_reducible refine k_blk_o rfl ?_
   | ((try (conv => arg 1; simp [hnil])); with_reducible refine evp ?_)
   | ((with_reducible refine apn ?na ?_); (case na => simp [appNames, ints, intss] <;> first | kernel_rfl | (refine ⟨?_, ?_⟩ <;> kernel_rfl)))
   | fail)
  repeat (with_reducible first | refine stp ?_ | refine k_seq_n ?_)
  refine st_draw 5 (fun _ => false) (by kernel_rfl) ?_
  simp only [List.take_succ_cons, List.take_zero, List.drop_succ_cons, List.drop_zero, List.take_nil, List.drop_nil]
  repeat' (first
   | with_reducible refine stp ?_
   | with_reducible refine k_blk_o rfl ?_
   | ((try (conv => arg 1; simp [x14.b1, x14.b3, x14.l1, x14.l3, qa1.1, qb1.1])); with_reducible refine evp ?_)
   | ((with_reducible refine apn ?na ?_); (case na => simp [appNames, ints, intss] <;> first | kernel_rfl | (refine ⟨?_, ?_⟩ <;> kernel_rfl)))
   | fail)
  refine treeW_pure (toImage m hs_m).pure (.cons (dr_agg (drs_image m fun h => h)) .nil) ?_
  repeat' (first
   | with_reducible refine stp ?_
   | with_reducible refine k_blk_o rfl ?_
   | ((try (conv => arg 1; simp [x14.b1, x14.b3, x14.l1, x14.l3, qa1.1, qb1.1])); with_reducible refine evp ?_)
   | ((with_reducible refine apn ?na ?_); (case na => simp [appNames, ints, intss] <;> first | kernel_rfl | (refine ⟨?_, ?_⟩ <;> kernel_rfl)))
   | fail)
  refine treeW_pure (eqImage m hs_m) (.cons ((x14.m2 true).dr) (.cons (dr_agg (drs_image m (by simp))) .nil)) ?_
  repeat' (first
   | with_reducible refine stp ?_
   | with_reducible refine k_blk_o rfl ?_
   | ((try (conv => arg 1; simp [x14.b1, x14.b3, x14.l1, x14.l3, qa1.1, qb1.1])); with_reducible refine evp ?_)
   | ((with_reducible refine apn ?na ?_); (case na => simp [appNames, ints, intss] <;> first | kernel_rfl | (refine ⟨?_, ?_⟩ <;> kernel_rfl)))
   | fail)
  refine cx_k x14.next ?_
  intro h15 x15
  repeat' (first
   | with_reducible refine stp ?_
   | with_reducible refine k_blk_o rfl ?_
   | ((try (conv => arg 1; simp [hnil])); with_reducible refine evp ?_)
   | ((with_reducible refine apn ?na ?_); (case na => simp [appNames, ints, intss] <;> first | kernel_rfl | (refine ⟨?_, ?_⟩ <;> kernel_rfl)))
   | fail)
  refine k_seq_n ?_
  repeat' (first
   | with_reducible refine stp ?_
   | with_reducible refine k_blk_o rfl ?_
   | ((try (conv => arg 1; simp [hnil])); with_reducible refine evp ?_)
   | ((with_reducible refine apn ?na ?_); (case na => simp [appNames, ints, intss] <;> first | kernel_rfl | (refine ⟨?_, ?_⟩ <;> kernel_rfl)))
   | fail)
  repeat (with_reducible first | refine stp ?_ | refine k_seq_n ?_)
  refine st_draw 5 (fun _ => false) (by kernel_rfl) ?_
  simp only [List.take_succ_cons, List.take_zero, List.drop_succ_cons, List.drop_zero, List.take_nil, List.drop_nil]
  repeat' (first
   | with_reducible refine stp ?_
   | with_reducible refine k_blk_o rfl ?_
   | ((try (conv => arg 1; simp [x15.b0, x15.b2, x15.l0, x15.l2, qa2.1, qb2.1, qc2.1, qd2.1, qe2.1])); with_reducible refine evp ?_)
   | ((with_reducible refine apn ?na ?_); (case na => simp [appNames, ints, intss] <;> first | kernel_rfl | (refine ⟨?_, ?_⟩ <;> kernel_rfl)))
   | fail)
  refine treeW_pure (toCpu c hs_c).pure (.cons (dr_agg (drs_cpu c fun h => h)) .nil) ?_
  repeat' (first
   | with_reducible refine stp ?_
   | with_reducible refine k_blk_o rfl ?_
   | ((try (conv => arg 1; simp [x15.b0, x15.b2, x15.l0, x15.l2, qa2.1, qb2.1, qc2.1, qd2.1, qe2.1])); with_reducible refine evp ?_)
   | ((with_reducible refine apn ?na ?_); (case na => simp [appNames, ints, intss] <;> first | kernel_rfl | (refine ⟨?_, ?_⟩ <;> kernel_rfl)))
   | fail)
  refine treeW_pure (eqCpu c hs_c) (.cons ((x15.m1 true).dr) (.cons (dr_agg (drs_cpu c (by simp))) .nil)) ?_
  repeat' (first
   | with_reducible refine stp ?_
   | with_reducible refine k_blk_o rfl ?_
   | ((try (conv => arg 1; simp [x15.b0, x15.b2, x15.l0, x15.l2, qa2.1, qb2.1, qc2.1, qd2.1, qe2.1])); with_reducible refine evp ?_)
   | ((with_reducible refine apn ?na ?_); (case na => simp [appNames, ints, intss] <;> first | kernel_rfl | (refine ⟨?_, ?_⟩ <;> kernel_rfl)))
   | fail)
  refine cx_k x15.next ?_
  intro h16 x16
  repeat' (first
   | with_reducible refine stp ?_
   | with_reducible refine k_blk_o rfl ?_
   | ((try (conv => arg 1; simp [hnil])); with_reducible refine evp ?_)
   | ((with_reducible refine apn ?na ?_); (case na => simp [appNames, ints, intss] <;> first | kernel_rfl | (refine ⟨?_, ?_⟩ <;> kernel_rfl)))
   | fail)
  refine k_seq_n ?_
  repeat' (first
   | with_reducible refine stp ?_
   | with_reducible refine k_blk_o rfl ?_
   | ((try (conv => arg 1; simp [hnil])); with_reducible refine evp ?_)
   | ((with_reducible refine apn ?na ?_); (case na => simp [appNames, ints, intss] <;> first | kernel_rfl | (refine ⟨?_, ?_⟩ <;> kernel_rfl)))
   | fail)
  refine cx_k x16.next ?_
  intro h17 x17
  repeat' (first
   | with_reducible refine stp ?_
   | with_reducible refine k_blk_o rfl ?_
   | ((try (conv => arg 1; simp [x17.b1, qa1.1, qb1.1])); with_reducible refine evp ?_)
   | ((with_reducible refine apn ?na ?_); (case na => simp [appNames, ints, intss] <;> first | kernel_rfl | (refine ⟨?_, ?_⟩ <;> kernel_rfl)))
   | fail)
  have y1 := x17.next.rot2
  refine st_heap rfl (markImage (y1.o0 true) y1.nodup y1.lts hs_m (1) (by omega) (by omega)) ?_
  rintro r h18 ⟨⟨k1, rfl, hk1, hk1'⟩, pk1, tk1⟩
  have x18 := y1.forget pk1 tk1
  repeat' (first
   | with_reducible refine stp ?_
   | with_reducible refine k_blk_o rfl ?_
   | ((try (conv => arg 1; simp [x18.b1, qa1.1, qb1.1])); with_reducible refine evp ?_)
   | ((with_reducible refine apn ?na ?_); (case na => simp [appNames, ints, intss] <;> first | kernel_rfl | (refine ⟨?_, ?_⟩ <;> kernel_rfl)))
   | fail)
  refine cx_k x18 ?_
  intro h19 x19
  repeat' (first
   | with_reducible refine stp ?_
   | with_reducible refine k_blk_o rfl ?_
   | ((try (conv => arg 1; simp [x19.b0, qa2.1, qb2.1, qc2.1, qd2.1, qe2.1])); with_reducible refine evp ?_)
   | ((with_reducible refine apn ?na ?_); (case na => simp [appNames, ints, intss] <;> first | kernel_rfl | (refine ⟨?_, ?_⟩ <;> kernel_rfl)))
   | fail)
  have y2 := x19.next.rot1
  refine st_heap rfl (markCpu (y2.o0 true) y2.nodup y2.lts hs_c (k1) (by omega) (by omega)) ?_
  rintro r h20 ⟨⟨k2, rfl, hk2⟩, pk2, tk2⟩
  have x20 := y2.forget pk2 tk2
  repeat' (first
   | with_reducible refine stp ?_
   | with_reducible refine k_blk_o rfl ?_
   | ((try (conv => arg 1; simp [x20.b0, qa2.1, qb2.1, qc2.1, qd2.1, qe2.1])); with_reducible refine evp ?_)
   | ((with_reducible refine apn ?na ?_); (case na => simp [appNames, ints, intss] <;> first | kernel_rfl | (refine ⟨?_, ?_⟩ <;> kernel_rfl)))
   | fail)
  refine cx_k x20 ?_
  intro h21 x21
  have hkneg : ¬ k2 < 0 := by omega
  repeat' (first
   | with_reducible refine stp ?_
   | with_reducible refine k_blk_o rfl ?_
   | ((try (conv => arg 1; simp [hkneg])); with_reducible refine evp ?_)
   | ((with_reducible refine apn ?na ?_); (case na => simp [appNames, ints, intss] <;> first | kernel_rfl | (refine ⟨?_, ?_⟩ <;> kernel_rfl)))
   | fail)
  refine st_tree rfl (eqIntS R (by omega)) (.cons ((x21.next.o0 true).dr) (.cons (dr_ints (by simp) _) .nil)) ?_
  repeat' (first
   | with_reducible refine stp ?_
   | with_reducible refine k_blk_o rfl ?_
   | ((try (conv => arg 1; simp [hkneg])); with_reducible refine evp ?_)
   | ((with_reducible refine apn ?na ?_); (case na => simp [appNames, ints, intss] <;> first | kernel_rfl | (refine ⟨?_, ?_⟩ <;> kernel_rfl)))
   | fail)
  refine cx_k x21.next ?_
  intro h22 x22
  repeat' (first
   | with_reducible refine stp ?_
   | with_reducible refine k_blk_o rfl ?_
   | ((try (conv => arg 1; simp [hkneg])); with_reducible refine evp ?_)
   | ((with_reducible refine apn ?na ?_); (case na => simp [appNames, ints, intss] <;> first | kernel_rfl | (refine ⟨?_, ?_⟩ <;> kernel_rfl)))
   | fail)
  refine k_seq_n ?_
  repeat' (first
   | with_reducible refine stp ?_
   | with_reducible refine k_blk_o rfl ?_
   | ((try (conv => arg 1; simp [hkneg])); with_reducible refine evp ?_)
   | ((with_reducible refine apn ?na ?_); (case na => simp [appNames, ints, intss] <;> first | kernel_rfl | (refine ⟨?_, ?_⟩ <;> kernel_rfl)))
   | fail)
  refine cx_k x22.next ?_
  intro h23 x23
  repeat' (first
   | with_reducible refine stp ?_
   | with_reducible refine k_blk_o rfl ?_
   | ((try (conv => arg 1; simp [hkneg])); with_reducible refine evp ?_)
   | ((with_reducible refine apn ?na ?_); (case na => simp [appNames, ints, intss] <;> first | kernel_rfl | (refine ⟨?_, ?_⟩ <;> kernel_rfl)))
   | fail)
  have y3 := x23.next.rot0
  refine st_heap rfl (markIntS (own_of (y3.o0 true) rfl) y3.lts 1 (by omega) (by omega)) ?_
  rintro r h24 ⟨rfl, og', pg', tg⟩
  have og := fun b => OwnV.one (og' b)
  have pg := fun n a (_ : n.1 < n.1 + 1) => pg' n a
  have x24 := y3.mark og (fun n a b => pg n a (by omega)) tg
  have hgneg : ¬ 1 + (R.length : Int) < 0 := by omega
  repeat' (first
   | with_reducible refine stp ?_
   | with_reducible refine k_blk_o rfl ?_
   | ((try (conv => arg 1; simp [hkneg, hgneg])); with_reducible refine evp ?_)
   | ((with_reducible refine apn ?na ?_); (case na => simp [appNames, ints, intss] <;> first | kernel_rfl | (refine ⟨?_, ?_⟩ <;> kernel_rfl)))
   | fail)
  refine cx_k x24 ?_
  intro h25 x25
  repeat' (first
   | with_reducible refine stp ?_
   | with_reducible refine k_blk_o rfl ?_
   | ((try (conv => arg 1; simp [hkneg, hgneg])); with_reducible refine evp ?_)
   | ((with_reducible refine apn ?na ?_); (case na => simp [appNames, ints, intss] <;> first | kernel_rfl | (refine ⟨?_, ?_⟩ <;> kernel_rfl)))
   | fail)
  refine cx_k x25.next ?_
  intro h26 x26
  repeat' (first
   | with_reducible refine stp ?_
   | with_reducible refine k_blk_o rfl ?_
   | ((try (conv => arg 1; simp [hkneg, hgneg])); with_reducible refine evp ?_)
   | ((with_reducible refine apn ?na ?_); (case na => simp [appNames, ints, intss] <;> first | kernel_rfl | (refine ⟨?_, ?_⟩ <;> kernel_rfl)))
   | fail)
  refine st_tree rfl (heldIntS R.length 1 (by omega) (by omega)) (.cons ((x26.next.o0 true).dr) (.cons (.int _ _) .nil)) ?_
  repeat' (first
   | with_reducible refine stp ?_
   | with_reducible refine k_blk_o rfl ?_
   | ((try (conv => arg 1; simp [hkneg, hgneg])); with_reducible refine evp ?_)
   | ((with_reducible refine apn ?na ?_); (case na => simp [appNames, ints, intss] <;> first | kernel_rfl | (refine ⟨?_, ?_⟩ <;> kernel_rfl)))
   | fail)
  refine cx_k x26.next ?_
  intro h27 x27
  repeat' (first
   | with_reducible refine stp ?_
   | with_reducible refine k_blk_o rfl ?_
   | ((try (conv => arg 1; simp [hkneg, hgneg])); with_reducible refine evp ?_)
   | ((with_reducible refine apn ?na ?_); (case na => simp [appNames, ints, intss] <;> first | kernel_rfl | (refine ⟨?_, ?_⟩ <;> kernel_rfl)))
   | fail)
  refine cx_k x27.next ?_
  intro h28 x28
  repeat' (first
   | with_reducible refine stp ?_
   | with_reducible refine k_blk_o rfl ?_
   | ((try (conv => arg 1; simp [hkneg, hgneg])); with_reducible refine evp ?_)
   | ((with_reducible refine apn ?na ?_); (case na => simp [appNames, ints, intss] <;> first | kernel_rfl | (refine ⟨?_, ?_⟩ <;> kernel_rfl)))
   | fail)
  refine k_seq_n ?_
  repeat' (first
   | with_reducible refine stp ?_
   | with_reducible refine k_blk_o rfl ?_
   | ((try (conv => arg 1; simp [hkneg, hgneg])); with_reducible refine evp ?_)
   | ((with_reducible refine apn ?na ?_); (case na => simp [appNames, ints, intss] <;> first | kernel_rfl | (refine ⟨?_, ?_⟩ <;> kernel_rfl)))
   | fail)
  refine cx_k x28.next ?_
  intro h29 x29
  repeat' (first
   | with_reducible refine stp ?_
   | with_reducible refine k_blk_o rfl ?_
   | ((try (conv => arg 1; simp [hkneg, hgneg])); with_reducible refine evp ?_)
   | ((with_reducible refine apn ?na ?_); (case na => simp [appNames, ints, intss] <;> first | kernel_rfl | (refine ⟨?_, ?_⟩ <;> kernel_rfl)))
   | fail)
  refine k_seq_n ?_
  repeat' (first
   | with_reducible refine stp ?_
   | with_reducible refine k_blk_o rfl ?_
   | ((try (conv => arg 1; simp [hnil])); with_reducible refine evp ?_)
   | ((with_reducible refine apn ?na ?_); (case na => simp [appNames, ints, intss] <;> first | kernel_rfl | (refine ⟨?_, ?_⟩ <;> kernel_rfl)))
   | fail)
  repeat (with_reducible first | refine stp ?_ | refine k_seq_n ?_)
  refine st_draw 8 (fun _ => false) (by kernel_rfl) ?_
  simp only [List.take_succ_cons, List.take_zero, List.drop_succ_cons, List.drop_zero, List.take_nil, List.drop_nil]
  repeat' (first
   | with_reducible refine stp ?_
   | with_reducible refine k_blk_o rfl ?_
   | ((try (conv => arg 1; simp [x29.b3, x29.b2, x29.l3, x29.l2, hkneg, hgneg])); with_reducible refine evp ?_)
   | ((with_reducible refine apn ?na ?_); (case na => simp [appNames, ints, intss] <;> first | kernel_rfl | (refine ⟨?_, ?_⟩ <;> kernel_rfl)))
   | fail)
  refine treeW_pure (toImage m hs_m).pure (.cons (dr_agg (drs_image m fun h => h)) .nil) ?_
  repeat' (first
   | with_reducible refine stp ?_
   | with_reducible refine k_blk_o rfl ?_
   | ((try (conv => arg 1; simp [x29.b3, x29.b2, x29.l3, x29.l2, hkneg, hgneg])); with_reducible refine evp ?_)
   | ((with_reducible refine apn ?na ?_); (case na => simp [appNames, ints, intss] <;> first | kernel_rfl | (refine ⟨?_, ?_⟩ <;> kernel_rfl)))
   | fail)
  refine treeW_pure (toCpu c hs_c).pure (.cons (dr_agg (drs_cpu c fun h => h)) .nil) ?_
  repeat' (first
   | with_reducible refine stp ?_
   | with_reducible refine k_blk_o rfl ?_
   | ((try (conv => arg 1; simp [x29.b3, x29.b2, x29.l3, x29.l2, hkneg, hgneg])); with_reducible refine evp ?_)
   | ((with_reducible refine apn ?na ?_); (case na => simp [appNames, ints, intss] <;> first | kernel_rfl | (refine ⟨?_, ?_⟩ <;> kernel_rfl)))
   | fail)
  refine treeW_pure (I.pure) (.cons (dr_agg (drs_image m (by simp))) (.cons (dr_agg (drs_cpu c (by simp))) (.cons (.int _ _) (.cons (.int _ _) .nil)))) ?_
  repeat' (first
   | with_reducible refine stp ?_
   | with_reducible refine k_blk_o rfl ?_
   | ((try (conv => arg 1; simp [x29.b3, x29.b2, x29.l3, x29.l2, hkneg, hgneg])); with_reducible refine evp ?_)
   | ((with_reducible refine apn ?na ?_); (case na => simp [appNames, ints, intss] <;> first | kernel_rfl | (refine ⟨?_, ?_⟩ <;> kernel_rfl)))
   | fail)
  refine cx_k x29.next ?_
  intro h30 x30
  repeat' (first
   | with_reducible refine stp ?_
   | with_reducible refine k_blk_o rfl ?_
   | ((try (conv => arg 1; simp [hkneg, hgneg])); with_reducible refine evp ?_)
   | ((with_reducible refine apn ?na ?_); (case na => simp [appNames, ints, intss] <;> first | kernel_rfl | (refine ⟨?_, ?_⟩ <;> kernel_rfl)))
   | fail)
  refine st_tree rfl (eqIntS R (by omega)) (.cons (dr_ints (by simp) _) (.cons (dr_ints (by simp) _) .nil)) ?_
  repeat' (first
   | with_reducible refine stp ?_
   | with_reducible refine k_blk_o rfl ?_
   | ((try (conv => arg 1; simp [hkneg, hgneg])); with_reducible refine evp ?_)
   | ((with_reducible refine apn ?na ?_); (case na => simp [appNames, ints, intss] <;> first | kernel_rfl | (refine ⟨?_, ?_⟩ <;> kernel_rfl)))
   | fail)
  refine cx_k x30.next ?_
  intro h31 x31
  repeat' (first
   | with_reducible refine stp ?_
   | with_reducible refine k_blk_o rfl ?_
   | ((try (conv => arg 1; simp [hkneg, hgneg])); with_reducible refine evp ?_)
   | ((with_reducible refine apn ?na ?_); (case na => simp [appNames, ints, intss] <;> first | kernel_rfl | (refine ⟨?_, ?_⟩ <;> kernel_rfl)))
   | fail)
  refine k_seq_n ?_
  repeat' (first
   | with_reducible refine stp ?_
   | with_reducible refine k_blk_o rfl ?_
   | ((try (conv => arg 1; simp [hkneg, hgneg])); with_reducible refine evp ?_)
   | ((with_reducible refine apn ?na ?_); (case na => simp [appNames, ints, intss] <;> first | kernel_rfl | (refine ⟨?_, ?_⟩ <;> kernel_rfl)))
   | fail)
  refine cx_k x31.next ?_
  intro h32 x32
  repeat' (first
   | with_reducible refine stp ?_
   | with_reducible refine k_blk_o rfl ?_
   | ((try (conv => arg 1; simp [hkneg, hgneg])); with_reducible refine evp ?_)
   | ((with_reducible refine apn ?na ?_); (case na => simp [appNames, ints, intss] <;> first | kernel_rfl | (refine ⟨?_, ?_⟩ <;> kernel_rfl)))
   | fail)
  refine st_tree rfl (heldIntS R.length 1 (by omega) (by omega)) (.cons ((x32.next.o0 true).dr) (.cons (.int _ _) .nil)) ?_
  repeat' (first
   | with_reducible refine stp ?_
   | with_reducible refine k_blk_o rfl ?_
   | ((try (conv => arg 1; simp [hkneg, hgneg])); with_reducible refine evp ?_)
   | ((with_reducible refine apn ?na ?_); (case na => simp [appNames, ints, intss] <;> first | kernel_rfl | (refine ⟨?_, ?_⟩ <;> kernel_rfl)))
   | fail)
  refine cx_k x32.next ?_
  intro h33 x33
  repeat' (first
   | with_reducible refine stp ?_
   | with_reducible refine k_blk_o rfl ?_
   | ((try (conv => arg 1; simp [hkneg, hgneg])); with_reducible refine evp ?_)
   | ((with_reducible refine apn ?na ?_); (case na => simp [appNames, ints, intss] <;> first | kernel_rfl | (refine ⟨?_, ?_⟩ <;> kernel_rfl)))
   | fail)
  refine cx_k x33.next ?_
  intro h34 x34
  repeat' (first
   | with_reducible refine stp ?_
   | with_reducible refine k_blk_o rfl ?_
   | ((try (conv => arg 1; simp [hkneg, hgneg])); with_reducible refine evp ?_)
   | ((with_reducible refine apn ?na ?_); (case na => simp [appNames, ints, intss] <;> first | kernel_rfl | (refine ⟨?_, ?_⟩ <;> kernel_rfl)))
   | fail)
  refine k_seq_n ?_
  repeat' (first
   | with_reducible refine stp ?_
   | with_reducible refine k_blk_o rfl ?_
   | ((try (conv => arg 1; simp [hkneg, hgneg])); with_reducible refine evp ?_)
   | ((with_reducible refine apn ?na ?_); (case na => simp [appNames, ints, intss] <;> first | kernel_rfl | (refine ⟨?_, ?_⟩ <;> kernel_rfl)))
   | fail)
  refine cx_k x34.next ?_
  intro h35 x35
  repeat' (first
   | with_reducible refine stp ?_
   | with_reducible refine k_blk_o rfl ?_
   | ((try (conv => arg 1; simp [hkneg, hgneg])); with_reducible refine evp ?_)
   | ((with_reducible refine apn ?na ?_); (case na => simp [appNames, ints, intss] <;> first | kernel_rfl | (refine ⟨?_, ?_⟩ <;> kernel_rfl)))
   | fail)
  refine k_seq_n ?_
  repeat' (first
   | with_reducible refine stp ?_
   | with_reducible refine k_blk_o rfl ?_
   | with_reducible refine k_seq_n ?_
   | ((try (conv => arg 1; simp [hkneg, hgneg])); with_reducible refine evp ?_)
   | ((with_reducible refine apn ?na ?_); (case na => simp [appNames, ints, intss] <;> first | kernel_rfl | (refine ⟨?_, ?_⟩ <;> kernel_rfl)))
   | fail)
  rfl
end Go.Proofs.Ytfgaoojogididaa.AM


namespace Go.Proofs.Ytfgaoojogididaa.fnExactWatch
open Go.ChangeShapes Go.WideShapes Go.ChangeAt Go.RowKit
set_option linter.unusedVariables false
theorem own : ownKnob Try.prog.godebug = none := by kernel_rfl

theorem sound (l : List AM.AV) (h : AM.ShpAll Try.prog [39, 25, 3, 3] l) : AM.Sound Try.prog 8 l (.mt 0) fun v _ => v = .bool true := by
  obtain ⟨cells0, l0, g0, e0, k0⟩ := AM.shpAll_cons h
  obtain ⟨cells1, l1, g1, e1, k1⟩ := AM.shpAll_cons k0
  obtain ⟨cells2, l2, g2, e2, k2⟩ := AM.shpAll_cons k1
  obtain ⟨cells3, l3, g3, e3, k3⟩ := AM.shpAll_cons k2
  have e' := AM.shpAll_nil k3
  subst e' e3 e2 e1 e0
  obtain ⟨a0, rfl, d0⟩ := AM.shp_image g0
  obtain ⟨a1, rfl, d1⟩ := AM.shp_cpu g1
  obtain ⟨a2, rfl, d2⟩ := g2.int_inv AM.und_3
  obtain ⟨a3, rfl, d3⟩ := g3.int_inv AM.und_3
  rw [AM.agg_39, AM.agg_25, AM.av_3, AM.av_3]
  exact AM.lawWatch a0 a1 a2 a3 d0 d1 d2 d3

set_option maxRecDepth 100000 in
theorem lifted (os : Os) (started : os.Started) (H : Type) (enc : TypeId × Value → H) :
    ReturnsInHanded {} Try.checked os 8 .any (Rows.fnExactWatchSpec.pre6 enc Try.prog Try.f8 Rows.fnExactWatchRow.domain false) (Rows.fnExactWatchSpec.post enc Try.prog Try.f8 false true false false) := by
  refine returnsInHanded_of_change_sized (C := Try.checked) own started (by kernel_rfl) Try.func8
    (ChangeSpec.witness6 (enc := enc) (C := Try.checked) false ⟨#[], #[.agg #[.slice none 0 0, .int .i64 0, .int .i64 0, .slice none 0 0], .agg #[.int .i64 0, .slice none 0 0, .slice none 0 0, .slice none 0 0, .slice none 0 0, .slice none 0 0, .int .i64 0, .bool false, .int .i64 0], .int .i64 0, .int .i64 0], []⟩ 8 (by kernel_rfl) (by kernel_rfl) (by kernel_rfl) (by kernel_rfl)) ?_
  intro W base args ds gs before hval0 hW hcnd hsz0 _
  have hval : ∀ (j : Nat) t v, Try.f8.params[j]? = some t → args[j]? = some v → Value.okWide Try.prog W .any base t v := hval0
  have hW' := hW
  obtain ⟨p, q, hA0, hV, rfl, hfz, hnd⟩ := hW
  have hA : DataW.TrodAll enc Try.prog W 0 (fun _ => true) true Try.f8.params.toList args.toList ds p := hA0
  rw [Try.params8] at hA hval
  obtain ⟨v0, vs0, d0, ds0, p0, q0, hargs, rfl, rfl, h0, r0⟩ := trodAll_cons hA
  obtain ⟨v1, vs1, d1, ds1, p1, q1, rfl, rfl, rfl, h1, r1⟩ := trodAll_cons r0
  obtain ⟨v2, vs2, d2, ds2, p2, q2, rfl, rfl, rfl, h2, r2⟩ := trodAll_cons r1
  obtain ⟨v3, vs3, d3, ds3, p3, q3, rfl, rfl, rfl, h3, r3⟩ := trodAll_cons r2
  obtain ⟨rfl, rfl, rfl⟩ := trodAll_nil r3
  obtain rfl : args = #[v0, v1, v2, v3] := by cases args; simp_all
  obtain ⟨rfl, rfl⟩ := trodVars_none hV
  clear hA0 hval0 hsz0
  refine (AM.law_calls (params := [39, 25, 3, 3]) (ts := [39, 3, 22, 37, 94, 25, 4, 23]) sound (by kernel_rfl) (by simp) (args := #[v0, v1, v2, v3]) (fun j t v a b => hval j t v (by simpa using a) b) hA).mono fun e W' ⟨he, bel⟩ => ?_
  subst he
  exact ⟨_, rfl, _, _, _, [], _, [], hW', trodAll_mk1 (shut_bool Try.underlying4 _), AM.back_all AM.laid bel _ _ _ _ (by kernel_rfl) hA, rfl, bel.frame _, fun h => by cases h⟩
theorem over : Rows.fnExactWatchRow.holds Try.pinned (OpenSpec.ofChange Rows.fnExactWatchSpec) :=
  OpenClaim.holds_of_wide 8 Try.f8 rfl rfl rfl rfl rfl rfl rfl ⟨rfl, rfl, rfl, rfl, rfl⟩ rfl rfl rfl rfl rfl (by kernel_rfl) Try.func8 (by kernel_rfl)
    (of_decide_eq_true (by kernel_rfl)) (by unfold Func.isWrapper; first | (rw [if_pos (by decide +kernel)]; kernel_rfl) | (rw [if_neg (by decide +kernel)]; exact ⟨rfl, rfl⟩))
    (fun os started H enc _ => lifted os started H enc)
theorem proved : Rows.FnExactWatchSaid := over
end Go.Proofs.Ytfgaoojogididaa.fnExactWatch
namespace Go.Proofs.Ytfgaoojogididaa
theorem fnExactWatch_holds : Rows.FnExactWatchSaid := fnExactWatch.proved
end Go.Proofs.Ytfgaoojogididaa
