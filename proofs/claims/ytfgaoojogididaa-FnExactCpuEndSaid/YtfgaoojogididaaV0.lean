/-
  What data of the laws' types are.
-/
import Derived.Test.YtfgaoojogididaaU13
set_option linter.unusedVariables false
set_option linter.unusedSimpArgs false
namespace Go.Proofs.Ytfgaoojogididaa.AM
open Go.RowKit

structure Cpu.Data (c : Cpu) : Prop where
  regs : c.Regs.length ≤ maxLen
  slots : c.Slots.length ≤ maxLen
  mem : c.Mem.length ≤ maxLen
  mem' : ∀ x ∈ c.Mem, x.length ≤ maxLen
  input : c.Input.length ≤ maxLen
  out : c.Out.length ≤ maxLen
  at' : I64 c.At
  val : I64 c.Val
  code : I64 c.Code
  regs' : ∀ x ∈ c.Regs, I64 x
  slots' : ∀ x ∈ c.Slots, I64 x
  input' : ∀ x ∈ c.Input, I64 x
  out' : ∀ x ∈ c.Out, I64 x
  mem'' : ∀ x ∈ c.Mem, ∀ y ∈ x, I64 y

theorem shp_cpu {cells : List AV} (h : Shp Try.prog 25 cells) : ∃ c : Cpu, cells = c.cells true ∧ c.Data := by
  have hs : stTys Try.prog 25 = some [3, 22, 22, 23, 22, 22, 3, 4, 3] := by kernel_rfl
  obtain ⟨p0, q0, rfl, s0, p1, q1, rfl, s1, p2, q2, rfl, s2, p3, q3, rfl, s3, p4, q4, rfl, s4, p5, q5, rfl, s5, p6, q6, rfl, s6, p7, q7, rfl, s7, p8, q8, rfl, s8, rfl⟩ := h.st_inv hs
  obtain ⟨a0, rfl, g0⟩ := s0.int_inv und_3
  obtain ⟨a1, rfl, g1, g1'⟩ := s1.ints_inv und_22 und_3
  obtain ⟨a2, rfl, g2, g2'⟩ := s2.ints_inv und_22 und_3
  obtain ⟨a3, rfl, g3, g3'⟩ := s3.intss_inv und_23 und_22 und_3
  obtain ⟨a4, rfl, g4, g4'⟩ := s4.ints_inv und_22 und_3
  obtain ⟨a5, rfl, g5, g5'⟩ := s5.ints_inv und_22 und_3
  obtain ⟨a6, rfl, g6⟩ := s6.int_inv und_3
  obtain ⟨a7, rfl⟩ := s7.bool_inv und_4
  obtain ⟨a8, rfl, g8⟩ := s8.int_inv und_3
  exact ⟨⟨a0, a1, a2, a3, a4, a5, a6, a7, a8⟩, rfl, ⟨g1, g2, g3, fun x hx => (g3' x hx).1, g4, g5, g0, g8, g6, g1', g2', g4', g5', fun x hx => (g3' x hx).2⟩⟩

theorem agg_25 (cells : List AV) : avOf Try.prog 25 cells = .agg cells := by
  have hs : (stTys Try.prog 25).isSome = true := by kernel_rfl
  unfold stTys at hs
  unfold avOf
  split at hs
  · rename_i fs hf; rw [hf]
  · cases hs
end Go.Proofs.Ytfgaoojogididaa.AM
