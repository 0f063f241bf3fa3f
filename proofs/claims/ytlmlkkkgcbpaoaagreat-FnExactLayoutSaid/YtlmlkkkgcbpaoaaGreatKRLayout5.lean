/-
  FnExactLayout: for every argument, the law returns true, and the arguments read behind the call as they read before.
  Conditions: none beyond the given statement's own.
-/
import Derived.Test.YtlmlkkkgcbpaoaaGreatKk4
import Derived.WalkKit
import Derived.ProofKit
import Derived.OpenShut
import Derived.ShutString
import Derived.ChangeOld
import Derived.Below
import Derived.SizedLaws
set_option linter.unusedVariables false
set_option linter.unusedSimpArgs false
set_option maxRecDepth 4000
namespace Go.Proofs.YtlmlkkkgcbpaoaaGreat.AM
open Go.RowKit

private def MG87 : FuncId → Mode := fun f => if f = 176 ∨ f = 175 then .heap else .tree

section
variable {h : Hp} {bs : Bx} {os : Ox} {m : RM} {s : Rs}
set_option maxHeartbeats 4000000 in
theorem l05Step (X : RX m s bs os h) (hst : s.st = none) {x : Instr} (hx : instrOk s.vars.length s.mem.length x = true) (hm : ∀ q (hq : q < s.mem.length), s.mem[q].length ≤ 16) (hi : s.inp.length ≤ 100) (ho : s.out.length ≤ 100000) :
    Sound Tryz.prog 142 [.ptr m.nr 0 0 0, .agg x.cells] h fun v h' => v = .tup [] ∧ RX m (stepR s x) bs os h' := by
  have X0 := X
  obtain ⟨mem, vars, inp, fu, st, val, out⟩ := s
  obtain ⟨ln, wo, bo, f, y⟩ := X
  obtain ⟨Op, D, A, B, C, N, Text⟩ := x
  simp only at hst hm hi ho ln f
  subst hst
  have b := y.bxs
  simp only [Bxs, runB, codeS, overS] at b
  have q1 := f.one
  have kl : m.kv.1 < h.tick := b.2.2.2.1
  have t1 : m.kv.1 < h.tick + 1 + 1 ∧ m.kv.1 < h.tick + 1 + 1 + 1 ∧ m.kv.1 < h.tick + 1 + 1 + 1 + 1 ∧ m.kv.1 < h.tick + 1 + 1 + 1 + 1 + 1 ∧ m.kv.1 < h.tick + 1 + 1 + 1 + 1 + 1 + 1 ∧ m.kv.1 < h.tick + 1 + 1 + 1 + 1 + 1 + 1 + 1 ∧ m.kv.1 < h.tick + 1 + 1 + 1 + 1 + 1 + 1 + 1 + 1 := by omega
  have t2 : ¬ m.kv.1 = h.tick + 1 + 1 ∧ ¬ m.kv.1 = h.tick + 1 + 1 + 1 ∧ ¬ m.kv.1 = h.tick + 1 + 1 + 1 + 1 ∧ ¬ m.kv.1 = h.tick + 1 + 1 + 1 + 1 + 1 ∧ ¬ m.kv.1 = h.tick + 1 + 1 + 1 + 1 + 1 + 1 ∧ ¬ m.kv.1 = h.tick + 1 + 1 + 1 + 1 + 1 + 1 + 1 := by omega
  refine enter mixed MG87 Tryz.func142 rfl (by kernel_rfl) rfl ?_
  rcases in_cases hx with ⟨h0, d, hD, hd⟩ | ⟨h0, d, a, ⟨hD, hd⟩, hA, ha⟩ | ⟨h0, d, a, c, ⟨hD, hd⟩, ⟨hA, ha⟩, hB, hc⟩ | ⟨h0, d, hD, hd⟩ | ⟨h0, a, hA, ha⟩ | ⟨h0, d, c, q, ⟨hD, hd⟩, ⟨hB, hc⟩, ⟨hN, hq⟩, hA⟩ | ⟨h0, e, c, q, ⟨hC, he⟩, ⟨hB, hc⟩, ⟨hN, hq⟩, hA⟩
  · simp only at h0 hD
    subst h0 hD
    have hvd := cl1_rd hd
    simp only at hd hvd
    have e : stepR ⟨mem, vars, inp, fu, none, val, out⟩ ⟨0, d, A, B, C, N, Text⟩ = ⟨mem, vars.set d N, inp, fu, none, val, out⟩ := by simp [stepR]
    rw [e]
    have hd2 : (d : Int) < vars.length := by omega
    have hd3 : d < (cl1 vars).length := by rw [cl1_len]; exact hd
    repeat' (first | (with_reducible first | refine stp ?_ | refine k_blk_o rfl ?_ | refine k_seq_n ?_) | ((try (conv => arg 1; simp [Instr.cells, b, ltS, nm_ne, tk_ne])); with_reducible refine evp ?_) | fail)
    repeat (with_reducible first | refine stp ?_ | refine k_seq_n ?_)
    refine st_lz (by kernel_rfl) ?_
    have hF := And.intro b (And.intro hvd (And.intro hd (And.intro hd2 (And.intro hd3 (And.intro t1 t2)))))
    repeat' (first | (with_reducible first | refine stp ?_ | refine k_blk_o rfl ?_) | ((try (conv => arg 1; simp [Instr.cells, @cl1_get, ltS, nm_ne, tk_ne, hF])); with_reducible refine evp ?_) | ((with_reducible refine la_id ?_); refine la_end rfl ?_; (repeat (first | refine pl_nil ?_ | refine pl_cons ?_))) | ((with_reducible refine la_id ?_); refine la_pick ?_; (conv => arg 1; whnf); (repeat ((fail_if_success (first | ((refine la_q0 rfl ?_); (try (conv => arg 1; simp [Instr.cells, @cl1_get, ltS, nm_ne, tk_ne, hF])); with_reducible refine evp ?_) | ((refine la_n rfl rfl ?_); (try (conv => arg 1; simp [Instr.cells, @cl1_get, ltS, nm_ne, tk_ne, hF])); with_reducible refine evp ?_) | ((refine la_q2 rfl (by decide +kernel) ?_); (repeat (first | refine bk_nil ?_ | refine bk_t (by decide +kernel) ?_ | refine bk_f (by decide +kernel) ?_)); (try (conv => arg 1; simp [Instr.cells, @cl1_get, ltS, nm_ne, tk_ne, hF])); with_reducible refine evp ?_) | ((refine la_q1 rfl (by decide +kernel) ?_); (try (conv => arg 1; simp [Instr.cells, @cl1_get, ltS, nm_ne, tk_ne, hF])); with_reducible refine evp ?_) | ((refine la_g0 rfl ?_); (try (conv => arg 1; simp [Instr.cells, @cl1_get, ltS, nm_ne, tk_ne, hF])); with_reducible refine evp ?_; (with_reducible refine evp ?_); try ((try (conv => arg 1; simp [Instr.cells, @cl1_get, ltS, nm_ne, tk_ne, hF])); with_reducible refine evp ?_)))); (refine la_there ?_); (conv => arg 1; whnf))); first | ((refine la_q0 rfl ?_); (try (conv => arg 1; simp [Instr.cells, @cl1_get, ltS, nm_ne, tk_ne, hF])); with_reducible refine evp ?_) | ((refine la_n rfl rfl ?_); (try (conv => arg 1; simp [Instr.cells, @cl1_get, ltS, nm_ne, tk_ne, hF])); with_reducible refine evp ?_) | ((refine la_q2 rfl (by decide +kernel) ?_); (repeat (first | refine bk_nil ?_ | refine bk_t (by decide +kernel) ?_ | refine bk_f (by decide +kernel) ?_)); (try (conv => arg 1; simp [Instr.cells, @cl1_get, ltS, nm_ne, tk_ne, hF])); with_reducible refine evp ?_) | ((refine la_q1 rfl (by decide +kernel) ?_); (try (conv => arg 1; simp [Instr.cells, @cl1_get, ltS, nm_ne, tk_ne, hF])); with_reducible refine evp ?_) | ((refine la_g0 rfl ?_); (try (conv => arg 1; simp [Instr.cells, @cl1_get, ltS, nm_ne, tk_ne, hF])); with_reducible refine evp ?_; (with_reducible refine evp ?_); try ((try (conv => arg 1; simp [Instr.cells, @cl1_get, ltS, nm_ne, tk_ne, hF])); with_reducible refine evp ?_))) | ((with_reducible refine la_id ?_); refine la_all rfl ?_) | ((with_reducible refine all_id ?_); (conv => arg 1; whnf); first | exact all_nil | refine all_cons ?_ ?_) | (refine la_op rfl (by first | exact frm_s (by decide +kernel) | exact frm_a (by repeat' (first | exact fa_nil | refine fa_cons (by decide +kernel) ?_))) (by intro hq; first | exact trivial | (cases hq; done) | simp [appT, Instr.cells, @cl1_get, ltS, nm_ne, tk_ne, hF]) ?_; (repeat (first | refine bk_nil ?_ | refine bk_t (by decide +kernel) ?_ | refine bk_f (by decide +kernel) ?_))) | fail)
    refine ⟨rfl, ln, wo, bo, f, ?_⟩
    simp only [runB, List.length_set, cl1_set]
    exact Cx.to y
  · simp only at h0 hD hA
    subst h0 hD hA
    have hvd := cl1_rd hd
    have hva := cl1_rd ha
    simp only at hd hvd ha hva
    have e : stepR ⟨mem, vars, inp, fu, none, val, out⟩ ⟨1, d, a, B, C, N, Text⟩ = ⟨mem, vars.set d (rd vars a), inp, fu, none, val, out⟩ := by simp [stepR]
    rw [e]
    have hd2 : (d : Int) < vars.length := by omega
    have hd3 : d < (cl1 vars).length := by rw [cl1_len]; exact hd
    have ha2 : (a : Int) < vars.length := by omega
    repeat' (first | (with_reducible first | refine stp ?_ | refine k_blk_o rfl ?_ | refine k_seq_n ?_) | ((try (conv => arg 1; simp [Instr.cells, b, ltS, nm_ne, tk_ne])); with_reducible refine evp ?_) | fail)
    repeat (with_reducible first | refine stp ?_ | refine k_seq_n ?_)
    refine st_lz (by kernel_rfl) ?_
    have hF := And.intro b (And.intro hvd (And.intro hd (And.intro hd2 (And.intro hd3 (And.intro hva (And.intro ha (And.intro ha2 (And.intro t1 t2))))))))
    repeat' (first | (with_reducible first | refine stp ?_ | refine k_blk_o rfl ?_) | ((try (conv => arg 1; simp [Instr.cells, @cl1_get, ltS, nm_ne, tk_ne, hF])); with_reducible refine evp ?_) | ((with_reducible refine la_id ?_); refine la_end rfl ?_; (repeat (first | refine pl_nil ?_ | refine pl_cons ?_))) | ((with_reducible refine la_id ?_); refine la_pick ?_; (conv => arg 1; whnf); (repeat ((fail_if_success (first | ((refine la_q0 rfl ?_); (try (conv => arg 1; simp [Instr.cells, @cl1_get, ltS, nm_ne, tk_ne, hF])); with_reducible refine evp ?_) | ((refine la_n rfl rfl ?_); (try (conv => arg 1; simp [Instr.cells, @cl1_get, ltS, nm_ne, tk_ne, hF])); with_reducible refine evp ?_) | ((refine la_q2 rfl (by decide +kernel) ?_); (repeat (first | refine bk_nil ?_ | refine bk_t (by decide +kernel) ?_ | refine bk_f (by decide +kernel) ?_)); (try (conv => arg 1; simp [Instr.cells, @cl1_get, ltS, nm_ne, tk_ne, hF])); with_reducible refine evp ?_) | ((refine la_q1 rfl (by decide +kernel) ?_); (try (conv => arg 1; simp [Instr.cells, @cl1_get, ltS, nm_ne, tk_ne, hF])); with_reducible refine evp ?_) | ((refine la_g0 rfl ?_); (try (conv => arg 1; simp [Instr.cells, @cl1_get, ltS, nm_ne, tk_ne, hF])); with_reducible refine evp ?_; (with_reducible refine evp ?_); try ((try (conv => arg 1; simp [Instr.cells, @cl1_get, ltS, nm_ne, tk_ne, hF])); with_reducible refine evp ?_)))); (refine la_there ?_); (conv => arg 1; whnf))); first | ((refine la_q0 rfl ?_); (try (conv => arg 1; simp [Instr.cells, @cl1_get, ltS, nm_ne, tk_ne, hF])); with_reducible refine evp ?_) | ((refine la_n rfl rfl ?_); (try (conv => arg 1; simp [Instr.cells, @cl1_get, ltS, nm_ne, tk_ne, hF])); with_reducible refine evp ?_) | ((refine la_q2 rfl (by decide +kernel) ?_); (repeat (first | refine bk_nil ?_ | refine bk_t (by decide +kernel) ?_ | refine bk_f (by decide +kernel) ?_)); (try (conv => arg 1; simp [Instr.cells, @cl1_get, ltS, nm_ne, tk_ne, hF])); with_reducible refine evp ?_) | ((refine la_q1 rfl (by decide +kernel) ?_); (try (conv => arg 1; simp [Instr.cells, @cl1_get, ltS, nm_ne, tk_ne, hF])); with_reducible refine evp ?_) | ((refine la_g0 rfl ?_); (try (conv => arg 1; simp [Instr.cells, @cl1_get, ltS, nm_ne, tk_ne, hF])); with_reducible refine evp ?_; (with_reducible refine evp ?_); try ((try (conv => arg 1; simp [Instr.cells, @cl1_get, ltS, nm_ne, tk_ne, hF])); with_reducible refine evp ?_))) | ((with_reducible refine la_id ?_); refine la_all rfl ?_) | ((with_reducible refine all_id ?_); (conv => arg 1; whnf); first | exact all_nil | refine all_cons ?_ ?_) | (refine la_op rfl (by first | exact frm_s (by decide +kernel) | exact frm_a (by repeat' (first | exact fa_nil | refine fa_cons (by decide +kernel) ?_))) (by intro hq; first | exact trivial | (cases hq; done) | simp [appT, Instr.cells, @cl1_get, ltS, nm_ne, tk_ne, hF]) ?_; (repeat (first | refine bk_nil ?_ | refine bk_t (by decide +kernel) ?_ | refine bk_f (by decide +kernel) ?_))) | fail)
    refine ⟨rfl, ln, wo, bo, f, ?_⟩
    simp only [runB, List.length_set, cl1_set]
    exact Cx.to y
  · simp only at h0 hD hA hB
    subst h0 hD hA hB
    have hvd := cl1_rd hd
    have hva := cl1_rd ha
    have hvc := cl1_rd hc
    simp only at hd hvd ha hva hc hvc
    have e : stepR ⟨mem, vars, inp, fu, none, val, out⟩ ⟨2, d, a, c, C, N, Text⟩ = ⟨mem, vars.set d (binV Text (rd vars a) (rd vars c)), inp, fu, none, val, out⟩ := by simp [stepR]
    rw [e]
    have hd2 : (d : Int) < vars.length := by omega
    have hd3 : d < (cl1 vars).length := by rw [cl1_len]; exact hd
    have ha2 : (a : Int) < vars.length := by omega
    have hc2 : (c : Int) < vars.length := by omega
    have L := specBin Text (rd vars a) (rd vars c)
    repeat' (first | (with_reducible first | refine stp ?_ | refine k_blk_o rfl ?_ | refine k_seq_n ?_) | ((try (conv => arg 1; simp [Instr.cells, b, ltS, nm_ne, tk_ne])); with_reducible refine evp ?_) | fail)
    repeat (with_reducible first | refine stp ?_ | refine k_seq_n ?_)
    refine st_lz (by kernel_rfl) ?_
    have hF := And.intro b (And.intro hvd (And.intro hd (And.intro hd2 (And.intro hd3 (And.intro hva (And.intro ha (And.intro ha2 (And.intro hvc (And.intro hc (And.intro hc2 (And.intro t1 t2)))))))))))
    repeat' (first | (with_reducible first | refine stp ?_ | refine k_blk_o rfl ?_) | ((try (conv => arg 1; simp [Instr.cells, @cl1_get, ltS, nm_ne, tk_ne, hF])); with_reducible refine evp ?_) | ((with_reducible refine tcl ?_); first | ((apply tg (L)); (case e => rfl); (case d => (refine dq ?_); (repeat' (first | ((refine Da.mk ?_); first | assumption) | constructor))))) | ((with_reducible refine la_id ?_); refine la_end rfl ?_; (repeat (first | refine pl_nil ?_ | refine pl_cons ?_))) | ((with_reducible refine la_id ?_); refine la_pick ?_; (conv => arg 1; whnf); (repeat ((fail_if_success (first | ((refine la_q0 rfl ?_); (try (conv => arg 1; simp [Instr.cells, @cl1_get, ltS, nm_ne, tk_ne, hF])); with_reducible refine evp ?_) | ((refine la_n rfl rfl ?_); (try (conv => arg 1; simp [Instr.cells, @cl1_get, ltS, nm_ne, tk_ne, hF])); with_reducible refine evp ?_) | ((refine la_q2 rfl (by decide +kernel) ?_); (repeat (first | refine bk_nil ?_ | refine bk_t (by decide +kernel) ?_ | refine bk_f (by decide +kernel) ?_)); (try (conv => arg 1; simp [Instr.cells, @cl1_get, ltS, nm_ne, tk_ne, hF])); with_reducible refine evp ?_) | ((refine la_q1 rfl (by decide +kernel) ?_); (try (conv => arg 1; simp [Instr.cells, @cl1_get, ltS, nm_ne, tk_ne, hF])); with_reducible refine evp ?_) | ((refine la_g0 rfl ?_); (try (conv => arg 1; simp [Instr.cells, @cl1_get, ltS, nm_ne, tk_ne, hF])); with_reducible refine evp ?_; (with_reducible refine evp ?_); try ((try (conv => arg 1; simp [Instr.cells, @cl1_get, ltS, nm_ne, tk_ne, hF])); with_reducible refine evp ?_)))); (refine la_there ?_); (conv => arg 1; whnf))); first | ((refine la_q0 rfl ?_); (try (conv => arg 1; simp [Instr.cells, @cl1_get, ltS, nm_ne, tk_ne, hF])); with_reducible refine evp ?_) | ((refine la_n rfl rfl ?_); (try (conv => arg 1; simp [Instr.cells, @cl1_get, ltS, nm_ne, tk_ne, hF])); with_reducible refine evp ?_) | ((refine la_q2 rfl (by decide +kernel) ?_); (repeat (first | refine bk_nil ?_ | refine bk_t (by decide +kernel) ?_ | refine bk_f (by decide +kernel) ?_)); (try (conv => arg 1; simp [Instr.cells, @cl1_get, ltS, nm_ne, tk_ne, hF])); with_reducible refine evp ?_) | ((refine la_q1 rfl (by decide +kernel) ?_); (try (conv => arg 1; simp [Instr.cells, @cl1_get, ltS, nm_ne, tk_ne, hF])); with_reducible refine evp ?_) | ((refine la_g0 rfl ?_); (try (conv => arg 1; simp [Instr.cells, @cl1_get, ltS, nm_ne, tk_ne, hF])); with_reducible refine evp ?_; (with_reducible refine evp ?_); try ((try (conv => arg 1; simp [Instr.cells, @cl1_get, ltS, nm_ne, tk_ne, hF])); with_reducible refine evp ?_))) | ((with_reducible refine la_id ?_); refine la_all rfl ?_) | ((with_reducible refine all_id ?_); (conv => arg 1; whnf); first | exact all_nil | refine all_cons ?_ ?_) | (refine la_op rfl (by first | exact frm_s (by decide +kernel) | exact frm_a (by repeat' (first | exact fa_nil | refine fa_cons (by decide +kernel) ?_))) (by intro hq; first | exact trivial | (cases hq; done) | simp [appT, Instr.cells, @cl1_get, ltS, nm_ne, tk_ne, hF]) ?_; (repeat (first | refine bk_nil ?_ | refine bk_t (by decide +kernel) ?_ | refine bk_f (by decide +kernel) ?_))) | fail)
    refine ⟨rfl, ln, wo, bo, f, ?_⟩
    simp only [runB, List.length_set, cl1_set]
    exact Cx.to y
  · simp only at h0 hD
    subst h0 hD
    have hvd := cl1_rd hd
    simp only at hd hvd
    have e : stepR ⟨mem, vars, inp, fu, none, val, out⟩ ⟨5, d, A, B, C, N, Text⟩ = ⟨mem, vars.set d (inp.head?.getD (-1)), inp.tail, fu, none, val, out⟩ := by simp [stepR]
    rw [e]
    have hd2 : (d : Int) < vars.length := by omega
    have hd3 : d < (cl1 vars).length := by rw [cl1_len]; exact hd
    repeat' (first | (with_reducible first | refine stp ?_ | refine k_blk_o rfl ?_) | ((try (conv => arg 1; simp [Instr.cells])); with_reducible refine evp ?_) | fail)
    refine gen_k (fun h' => RX m ⟨mem, vars, inp, fu, none, val, out⟩ (((h.tick, 0, 0), ⟨0, 7, [[.int .i64 5, .int .i64 d, .int .i64 A, .int .i64 B, .int .i64 C, .int .i64 N, .str Text]]⟩) :: bs) os h') (X0.new _) ?_
    intro h1 X1
    have bx := X1.top
    obtain ⟨ln1, wo1, bo1, f1, y1⟩ := X1
    have b1 := y1.bxs
    simp only [Bxs, runB, codeS, overS] at b1
    repeat' (first | (with_reducible first | refine stp ?_ | refine k_blk_o rfl ?_ | refine k_seq_n ?_) | ((try (conv => arg 1; simp [b1, bx, ltS, nm_ne, tk_ne])); with_reducible refine evp ?_) | fail)
    repeat (with_reducible first | refine stp ?_ | refine k_seq_n ?_)
    refine st_lz (by kernel_rfl) ?_
    have hF := And.intro b1 (And.intro bx (And.intro hvd (And.intro hd (And.intro hd2 hd3))))
    repeat' (first | (with_reducible first | refine stp ?_ | refine k_blk_o rfl ?_) | ((try (conv => arg 1; simp [@cl1_get, ltS, nm_ne, tk_ne, hF])); with_reducible refine evp ?_) | ((with_reducible refine la_id ?_); refine la_end rfl ?_; (repeat (first | refine pl_nil ?_ | refine pl_cons ?_))) | ((with_reducible refine la_id ?_); refine la_pick ?_; (conv => arg 1; whnf); (repeat ((fail_if_success (first | ((refine la_q0 rfl ?_); (try (conv => arg 1; simp [@cl1_get, ltS, nm_ne, tk_ne, hF])); with_reducible refine evp ?_) | ((refine la_n rfl rfl ?_); (try (conv => arg 1; simp [@cl1_get, ltS, nm_ne, tk_ne, hF])); with_reducible refine evp ?_) | ((refine la_q2 rfl (by decide +kernel) ?_); (repeat (first | refine bk_nil ?_ | refine bk_t (by decide +kernel) ?_ | refine bk_f (by decide +kernel) ?_)); (try (conv => arg 1; simp [@cl1_get, ltS, nm_ne, tk_ne, hF])); with_reducible refine evp ?_) | ((refine la_q1 rfl (by decide +kernel) ?_); (try (conv => arg 1; simp [@cl1_get, ltS, nm_ne, tk_ne, hF])); with_reducible refine evp ?_) | ((refine la_g0 rfl ?_); (try (conv => arg 1; simp [@cl1_get, ltS, nm_ne, tk_ne, hF])); with_reducible refine evp ?_; (with_reducible refine evp ?_); try ((try (conv => arg 1; simp [@cl1_get, ltS, nm_ne, tk_ne, hF])); with_reducible refine evp ?_)))); (refine la_there ?_); (conv => arg 1; whnf))); first | ((refine la_q0 rfl ?_); (try (conv => arg 1; simp [@cl1_get, ltS, nm_ne, tk_ne, hF])); with_reducible refine evp ?_) | ((refine la_n rfl rfl ?_); (try (conv => arg 1; simp [@cl1_get, ltS, nm_ne, tk_ne, hF])); with_reducible refine evp ?_) | ((refine la_q2 rfl (by decide +kernel) ?_); (repeat (first | refine bk_nil ?_ | refine bk_t (by decide +kernel) ?_ | refine bk_f (by decide +kernel) ?_)); (try (conv => arg 1; simp [@cl1_get, ltS, nm_ne, tk_ne, hF])); with_reducible refine evp ?_) | ((refine la_q1 rfl (by decide +kernel) ?_); (try (conv => arg 1; simp [@cl1_get, ltS, nm_ne, tk_ne, hF])); with_reducible refine evp ?_) | ((refine la_g0 rfl ?_); (try (conv => arg 1; simp [@cl1_get, ltS, nm_ne, tk_ne, hF])); with_reducible refine evp ?_; (with_reducible refine evp ?_); try ((try (conv => arg 1; simp [@cl1_get, ltS, nm_ne, tk_ne, hF])); with_reducible refine evp ?_))) | ((with_reducible refine la_id ?_); refine la_all rfl ?_) | ((with_reducible refine all_id ?_); (conv => arg 1; whnf); first | exact all_nil | refine all_cons ?_ ?_) | (refine la_op rfl (by first | exact frm_s (by decide +kernel) | exact frm_a (by repeat' (first | exact fa_nil | refine fa_cons (by decide +kernel) ?_))) (by intro hq; first | exact trivial | (cases hq; done) | simp [appT, @cl1_get, ltS, nm_ne, tk_ne, hF]) ?_; (repeat (first | refine bk_nil ?_ | refine bk_t (by decide +kernel) ?_ | refine bk_f (by decide +kernel) ?_))) | fail)
    all_goals
      refine st_heap rfl (l03Get ⟨ln1, wo1, bo1, f1, Cx.to y1⟩ hi) ?_
      rintro v h2 ⟨rfl, X2⟩
      have X3 := X2
      have bx2 := X2.top
      obtain ⟨ln2, wo2, bo2, f2, y2⟩ := X2
      have b2 := y2.bxs
      simp only [Bxs, runB, codeS, overS] at b2
      have hF := And.intro b2 (And.intro bx2 (And.intro hvd (And.intro hd (And.intro hd2 hd3))))
      repeat' (first | (with_reducible first | refine stp ?_ | refine k_blk_o rfl ?_) | ((try (conv => arg 1; simp [@cl1_get, ltS, nm_ne, tk_ne, hF])); with_reducible refine evp ?_) | ((with_reducible refine la_id ?_); refine la_end rfl ?_; (repeat (first | refine pl_nil ?_ | refine pl_cons ?_))) | ((with_reducible refine la_id ?_); refine la_pick ?_; (conv => arg 1; whnf); (repeat ((fail_if_success (first | ((refine la_q0 rfl ?_); (try (conv => arg 1; simp [@cl1_get, ltS, nm_ne, tk_ne, hF])); with_reducible refine evp ?_) | ((refine la_n rfl rfl ?_); (try (conv => arg 1; simp [@cl1_get, ltS, nm_ne, tk_ne, hF])); with_reducible refine evp ?_) | ((refine la_q2 rfl (by decide +kernel) ?_); (repeat (first | refine bk_nil ?_ | refine bk_t (by decide +kernel) ?_ | refine bk_f (by decide +kernel) ?_)); (try (conv => arg 1; simp [@cl1_get, ltS, nm_ne, tk_ne, hF])); with_reducible refine evp ?_) | ((refine la_q1 rfl (by decide +kernel) ?_); (try (conv => arg 1; simp [@cl1_get, ltS, nm_ne, tk_ne, hF])); with_reducible refine evp ?_) | ((refine la_g0 rfl ?_); (try (conv => arg 1; simp [@cl1_get, ltS, nm_ne, tk_ne, hF])); with_reducible refine evp ?_; (with_reducible refine evp ?_); try ((try (conv => arg 1; simp [@cl1_get, ltS, nm_ne, tk_ne, hF])); with_reducible refine evp ?_)))); (refine la_there ?_); (conv => arg 1; whnf))); first | ((refine la_q0 rfl ?_); (try (conv => arg 1; simp [@cl1_get, ltS, nm_ne, tk_ne, hF])); with_reducible refine evp ?_) | ((refine la_n rfl rfl ?_); (try (conv => arg 1; simp [@cl1_get, ltS, nm_ne, tk_ne, hF])); with_reducible refine evp ?_) | ((refine la_q2 rfl (by decide +kernel) ?_); (repeat (first | refine bk_nil ?_ | refine bk_t (by decide +kernel) ?_ | refine bk_f (by decide +kernel) ?_)); (try (conv => arg 1; simp [@cl1_get, ltS, nm_ne, tk_ne, hF])); with_reducible refine evp ?_) | ((refine la_q1 rfl (by decide +kernel) ?_); (try (conv => arg 1; simp [@cl1_get, ltS, nm_ne, tk_ne, hF])); with_reducible refine evp ?_) | ((refine la_g0 rfl ?_); (try (conv => arg 1; simp [@cl1_get, ltS, nm_ne, tk_ne, hF])); with_reducible refine evp ?_; (with_reducible refine evp ?_); try ((try (conv => arg 1; simp [@cl1_get, ltS, nm_ne, tk_ne, hF])); with_reducible refine evp ?_))) | ((with_reducible refine la_id ?_); refine la_all rfl ?_) | ((with_reducible refine all_id ?_); (conv => arg 1; whnf); first | exact all_nil | refine all_cons ?_ ?_) | (refine la_op rfl (by first | exact frm_s (by decide +kernel) | exact frm_a (by repeat' (first | exact fa_nil | refine fa_cons (by decide +kernel) ?_))) (by intro hq; first | exact trivial | (cases hq; done) | simp [appT, @cl1_get, ltS, nm_ne, tk_ne, hF]) ?_; (repeat (first | refine bk_nil ?_ | refine bk_t (by decide +kernel) ?_ | refine bk_f (by decide +kernel) ?_))) | fail)
      refine ⟨rfl, X3.dropOf ⟨ln2, wo2, bo2, f2, ?_⟩⟩
      simp only [runB, List.length_set, cl1_set]
      exact Cx.to y2
  · simp only at h0 hA
    subst h0 hA
    have hva := cl1_rd ha
    simp only at ha hva
    have e : stepR ⟨mem, vars, inp, fu, none, val, out⟩ ⟨6, D, a, B, C, N, Text⟩ = ⟨mem, vars, inp, fu, none, val, out ++ [rd vars a]⟩ := by simp [stepR]
    rw [e]
    have ha2 : (a : Int) < vars.length := by omega
    repeat' (first | (with_reducible first | refine stp ?_ | refine k_blk_o rfl ?_) | ((try (conv => arg 1; simp [Instr.cells])); with_reducible refine evp ?_) | fail)
    refine gen_k (fun h' => RX m ⟨mem, vars, inp, fu, none, val, out⟩ (((h.tick, 0, 0), ⟨0, 7, [[.int .i64 6, .int .i64 D, .int .i64 a, .int .i64 B, .int .i64 C, .int .i64 N, .str Text]]⟩) :: bs) os h') (X0.new _) ?_
    intro h1 X1
    have bx := X1.top
    obtain ⟨ln1, wo1, bo1, f1, y1⟩ := X1
    have b1 := y1.bxs
    simp only [Bxs, runB, codeS, overS] at b1
    have q2 := f1.one
    repeat' (first | (with_reducible first | refine stp ?_ | refine k_blk_o rfl ?_ | refine k_seq_n ?_) | ((try (conv => arg 1; simp [b1, bx, q2.1, q2.2.1, q2.2.2, ltS, nm_ne, tk_ne])); with_reducible refine evp ?_) | fail)
    repeat (with_reducible first | refine stp ?_ | refine k_seq_n ?_)
    refine st_lz (by kernel_rfl) ?_
    have hF := And.intro b1 (And.intro bx (And.intro hva (And.intro ha (And.intro ha2 (And.intro q2.1 (And.intro q2.2.1 q2.2.2))))))
    repeat' (first | (with_reducible first | refine stp ?_ | refine k_blk_o rfl ?_) | ((try (conv => arg 1; simp [@cl1_get, ltS, nm_ne, tk_ne, hF])); with_reducible refine evp ?_) | ((with_reducible refine la_id ?_); refine la_end rfl ?_; (repeat (first | refine pl_nil ?_ | refine pl_cons ?_))) | ((with_reducible refine la_id ?_); refine la_pick ?_; (conv => arg 1; whnf); (repeat ((fail_if_success (first | ((refine la_q0 rfl ?_); (try (conv => arg 1; simp [@cl1_get, ltS, nm_ne, tk_ne, hF])); with_reducible refine evp ?_) | ((refine la_n rfl rfl ?_); (try (conv => arg 1; simp [@cl1_get, ltS, nm_ne, tk_ne, hF])); with_reducible refine evp ?_) | ((refine la_q2 rfl (by decide +kernel) ?_); (repeat (first | refine bk_nil ?_ | refine bk_t (by decide +kernel) ?_ | refine bk_f (by decide +kernel) ?_)); (try (conv => arg 1; simp [@cl1_get, ltS, nm_ne, tk_ne, hF])); with_reducible refine evp ?_) | ((refine la_q1 rfl (by decide +kernel) ?_); (try (conv => arg 1; simp [@cl1_get, ltS, nm_ne, tk_ne, hF])); with_reducible refine evp ?_) | ((refine la_g0 rfl ?_); (try (conv => arg 1; simp [@cl1_get, ltS, nm_ne, tk_ne, hF])); with_reducible refine evp ?_; (with_reducible refine evp ?_); try ((try (conv => arg 1; simp [@cl1_get, ltS, nm_ne, tk_ne, hF])); with_reducible refine evp ?_)))); (refine la_there ?_); (conv => arg 1; whnf))); first | ((refine la_q0 rfl ?_); (try (conv => arg 1; simp [@cl1_get, ltS, nm_ne, tk_ne, hF])); with_reducible refine evp ?_) | ((refine la_n rfl rfl ?_); (try (conv => arg 1; simp [@cl1_get, ltS, nm_ne, tk_ne, hF])); with_reducible refine evp ?_) | ((refine la_q2 rfl (by decide +kernel) ?_); (repeat (first | refine bk_nil ?_ | refine bk_t (by decide +kernel) ?_ | refine bk_f (by decide +kernel) ?_)); (try (conv => arg 1; simp [@cl1_get, ltS, nm_ne, tk_ne, hF])); with_reducible refine evp ?_) | ((refine la_q1 rfl (by decide +kernel) ?_); (try (conv => arg 1; simp [@cl1_get, ltS, nm_ne, tk_ne, hF])); with_reducible refine evp ?_) | ((refine la_g0 rfl ?_); (try (conv => arg 1; simp [@cl1_get, ltS, nm_ne, tk_ne, hF])); with_reducible refine evp ?_; (with_reducible refine evp ?_); try ((try (conv => arg 1; simp [@cl1_get, ltS, nm_ne, tk_ne, hF])); with_reducible refine evp ?_))) | ((with_reducible refine la_id ?_); refine la_all rfl ?_) | ((with_reducible refine all_id ?_); (conv => arg 1; whnf); first | exact all_nil | refine all_cons ?_ ?_) | (refine la_op rfl (by first | exact frm_s (by decide +kernel) | exact frm_a (by repeat' (first | exact fa_nil | refine fa_cons (by decide +kernel) ?_))) (by intro hq; first | exact trivial | (cases hq; done) | simp [appT, @cl1_get, ltS, nm_ne, tk_ne, hF]) ?_; (repeat (first | refine bk_nil ?_ | refine bk_t (by decide +kernel) ?_ | refine bk_f (by decide +kernel) ?_))) | fail)
    conv => arg 1; simp
    refine out_app (l := out) (e := rd vars a) (fs := [(m.nr, runB m ⟨mem, vars, inp, fu, none, val, out⟩ wo1), (m.kv, ⟨m.vv, 1, cl1 vars⟩), (m.km, ⟨m.vm, 1, m.hdr⟩)]) (by kernel_rfl) f1 (Cx.to y1) ?hk ?hl ?hn ?ht ?kk
    case hk => simp
    case hl => omega
    case hn => refine Cx.new_nin y1 ?_; first | (simp; done) | (simp; omega) | omega
    case ht => simp
    intro w' b' h2 fl' y2 tk q'
    have X3 : RX m ⟨mem, vars, inp, fu, none, val, out⟩ (((h.tick, 0, 0), ⟨0, 7, [[.int .i64 6, .int .i64 D, .int .i64 a, .int .i64 B, .int .i64 C, .int .i64 N, .str Text]]⟩) :: bs) os h1 := ⟨ln1, wo1, bo1, f1, y1⟩
    simp only [List.cons_append, List.nil_append] at y2
    have b2 := y2.bxs
    simp only [Bxs, runB, codeS, overS] at b2
    have hF := And.intro b2 (And.intro q'.1 (And.intro q'.2.1 q'.2.2))
    repeat' (first | (with_reducible first | refine stp ?_ | refine k_blk_o rfl ?_) | ((try (conv => arg 1; simp [ltS, nm_ne, tk_ne, hF])); with_reducible refine evp ?_) | ((with_reducible refine la_id ?_); refine la_end rfl ?_; (repeat (first | refine pl_nil ?_ | refine pl_cons ?_))) | ((with_reducible refine la_id ?_); refine la_pick ?_; (conv => arg 1; whnf); (repeat ((fail_if_success (first | ((refine la_q0 rfl ?_); (try (conv => arg 1; simp [ltS, nm_ne, tk_ne, hF])); with_reducible refine evp ?_) | ((refine la_n rfl rfl ?_); (try (conv => arg 1; simp [ltS, nm_ne, tk_ne, hF])); with_reducible refine evp ?_) | ((refine la_q2 rfl (by decide +kernel) ?_); (repeat (first | refine bk_nil ?_ | refine bk_t (by decide +kernel) ?_ | refine bk_f (by decide +kernel) ?_)); (try (conv => arg 1; simp [ltS, nm_ne, tk_ne, hF])); with_reducible refine evp ?_) | ((refine la_q1 rfl (by decide +kernel) ?_); (try (conv => arg 1; simp [ltS, nm_ne, tk_ne, hF])); with_reducible refine evp ?_) | ((refine la_g0 rfl ?_); (try (conv => arg 1; simp [ltS, nm_ne, tk_ne, hF])); with_reducible refine evp ?_; (with_reducible refine evp ?_); try ((try (conv => arg 1; simp [ltS, nm_ne, tk_ne, hF])); with_reducible refine evp ?_)))); (refine la_there ?_); (conv => arg 1; whnf))); first | ((refine la_q0 rfl ?_); (try (conv => arg 1; simp [ltS, nm_ne, tk_ne, hF])); with_reducible refine evp ?_) | ((refine la_n rfl rfl ?_); (try (conv => arg 1; simp [ltS, nm_ne, tk_ne, hF])); with_reducible refine evp ?_) | ((refine la_q2 rfl (by decide +kernel) ?_); (repeat (first | refine bk_nil ?_ | refine bk_t (by decide +kernel) ?_ | refine bk_f (by decide +kernel) ?_)); (try (conv => arg 1; simp [ltS, nm_ne, tk_ne, hF])); with_reducible refine evp ?_) | ((refine la_q1 rfl (by decide +kernel) ?_); (try (conv => arg 1; simp [ltS, nm_ne, tk_ne, hF])); with_reducible refine evp ?_) | ((refine la_g0 rfl ?_); (try (conv => arg 1; simp [ltS, nm_ne, tk_ne, hF])); with_reducible refine evp ?_; (with_reducible refine evp ?_); try ((try (conv => arg 1; simp [ltS, nm_ne, tk_ne, hF])); with_reducible refine evp ?_))) | ((with_reducible refine la_id ?_); refine la_all rfl ?_) | ((with_reducible refine all_id ?_); (conv => arg 1; whnf); first | exact all_nil | refine all_cons ?_ ?_) | (refine la_op rfl (by first | exact frm_s (by decide +kernel) | exact frm_a (by repeat' (first | exact fa_nil | refine fa_cons (by decide +kernel) ?_))) (by intro hq; first | exact trivial | (cases hq; done) | simp [appT, ltS, nm_ne, tk_ne, hF]) ?_; (repeat (first | refine bk_nil ?_ | refine bk_t (by decide +kernel) ?_ | refine bk_f (by decide +kernel) ?_))) | fail)
    exact ⟨rfl, X3.dropOf ⟨ln1, w', b', fl', Cx.to y2⟩⟩
  · simp only at h0 hD hB hN
    subst h0 hD hB hN
    have hvd := cl1_rd hd
    have hvc := cl1_rd hc
    simp only at hd hvd hc hvc hq hA
    have hkl := ks_len (s := ⟨mem, vars, inp, fu, none, val, out⟩) ln
    simp only at hkl
    have hqk : q < m.ks.length := by omega
    have hqk2 : (q : Int) < m.ks.length := by omega
    have hdr := hdr_at (s := ⟨mem, vars, inp, fu, none, val, out⟩) ln hqk hq
    simp only at hdr
    have hgq : mem.getD q [] = mem[q] := by simp [hq]
    have hix : idxR ⟨mem, vars, inp, fu, none, val, out⟩ ⟨3, d, A, c, C, q, Text⟩ = atR ⟨mem, vars, inp, fu, none, val, out⟩ A (rd vars c) := rfl
    have hd2 : (d : Int) < vars.length := by omega
    have hd3 : d < (cl1 vars).length := by rw [cl1_len]; exact hd
    have hc2 : (c : Int) < vars.length := by omega
    repeat' (first | (with_reducible first | refine stp ?_ | refine k_blk_o rfl ?_) | ((try (conv => arg 1; simp [Instr.cells])); with_reducible refine evp ?_) | fail)
    refine gen_k (fun h' => RX m ⟨mem, vars, inp, fu, none, val, out⟩ (((h.tick, 0, 0), ⟨0, 7, [[.int .i64 3, .int .i64 d, .int .i64 A, .int .i64 c, .int .i64 C, .int .i64 q, .str Text]]⟩) :: bs) os h') (X0.new _) ?_
    intro h1 X1
    have bx := X1.top
    obtain ⟨ln1, wo1, bo1, f1, y1⟩ := X1
    have b1 := y1.bxs
    simp only [Bxs, runB, codeS, overS] at b1
    repeat' (first | (with_reducible first | refine stp ?_ | refine k_blk_o rfl ?_ | refine k_seq_n ?_) | ((try (conv => arg 1; simp [b1, bx, ltS, nm_ne, tk_ne])); with_reducible refine evp ?_) | fail)
    repeat (with_reducible first | refine stp ?_ | refine k_seq_n ?_)
    refine st_lz (by kernel_rfl) ?_
    have hF := And.intro b1 (And.intro bx (And.intro hvc (And.intro hc hc2)))
    repeat' (first | (with_reducible first | refine stp ?_ | refine k_blk_o rfl ?_) | ((try (conv => arg 1; simp [@cl1_get, ltS, nm_ne, tk_ne, hF])); with_reducible refine evp ?_) | ((with_reducible refine la_id ?_); refine la_end rfl ?_; (repeat (first | refine pl_nil ?_ | refine pl_cons ?_))) | ((with_reducible refine la_id ?_); refine la_pick ?_; (conv => arg 1; whnf); (repeat ((fail_if_success (first | ((refine la_q0 rfl ?_); (try (conv => arg 1; simp [@cl1_get, ltS, nm_ne, tk_ne, hF])); with_reducible refine evp ?_) | ((refine la_n rfl rfl ?_); (try (conv => arg 1; simp [@cl1_get, ltS, nm_ne, tk_ne, hF])); with_reducible refine evp ?_) | ((refine la_q2 rfl (by decide +kernel) ?_); (repeat (first | refine bk_nil ?_ | refine bk_t (by decide +kernel) ?_ | refine bk_f (by decide +kernel) ?_)); (try (conv => arg 1; simp [@cl1_get, ltS, nm_ne, tk_ne, hF])); with_reducible refine evp ?_) | ((refine la_q1 rfl (by decide +kernel) ?_); (try (conv => arg 1; simp [@cl1_get, ltS, nm_ne, tk_ne, hF])); with_reducible refine evp ?_) | ((refine la_g0 rfl ?_); (try (conv => arg 1; simp [@cl1_get, ltS, nm_ne, tk_ne, hF])); with_reducible refine evp ?_; (with_reducible refine evp ?_); try ((try (conv => arg 1; simp [@cl1_get, ltS, nm_ne, tk_ne, hF])); with_reducible refine evp ?_)))); (refine la_there ?_); (conv => arg 1; whnf))); first | ((refine la_q0 rfl ?_); (try (conv => arg 1; simp [@cl1_get, ltS, nm_ne, tk_ne, hF])); with_reducible refine evp ?_) | ((refine la_n rfl rfl ?_); (try (conv => arg 1; simp [@cl1_get, ltS, nm_ne, tk_ne, hF])); with_reducible refine evp ?_) | ((refine la_q2 rfl (by decide +kernel) ?_); (repeat (first | refine bk_nil ?_ | refine bk_t (by decide +kernel) ?_ | refine bk_f (by decide +kernel) ?_)); (try (conv => arg 1; simp [@cl1_get, ltS, nm_ne, tk_ne, hF])); with_reducible refine evp ?_) | ((refine la_q1 rfl (by decide +kernel) ?_); (try (conv => arg 1; simp [@cl1_get, ltS, nm_ne, tk_ne, hF])); with_reducible refine evp ?_) | ((refine la_g0 rfl ?_); (try (conv => arg 1; simp [@cl1_get, ltS, nm_ne, tk_ne, hF])); with_reducible refine evp ?_; (with_reducible refine evp ?_); try ((try (conv => arg 1; simp [@cl1_get, ltS, nm_ne, tk_ne, hF])); with_reducible refine evp ?_))) | ((with_reducible refine la_id ?_); refine la_all rfl ?_) | ((with_reducible refine all_id ?_); (conv => arg 1; whnf); first | exact all_nil | refine all_cons ?_ ?_) | (refine la_op rfl (by first | exact frm_s (by decide +kernel) | exact frm_a (by repeat' (first | exact fa_nil | refine fa_cons (by decide +kernel) ?_))) (by intro hq; first | exact trivial | (cases hq; done) | simp [appT, @cl1_get, ltS, nm_ne, tk_ne, hF]) ?_; (repeat (first | refine bk_nil ?_ | refine bk_t (by decide +kernel) ?_ | refine bk_f (by decide +kernel) ?_))) | fail)
    all_goals
      refine st_heap rfl (l03At ⟨ln1, wo1, bo1, f1, Cx.to y1⟩ rfl hq (hm q hq) hA (rd vars c)) ?_
      rintro v h2 (⟨hj, rfl, X2⟩ | ⟨hj, rfl, X2⟩)
      · have e : stepR ⟨mem, vars, inp, fu, none, val, out⟩ ⟨3, d, A, c, C, q, Text⟩ = ⟨mem, vars.set d (rd mem[q] (atR ⟨mem, vars, inp, fu, none, val, out⟩ A (rd vars c))), inp, fu, none, val, out⟩ := by simp [stepR, hix, memR, hq, hj]
        rw [e]
        obtain ⟨j, hj1, hj2⟩ := inB_slot (show inB (atR ⟨mem, vars, inp, fu, none, val, out⟩ A (rd vars c)) 0 ((mem[q].length : Int) - 1) = true from hj)
        rw [hj1]
        have hj3 : (j : Int) < mem[q].length := by omega
        have hj4 : j < (cl1 mem[q]).length := by rw [cl1_len]; exact hj2
        have X3 := X2
        have bx2 := X2.top
        obtain ⟨ln2, wo2, bo2, f2, y2⟩ := X2
        have b2 := y2.bxs
        simp only [Bxs, runB, codeS, overS] at b2
        have rq := y2.rgs_at hqk hq
        simp only at rq
        repeat' (first | (with_reducible first | refine stp ?_ | refine k_blk_o rfl ?_) | ((try (conv => arg 1; simp [b2, bx2, ltS, nm_ne, tk_ne])); with_reducible refine evp ?_) | ((with_reducible refine la_id ?_); refine la_end rfl ?_; (repeat (first | refine pl_nil ?_ | refine pl_cons ?_))) | ((with_reducible refine la_id ?_); refine la_pick ?_; (conv => arg 1; whnf); (repeat ((fail_if_success (first | ((refine la_q0 rfl ?_); (try (conv => arg 1; simp [b2, bx2, ltS, nm_ne, tk_ne])); with_reducible refine evp ?_) | ((refine la_n rfl rfl ?_); (try (conv => arg 1; simp [b2, bx2, ltS, nm_ne, tk_ne])); with_reducible refine evp ?_) | ((refine la_q2 rfl (by decide +kernel) ?_); (repeat (first | refine bk_nil ?_ | refine bk_t (by decide +kernel) ?_ | refine bk_f (by decide +kernel) ?_)); (try (conv => arg 1; simp [b2, bx2, ltS, nm_ne, tk_ne])); with_reducible refine evp ?_) | ((refine la_q1 rfl (by decide +kernel) ?_); (try (conv => arg 1; simp [b2, bx2, ltS, nm_ne, tk_ne])); with_reducible refine evp ?_) | ((refine la_g0 rfl ?_); (try (conv => arg 1; simp [b2, bx2, ltS, nm_ne, tk_ne])); with_reducible refine evp ?_; (with_reducible refine evp ?_); try ((try (conv => arg 1; simp [b2, bx2, ltS, nm_ne, tk_ne])); with_reducible refine evp ?_)))); (refine la_there ?_); (conv => arg 1; whnf))); first | ((refine la_q0 rfl ?_); (try (conv => arg 1; simp [b2, bx2, ltS, nm_ne, tk_ne])); with_reducible refine evp ?_) | ((refine la_n rfl rfl ?_); (try (conv => arg 1; simp [b2, bx2, ltS, nm_ne, tk_ne])); with_reducible refine evp ?_) | ((refine la_q2 rfl (by decide +kernel) ?_); (repeat (first | refine bk_nil ?_ | refine bk_t (by decide +kernel) ?_ | refine bk_f (by decide +kernel) ?_)); (try (conv => arg 1; simp [b2, bx2, ltS, nm_ne, tk_ne])); with_reducible refine evp ?_) | ((refine la_q1 rfl (by decide +kernel) ?_); (try (conv => arg 1; simp [b2, bx2, ltS, nm_ne, tk_ne])); with_reducible refine evp ?_) | ((refine la_g0 rfl ?_); (try (conv => arg 1; simp [b2, bx2, ltS, nm_ne, tk_ne])); with_reducible refine evp ?_; (with_reducible refine evp ?_); try ((try (conv => arg 1; simp [b2, bx2, ltS, nm_ne, tk_ne])); with_reducible refine evp ?_))) | ((with_reducible refine la_id ?_); refine la_all rfl ?_) | ((with_reducible refine all_id ?_); (conv => arg 1; whnf); first | exact all_nil | refine all_cons ?_ ?_) | (refine la_op rfl (by first | exact frm_s (by decide +kernel) | exact frm_a (by repeat' (first | exact fa_nil | refine fa_cons (by decide +kernel) ?_))) (by intro hq; first | exact trivial | (cases hq; done) | simp [appT, b2, bx2, ltS, nm_ne, tk_ne]) ?_; (repeat (first | refine bk_nil ?_ | refine bk_t (by decide +kernel) ?_ | refine bk_f (by decide +kernel) ?_))) | fail)
        repeat' (first | (with_reducible first | refine stp ?_ | refine k_blk_o rfl ?_ | refine k_seq_n ?_) | ((try (conv => arg 1; simp [b2, bx2, hj1, ltS, nm_ne, tk_ne])); with_reducible refine evp ?_) | fail)
        repeat (with_reducible first | refine stp ?_ | refine k_seq_n ?_)
        refine st_lz (by kernel_rfl) ?_
        have hF := And.intro b2 (And.intro bx2 (And.intro rq (And.intro hdr (And.intro hqk (And.intro hqk2 (And.intro hj2 (And.intro hj3 (And.intro hj4 (And.intro hvd (And.intro hd (And.intro hd2 hd3)))))))))))
        repeat' (first | (with_reducible first | refine stp ?_ | refine k_blk_o rfl ?_) | ((try (conv => arg 1; simp [@cl1_get, ltS, nm_ne, tk_ne, hF])); with_reducible refine evp ?_) | ((with_reducible refine la_id ?_); refine la_end rfl ?_; (repeat (first | refine pl_nil ?_ | refine pl_cons ?_))) | ((with_reducible refine la_id ?_); refine la_pick ?_; (conv => arg 1; whnf); (repeat ((fail_if_success (first | ((refine la_q0 rfl ?_); (try (conv => arg 1; simp [@cl1_get, ltS, nm_ne, tk_ne, hF])); with_reducible refine evp ?_) | ((refine la_n rfl rfl ?_); (try (conv => arg 1; simp [@cl1_get, ltS, nm_ne, tk_ne, hF])); with_reducible refine evp ?_) | ((refine la_q2 rfl (by decide +kernel) ?_); (repeat (first | refine bk_nil ?_ | refine bk_t (by decide +kernel) ?_ | refine bk_f (by decide +kernel) ?_)); (try (conv => arg 1; simp [@cl1_get, ltS, nm_ne, tk_ne, hF])); with_reducible refine evp ?_) | ((refine la_q1 rfl (by decide +kernel) ?_); (try (conv => arg 1; simp [@cl1_get, ltS, nm_ne, tk_ne, hF])); with_reducible refine evp ?_) | ((refine la_g0 rfl ?_); (try (conv => arg 1; simp [@cl1_get, ltS, nm_ne, tk_ne, hF])); with_reducible refine evp ?_; (with_reducible refine evp ?_); try ((try (conv => arg 1; simp [@cl1_get, ltS, nm_ne, tk_ne, hF])); with_reducible refine evp ?_)))); (refine la_there ?_); (conv => arg 1; whnf))); first | ((refine la_q0 rfl ?_); (try (conv => arg 1; simp [@cl1_get, ltS, nm_ne, tk_ne, hF])); with_reducible refine evp ?_) | ((refine la_n rfl rfl ?_); (try (conv => arg 1; simp [@cl1_get, ltS, nm_ne, tk_ne, hF])); with_reducible refine evp ?_) | ((refine la_q2 rfl (by decide +kernel) ?_); (repeat (first | refine bk_nil ?_ | refine bk_t (by decide +kernel) ?_ | refine bk_f (by decide +kernel) ?_)); (try (conv => arg 1; simp [@cl1_get, ltS, nm_ne, tk_ne, hF])); with_reducible refine evp ?_) | ((refine la_q1 rfl (by decide +kernel) ?_); (try (conv => arg 1; simp [@cl1_get, ltS, nm_ne, tk_ne, hF])); with_reducible refine evp ?_) | ((refine la_g0 rfl ?_); (try (conv => arg 1; simp [@cl1_get, ltS, nm_ne, tk_ne, hF])); with_reducible refine evp ?_; (with_reducible refine evp ?_); try ((try (conv => arg 1; simp [@cl1_get, ltS, nm_ne, tk_ne, hF])); with_reducible refine evp ?_))) | ((with_reducible refine la_id ?_); refine la_all rfl ?_) | ((with_reducible refine all_id ?_); (conv => arg 1; whnf); first | exact all_nil | refine all_cons ?_ ?_) | (refine la_op rfl (by first | exact frm_s (by decide +kernel) | exact frm_a (by repeat' (first | exact fa_nil | refine fa_cons (by decide +kernel) ?_))) (by intro hq; first | exact trivial | (cases hq; done) | simp [appT, @cl1_get, ltS, nm_ne, tk_ne, hF]) ?_; (repeat (first | refine bk_nil ?_ | refine bk_t (by decide +kernel) ?_ | refine bk_f (by decide +kernel) ?_))) | fail)
        refine ⟨rfl, X3.dropOf ⟨ln2, wo2, bo2, f2, ?_⟩⟩
        simp only [runB, List.length_set, cl1_set]
        exact Cx.to y2
      · have e : stepR ⟨mem, vars, inp, fu, none, val, out⟩ ⟨3, d, A, c, C, q, Text⟩ = ⟨mem, vars, inp, fu, some 1, val, out⟩ := by simp [stepR, hix, memR, hq, hj]
        rw [e]
        have X3 := X2
        have bx2 := X2.top
        obtain ⟨ln2, wo2, bo2, f2, y2⟩ := X2
        have b2 := y2.bxs
        simp only [Bxs, runB, codeS, overS] at b2
        repeat' (first | (with_reducible first | refine stp ?_ | refine k_blk_o rfl ?_) | ((try (conv => arg 1; simp [b2, bx2, ltS, nm_ne, tk_ne])); with_reducible refine evp ?_) | ((with_reducible refine la_id ?_); refine la_end rfl ?_; (repeat (first | refine pl_nil ?_ | refine pl_cons ?_))) | ((with_reducible refine la_id ?_); refine la_pick ?_; (conv => arg 1; whnf); (repeat ((fail_if_success (first | ((refine la_q0 rfl ?_); (try (conv => arg 1; simp [b2, bx2, ltS, nm_ne, tk_ne])); with_reducible refine evp ?_) | ((refine la_n rfl rfl ?_); (try (conv => arg 1; simp [b2, bx2, ltS, nm_ne, tk_ne])); with_reducible refine evp ?_) | ((refine la_q2 rfl (by decide +kernel) ?_); (repeat (first | refine bk_nil ?_ | refine bk_t (by decide +kernel) ?_ | refine bk_f (by decide +kernel) ?_)); (try (conv => arg 1; simp [b2, bx2, ltS, nm_ne, tk_ne])); with_reducible refine evp ?_) | ((refine la_q1 rfl (by decide +kernel) ?_); (try (conv => arg 1; simp [b2, bx2, ltS, nm_ne, tk_ne])); with_reducible refine evp ?_) | ((refine la_g0 rfl ?_); (try (conv => arg 1; simp [b2, bx2, ltS, nm_ne, tk_ne])); with_reducible refine evp ?_; (with_reducible refine evp ?_); try ((try (conv => arg 1; simp [b2, bx2, ltS, nm_ne, tk_ne])); with_reducible refine evp ?_)))); (refine la_there ?_); (conv => arg 1; whnf))); first | ((refine la_q0 rfl ?_); (try (conv => arg 1; simp [b2, bx2, ltS, nm_ne, tk_ne])); with_reducible refine evp ?_) | ((refine la_n rfl rfl ?_); (try (conv => arg 1; simp [b2, bx2, ltS, nm_ne, tk_ne])); with_reducible refine evp ?_) | ((refine la_q2 rfl (by decide +kernel) ?_); (repeat (first | refine bk_nil ?_ | refine bk_t (by decide +kernel) ?_ | refine bk_f (by decide +kernel) ?_)); (try (conv => arg 1; simp [b2, bx2, ltS, nm_ne, tk_ne])); with_reducible refine evp ?_) | ((refine la_q1 rfl (by decide +kernel) ?_); (try (conv => arg 1; simp [b2, bx2, ltS, nm_ne, tk_ne])); with_reducible refine evp ?_) | ((refine la_g0 rfl ?_); (try (conv => arg 1; simp [b2, bx2, ltS, nm_ne, tk_ne])); with_reducible refine evp ?_; (with_reducible refine evp ?_); try ((try (conv => arg 1; simp [b2, bx2, ltS, nm_ne, tk_ne])); with_reducible refine evp ?_))) | ((with_reducible refine la_id ?_); refine la_all rfl ?_) | ((with_reducible refine all_id ?_); (conv => arg 1; whnf); first | exact all_nil | refine all_cons ?_ ?_) | (refine la_op rfl (by first | exact frm_s (by decide +kernel) | exact frm_a (by repeat' (first | exact fa_nil | refine fa_cons (by decide +kernel) ?_))) (by intro hq; first | exact trivial | (cases hq; done) | simp [appT, b2, bx2, ltS, nm_ne, tk_ne]) ?_; (repeat (first | refine bk_nil ?_ | refine bk_t (by decide +kernel) ?_ | refine bk_f (by decide +kernel) ?_))) | fail)
        repeat' (first | (with_reducible first | refine stp ?_ | refine k_blk_o rfl ?_ | refine k_seq_n ?_) | ((try (conv => arg 1; simp [b2, bx2, ltS, nm_ne, tk_ne])); with_reducible refine evp ?_) | fail)
        exact ⟨rfl, X3.dropOf ⟨ln2, wo2, bo2, f2, Cx.to y2⟩⟩
  · simp only at h0 hC hB hN
    subst h0 hC hB hN
    have hve := cl1_rd he
    have hvc := cl1_rd hc
    simp only at he hve hc hvc hq hA
    have hkl := ks_len (s := ⟨mem, vars, inp, fu, none, val, out⟩) ln
    simp only at hkl
    have hqk : q < m.ks.length := by omega
    have hqk2 : (q : Int) < m.ks.length := by omega
    have hdr := hdr_at (s := ⟨mem, vars, inp, fu, none, val, out⟩) ln hqk hq
    simp only at hdr
    have hgq : mem.getD q [] = mem[q] := by simp [hq]
    have hix : idxR ⟨mem, vars, inp, fu, none, val, out⟩ ⟨4, D, A, c, e, q, Text⟩ = atR ⟨mem, vars, inp, fu, none, val, out⟩ A (rd vars c) := rfl
    have he2 : (e : Int) < vars.length := by omega
    have hc2 : (c : Int) < vars.length := by omega
    repeat' (first | (with_reducible first | refine stp ?_ | refine k_blk_o rfl ?_) | ((try (conv => arg 1; simp [Instr.cells])); with_reducible refine evp ?_) | fail)
    refine gen_k (fun h' => RX m ⟨mem, vars, inp, fu, none, val, out⟩ (((h.tick, 0, 0), ⟨0, 7, [[.int .i64 4, .int .i64 D, .int .i64 A, .int .i64 c, .int .i64 e, .int .i64 q, .str Text]]⟩) :: bs) os h') (X0.new _) ?_
    intro h1 X1
    have bx := X1.top
    obtain ⟨ln1, wo1, bo1, f1, y1⟩ := X1
    have b1 := y1.bxs
    simp only [Bxs, runB, codeS, overS] at b1
    repeat' (first | (with_reducible first | refine stp ?_ | refine k_blk_o rfl ?_ | refine k_seq_n ?_) | ((try (conv => arg 1; simp [b1, bx, ltS, nm_ne, tk_ne])); with_reducible refine evp ?_) | fail)
    repeat (with_reducible first | refine stp ?_ | refine k_seq_n ?_)
    refine st_lz (by kernel_rfl) ?_
    have hF := And.intro b1 (And.intro bx (And.intro hvc (And.intro hc hc2)))
    repeat' (first | (with_reducible first | refine stp ?_ | refine k_blk_o rfl ?_) | ((try (conv => arg 1; simp [@cl1_get, ltS, nm_ne, tk_ne, hF])); with_reducible refine evp ?_) | ((with_reducible refine la_id ?_); refine la_end rfl ?_; (repeat (first | refine pl_nil ?_ | refine pl_cons ?_))) | ((with_reducible refine la_id ?_); refine la_pick ?_; (conv => arg 1; whnf); (repeat ((fail_if_success (first | ((refine la_q0 rfl ?_); (try (conv => arg 1; simp [@cl1_get, ltS, nm_ne, tk_ne, hF])); with_reducible refine evp ?_) | ((refine la_n rfl rfl ?_); (try (conv => arg 1; simp [@cl1_get, ltS, nm_ne, tk_ne, hF])); with_reducible refine evp ?_) | ((refine la_q2 rfl (by decide +kernel) ?_); (repeat (first | refine bk_nil ?_ | refine bk_t (by decide +kernel) ?_ | refine bk_f (by decide +kernel) ?_)); (try (conv => arg 1; simp [@cl1_get, ltS, nm_ne, tk_ne, hF])); with_reducible refine evp ?_) | ((refine la_q1 rfl (by decide +kernel) ?_); (try (conv => arg 1; simp [@cl1_get, ltS, nm_ne, tk_ne, hF])); with_reducible refine evp ?_) | ((refine la_g0 rfl ?_); (try (conv => arg 1; simp [@cl1_get, ltS, nm_ne, tk_ne, hF])); with_reducible refine evp ?_; (with_reducible refine evp ?_); try ((try (conv => arg 1; simp [@cl1_get, ltS, nm_ne, tk_ne, hF])); with_reducible refine evp ?_)))); (refine la_there ?_); (conv => arg 1; whnf))); first | ((refine la_q0 rfl ?_); (try (conv => arg 1; simp [@cl1_get, ltS, nm_ne, tk_ne, hF])); with_reducible refine evp ?_) | ((refine la_n rfl rfl ?_); (try (conv => arg 1; simp [@cl1_get, ltS, nm_ne, tk_ne, hF])); with_reducible refine evp ?_) | ((refine la_q2 rfl (by decide +kernel) ?_); (repeat (first | refine bk_nil ?_ | refine bk_t (by decide +kernel) ?_ | refine bk_f (by decide +kernel) ?_)); (try (conv => arg 1; simp [@cl1_get, ltS, nm_ne, tk_ne, hF])); with_reducible refine evp ?_) | ((refine la_q1 rfl (by decide +kernel) ?_); (try (conv => arg 1; simp [@cl1_get, ltS, nm_ne, tk_ne, hF])); with_reducible refine evp ?_) | ((refine la_g0 rfl ?_); (try (conv => arg 1; simp [@cl1_get, ltS, nm_ne, tk_ne, hF])); with_reducible refine evp ?_; (with_reducible refine evp ?_); try ((try (conv => arg 1; simp [@cl1_get, ltS, nm_ne, tk_ne, hF])); with_reducible refine evp ?_))) | ((with_reducible refine la_id ?_); refine la_all rfl ?_) | ((with_reducible refine all_id ?_); (conv => arg 1; whnf); first | exact all_nil | refine all_cons ?_ ?_) | (refine la_op rfl (by first | exact frm_s (by decide +kernel) | exact frm_a (by repeat' (first | exact fa_nil | refine fa_cons (by decide +kernel) ?_))) (by intro hq; first | exact trivial | (cases hq; done) | simp [appT, @cl1_get, ltS, nm_ne, tk_ne, hF]) ?_; (repeat (first | refine bk_nil ?_ | refine bk_t (by decide +kernel) ?_ | refine bk_f (by decide +kernel) ?_))) | fail)
    all_goals
      refine st_heap rfl (l03At ⟨ln1, wo1, bo1, f1, Cx.to y1⟩ rfl hq (hm q hq) hA (rd vars c)) ?_
      rintro v h2 (⟨hj, rfl, X2⟩ | ⟨hj, rfl, X2⟩)
      · have es : stepR ⟨mem, vars, inp, fu, none, val, out⟩ ⟨4, D, A, c, e, q, Text⟩ = ⟨mem.set q (mem[q].set (atR ⟨mem, vars, inp, fu, none, val, out⟩ A (rd vars c)).toNat (rd vars e)), vars, inp, fu, none, val, out⟩ := by simp [stepR, hix, memR, hq, hj]
        rw [es]
        obtain ⟨j, hj1, hj2⟩ := inB_slot (show inB (atR ⟨mem, vars, inp, fu, none, val, out⟩ A (rd vars c)) 0 ((mem[q].length : Int) - 1) = true from hj)
        rw [hj1, Int.toNat_natCast]
        have hj3 : (j : Int) < mem[q].length := by omega
        have hj4 : j < (cl1 mem[q]).length := by rw [cl1_len]; exact hj2
        have X3 := X2
        have bx2 := X2.top
        obtain ⟨ln2, wo2, bo2, f2, y2⟩ := X2
        have b2 := y2.bxs
        simp only [Bxs, runB, codeS, overS] at b2
        have rq := y2.rgs_at hqk hq
        simp only at rq
        repeat' (first | (with_reducible first | refine stp ?_ | refine k_blk_o rfl ?_) | ((try (conv => arg 1; simp [b2, bx2, ltS, nm_ne, tk_ne])); with_reducible refine evp ?_) | ((with_reducible refine la_id ?_); refine la_end rfl ?_; (repeat (first | refine pl_nil ?_ | refine pl_cons ?_))) | ((with_reducible refine la_id ?_); refine la_pick ?_; (conv => arg 1; whnf); (repeat ((fail_if_success (first | ((refine la_q0 rfl ?_); (try (conv => arg 1; simp [b2, bx2, ltS, nm_ne, tk_ne])); with_reducible refine evp ?_) | ((refine la_n rfl rfl ?_); (try (conv => arg 1; simp [b2, bx2, ltS, nm_ne, tk_ne])); with_reducible refine evp ?_) | ((refine la_q2 rfl (by decide +kernel) ?_); (repeat (first | refine bk_nil ?_ | refine bk_t (by decide +kernel) ?_ | refine bk_f (by decide +kernel) ?_)); (try (conv => arg 1; simp [b2, bx2, ltS, nm_ne, tk_ne])); with_reducible refine evp ?_) | ((refine la_q1 rfl (by decide +kernel) ?_); (try (conv => arg 1; simp [b2, bx2, ltS, nm_ne, tk_ne])); with_reducible refine evp ?_) | ((refine la_g0 rfl ?_); (try (conv => arg 1; simp [b2, bx2, ltS, nm_ne, tk_ne])); with_reducible refine evp ?_; (with_reducible refine evp ?_); try ((try (conv => arg 1; simp [b2, bx2, ltS, nm_ne, tk_ne])); with_reducible refine evp ?_)))); (refine la_there ?_); (conv => arg 1; whnf))); first | ((refine la_q0 rfl ?_); (try (conv => arg 1; simp [b2, bx2, ltS, nm_ne, tk_ne])); with_reducible refine evp ?_) | ((refine la_n rfl rfl ?_); (try (conv => arg 1; simp [b2, bx2, ltS, nm_ne, tk_ne])); with_reducible refine evp ?_) | ((refine la_q2 rfl (by decide +kernel) ?_); (repeat (first | refine bk_nil ?_ | refine bk_t (by decide +kernel) ?_ | refine bk_f (by decide +kernel) ?_)); (try (conv => arg 1; simp [b2, bx2, ltS, nm_ne, tk_ne])); with_reducible refine evp ?_) | ((refine la_q1 rfl (by decide +kernel) ?_); (try (conv => arg 1; simp [b2, bx2, ltS, nm_ne, tk_ne])); with_reducible refine evp ?_) | ((refine la_g0 rfl ?_); (try (conv => arg 1; simp [b2, bx2, ltS, nm_ne, tk_ne])); with_reducible refine evp ?_; (with_reducible refine evp ?_); try ((try (conv => arg 1; simp [b2, bx2, ltS, nm_ne, tk_ne])); with_reducible refine evp ?_))) | ((with_reducible refine la_id ?_); refine la_all rfl ?_) | ((with_reducible refine all_id ?_); (conv => arg 1; whnf); first | exact all_nil | refine all_cons ?_ ?_) | (refine la_op rfl (by first | exact frm_s (by decide +kernel) | exact frm_a (by repeat' (first | exact fa_nil | refine fa_cons (by decide +kernel) ?_))) (by intro hq; first | exact trivial | (cases hq; done) | simp [appT, b2, bx2, ltS, nm_ne, tk_ne]) ?_; (repeat (first | refine bk_nil ?_ | refine bk_t (by decide +kernel) ?_ | refine bk_f (by decide +kernel) ?_))) | fail)
        repeat' (first | (with_reducible first | refine stp ?_ | refine k_blk_o rfl ?_ | refine k_seq_n ?_) | ((try (conv => arg 1; simp [b2, bx2, hj1, ltS, nm_ne, tk_ne])); with_reducible refine evp ?_) | fail)
        repeat (with_reducible first | refine stp ?_ | refine k_seq_n ?_)
        refine st_lz (by kernel_rfl) ?_
        have hF := And.intro b2 (And.intro bx2 (And.intro rq (And.intro hdr (And.intro hqk (And.intro hqk2 (And.intro hj2 (And.intro hj3 (And.intro hj4 (And.intro hve (And.intro he he2))))))))))
        repeat' (first | (with_reducible first | refine stp ?_ | refine k_blk_o rfl ?_) | ((try (conv => arg 1; simp [@cl1_get, ltS, nm_ne, tk_ne, hF])); with_reducible refine evp ?_) | ((with_reducible refine la_id ?_); refine la_end rfl ?_; (repeat (first | refine pl_nil ?_ | refine pl_cons ?_))) | ((with_reducible refine la_id ?_); refine la_pick ?_; (conv => arg 1; whnf); (repeat ((fail_if_success (first | ((refine la_q0 rfl ?_); (try (conv => arg 1; simp [@cl1_get, ltS, nm_ne, tk_ne, hF])); with_reducible refine evp ?_) | ((refine la_n rfl rfl ?_); (try (conv => arg 1; simp [@cl1_get, ltS, nm_ne, tk_ne, hF])); with_reducible refine evp ?_) | ((refine la_q2 rfl (by decide +kernel) ?_); (repeat (first | refine bk_nil ?_ | refine bk_t (by decide +kernel) ?_ | refine bk_f (by decide +kernel) ?_)); (try (conv => arg 1; simp [@cl1_get, ltS, nm_ne, tk_ne, hF])); with_reducible refine evp ?_) | ((refine la_q1 rfl (by decide +kernel) ?_); (try (conv => arg 1; simp [@cl1_get, ltS, nm_ne, tk_ne, hF])); with_reducible refine evp ?_) | ((refine la_g0 rfl ?_); (try (conv => arg 1; simp [@cl1_get, ltS, nm_ne, tk_ne, hF])); with_reducible refine evp ?_; (with_reducible refine evp ?_); try ((try (conv => arg 1; simp [@cl1_get, ltS, nm_ne, tk_ne, hF])); with_reducible refine evp ?_)))); (refine la_there ?_); (conv => arg 1; whnf))); first | ((refine la_q0 rfl ?_); (try (conv => arg 1; simp [@cl1_get, ltS, nm_ne, tk_ne, hF])); with_reducible refine evp ?_) | ((refine la_n rfl rfl ?_); (try (conv => arg 1; simp [@cl1_get, ltS, nm_ne, tk_ne, hF])); with_reducible refine evp ?_) | ((refine la_q2 rfl (by decide +kernel) ?_); (repeat (first | refine bk_nil ?_ | refine bk_t (by decide +kernel) ?_ | refine bk_f (by decide +kernel) ?_)); (try (conv => arg 1; simp [@cl1_get, ltS, nm_ne, tk_ne, hF])); with_reducible refine evp ?_) | ((refine la_q1 rfl (by decide +kernel) ?_); (try (conv => arg 1; simp [@cl1_get, ltS, nm_ne, tk_ne, hF])); with_reducible refine evp ?_) | ((refine la_g0 rfl ?_); (try (conv => arg 1; simp [@cl1_get, ltS, nm_ne, tk_ne, hF])); with_reducible refine evp ?_; (with_reducible refine evp ?_); try ((try (conv => arg 1; simp [@cl1_get, ltS, nm_ne, tk_ne, hF])); with_reducible refine evp ?_))) | ((with_reducible refine la_id ?_); refine la_all rfl ?_) | ((with_reducible refine all_id ?_); (conv => arg 1; whnf); first | exact all_nil | refine all_cons ?_ ?_) | (refine la_op rfl (by first | exact frm_s (by decide +kernel) | exact frm_a (by repeat' (first | exact fa_nil | refine fa_cons (by decide +kernel) ?_))) (by intro hq; first | exact trivial | (cases hq; done) | simp [appT, @cl1_get, ltS, nm_ne, tk_ne, hF]) ?_; (repeat (first | refine bk_nil ?_ | refine bk_t (by decide +kernel) ?_ | refine bk_f (by decide +kernel) ?_))) | fail)
        refine ⟨rfl, X3.dropOf ⟨?_, wo2, bo2, f2, ?_⟩⟩
        · rw [map_len_set (by simp [hq])]; exact ln2
        · rw [← cl1_set]
          exact (Cx.rgs_put (Cx.to y2) hqk hq (mem[q].set j (rd vars e)))
      · have es : stepR ⟨mem, vars, inp, fu, none, val, out⟩ ⟨4, D, A, c, e, q, Text⟩ = ⟨mem, vars, inp, fu, some 1, val, out⟩ := by simp [stepR, hix, memR, hq, hj]
        rw [es]
        have X3 := X2
        have bx2 := X2.top
        obtain ⟨ln2, wo2, bo2, f2, y2⟩ := X2
        have b2 := y2.bxs
        simp only [Bxs, runB, codeS, overS] at b2
        repeat' (first | (with_reducible first | refine stp ?_ | refine k_blk_o rfl ?_) | ((try (conv => arg 1; simp [b2, bx2, ltS, nm_ne, tk_ne])); with_reducible refine evp ?_) | ((with_reducible refine la_id ?_); refine la_end rfl ?_; (repeat (first | refine pl_nil ?_ | refine pl_cons ?_))) | ((with_reducible refine la_id ?_); refine la_pick ?_; (conv => arg 1; whnf); (repeat ((fail_if_success (first | ((refine la_q0 rfl ?_); (try (conv => arg 1; simp [b2, bx2, ltS, nm_ne, tk_ne])); with_reducible refine evp ?_) | ((refine la_n rfl rfl ?_); (try (conv => arg 1; simp [b2, bx2, ltS, nm_ne, tk_ne])); with_reducible refine evp ?_) | ((refine la_q2 rfl (by decide +kernel) ?_); (repeat (first | refine bk_nil ?_ | refine bk_t (by decide +kernel) ?_ | refine bk_f (by decide +kernel) ?_)); (try (conv => arg 1; simp [b2, bx2, ltS, nm_ne, tk_ne])); with_reducible refine evp ?_) | ((refine la_q1 rfl (by decide +kernel) ?_); (try (conv => arg 1; simp [b2, bx2, ltS, nm_ne, tk_ne])); with_reducible refine evp ?_) | ((refine la_g0 rfl ?_); (try (conv => arg 1; simp [b2, bx2, ltS, nm_ne, tk_ne])); with_reducible refine evp ?_; (with_reducible refine evp ?_); try ((try (conv => arg 1; simp [b2, bx2, ltS, nm_ne, tk_ne])); with_reducible refine evp ?_)))); (refine la_there ?_); (conv => arg 1; whnf))); first | ((refine la_q0 rfl ?_); (try (conv => arg 1; simp [b2, bx2, ltS, nm_ne, tk_ne])); with_reducible refine evp ?_) | ((refine la_n rfl rfl ?_); (try (conv => arg 1; simp [b2, bx2, ltS, nm_ne, tk_ne])); with_reducible refine evp ?_) | ((refine la_q2 rfl (by decide +kernel) ?_); (repeat (first | refine bk_nil ?_ | refine bk_t (by decide +kernel) ?_ | refine bk_f (by decide +kernel) ?_)); (try (conv => arg 1; simp [b2, bx2, ltS, nm_ne, tk_ne])); with_reducible refine evp ?_) | ((refine la_q1 rfl (by decide +kernel) ?_); (try (conv => arg 1; simp [b2, bx2, ltS, nm_ne, tk_ne])); with_reducible refine evp ?_) | ((refine la_g0 rfl ?_); (try (conv => arg 1; simp [b2, bx2, ltS, nm_ne, tk_ne])); with_reducible refine evp ?_; (with_reducible refine evp ?_); try ((try (conv => arg 1; simp [b2, bx2, ltS, nm_ne, tk_ne])); with_reducible refine evp ?_))) | ((with_reducible refine la_id ?_); refine la_all rfl ?_) | ((with_reducible refine all_id ?_); (conv => arg 1; whnf); first | exact all_nil | refine all_cons ?_ ?_) | (refine la_op rfl (by first | exact frm_s (by decide +kernel) | exact frm_a (by repeat' (first | exact fa_nil | refine fa_cons (by decide +kernel) ?_))) (by intro hq; first | exact trivial | (cases hq; done) | simp [appT, b2, bx2, ltS, nm_ne, tk_ne]) ?_; (repeat (first | refine bk_nil ?_ | refine bk_t (by decide +kernel) ?_ | refine bk_f (by decide +kernel) ?_))) | fail)
        repeat' (first | (with_reducible first | refine stp ?_ | refine k_blk_o rfl ?_ | refine k_seq_n ?_) | ((try (conv => arg 1; simp [b2, bx2, ltS, nm_ne, tk_ne])); with_reducible refine evp ?_) | fail)
        exact ⟨rfl, X3.dropOf ⟨ln2, wo2, bo2, f2, Cx.to y2⟩⟩
end
end Go.Proofs.YtlmlkkkgcbpaoaaGreat.AM

namespace Go.Proofs.YtlmlkkkgcbpaoaaGreat.AM
open Go.RowKit

private def MG88 : FuncId → Mode := fun f => if f = 141 ∨ f = 142 then .heap else .tree

section
variable {h : Hp} {bs : Bx} {os : Ox} {m : RM} {s : Rs}
/-- What a walk's box tells. -/
structure RXB (m : RM) (s : Rs) (h : Hp) : Prop where
  run : ∃ wo : AV, h.rows m.nr = some (runB m s wo) ∧ (wo.one = true ∧ wo.stored = true ∧ wo.cells = [wo])
  lt : m.nr.1 < h.tick
  vars : h.rows m.kv = some ⟨m.vv, 1, cl1 s.vars⟩
  lv : m.kv.1 < h.tick
theorem RX.b (X : RX m s bs os h) : RXB m s h := by
  obtain ⟨ln, wo, bo, f, y⟩ := X
  have b := y.bxs
  simp only [Bxs] at b
  exact ⟨⟨wo, b.1, f.one⟩, b.2.1, b.2.2.1, b.2.2.2.1⟩

set_option maxHeartbeats 4000000 in
theorem l05Block {g : Graph} (X : RX m s bs os h) (o : RsOk g s) (hst : s.st = none) {i : Nat} (hi : i < g.Blocks.length) (hc : g.Blocks[i].Code.length ≤ 2 ^ 20) :
    Sound Tryz.prog 90 [.ptr m.nr 0 0 0, .agg (g.Blocks[i].cells true)] h fun v h' => v = .int .i64 (blockR s g.Blocks[i]).2 ∧ RX m (blockR s g.Blocks[i]).1 bs os h' := by
  obtain ⟨_, hin, hj⟩ := blk_ok o.ok hi
  generalize g.Blocks[i] = B at *
  obtain ⟨Code, Jump, A, To, Else⟩ := B
  simp only at hc hin hj
  refine enter mixed MG88 Tryz.func90 rfl (by kernel_rfl) rfl ?_
  repeat' (first | (with_reducible first | refine stp ?_ | refine k_blk_o rfl ?_) | ((try (conv => arg 1; simp [Block.cells])); with_reducible refine evp ?_) | fail)
  refine gen_k (fun h' => RX m s (((h.tick, 0, 0), ⟨0, 5, [[instrs true Code, .int .i64 Jump, .int .i64 A, .int .i64 To, .int .i64 Else]]⟩) :: bs) os h') (X.new _) ?_
  intro h1 X1
  have bx := X1.top
  repeat' (first | (with_reducible first | refine stp ?_ | refine k_blk_o rfl ?_ | refine k_seq_n ?_) | ((try (conv => arg 1; simp [bx, ltS, nm_ne])); with_reducible refine evp ?_) | fail)
  refine st_loop (fun (k : Nat) σ h' => k ≤ Code.length ∧ σ 0 = .ptr m.nr 0 0 0 ∧ σ 3 = .ptr (h.tick, 0, 0) 0 0 0 ∧ σ 5 = .int .i64 k ∧ ∃ t, RsOk g t ∧ ¬ t.st = some 0 ∧ codeR t (Code.drop k) = codeR s Code ∧ RX m t (((h.tick, 0, 0), ⟨0, 5, [[instrs true Code, .int .i64 Jump, .int .i64 A, .int .i64 To, .int .i64 Else]]⟩) :: bs) os h') (fun k => Code.length - k) 0 ?init ?step
  case init => exact ⟨Nat.zero_le _, by simp, by simp, by simp, s, o, by rw [hst]; simp, rfl, X1.next⟩
  case step =>
    rintro k σ h' ⟨hk, s0, s3, s5, t, ot, t0, ek, X2⟩
    have bx := X2.top
    obtain ⟨⟨wo, br, qo⟩, bl, bv, bw⟩ := X2.b
    simp only [runB, codeS, overS] at br
    have hkw : IntKind.i64.wrap (k + 1) = k + 1 := wrap_id (by omega) (by omega)
    by_cases hlt : k < Code.length ∧ t.st = none
    · obtain ⟨hlt, htn⟩ := hlt
      have hlt2 : (k : Int) < Code.length := by omega
      have hx : Code[k]? = some Code[k] := by simp
      have hlen : (Code[k]).cells.length = 7 := rfl
      have hok := instrOk_x ot (hin _ (List.getElem_mem hlt))
      have hml := fun q (hq : q < t.mem.length) => ot.len hq
      rw [htn] at br
      simp only [Option.getD_none] at br
      rw [codeR_drop htn hlt] at ek
      repeat' (first | (with_reducible first | refine stp ?_ | refine k_blk_o rfl ?_ | refine k_seq_n ?_) | ((try (conv => arg 1; simp [s0, s3, s5, bx, br, bl, qo.1, qo.2.1, qo.2.2, instrs, hlt, hlt2, hx, hlen, ltS, nm_ne])); with_reducible refine evp ?_) | fail)
      refine st_heap rfl (l03Burn (s := t) X2.next.next (by have := ot.out; omega)) ?_
      rintro v h2 ⟨rfl, X3⟩
      have bx3 := X3.top
      have eb : burnT t = burnR t := by simp [burnT, htn]
      rw [eb] at X3 ⊢
      cases hb : (burnR t).st with
      | none =>
        have ei : insR t Code[k] = stepR (burnR t) Code[k] := by simp [insR, hb]
        have kb := burnR_kp t
        have ob := ot.kp kb
        repeat' (first | (with_reducible first | refine stp ?_ | refine k_blk_o rfl ?_ | refine k_seq_n ?_) | ((try (conv => arg 1; simp [s0, s3, s5, bx3, hb, instrs, hlt, hlt2, hx, hlen, ltS, nm_ne])); with_reducible refine evp ?_) | fail)
        refine st_heap rfl (l05Step X3.next hb (instrOk_x ob (hin _ (List.getElem_mem hlt))) (fun q hq => ob.len hq) ob.inp (by have := ob.out; omega)) ?_
        rintro v h3 ⟨rfl, X4⟩
        rw [← ei] at X4
        repeat' (first | (with_reducible first | refine stp ?_ | refine k_blk_o rfl ?_ | refine k_seq_n ?_) | ((try (conv => arg 1; simp [s5, hkw])); with_reducible refine evp ?_) | fail)
        refine k_lp_n (k + 1) (by omega) ⟨by omega, by simp [s0], by simp [s3], by simp, insR t Code[k], ot.kp (insR_kp t _), insR_st htn _, ek, X4.next⟩
      | some c =>
        have ei : insR t Code[k] = burnR t := by simp [insR, hb]
        rw [← ei] at X3
        repeat' (first | (with_reducible first | refine stp ?_ | refine k_blk_o rfl ?_ | refine k_seq_n ?_) | ((try (conv => arg 1; simp [s5, hb, hkw])); with_reducible refine evp ?_) | fail)
        refine k_lp_n (k + 1) (by omega) ⟨by omega, by simp [s0], by simp [s3], by simp, insR t Code[k], ot.kp (insR_kp t _), insR_st htn _, ek, X3.next⟩
    · have et : codeR s Code = t := by
        rw [← ek]
        by_cases htn : t.st = none
        · have : Code.length ≤ k := by
            rcases Nat.lt_or_ge k Code.length with e | e
            · exact absurd ⟨e, htn⟩ hlt
            · exact e
          rw [List.drop_of_length_le this]
          rfl
        · exact codeR_stop htn _
      have eb : blockR s ⟨Code, Jump, A, To, Else⟩ = if t.st = none then jumpR (burnR t) ⟨Code, Jump, A, To, Else⟩ else (t, 0) := by simp only [blockR, et]
      rw [eb]
      cases hts : t.st with
      | some c =>
        have hc0 : ¬ c = 0 := fun e => t0 (by rw [hts, e])
        have ebt : burnT t = t := by simp [burnT, hts]
        rw [hts] at br
        simp only [Option.getD_some] at br
        by_cases hkl : (k : Int) < Code.length
        · skip
          repeat' (first | (with_reducible first | refine stp ?_ | refine k_blk_o rfl ?_ | refine k_seq_n ?_) | ((try (conv => arg 1; simp [s0, s3, s5, bx, br, bl, qo.1, qo.2.1, qo.2.2, instrs, hkl, hc0, ltS, nm_ne])); with_reducible refine evp ?_) | fail)
          refine st_heap rfl (l03Burn (s := t) X2.next.next (by have := ot.out; omega)) ?_
          rintro v h2 ⟨rfl, X3⟩
          rw [ebt] at X3 ⊢
          repeat' (first | (with_reducible first | refine stp ?_ | refine k_blk_o rfl ?_ | refine k_seq_n ?_) | ((try (conv => arg 1; simp [hts])); with_reducible refine evp ?_) | fail)
          exact ⟨rfl, X3.next.drop⟩
        · skip
          repeat' (first | (with_reducible first | refine stp ?_ | refine k_blk_o rfl ?_ | refine k_seq_n ?_) | ((try (conv => arg 1; simp [s0, s3, s5, bx, br, bl, qo.1, qo.2.1, qo.2.2, instrs, hkl, hc0, ltS, nm_ne])); with_reducible refine evp ?_) | fail)
          refine st_heap rfl (l03Burn (s := t) X2.next.next (by have := ot.out; omega)) ?_
          rintro v h2 ⟨rfl, X3⟩
          rw [ebt] at X3 ⊢
          repeat' (first | (with_reducible first | refine stp ?_ | refine k_blk_o rfl ?_ | refine k_seq_n ?_) | ((try (conv => arg 1; simp [hts])); with_reducible refine evp ?_) | fail)
          exact ⟨rfl, X3.next.drop⟩
      | none =>
        have hkl : ¬ (k : Int) < Code.length := fun e => hlt ⟨by omega, hts⟩
        have ebt : burnT t = burnR t := by simp [burnT, hts]
        rw [hts] at br
        simp only [Option.getD_none] at br
        repeat' (first | (with_reducible first | refine stp ?_ | refine k_blk_o rfl ?_ | refine k_seq_n ?_) | ((try (conv => arg 1; simp [s0, s3, s5, bx, br, bl, qo.1, qo.2.1, qo.2.2, instrs, hkl, ltS, nm_ne])); with_reducible refine evp ?_) | fail)
        refine st_heap rfl (l03Burn (s := t) X2.next.next (by have := ot.out; omega)) ?_
        rintro v h2 ⟨rfl, X3⟩
        rw [ebt] at X3 ⊢
        rw [if_pos rfl]
        have ou := ot.kp (burnR_kp t)
        generalize burnR t = u at *
        cases hus : u.st with
        | some c =>
          repeat' (first | (with_reducible first | refine stp ?_ | refine k_blk_o rfl ?_ | refine k_seq_n ?_) | ((try (conv => arg 1; simp [hus])); with_reducible refine evp ?_) | fail)
          have ej : jumpR u ⟨Code, Jump, A, To, Else⟩ = (u, 0) := by simp [jumpR, hus]
          rw [ej]
          exact ⟨rfl, X3.next.drop⟩
        | none =>
          have bx3 := X3.top
          have X5 := X3
          obtain ⟨ln, wo3, bo, f, y⟩ := X3
          have b3 := y.bxs
          simp only [Bxs, runB, codeS, overS, hus, Option.getD_none] at b3
          have q3 := f.one
          have hvl := ou.vars
          have nrl : m.nr.1 < h.tick := X.b.lt
          have apn := y.aps
          simp only [List.map_cons, Aps] at apn
          have hkn : ¬ m.kv = m.nr := (apn.1 m.kv (by simp)).2
          rcases hj with ⟨hJ, t', hT, ht'⟩ | ⟨hJ, t', e', a, ⟨hT, ht'⟩, ⟨hE, he'⟩, hA, ha⟩ | ⟨hJ, a, hA, ha⟩
          · subst hJ
            have ej : jumpR u ⟨Code, 0, A, To, Else⟩ = (u, To) := by simp [jumpR, hus]
            rw [ej]
            repeat' (first | (with_reducible first | refine stp ?_ | refine k_blk_o rfl ?_ | refine k_seq_n ?_) | ((try (conv => arg 1; simp [s0, s3, bx3, b3, q3.1, q3.2.1, q3.2.2, ltS, nm_ne])); with_reducible refine evp ?_) | fail)
            repeat (with_reducible first | refine stp ?_ | refine k_seq_n ?_)
            refine st_lz (by kernel_rfl) ?_
            have hF := And.intro s0 (And.intro s3 (And.intro bx3 (And.intro b3 (And.intro q3.1 (And.intro q3.2.1 q3.2.2)))))
            repeat' (first | (with_reducible first | refine stp ?_ | refine k_blk_o rfl ?_) | ((try (conv => arg 1; simp [ltS, nm_ne, hF])); with_reducible refine evp ?_) | ((with_reducible refine la_id ?_); refine la_end rfl ?_; (repeat (first | refine pl_nil ?_ | refine pl_cons ?_))) | ((with_reducible refine la_id ?_); refine la_pick ?_; (conv => arg 1; whnf); (repeat ((fail_if_success (first | ((refine la_q0 rfl ?_); (try (conv => arg 1; simp [ltS, nm_ne, hF])); with_reducible refine evp ?_) | ((refine la_n rfl rfl ?_); (try (conv => arg 1; simp [ltS, nm_ne, hF])); with_reducible refine evp ?_) | ((refine la_q2 rfl (by decide +kernel) ?_); (repeat (first | refine bk_nil ?_ | refine bk_t (by decide +kernel) ?_ | refine bk_f (by decide +kernel) ?_)); (try (conv => arg 1; simp [ltS, nm_ne, hF])); with_reducible refine evp ?_) | ((refine la_q1 rfl (by decide +kernel) ?_); (try (conv => arg 1; simp [ltS, nm_ne, hF])); with_reducible refine evp ?_) | ((refine la_g0 rfl ?_); (try (conv => arg 1; simp [ltS, nm_ne, hF])); with_reducible refine evp ?_; (with_reducible refine evp ?_); try ((try (conv => arg 1; simp [ltS, nm_ne, hF])); with_reducible refine evp ?_)))); (refine la_there ?_); (conv => arg 1; whnf))); first | ((refine la_q0 rfl ?_); (try (conv => arg 1; simp [ltS, nm_ne, hF])); with_reducible refine evp ?_) | ((refine la_n rfl rfl ?_); (try (conv => arg 1; simp [ltS, nm_ne, hF])); with_reducible refine evp ?_) | ((refine la_q2 rfl (by decide +kernel) ?_); (repeat (first | refine bk_nil ?_ | refine bk_t (by decide +kernel) ?_ | refine bk_f (by decide +kernel) ?_)); (try (conv => arg 1; simp [ltS, nm_ne, hF])); with_reducible refine evp ?_) | ((refine la_q1 rfl (by decide +kernel) ?_); (try (conv => arg 1; simp [ltS, nm_ne, hF])); with_reducible refine evp ?_) | ((refine la_g0 rfl ?_); (try (conv => arg 1; simp [ltS, nm_ne, hF])); with_reducible refine evp ?_; (with_reducible refine evp ?_); try ((try (conv => arg 1; simp [ltS, nm_ne, hF])); with_reducible refine evp ?_))) | ((with_reducible refine la_id ?_); refine la_all rfl ?_) | ((with_reducible refine all_id ?_); (conv => arg 1; whnf); first | exact all_nil | refine all_cons ?_ ?_) | (refine la_op rfl (by first | exact frm_s (by decide +kernel) | exact frm_a (by repeat' (first | exact fa_nil | refine fa_cons (by decide +kernel) ?_))) (by intro hq; first | exact trivial | (cases hq; done) | simp [appT, ltS, nm_ne, hF]) ?_; (repeat (first | refine bk_nil ?_ | refine bk_t (by decide +kernel) ?_ | refine bk_f (by decide +kernel) ?_))) | fail)
            repeat' (first | (with_reducible first | refine stp ?_ | refine k_blk_o rfl ?_ | refine k_seq_n ?_) | ((try (conv => arg 1; simp [s0, s3, bx3, b3, ltS, nm_ne])); with_reducible refine evp ?_) | fail)
            exact ⟨rfl, X5.dropOf ⟨ln, wo3, bo, f, Cx.to y⟩⟩
          · subst hJ hA
            have hal : a < u.vars.length := by omega
            have hal2 : (a : Int) < u.vars.length := by omega
            have hva := cl1_rd hal
            by_cases hz : rd u.vars a = 0
            · have ej : jumpR u ⟨Code, 1, a, To, Else⟩ = (u, Else) := by simp [jumpR, hus, hz]
              rw [ej]
              repeat' (first | (with_reducible first | refine stp ?_ | refine k_blk_o rfl ?_ | refine k_seq_n ?_) | ((try (conv => arg 1; simp [s0, s3, bx3, b3, q3.1, q3.2.1, q3.2.2, ltS, nm_ne])); with_reducible refine evp ?_) | fail)
              repeat (with_reducible first | refine stp ?_ | refine k_seq_n ?_)
              refine st_draw 15 (fun _ => false) (by kernel_rfl) ?_
              simp only [List.take_succ_cons, List.take_zero, List.drop_succ_cons, List.drop_zero, List.take_nil, List.drop_nil]
              repeat' (first | (with_reducible first | refine stp ?_ | refine k_blk_o rfl ?_ | refine k_seq_n ?_) | ((try (conv => arg 1; simp [s0, s3, bx3, b3, q3.1, q3.2.1, q3.2.2, hva, hal, hal2, hz, @cl1_get, maskR, ltS, nm_ne, tk_ne])); with_reducible refine evp ?_) | ((with_reducible refine apn ?na ?_); (case na => simp [appNames, ints, intss] <;> first | kernel_rfl | (refine ⟨?_, ?_⟩ <;> kernel_rfl))) | fail)
              exact ⟨rfl, X5.dropOf ⟨ln, wo3, bo, f, Cx.to y⟩⟩
            · have ej : jumpR u ⟨Code, 1, a, To, Else⟩ = (u, To) := by simp [jumpR, hus, hz]
              rw [ej]
              repeat' (first | (with_reducible first | refine stp ?_ | refine k_blk_o rfl ?_ | refine k_seq_n ?_) | ((try (conv => arg 1; simp [s0, s3, bx3, b3, q3.1, q3.2.1, q3.2.2, ltS, nm_ne])); with_reducible refine evp ?_) | ((with_reducible refine apn ?na ?_); (case na => simp [appNames, ints, intss] <;> first | kernel_rfl | (refine ⟨?_, ?_⟩ <;> kernel_rfl))) | fail)
              repeat (with_reducible first | refine stp ?_ | refine k_seq_n ?_)
              refine st_draw 15 (fun _ => false) (by kernel_rfl) ?_
              simp only [List.take_succ_cons, List.take_zero, List.drop_succ_cons, List.drop_zero, List.take_nil, List.drop_nil]
              repeat' (first | (with_reducible first | refine stp ?_ | refine k_blk_o rfl ?_ | refine k_seq_n ?_) | ((try (conv => arg 1; simp [s0, s3, bx3, b3, q3.1, q3.2.1, q3.2.2, hva, hal, hal2, hz, @cl1_get, maskR, ltS, nm_ne, tk_ne])); with_reducible refine evp ?_) | ((with_reducible refine apn ?na ?_); (case na => simp [appNames, ints, intss] <;> first | kernel_rfl | (refine ⟨?_, ?_⟩ <;> kernel_rfl))) | fail)
              exact ⟨rfl, X5.dropOf ⟨ln, wo3, bo, f, Cx.to y⟩⟩
          · subst hJ hA
            have hal : a < u.vars.length := by omega
            have hal2 : (a : Int) < u.vars.length := by omega
            have hva := cl1_rd hal
            have ej : jumpR u ⟨Code, 2, a, To, Else⟩ = ({ u with st := some 0, val := rd u.vars a }, To) := by simp [jumpR, hus]
            rw [ej]
            repeat' (first | (with_reducible first | refine stp ?_ | refine k_blk_o rfl ?_ | refine k_seq_n ?_) | ((try (conv => arg 1; simp [s0, s3, bx3, b3, q3.1, q3.2.1, q3.2.2, ltS, nm_ne])); with_reducible refine evp ?_) | ((with_reducible refine apn ?na ?_); (case na => simp [appNames, ints, intss] <;> first | kernel_rfl | (refine ⟨?_, ?_⟩ <;> kernel_rfl))) | fail)
            repeat (with_reducible first | refine stp ?_ | refine k_seq_n ?_)
            refine st_lz (by kernel_rfl) ?_
            have hF := And.intro s0 (And.intro s3 (And.intro bx3 (And.intro b3 (And.intro q3.1 (And.intro q3.2.1 (And.intro q3.2.2 (And.intro hva (And.intro hal (And.intro hal2 (And.intro nrl hkn))))))))))
            repeat' (first | (with_reducible first | refine stp ?_ | refine k_blk_o rfl ?_) | ((try (conv => arg 1; simp [@nm_ne', @cl1_get, ltS, nm_ne, hF])); with_reducible refine evp ?_) | ((with_reducible refine apn ?na ?_); (case na => simp [appNames, ints, intss] <;> first | kernel_rfl | (refine ⟨?_, ?_⟩ <;> kernel_rfl))) | ((with_reducible refine la_id ?_); refine la_end rfl ?_; (repeat (first | refine pl_nil ?_ | refine pl_cons ?_))) | ((with_reducible refine la_id ?_); refine la_pick ?_; (conv => arg 1; whnf); (repeat ((fail_if_success (first | ((refine la_q0 rfl ?_); (try (conv => arg 1; simp [@nm_ne', @cl1_get, ltS, nm_ne, hF])); with_reducible refine evp ?_) | ((refine la_n rfl rfl ?_); (try (conv => arg 1; simp [@nm_ne', @cl1_get, ltS, nm_ne, hF])); with_reducible refine evp ?_) | ((refine la_q2 rfl (by decide +kernel) ?_); (repeat (first | refine bk_nil ?_ | refine bk_t (by decide +kernel) ?_ | refine bk_f (by decide +kernel) ?_)); (try (conv => arg 1; simp [@nm_ne', @cl1_get, ltS, nm_ne, hF])); with_reducible refine evp ?_) | ((refine la_q1 rfl (by decide +kernel) ?_); (try (conv => arg 1; simp [@nm_ne', @cl1_get, ltS, nm_ne, hF])); with_reducible refine evp ?_) | ((refine la_g0 rfl ?_); (try (conv => arg 1; simp [@nm_ne', @cl1_get, ltS, nm_ne, hF])); with_reducible refine evp ?_; (with_reducible refine evp ?_); try ((try (conv => arg 1; simp [@nm_ne', @cl1_get, ltS, nm_ne, hF])); with_reducible refine evp ?_)))); (refine la_there ?_); (conv => arg 1; whnf))); first | ((refine la_q0 rfl ?_); (try (conv => arg 1; simp [@nm_ne', @cl1_get, ltS, nm_ne, hF])); with_reducible refine evp ?_) | ((refine la_n rfl rfl ?_); (try (conv => arg 1; simp [@nm_ne', @cl1_get, ltS, nm_ne, hF])); with_reducible refine evp ?_) | ((refine la_q2 rfl (by decide +kernel) ?_); (repeat (first | refine bk_nil ?_ | refine bk_t (by decide +kernel) ?_ | refine bk_f (by decide +kernel) ?_)); (try (conv => arg 1; simp [@nm_ne', @cl1_get, ltS, nm_ne, hF])); with_reducible refine evp ?_) | ((refine la_q1 rfl (by decide +kernel) ?_); (try (conv => arg 1; simp [@nm_ne', @cl1_get, ltS, nm_ne, hF])); with_reducible refine evp ?_) | ((refine la_g0 rfl ?_); (try (conv => arg 1; simp [@nm_ne', @cl1_get, ltS, nm_ne, hF])); with_reducible refine evp ?_; (with_reducible refine evp ?_); try ((try (conv => arg 1; simp [@nm_ne', @cl1_get, ltS, nm_ne, hF])); with_reducible refine evp ?_))) | ((with_reducible refine la_id ?_); refine la_all rfl ?_) | ((with_reducible refine all_id ?_); (conv => arg 1; whnf); first | exact all_nil | refine all_cons ?_ ?_) | (refine la_op rfl (by first | exact frm_s (by decide +kernel) | exact frm_a (by repeat' (first | exact fa_nil | refine fa_cons (by decide +kernel) ?_))) (by intro hq; first | exact trivial | (cases hq; done) | simp [appT, @nm_ne', @cl1_get, ltS, nm_ne, hF]) ?_; (repeat (first | refine bk_nil ?_ | refine bk_t (by decide +kernel) ?_ | refine bk_f (by decide +kernel) ?_))) | fail)
            repeat' (first | (with_reducible first | refine stp ?_ | refine k_blk_o rfl ?_ | refine k_seq_n ?_) | ((try (conv => arg 1; simp [s0, s3, bx3, b3, nrl, nm_ne', ltS, nm_ne])); with_reducible refine evp ?_) | ((with_reducible refine apn ?na ?_); (case na => simp [appNames, ints, intss] <;> first | kernel_rfl | (refine ⟨?_, ?_⟩ <;> kernel_rfl))) | fail)
            exact ⟨rfl, X5.dropOf ⟨ln, wo3, bo, f, Cx.to y⟩⟩
end
end Go.Proofs.YtlmlkkkgcbpaoaaGreat.AM

namespace Go.Proofs.YtlmlkkkgcbpaoaaGreat.AM
open Go.RowKit

private def MG89 : FuncId → Mode := fun f => if f = 89 ∨ f = 90 ∨ f = 140 ∨ f = 50 then .heap else .tree

section
variable {h : Hp} {bs : Bx} {os : Ox} {m : RM} {s : Rs}
set_option maxHeartbeats 1000000 in
theorem l03EndN (X : RX m s bs os h) (hs : s.st = some 2) (ho : s.out = []) : Sound Tryz.prog 140 [.ptr m.nr 0 0 0] h fun v h' => ∃ k : Nm, v = .agg [.int .i64 2, .int .i64 0, .sl k 0 0 0] ∧ RX m s ((k, ⟨0, 1, []⟩) :: bs) os h' := by
  obtain ⟨mem, vars, inp, fu, st, val, out⟩ := s
  obtain ⟨ln, wo, bo, f, y⟩ := X
  simp only at hs ho
  subst hs ho
  have b := y.bxs
  simp only [Bxs, runB, codeS, overS, Option.getD_some] at b
  have q := f.one
  have hsrc : ∀ h' : Hp, (∀ n r, h.rows n = some r → n.1 < h.tick → h'.rows n = some r) → srcElems h'.rows wo = some [] := fun h' hk => by
    rcases f with ⟨rfl, _, _⟩ | ⟨k, ver, sp, rfl, _, rfl⟩
    · rfl
    · have hm : ((k, (⟨ver, 1, cl1 [] ++ sp⟩ : Row)) : Nm × Row) ∈ (m.nr, runB m ⟨mem, vars, inp, fu, some 2, val, []⟩ (AV.sl k ver 0 (cl1 []).length)) :: (m.kv, (⟨m.vv, 1, cl1 vars⟩ : Row)) :: (m.km, (⟨m.vm, 1, m.hdr⟩ : Row)) :: ([(k, (⟨ver, 1, cl1 [] ++ sp⟩ : Row))] ++ (rgs m.ks mem ++ bs)) := by simp
      have := hk _ _ (y.box _ hm) (y.lt _ (mem_box hm))
      simp [srcElems, cl1] at this ⊢
      simp [this]
  refine enter mixed MG89 Tryz.func140 rfl (by kernel_rfl) rfl ?_
  repeat' (first | (with_reducible first | refine stp ?_ | refine k_blk_o rfl ?_) | ((try (conv => arg 1; simp [b, ltS, nm_ne])); with_reducible refine evp ?_) | fail)
  repeat (with_reducible first | refine stp ?_ | refine k_seq_n ?_)
  refine st_lz (by kernel_rfl) ?_
  have hF := And.intro b (And.intro q.1 (And.intro q.2.1 q.2.2))
  repeat' (first | (with_reducible first | refine stp ?_ | refine k_blk_o rfl ?_) | ((try (conv => arg 1; simp [ltS, nm_ne, hF])); with_reducible refine evp ?_) | ((with_reducible refine la_id ?_); refine la_end rfl ?_; (repeat (first | refine pl_nil ?_ | refine pl_cons ?_))) | ((with_reducible refine la_id ?_); refine la_pick ?_; (conv => arg 1; whnf); (repeat ((fail_if_success (first | ((refine la_q0 rfl ?_); (try (conv => arg 1; simp [ltS, nm_ne, hF])); with_reducible refine evp ?_) | ((refine la_n rfl rfl ?_); (try (conv => arg 1; simp [ltS, nm_ne, hF])); with_reducible refine evp ?_) | ((refine la_q2 rfl (by decide +kernel) ?_); (repeat (first | refine bk_nil ?_ | refine bk_t (by decide +kernel) ?_ | refine bk_f (by decide +kernel) ?_)); (try (conv => arg 1; simp [ltS, nm_ne, hF])); with_reducible refine evp ?_) | ((refine la_q1 rfl (by decide +kernel) ?_); (try (conv => arg 1; simp [ltS, nm_ne, hF])); with_reducible refine evp ?_) | ((refine la_g0 rfl ?_); (try (conv => arg 1; simp [ltS, nm_ne, hF])); with_reducible refine evp ?_; (with_reducible refine evp ?_); try ((try (conv => arg 1; simp [ltS, nm_ne, hF])); with_reducible refine evp ?_)))); (refine la_there ?_); (conv => arg 1; whnf))); first | ((refine la_q0 rfl ?_); (try (conv => arg 1; simp [ltS, nm_ne, hF])); with_reducible refine evp ?_) | ((refine la_n rfl rfl ?_); (try (conv => arg 1; simp [ltS, nm_ne, hF])); with_reducible refine evp ?_) | ((refine la_q2 rfl (by decide +kernel) ?_); (repeat (first | refine bk_nil ?_ | refine bk_t (by decide +kernel) ?_ | refine bk_f (by decide +kernel) ?_)); (try (conv => arg 1; simp [ltS, nm_ne, hF])); with_reducible refine evp ?_) | ((refine la_q1 rfl (by decide +kernel) ?_); (try (conv => arg 1; simp [ltS, nm_ne, hF])); with_reducible refine evp ?_) | ((refine la_g0 rfl ?_); (try (conv => arg 1; simp [ltS, nm_ne, hF])); with_reducible refine evp ?_; (with_reducible refine evp ?_); try ((try (conv => arg 1; simp [ltS, nm_ne, hF])); with_reducible refine evp ?_))) | ((with_reducible refine la_id ?_); refine la_all rfl ?_) | ((with_reducible refine all_id ?_); (conv => arg 1; whnf); first | exact all_nil | refine all_cons ?_ ?_) | (refine la_op rfl (by first | exact frm_s (by decide +kernel) | exact frm_a (by repeat' (first | exact fa_nil | refine fa_cons (by decide +kernel) ?_))) (by intro hq; first | exact trivial | (cases hq; done) | simp [appT, ltS, nm_ne, hF]) ?_; (repeat (first | refine bk_nil ?_ | refine bk_t (by decide +kernel) ?_ | refine bk_f (by decide +kernel) ?_))) | fail)
  all_goals
    conv => arg 1; simp
    rw [appendA_ext (s := 1) (l := []) (len := 0) [] (by kernel_rfl) ?hr rfl ?hx ?he ?hl ?hm]
    case hx => exact hsrc _ fun n r hr hl => by simp [hr, nm_ne hl, nm_ne (ltS hl)]
    case hr => simp
    case he => simp
    case hl => simp
    case hm => simp
    refine ev2_some ?_
    have hF := And.intro b (And.intro q.1 (And.intro q.2.1 q.2.2))
    repeat' (first | (with_reducible first | refine stp ?_ | refine k_blk_o rfl ?_) | ((try (conv => arg 1; simp [ltS, nm_ne, hF])); with_reducible refine evp ?_) | ((with_reducible refine la_id ?_); refine la_end rfl ?_; (repeat (first | refine pl_nil ?_ | refine pl_cons ?_))) | ((with_reducible refine la_id ?_); refine la_pick ?_; (conv => arg 1; whnf); (repeat ((fail_if_success (first | ((refine la_q0 rfl ?_); (try (conv => arg 1; simp [ltS, nm_ne, hF])); with_reducible refine evp ?_) | ((refine la_n rfl rfl ?_); (try (conv => arg 1; simp [ltS, nm_ne, hF])); with_reducible refine evp ?_) | ((refine la_q2 rfl (by decide +kernel) ?_); (repeat (first | refine bk_nil ?_ | refine bk_t (by decide +kernel) ?_ | refine bk_f (by decide +kernel) ?_)); (try (conv => arg 1; simp [ltS, nm_ne, hF])); with_reducible refine evp ?_) | ((refine la_q1 rfl (by decide +kernel) ?_); (try (conv => arg 1; simp [ltS, nm_ne, hF])); with_reducible refine evp ?_) | ((refine la_g0 rfl ?_); (try (conv => arg 1; simp [ltS, nm_ne, hF])); with_reducible refine evp ?_; (with_reducible refine evp ?_); try ((try (conv => arg 1; simp [ltS, nm_ne, hF])); with_reducible refine evp ?_)))); (refine la_there ?_); (conv => arg 1; whnf))); first | ((refine la_q0 rfl ?_); (try (conv => arg 1; simp [ltS, nm_ne, hF])); with_reducible refine evp ?_) | ((refine la_n rfl rfl ?_); (try (conv => arg 1; simp [ltS, nm_ne, hF])); with_reducible refine evp ?_) | ((refine la_q2 rfl (by decide +kernel) ?_); (repeat (first | refine bk_nil ?_ | refine bk_t (by decide +kernel) ?_ | refine bk_f (by decide +kernel) ?_)); (try (conv => arg 1; simp [ltS, nm_ne, hF])); with_reducible refine evp ?_) | ((refine la_q1 rfl (by decide +kernel) ?_); (try (conv => arg 1; simp [ltS, nm_ne, hF])); with_reducible refine evp ?_) | ((refine la_g0 rfl ?_); (try (conv => arg 1; simp [ltS, nm_ne, hF])); with_reducible refine evp ?_; (with_reducible refine evp ?_); try ((try (conv => arg 1; simp [ltS, nm_ne, hF])); with_reducible refine evp ?_))) | ((with_reducible refine la_id ?_); refine la_all rfl ?_) | ((with_reducible refine all_id ?_); (conv => arg 1; whnf); first | exact all_nil | refine all_cons ?_ ?_) | (refine la_op rfl (by first | exact frm_s (by decide +kernel) | exact frm_a (by repeat' (first | exact fa_nil | refine fa_cons (by decide +kernel) ?_))) (by intro hq; first | exact trivial | (cases hq; done) | simp [appT, ltS, nm_ne, hF]) ?_; (repeat (first | refine bk_nil ?_ | refine bk_t (by decide +kernel) ?_ | refine bk_f (by decide +kernel) ?_))) | fail)
    repeat' (first | (with_reducible first | refine stp ?_ | refine k_blk_o rfl ?_ | refine k_seq_n ?_) | ((try (conv => arg 1; simp [b, ltS, nm_ne])); with_reducible refine evp ?_) | fail)
    refine ⟨(h.tick + 1, 4, 0), rfl, ln, wo, bo, f, ?_⟩
    refine Cx.bperm (Cx.have_new y (by omega) (Cx.to y) ?_ ?_) rx_perm
    · simp
    · first | (simp; done) | (simp; omega)

theorem argsG_of {g : Graph} {A I : List Int} : argsG g A I = (graphOk g && decide ((A.length : Int) = g.Params) && decide (I.length ≤ 100)) := rfl
set_option maxHeartbeats 4000000 in
theorem l05Walk0 (g : Graph) (d : g.Small) (A I : List Int) : Pure Tryz.prog 88 [.agg (g.cells true), ints true A, ints true I, .int .i64 0] (.tup [.agg [.int .i64 (if argsG g A I = true then 2 else 3), .int .i64 0, ints false []], .int .i64 0]) := by
  intro T
  have hln := d.len
  have G := graphOkSpec g d.fit
  have hz : inB 0 0 100000 = true := by decide
  refine enter mixed MG89 Tryz.func88 rfl (by kernel_rfl) rfl ?_
  repeat' (first | (with_reducible first | refine stp ?_ | refine k_blk_o rfl ?_) | ((try (conv => arg 1; simp [Graph.cells])); with_reducible refine evp ?_) | fail)
  refine cx_k ((Cx.mt.next.box_one (T := T) (i := 0) Cx.mt.off (by simp)).box_add (n := (T, 1, 0)) (by simp [nms]) (by simp)) ?_
  intro h1 x1
  have b1 := x1.bxs
  simp only [Bxs] at b1
  cases ha : argsG g A I with
  | true =>
    have hs0 := startR_ok ha (fu := 0) (by omega)
    have ha' := ha
    rw [argsG_of] at ha'
    simp only [Bool.and_eq_true, decide_eq_true_eq] at ha'
    obtain ⟨⟨g1, g2⟩, g3⟩ := ha'
    have hd := graphOk_head g1
    have hp := hd.params
    have hsl := hd.slots
    rw [g1] at G
    have g3' : ¬ (100 : Int) < I.length := by omega
    obtain ⟨sl, hsl2⟩ : ∃ n : Nat, g.Slots = (n : Int) := ⟨g.Slots.toNat, by omega⟩
    have hb0 := hd.blocks
    have hsz := hd.sizes
    rw [if_pos rfl]
    repeat' (first | (with_reducible first | refine stp ?_ | refine k_blk_o rfl ?_ | refine k_seq_n ?_) | ((try (conv => arg 1; simp [b1, g2, g3', hz, ltS, nm_ne])); with_reducible refine evp ?_) | ((with_reducible refine tcl ?_); first | ((apply tg (G)); (case e => rfl); (case d => (refine dq ?_); (repeat' (first | ((refine Da.mk ?_); first | exact dr_blocks (by simp) _ | assumption) | constructor)))) | ((apply tg (l01In _ _ _)); (case e => rfl); (case d => (refine dq ?_); (repeat' (first | ((refine Da.mk ?_); first | exact dr_blocks (by simp) _ | assumption) | constructor))))) | fail)
    have L := l03Start x1.next.next g.Sizes A I sl 0 (by omega) (by omega) (by omega) (by omega) (fun n hn => by have := hd.size n hn; omega)
    rw [← hsl2] at L
    refine st_heap rfl L ?_
    rintro v h2 ⟨m, rfl, X2⟩
    have e0 : startR g A I 0 = ⟨mem0 g.Sizes, A ++ zeros (sl - A.length), I, 0, none, 0, []⟩ := by simp [startR, hsl2]
    rw [← e0] at X2
    repeat' (first | (with_reducible first | refine stp ?_ | refine k_blk_o rfl ?_ | refine k_seq_n ?_) | ((try (conv => arg 1; simp [b1])); with_reducible refine evp ?_) | fail)
    refine st_loop (fun (k : Nat) σ h => σ 4 = .ptr (T, 0, 0) 0 0 0 ∧ σ 8 = .ptr (T, 1, 0) 0 0 0 ∧ σ 10 = .ptr m.nr 0 0 0 ∧ ((k = 1 ∧ σ 11 = .int .i64 0 ∧ RX m (startR g A I 0) [((T, 1, 0), ⟨0, 3, [[.int .i64 0, .int .i64 0, .nilsl]]⟩), ((T, 0, 0), graphRow g)] [] h) ∨ (k = 0 ∧ RX m { startR g A I 0 with st := some 2 } [((T, 1, 0), ⟨0, 3, [[.int .i64 0, .int .i64 0, .nilsl]]⟩), ((T, 0, 0), graphRow g)] [] h))) (fun k => k) 1 ?init ?step
    case init => exact ⟨by simp, by simp, by simp, .inl ⟨rfl, by simp, X2.next⟩⟩
    case step =>
      rintro k σ h ⟨s4, s8, s10, hst⟩
      rcases hst with ⟨rfl, s11, X⟩ | ⟨rfl, X⟩
      · obtain ⟨⟨wo, br, qo⟩, bl, _, _⟩ := X.b
        have bg := X.drop.top
        have hsn : (startR g A I 0).st = none := rfl
        simp only [runB, codeS, overS, hsn, Option.getD_none] at br
        simp only [graphRow] at bg
        have hb1 : 0 < g.Blocks.length := by omega
        have hx : g.Blocks[0]? = some g.Blocks[0] := by simp
        have hlen : ((g.Blocks[0]).cells true).length = 5 := rfl
        repeat' (first | (with_reducible first | refine stp ?_ | refine k_blk_o rfl ?_ | refine k_seq_n ?_) | ((try (conv => arg 1; simp [s4, s8, s10, s11, br, bl, bg, qo.1, qo.2.1, qo.2.2, blocks, hb1, hx, hlen, ltS, nm_ne])); with_reducible refine evp ?_) | fail)
        refine st_heap rfl (l05Block X.next.next hs0 rfl hb1 (by have := d.code _ (List.getElem_mem hb1); omega)) ?_
        rintro v h3 ⟨rfl, X3⟩
        rw [blockR_zero rfl rfl] at X3
        repeat' (first | (with_reducible first | refine stp ?_ | refine k_blk_o rfl ?_ | refine k_seq_n ?_) | ((try (conv => arg 1; simp [s4])); with_reducible refine evp ?_) | fail)
        exact k_lp_n 0 (by omega) ⟨by simp [s4], by simp [s8], by simp [s10], .inr ⟨rfl, X3⟩⟩
      · obtain ⟨⟨wo, br, qo⟩, bl, _, _⟩ := X.b
        simp only [runB, codeS, overS, Option.getD_some] at br
        repeat' (first | (with_reducible first | refine stp ?_ | refine k_blk_o rfl ?_ | refine k_seq_n ?_) | ((try (conv => arg 1; simp [s4, s8, s10, br, bl, qo.1, qo.2.1, qo.2.2, ltS, nm_ne])); with_reducible refine evp ?_) | fail)
        repeat (with_reducible first | refine stp ?_ | refine k_seq_n ?_)
        refine st_lz (by kernel_rfl) ?_
        have hF := And.intro s4 (And.intro s8 (And.intro s10 (And.intro br (And.intro bl (And.intro qo.1 (And.intro qo.2.1 qo.2.2))))))
        repeat' (first | (with_reducible first | refine stp ?_ | refine k_blk_o rfl ?_) | ((try (conv => arg 1; simp [ltS, nm_ne, hF])); with_reducible refine evp ?_) | ((with_reducible refine la_id ?_); refine la_end rfl ?_; (repeat (first | refine pl_nil ?_ | refine pl_cons ?_))) | ((with_reducible refine la_id ?_); refine la_pick ?_; (conv => arg 1; whnf); (repeat ((fail_if_success (first | ((refine la_q0 rfl ?_); (try (conv => arg 1; simp [ltS, nm_ne, hF])); with_reducible refine evp ?_) | ((refine la_n rfl rfl ?_); (try (conv => arg 1; simp [ltS, nm_ne, hF])); with_reducible refine evp ?_) | ((refine la_q2 rfl (by decide +kernel) ?_); (repeat (first | refine bk_nil ?_ | refine bk_t (by decide +kernel) ?_ | refine bk_f (by decide +kernel) ?_)); (try (conv => arg 1; simp [ltS, nm_ne, hF])); with_reducible refine evp ?_) | ((refine la_q1 rfl (by decide +kernel) ?_); (try (conv => arg 1; simp [ltS, nm_ne, hF])); with_reducible refine evp ?_) | ((refine la_g0 rfl ?_); (try (conv => arg 1; simp [ltS, nm_ne, hF])); with_reducible refine evp ?_; (with_reducible refine evp ?_); try ((try (conv => arg 1; simp [ltS, nm_ne, hF])); with_reducible refine evp ?_)))); (refine la_there ?_); (conv => arg 1; whnf))); first | ((refine la_q0 rfl ?_); (try (conv => arg 1; simp [ltS, nm_ne, hF])); with_reducible refine evp ?_) | ((refine la_n rfl rfl ?_); (try (conv => arg 1; simp [ltS, nm_ne, hF])); with_reducible refine evp ?_) | ((refine la_q2 rfl (by decide +kernel) ?_); (repeat (first | refine bk_nil ?_ | refine bk_t (by decide +kernel) ?_ | refine bk_f (by decide +kernel) ?_)); (try (conv => arg 1; simp [ltS, nm_ne, hF])); with_reducible refine evp ?_) | ((refine la_q1 rfl (by decide +kernel) ?_); (try (conv => arg 1; simp [ltS, nm_ne, hF])); with_reducible refine evp ?_) | ((refine la_g0 rfl ?_); (try (conv => arg 1; simp [ltS, nm_ne, hF])); with_reducible refine evp ?_; (with_reducible refine evp ?_); try ((try (conv => arg 1; simp [ltS, nm_ne, hF])); with_reducible refine evp ?_))) | ((with_reducible refine la_id ?_); refine la_all rfl ?_) | ((with_reducible refine all_id ?_); (conv => arg 1; whnf); first | exact all_nil | refine all_cons ?_ ?_) | (refine la_op rfl (by first | exact frm_s (by decide +kernel) | exact frm_a (by repeat' (first | exact fa_nil | refine fa_cons (by decide +kernel) ?_))) (by intro hq; first | exact trivial | (cases hq; done) | simp [appT, ltS, nm_ne, hF]) ?_; (repeat (first | refine bk_nil ?_ | refine bk_t (by decide +kernel) ?_ | refine bk_f (by decide +kernel) ?_))) | fail)
        all_goals
          refine st_heap rfl (l03EndN (s := { startR g A I 0 with st := some 2 }) X.next.next rfl rfl) ?_
          rintro v h3 ⟨k, rfl, X3⟩
          obtain ⟨⟨wo3, br3, qo3⟩, bl3, _, _⟩ := X3.b
          have bk := X3.top
          have bt := X3.drop.top
          have hne := X3.drop.nr_ne
          simp only [runB, codeS, overS, Option.getD_some] at br3
          have hF := And.intro s4 (And.intro s8 (And.intro s10 (And.intro br3 (And.intro bl3 (And.intro bk (And.intro bt (And.intro hne.1 (And.intro hne.2 (And.intro qo3.1 (And.intro qo3.2.1 qo3.2.2))))))))))
          repeat' (first | (with_reducible first | refine stp ?_ | refine k_blk_o rfl ?_) | ((try (conv => arg 1; simp [ltS, nm_ne, hF])); with_reducible refine evp ?_) | ((with_reducible refine la_id ?_); refine la_end rfl ?_; (repeat (first | refine pl_nil ?_ | refine pl_cons ?_))) | ((with_reducible refine la_id ?_); refine la_pick ?_; (conv => arg 1; whnf); (repeat ((fail_if_success (first | ((refine la_q0 rfl ?_); (try (conv => arg 1; simp [ltS, nm_ne, hF])); with_reducible refine evp ?_) | ((refine la_n rfl rfl ?_); (try (conv => arg 1; simp [ltS, nm_ne, hF])); with_reducible refine evp ?_) | ((refine la_q2 rfl (by decide +kernel) ?_); (repeat (first | refine bk_nil ?_ | refine bk_t (by decide +kernel) ?_ | refine bk_f (by decide +kernel) ?_)); (try (conv => arg 1; simp [ltS, nm_ne, hF])); with_reducible refine evp ?_) | ((refine la_q1 rfl (by decide +kernel) ?_); (try (conv => arg 1; simp [ltS, nm_ne, hF])); with_reducible refine evp ?_) | ((refine la_g0 rfl ?_); (try (conv => arg 1; simp [ltS, nm_ne, hF])); with_reducible refine evp ?_; (with_reducible refine evp ?_); try ((try (conv => arg 1; simp [ltS, nm_ne, hF])); with_reducible refine evp ?_)))); (refine la_there ?_); (conv => arg 1; whnf))); first | ((refine la_q0 rfl ?_); (try (conv => arg 1; simp [ltS, nm_ne, hF])); with_reducible refine evp ?_) | ((refine la_n rfl rfl ?_); (try (conv => arg 1; simp [ltS, nm_ne, hF])); with_reducible refine evp ?_) | ((refine la_q2 rfl (by decide +kernel) ?_); (repeat (first | refine bk_nil ?_ | refine bk_t (by decide +kernel) ?_ | refine bk_f (by decide +kernel) ?_)); (try (conv => arg 1; simp [ltS, nm_ne, hF])); with_reducible refine evp ?_) | ((refine la_q1 rfl (by decide +kernel) ?_); (try (conv => arg 1; simp [ltS, nm_ne, hF])); with_reducible refine evp ?_) | ((refine la_g0 rfl ?_); (try (conv => arg 1; simp [ltS, nm_ne, hF])); with_reducible refine evp ?_; (with_reducible refine evp ?_); try ((try (conv => arg 1; simp [ltS, nm_ne, hF])); with_reducible refine evp ?_))) | ((with_reducible refine la_id ?_); refine la_all rfl ?_) | ((with_reducible refine all_id ?_); (conv => arg 1; whnf); first | exact all_nil | refine all_cons ?_ ?_) | (refine la_op rfl (by first | exact frm_s (by decide +kernel) | exact frm_a (by repeat' (first | exact fa_nil | refine fa_cons (by decide +kernel) ?_))) (by intro hq; first | exact trivial | (cases hq; done) | simp [appT, ltS, nm_ne, hF]) ?_; (repeat (first | refine bk_nil ?_ | refine bk_t (by decide +kernel) ?_ | refine bk_f (by decide +kernel) ?_))) | fail)
          all_goals
            repeat' (first | (with_reducible first | refine stp ?_ | refine k_blk_o rfl ?_ | refine k_seq_n ?_) | ((try (conv => arg 1; simp [s4, s8, s10, bk, bt, ltS, nm_ne])); with_reducible refine evp ?_) | fail)
            refine dr_tup2 (dr_agg (.cons (.int _ _) (.cons (.int _ _) (.cons ?_ .nil)))) (.int _ _)
            exact dr_flat_sl (s := 1) (l := []) (sp := []) (by simp [bk, X3.ne]) (by simp)
  | false =>
    have fin : ∀ h' : Hp, DR false h'.rows (.tup [.agg [.int .i64 3, .int .i64 0, .nilsl], .int .i64 0]) (.tup [.agg [.int .i64 3, .int .i64 0, ints false []], .int .i64 0]) := fun h' => dr_tup2 (dr_agg (.cons (.int _ _) (.cons (.int _ _) (.cons .nilsl .nil)))) (.int _ _)
    rw [if_neg (by simp)]
    rw [argsG_of] at ha
    cases g1 : graphOk g with
    | false =>
      rw [g1] at G
      repeat' (first | (with_reducible first | refine stp ?_ | refine k_blk_o rfl ?_ | refine k_seq_n ?_) | ((try (conv => arg 1; simp [b1, ltS, nm_ne])); with_reducible refine evp ?_) | ((with_reducible refine tcl ?_); first | ((apply tg (G)); (case e => rfl); (case d => (refine dq ?_); (repeat' (first | ((refine Da.mk ?_); first | exact dr_blocks (by simp) _ | assumption) | constructor))))) | fail)
      exact fin _
    | true =>
      rw [g1] at G ha
      by_cases g2 : (A.length : Int) = g.Params
      · have g3 : (100 : Int) < I.length := by simp [g2] at ha; omega
        repeat' (first | (with_reducible first | refine stp ?_ | refine k_blk_o rfl ?_ | refine k_seq_n ?_) | ((try (conv => arg 1; simp [b1, g2, g3, ltS, nm_ne])); with_reducible refine evp ?_) | ((with_reducible refine tcl ?_); first | ((apply tg (G)); (case e => rfl); (case d => (refine dq ?_); (repeat' (first | ((refine Da.mk ?_); first | exact dr_blocks (by simp) _ | assumption) | constructor))))) | fail)
        exact fin _
      · skip
        repeat' (first | (with_reducible first | refine stp ?_ | refine k_blk_o rfl ?_ | refine k_seq_n ?_) | ((try (conv => arg 1; simp [b1, g2, ltS, nm_ne])); with_reducible refine evp ?_) | ((with_reducible refine tcl ?_); first | ((apply tg (G)); (case e => rfl); (case d => (refine dq ?_); (repeat' (first | ((refine Da.mk ?_); first | exact dr_blocks (by simp) _ | assumption) | constructor))))) | fail)
        exact fin _
theorem specWalk (g : Graph) (d : g.Small) (A I : List Int) : Pure Tryz.prog 52 [.agg (g.cells true), ints true A, ints true I, .int .i64 0] (.agg [.int .i64 (if argsG g A I = true then 2 else 3), .int .i64 0, ints false []]) := by
  intro T
  have W := l05Walk0 g d A I
  refine enter mixed MG89 Tryz.func52 rfl (by kernel_rfl) rfl ?_
  repeat' (first | (with_reducible first | refine stp ?_ | refine k_blk_o rfl ?_) | ((try (conv => arg 1; simp [Graph.cells])); with_reducible refine evp ?_) | fail)
  refine cx_k ((Cx.mt.next.box_one (T := T) (i := 0) Cx.mt.off (by simp)).box_add (n := (T, 1, 0)) (by simp [nms]) (by simp)) ?_
  intro h1 x1
  have b1 := x1.bxs
  simp only [Bxs] at b1
  repeat' (first | (with_reducible first | refine stp ?_ | refine k_blk_o rfl ?_ | refine k_seq_n ?_) | ((try (conv => arg 1; simp [b1, ltS, nm_ne])); with_reducible refine evp ?_) | ((with_reducible refine tcl ?_); first | ((apply tg (W)); (case e => rfl); (case d => (refine dq ?_); (repeat' (first | ((refine Da.mk ?_); first | exact dr_blocks (by simp) _ | assumption) | constructor))))) | fail)
  exact dr_agg (.cons (.int _ _) (.cons (.int _ _) (.cons (dr_ints (fun h => h) _) .nil)))

set_option maxHeartbeats 4000000 in
theorem specPath (g : Graph) (d : g.Small) (A I : List Int) (ha : argsG g A I = true) : Pure Tryz.prog 53 [.agg (g.cells true), ints true A, ints true I, .int .i64 1000] (ints false (pathG g A I)) := by
  intro T
  have hln := d.len
  have G := graphOkSpec g d.fit
  have hz : inB 1000 0 1000 = true := by decide
  have hs0 := startR_ok ha (fu := 100000) (by omega)
  have ha' := ha
  rw [argsG_of] at ha'
  simp only [Bool.and_eq_true, decide_eq_true_eq] at ha'
  obtain ⟨⟨g1, g2⟩, g3⟩ := ha'
  have hd := graphOk_head g1
  have hp := hd.params
  have hsl := hd.slots
  rw [g1] at G
  have g3' : ¬ (100 : Int) < I.length := by omega
  obtain ⟨sl, hsl2⟩ : ∃ n : Nat, g.Slots = (n : Int) := ⟨g.Slots.toNat, by omega⟩
  have hb0 := hd.blocks
  have hsz := hd.sizes
  refine enter mixed MG89 Tryz.func53 rfl (by kernel_rfl) rfl ?_
  repeat' (first | (with_reducible first | refine stp ?_ | refine k_blk_o rfl ?_) | ((try (conv => arg 1; simp [Graph.cells])); with_reducible refine evp ?_) | fail)
  refine cx_k (Cx.mt.next.box_one (T := T) (i := 0) Cx.mt.off (by simp)) ?_
  intro h1 x1
  have b1 := x1.bxs
  simp only [Bxs] at b1
  repeat' (first | (with_reducible first | refine stp ?_ | refine k_blk_o rfl ?_) | ((try (conv => arg 1; simp [b1])); with_reducible refine evp ?_) | fail)
  refine cx_k (x1.next.box_one (T := h1.tick) (i := 0) x1.off (by simp)) ?_
  intro h2 x2
  have b2 := x2.bxs
  simp only [Bxs] at b2
  repeat' (first | (with_reducible first | refine stp ?_ | refine k_blk_o rfl ?_ | refine k_seq_n ?_) | ((try (conv => arg 1; simp [b2, g2, g3', hz, ltS, nm_ne, tk_ne])); with_reducible refine evp ?_) | ((with_reducible refine tcl ?_); first | ((apply tg (G)); (case e => rfl); (case d => (refine dq ?_); (repeat' (first | ((refine Da.mk ?_); first | exact dr_blocks (by simp) _ | assumption) | constructor)))) | ((apply tg (l01In _ _ _)); (case e => rfl); (case d => (refine dq ?_); (repeat' (first | ((refine Da.mk ?_); first | exact dr_blocks (by simp) _ | assumption) | constructor))))) | fail)
  have L := l03Start x2.next.next g.Sizes A I sl 100000 (by omega) (by omega) (by omega) (by omega) (fun n hn => by have := hd.size n hn; omega)
  rw [← hsl2] at L
  refine st_heap rfl L ?_
  rintro v h3 ⟨m, rfl, X2⟩
  have e0 : startR g A I 100000 = ⟨mem0 g.Sizes, A ++ zeros (sl - A.length), I, 100000, none, 0, []⟩ := by simp [startR, hsl2]
  rw [← e0] at X2
  repeat' (first | (with_reducible first | refine stp ?_ | refine k_blk_o rfl ?_ | refine k_seq_n ?_) | ((try (conv => arg 1; simp [b1])); with_reducible refine evp ?_) | fail)
  refine st_loop (fun (k : Nat) σ h => k ≤ 1000 ∧ σ 3 = .int .i64 1000 ∧ σ 4 = .ptr (T, 0, 0) 0 0 0 ∧ σ 9 = .sl (h1.tick, 0, 0) k 0 k ∧ σ 10 = .ptr m.nr 0 0 0 ∧ ∃ (at_ : Int) (t : Rs) (out : List Int), σ 11 = .int .i64 at_ ∧ out.length = k ∧ RsOk g t ∧ (t.st = none → ∃ i : Nat, at_ = i ∧ i < g.Blocks.length) ∧ out ++ pathR g (1000 - k) t at_ = pathG g A I ∧
    RX m t [((h1.tick, 0, 0), ⟨k, 1, cl1 out⟩), ((T, 0, 0), graphRow g)] [] h) (fun k => 1000 - k) 0 ?init ?step
  case init => exact ⟨by omega, by simp, by simp, by simp, by simp, 0, startR g A I 100000, [], by simp, rfl, hs0, fun _ => ⟨0, rfl, by omega⟩, rfl, X2.next⟩
  case step =>
    rintro k σ h ⟨hk, s3, s4, s9, s10, at_, t, out, s11, hol, ot, hat, ep, X⟩
    obtain ⟨⟨wo, br, qo⟩, bl, _, _⟩ := X.b
    have bp := X.top
    have bg := X.drop.top
    simp only [runB, codeS, overS] at br
    simp only [graphRow] at bg
    have fin : out = pathG g A I → ∀ h' : Hp, h'.rows (h1.tick, 0, 0) = some ⟨k, 1, cl1 out⟩ → DR false h'.rows (.sl (h1.tick, 0, 0) k 0 k) (ints false (pathG g A I)) := fun e h' hr => by
      rw [← e]
      have := dr_flat_sl (c := false) (s := 1) (l := cl1 out) (sp := []) (by rw [List.append_nil]; exact hr) (by simp [cl1, flatc])
      rw [cl1_len, hol] at this
      exact this
    cases hts : t.st with
    | some c =>
      rw [pathR_stop (by rw [hts]; simp), List.append_nil] at ep
      rw [hts] at br
      simp only [Option.getD_some] at br
      by_cases hc : c = 0
      · subst hc
        repeat' (first | (with_reducible first | refine stp ?_ | refine k_blk_o rfl ?_ | refine k_seq_n ?_) | ((try (conv => arg 1; simp [s3, s4, s9, s10, br, bl, qo.1, qo.2.1, qo.2.2, ltS, nm_ne])); with_reducible refine evp ?_) | fail)
        exact fin ep _ (by simp [bp])
      · skip
        repeat' (first | (with_reducible first | refine stp ?_ | refine k_blk_o rfl ?_ | refine k_seq_n ?_) | ((try (conv => arg 1; simp [s3, s4, s9, s10, br, bl, hc, qo.1, qo.2.1, qo.2.2, ltS, nm_ne])); with_reducible refine evp ?_) | fail)
        exact fin ep _ (by simp [bp])
    | none =>
      rw [hts] at br
      simp only [Option.getD_none] at br
      by_cases hlt : k < 1000
      · have hlt2 : (k : Int) < 1000 := by omega
        obtain ⟨i, rfl, hi⟩ := hat hts
        have hi2 : (i : Int) < g.Blocks.length := by omega
        have hx : g.Blocks[i]? = some g.Blocks[i] := by simp
        have hlen : ((g.Blocks[i]).cells true).length = 5 := rfl
        have hba := (blk_ok g1 hi).1
        rw [show 1000 - k = (1000 - (k + 1)) + 1 by omega, pathR_go hts, hba] at ep
        repeat' (first | (with_reducible first | refine stp ?_ | refine k_blk_o rfl ?_ | refine k_seq_n ?_) | ((try (conv => arg 1; simp [s3, s4, s9, s10, s11, br, bl, bp, hlt2, qo.1, qo.2.1, qo.2.2, ltS, nm_ne])); with_reducible refine evp ?_) | fail)
        conv => arg 1; simp
        rw [appendA_snoc (s := 1) (l := cl1 out) (e := [.int .i64 i]) (by kernel_rfl) ?hr (by simp [cl1_len, hol]) ?hk rfl (by omega) ?hm]
        case hr => simp [bp, nm_ne, ltS]
        case hk => simp
        case hm => simp [bp, ltS]
        refine ev2_gen (fun h' => RX m t [((h1.tick, 0, 0), ⟨k + 1, 1, cl1 (out ++ [(i : Int)])⟩), ((T, 0, 0), graphRow g)] [] h') ?_ ?_
        · rw [cl1_snoc]
          exact (X.to (fun y => Cx.to y)).put1 _
        intro h4 X4
        have bg4 := X4.drop.top
        simp only [graphRow] at bg4
        repeat' (first | (with_reducible first | refine stp ?_ | refine k_blk_o rfl ?_ | refine k_seq_n ?_) | ((try (conv => arg 1; simp [s4, s9, s10, s11, bg4, blocks, hi, hi2, hx, hlen, ltS, nm_ne])); with_reducible refine evp ?_) | fail)
        refine st_heap rfl (l05Block X4.next ot hts hi (by have := d.code _ (List.getElem_mem hi); omega)) ?_
        rintro v h5 ⟨rfl, X5⟩
        have ot5 := ot.kp (blockR_kp t g.Blocks[i])
        have hn5 := fun hs => blockR_next g1 hi (s := t) (by rw [hba]; exact hs)
        rw [hba] at hn5
        repeat' (first | (with_reducible first | refine stp ?_ | refine k_blk_o rfl ?_ | refine k_seq_n ?_) | ((try (conv => arg 1; simp [s4])); with_reducible refine evp ?_) | fail)
        refine k_lp_n (k + 1) (by omega) ⟨by omega, by simp [s3], by simp [s4], by simp, by simp [s10], (blockR t g.Blocks[i]).2, (blockR t g.Blocks[i]).1, out ++ [(i : Int)], by simp, by simp [hol], ot5, hn5, ?_, X5⟩
        rw [List.append_assoc]
        exact ep
      · have hke : k = 1000 := by omega
        have hlt2 : ¬ (k : Int) < 1000 := by omega
        rw [hke, Nat.sub_self, show pathR g 0 t at_ = [] from rfl, List.append_nil] at ep
        repeat' (first | (with_reducible first | refine stp ?_ | refine k_blk_o rfl ?_ | refine k_seq_n ?_) | ((try (conv => arg 1; simp [s3, s4, s9, s10, br, bl, hlt2, qo.1, qo.2.1, qo.2.2, ltS, nm_ne])); with_reducible refine evp ?_) | fail)
        exact fin ep _ (by simp [bp])

theorem tick_take {p l : List Int} {i : Nat} (hi : i < p.length) : (p.take (i + 1)).foldl tickR l = tickR ((p.take i).foldl tickR l) p[i] := by
  rw [take_snoc hi, List.foldl_append]
  rfl
theorem own_zero {k : Nm} {ver n : Nat} {xs : List Int} {h : Hp} {bs : Bx} {os : Ox} (x : Cx h ((k, ⟨ver, 1, cl1 xs⟩) :: bs) os) (hn : xs.length = n) : Cx h bs ((.sl k ver 0 n, (fun b => ints b xs), [k]) :: os) := by
  have z := Cx.close_ints (ver := ver) (pre := []) (sp := []) (xs := xs) (k := k) (bs := bs) (os := os) (by simpa [ir] using x) ⟨fun e he => by (cases he), fun e he => by (cases he), fun i e j y he => by simp at he, fun i e j y he => by simp at he⟩
  rw [hn] at z
  exact z

set_option maxHeartbeats 4000000 in
theorem specCounts (g : Graph) (d : g.Small) (A I : List Int) : FreshW Tryz.prog 24 [.agg (g.cells true), ints true A, ints true I] (fun b => ints b (countsR g A I)) := by
  intro T
  have hln := d.len
  have W := specWalk g d A I
  refine enter mixed MG89 Tryz.func24 rfl (by kernel_rfl) rfl ?_
  repeat' (first | (with_reducible first | refine stp ?_ | refine k_blk_o rfl ?_) | ((try (conv => arg 1; simp [Graph.cells])); with_reducible refine evp ?_) | fail)
  refine cx_k (Cx.mt.next.box_one (T := T) (i := 0) Cx.mt.off (by simp)) ?_
  intro h1 x1
  have b1 := x1.bxs
  simp only [Bxs] at b1
  cases ha : argsG g A I with
  | false =>
    have hr : countsR g A I = [] := by simp [countsR, ha]
    rw [hr]
    rw [ha, if_neg (by simp)] at W
    repeat' (first | (with_reducible first | refine stp ?_ | refine k_blk_o rfl ?_ | refine k_seq_n ?_) | ((try (conv => arg 1; simp [b1, ltS, nm_ne])); with_reducible refine evp ?_) | ((with_reducible refine tcl ?_); first | ((apply tg (W)); (case e => rfl); (case d => (refine dq ?_); (repeat' (first | ((refine Da.mk ?_); first | exact dr_blocks (by simp) _ | assumption) | constructor))))) | fail)
    refine fin_own (os := []) (ns := [(h1.tick + 1, 0, 0)]) (bs := ?bs1) ?y1
    case y1 => exact own_zero (xs := []) (Cx.to ((x1.next.next.box_one (T := h1.tick + 1) (i := 0) (r := ⟨0, 1, []⟩) (fun n hn e => by have := x1.lt n hn; omega) (by simp)))) rfl
  | true =>
    rw [ha, if_pos rfl] at W
    have P := specPath g d A I ha
    have hin := pathG_in ha
    have hr : countsR g A I = (pathG g A I).foldl tickR (zeros g.Blocks.length) := by simp [countsR, ha]
    rw [hr]
    have hpl : (pathG g A I).length ≤ 1000 := pathR_len _ _ _
    have hg : graphOk g = true := by
      simp only [argsG, Bool.and_eq_true] at ha
      exact ha.1.1
    have hnb := (graphOk_head hg).blocks
    generalize pathG g A I = p at *
    repeat' (first | (with_reducible first | refine stp ?_ | refine k_blk_o rfl ?_ | refine k_seq_n ?_) | ((try (conv => arg 1; simp [b1, blocks, ltS, nm_ne])); with_reducible refine evp ?_) | ((with_reducible refine tcl ?_); first | ((apply tg (W)); (case e => rfl); (case d => (refine dq ?_); (repeat' (first | ((refine Da.mk ?_); first | exact dr_blocks (by simp) _ | assumption) | constructor))))) | fail)
    refine st_heap rfl (l03ZerosH g.Blocks.length (by omega) (Cx.to x1)) ?_
    rintro v h2 ⟨kz, rfl, hkz, x2⟩
    have b2 := x2.bxs
    simp only [Bxs, graphRow] at b2
    repeat' (first | (with_reducible first | refine stp ?_ | refine k_blk_o rfl ?_ | refine k_seq_n ?_) | ((try (conv => arg 1; simp [b2, ltS, nm_ne])); with_reducible refine evp ?_) | ((with_reducible refine tcl ?_); first | ((apply tg (P)); (case e => rfl); (case d => (refine dq ?_); (repeat' (first | ((refine Da.mk ?_); first | exact dr_blocks (by simp) _ | assumption) | constructor))))) | fail)
    refine st_loop (fun (i : Nat) σ h => i ≤ p.length ∧ σ 7 = .sl kz g.Blocks.length 0 g.Blocks.length ∧ σ 8 = ints false p ∧ σ 9 = .int .i64 i ∧ Cx h [(kz, ⟨g.Blocks.length, 1, cl1 ((p.take i).foldl tickR (zeros g.Blocks.length))⟩), ((T, 0, 0), graphRow g)] []) (fun i => p.length - i) 0 ?init ?step
    case init => exact ⟨Nat.zero_le _, by simp, by simp, by simp, Cx.to x2⟩
    case step =>
      rintro i σ h ⟨hi, s7, s8, s9, x⟩
      have b := x.bxs
      simp only [Bxs, graphRow] at b
      have hw : IntKind.i64.wrap (i + 1) = i + 1 := wrap_id (by omega) (by omega)
      by_cases hlt : i < p.length
      · have hlt2 : (i : Int) < p.length := by omega
        have hx : p[i]? = some p[i] := by simp
        have hts := tick_take (l := zeros g.Blocks.length) hlt
        obtain ⟨j, hj, hjl⟩ := hin _ (List.getElem_mem hlt)
        have hop : ∀ hh, p[i]'hh = (j : Int) := fun _ => hj
        have hjl2 : (j : Int) < g.Blocks.length := by omega
        have hzl : ((p.take i).foldl tickR (zeros g.Blocks.length)).length = g.Blocks.length := by rw [foldR_len]; simp [zeros]
        rw [hj] at hx hts
        generalize (p.take i).foldl tickR (zeros g.Blocks.length) = l at *
        have hva := cl1_rd (show j < l.length by omega)
        have hjc : j < (cl1 l).length := by rw [cl1_len]; omega
        have hwr : IntKind.i64.wrap (rd l j + 1) = w64 (rd l j + 1) := rfl
        repeat' (first | (with_reducible first | refine stp ?_ | refine k_blk_o rfl ?_ | refine k_seq_n ?_) | ((try (conv => arg 1; simp [s7, s8, s9, ints, hlt, hlt2, ltS, nm_ne])); with_reducible refine evp ?_) | fail)
        repeat (with_reducible first | refine stp ?_ | refine k_seq_n ?_)
        refine st_lz (by kernel_rfl) ?_
        have hF := And.intro s7 (And.intro s8 (And.intro s9 (And.intro b (And.intro hlt (And.intro hlt2 (And.intro hx (And.intro hop (And.intro hjl (And.intro hjl2 (And.intro hjc (And.intro hva hwr)))))))))))
        repeat' (first | (with_reducible first | refine stp ?_ | refine k_blk_o rfl ?_) | ((try (conv => arg 1; simp [ints, @cl1_get, ltS, nm_ne, hF])); with_reducible refine evp ?_) | ((with_reducible refine la_id ?_); refine la_end rfl ?_; (repeat (first | refine pl_nil ?_ | refine pl_cons ?_))) | ((with_reducible refine la_id ?_); refine la_pick ?_; (conv => arg 1; whnf); (repeat ((fail_if_success (first | ((refine la_q0 rfl ?_); (try (conv => arg 1; simp [ints, @cl1_get, ltS, nm_ne, hF])); with_reducible refine evp ?_) | ((refine la_n rfl rfl ?_); (try (conv => arg 1; simp [ints, @cl1_get, ltS, nm_ne, hF])); with_reducible refine evp ?_) | ((refine la_q2 rfl (by decide +kernel) ?_); (repeat (first | refine bk_nil ?_ | refine bk_t (by decide +kernel) ?_ | refine bk_f (by decide +kernel) ?_)); (try (conv => arg 1; simp [ints, @cl1_get, ltS, nm_ne, hF])); with_reducible refine evp ?_) | ((refine la_q1 rfl (by decide +kernel) ?_); (try (conv => arg 1; simp [ints, @cl1_get, ltS, nm_ne, hF])); with_reducible refine evp ?_) | ((refine la_g0 rfl ?_); (try (conv => arg 1; simp [ints, @cl1_get, ltS, nm_ne, hF])); with_reducible refine evp ?_; (with_reducible refine evp ?_); try ((try (conv => arg 1; simp [ints, @cl1_get, ltS, nm_ne, hF])); with_reducible refine evp ?_)))); (refine la_there ?_); (conv => arg 1; whnf))); first | ((refine la_q0 rfl ?_); (try (conv => arg 1; simp [ints, @cl1_get, ltS, nm_ne, hF])); with_reducible refine evp ?_) | ((refine la_n rfl rfl ?_); (try (conv => arg 1; simp [ints, @cl1_get, ltS, nm_ne, hF])); with_reducible refine evp ?_) | ((refine la_q2 rfl (by decide +kernel) ?_); (repeat (first | refine bk_nil ?_ | refine bk_t (by decide +kernel) ?_ | refine bk_f (by decide +kernel) ?_)); (try (conv => arg 1; simp [ints, @cl1_get, ltS, nm_ne, hF])); with_reducible refine evp ?_) | ((refine la_q1 rfl (by decide +kernel) ?_); (try (conv => arg 1; simp [ints, @cl1_get, ltS, nm_ne, hF])); with_reducible refine evp ?_) | ((refine la_g0 rfl ?_); (try (conv => arg 1; simp [ints, @cl1_get, ltS, nm_ne, hF])); with_reducible refine evp ?_; (with_reducible refine evp ?_); try ((try (conv => arg 1; simp [ints, @cl1_get, ltS, nm_ne, hF])); with_reducible refine evp ?_))) | ((with_reducible refine la_id ?_); refine la_all rfl ?_) | ((with_reducible refine all_id ?_); (conv => arg 1; whnf); first | exact all_nil | refine all_cons ?_ ?_) | (refine la_op rfl (by first | exact frm_s (by decide +kernel) | exact frm_a (by repeat' (first | exact fa_nil | refine fa_cons (by decide +kernel) ?_))) (by intro hq; first | exact trivial | (cases hq; done) | simp [appT, ints, @cl1_get, ltS, nm_ne, hF]) ?_; (repeat (first | refine bk_nil ?_ | refine bk_t (by decide +kernel) ?_ | refine bk_f (by decide +kernel) ?_))) | fail)
        repeat' (first | (with_reducible first | refine stp ?_ | refine k_blk_o rfl ?_ | refine k_seq_n ?_) | ((try (conv => arg 1; simp [s9, hw])); with_reducible refine evp ?_) | fail)
        refine k_lp_n (i + 1) (by omega) ⟨by omega, by simp [s7], by simp [s8], by simp, ?_⟩
        rw [hts, show tickR l (j : Int) = l.set j (w64 (rd l j + 1)) by simp [tickR], cl1_set]
        exact Cx.to x
      · have hge : i = p.length := by omega
        have hlt2 : ¬ (i : Int) < p.length := by omega
        rw [hge, List.take_length] at x
        repeat' (first | (with_reducible first | refine stp ?_ | refine k_blk_o rfl ?_ | refine k_seq_n ?_) | ((try (conv => arg 1; simp [s7, s8, s9, ints, hlt2])); with_reducible refine evp ?_) | fail)
        refine fin_own (os := []) (ns := [kz]) (bs := ?bs2) ?y2
        case y2 => exact own_zero (Cx.to x) (by rw [foldR_len]; simp [zeros])
end
end Go.Proofs.YtlmlkkkgcbpaoaaGreat.AM

namespace Go.Proofs.YtlmlkkkgcbpaoaaGreat.AM
open Go.RowKit

private def MG93 : FuncId → Mode := fun f => if f = 55 then .heap else if f = 26 then .fresh else .tree

set_option maxHeartbeats 4000000 in
theorem implCounts0 (g : Graph) (d : g.Small) (A I : List Int) : FreshW Tryz.prog 26 [.agg (g.cells true), ints true A, ints true I] (fun b => ints b (countsR g A I)) := by
  intro T
  have hln := d.len
  refine enter mixed MG93 Tryz.func26 rfl (by kernel_rfl) rfl ?_
  repeat' (first | (with_reducible first | refine stp ?_ | refine k_blk_o rfl ?_) | ((try (conv => arg 1; simp [Graph.cells])); with_reducible refine evp ?_) | fail)
  refine cx_k (Cx.mt.next.box_one (T := T) (i := 0) Cx.mt.off (by simp)) ?_
  intro h1 x1
  have b1 := x1.bxs
  simp only [Bxs] at b1
  repeat' (first | (with_reducible first | refine stp ?_ | refine k_blk_o rfl ?_ | refine k_seq_n ?_) | ((try (conv => arg 1; simp [b1])); with_reducible refine evp ?_) | fail)
  cases ha : argsG g A I with
  | false =>
    have hr : countsR g A I = [] := by simp [countsR, ha]
    rw [hr]
    refine st_heap rfl (walkN g d A I ha (Cx.to x1)) ?_
    rintro v h2 ⟨nr, rfl, x2⟩
    have b2 := x2.bxs
    simp only [Bxs] at b2
    repeat' (first | (with_reducible first | refine stp ?_ | refine k_blk_o rfl ?_ | refine k_seq_n ?_) | ((try (conv => arg 1; simp [b2, ltS, nm_ne])); with_reducible refine evp ?_) | fail)
    refine fin_own (os := []) (ns := []) (bs := ?bs1) ?y1
    case y1 => exact (Cx.to x2).add_own (fun b => .one (.nilsl .nil)) .nil (fun n hn => by cases hn) (fun n _ => rfl) (Nat.le_refl _)
  | true =>
    have hin := pathG_in ha
    have hr : countsR g A I = (pathG g A I).foldl tickR (zeros g.Blocks.length) := by simp [countsR, ha]
    rw [hr]
    have hpl : (pathG g A I).length ≤ 1000 := pathR_len _ _ _
    have hg : graphOk g = true := by
      simp only [argsG, Bool.and_eq_true] at ha
      exact ha.1.1
    have hnb := (graphOk_head hg).blocks
    refine st_heap rfl (walkW g d A I ha (Cx.to x1)) ?_
    rintro v h2 ⟨m, s, wp, bp, rfl, cs, hs, fp, X⟩
    obtain ⟨c, hc⟩ : ∃ c, s.st = some c := by cases e : s.st with
      | none => exact absurd e hs
      | some c => exact ⟨c, rfl⟩
    have hc2 := cs c hc
    have hc3 : ¬ c = 3 := by omega
    generalize pathG g A I = p at *
    have qp := fp.one
    have lp := fp.lenA (P := Tryz.prog) (t := 22) (by kernel_rfl)
    rw [cl1_len] at lp
    obtain ⟨ln, wo, bo, f, y⟩ := X
    have q := f.one
    have y1 : Cx h2 (((T, 0, 0), graphRow g) :: (m.nr, wrkB m s wo wp) :: bp) [] := by
      have hsub : ∀ (l l' : Bx), Cx h2 (l ++ l') [] → Cx h2 l' [] := fun l l' z => by
        induction l with
        | nil => exact z
        | cons a l ih => exact ih z.box_drop
      have p1 : ((m.nr, wrkB m s wo wp) :: (m.kv, (⟨m.vv, 1, cl1 s.vars⟩ : Row)) :: (m.km, (⟨m.vm, 1, m.hdr⟩ : Row)) :: (bo ++ (rgs m.ks s.mem ++ (bp ++ [((T, 0, 0), graphRow g)])))) = (m.nr, wrkB m s wo wp) :: (((m.kv, (⟨m.vv, 1, cl1 s.vars⟩ : Row)) :: (m.km, (⟨m.vm, 1, m.hdr⟩ : Row)) :: (bo ++ rgs m.ks s.mem)) ++ (bp ++ [((T, 0, 0), graphRow g)])) := by simp
      have z := y.bperm (p1 ▸ (List.perm_middle.symm).trans (List.Perm.append_left _ (List.perm_append_singleton ((T, 0, 0), graphRow g) ((m.nr, wrkB m s wo wp) :: bp))))
      exact hsub _ _ z
    have b2 := y1.bxs
    simp only [Bxs, graphRow, wrkB, codeW, hc, Option.getD_some] at b2
    have hnb4 : (g.Blocks.length : Int) ≤ 4294967296 := by omega
    have ez : List.replicate g.Blocks.length [AV.int IntKind.i64 0] = cl1 (zeros g.Blocks.length) := by simp [cl1, zeros]
    have hzl : (zeros g.Blocks.length).length = g.Blocks.length := by simp [zeros]
    rcases fp with ⟨rfl, hp0, rfl⟩ | ⟨k, ver, sp, rfl, hsp, rfl⟩
    · have hp1 : p = [] := by cases p with
        | nil => rfl
        | cons a l => simp [cl1] at hp0
      subst hp1
      repeat' (first | (with_reducible first | refine stp ?_ | refine k_blk_o rfl ?_ | refine k_seq_n ?_) | ((try (conv => arg 1; simp [b2, hc3, blocks, hnb4, lp, q.1, q.2.1, q.2.2, ltS, nm_ne])); with_reducible refine evp ?_) | fail)
      refine st_loop (fun (i : Nat) σ h => σ 8 = .sl (h2.tick + 1, 3, 0) 0 0 g.Blocks.length ∧ σ 30 = .int .i64 0 ∧ σ 31 = .int .i64 0 ∧ Cx h [((h2.tick + 1, 3, 0), ⟨0, 1, cl1 (zeros g.Blocks.length)⟩)] []) (fun i => i) 0 ?init1 ?step1
      case init1 =>
        have x3 := (y1.next.next.box_one (T := h2.tick + 1) (i := 3) (r := ⟨0, 1, List.replicate g.Blocks.length [AV.int IntKind.i64 0]⟩) (fun n hn e => by have := y1.lt n hn; omega) (by simp)).next
        rw [ez] at x3
        rw [ez]
        exact ⟨by simp, by simp, by simp, (x3.bperm (List.Perm.swap _ _ _)).box_drop.bperm (List.Perm.swap _ _ _) |>.box_drop⟩
      case step1 =>
        rintro i σ h ⟨s8, s30, s31, x⟩
        repeat' (first | (with_reducible first | refine stp ?_ | refine k_blk_o rfl ?_ | refine k_seq_n ?_) | ((try (conv => arg 1; simp [s8, s30, s31])); with_reducible refine evp ?_) | fail)
        refine fin_own (os := []) (ns := [(h2.tick + 1, 3, 0)]) (bs := ?bs3) ?y3
        case y3 => exact own_zero (Cx.to x) hzl
    · rw [cl1_len] at lp y1
      repeat' (first | (with_reducible first | refine stp ?_ | refine k_blk_o rfl ?_ | refine k_seq_n ?_) | ((try (conv => arg 1; simp [b2, hc3, blocks, hnb4, lp, q.1, q.2.1, q.2.2, ltS, nm_ne])); with_reducible refine evp ?_) | fail)
      refine st_loop (fun (i : Nat) σ h => i ≤ p.length ∧ σ 8 = .sl (h2.tick + 1, 3, 0) 0 0 g.Blocks.length ∧ σ 29 = .sl k ver 0 p.length ∧ σ 30 = .int .i64 p.length ∧ σ 31 = .int .i64 i ∧ Cx h [((h2.tick + 1, 3, 0), ⟨0, 1, cl1 ((p.take i).foldl tickR (zeros g.Blocks.length))⟩), (k, ⟨ver, 1, cl1 p ++ sp⟩)] []) (fun i => p.length - i) 0 ?init2 ?step2
      case init2 =>
        have x3 := (y1.next.next.box_one (T := h2.tick + 1) (i := 3) (r := ⟨0, 1, List.replicate g.Blocks.length [AV.int IntKind.i64 0]⟩) (fun n hn e => by have := y1.lt n hn; omega) (by simp)).next
        rw [ez] at x3
        rw [ez]
        exact ⟨Nat.zero_le _, by simp, by simp [cl1_len], by simp [cl1_len], by simp, ((x3.bperm (List.Perm.swap _ _ _)).box_drop.bperm (List.Perm.swap _ _ _)).box_drop⟩
      case step2 =>
        rintro i σ h ⟨hi, s8, s29, s30, s31, x⟩
        have b := x.bxs
        simp only [Bxs] at b
        have hw : IntKind.i64.wrap (i + 1) = i + 1 := wrap_id (by omega) (by omega)
        by_cases hlt : i < p.length
        · have hlt2 : (i : Int) < p.length := by omega
          have hts := tick_take (l := zeros g.Blocks.length) hlt
          obtain ⟨j, hj, hjl⟩ := hin _ (List.getElem_mem hlt)
          have hpi : (cl1 p ++ sp)[i]? = some [.int .i64 j] := by
            rw [List.getElem?_append_left (by rw [cl1_len]; exact hlt)]
            simp [cl1, hlt, hj]
          have hpl2 : i < (cl1 p ++ sp).length := by simp [cl1]; omega
          have hpo : ∀ hh, (cl1 p ++ sp)[i]'hh = [.int .i64 j] := fun hh => by
            have := List.getElem?_eq_getElem hh
            rw [this] at hpi
            exact Option.some.inj hpi
          have hjl2 : (j : Int) < g.Blocks.length := by omega
          have hzl2 : ((p.take i).foldl tickR (zeros g.Blocks.length)).length = g.Blocks.length := by rw [foldR_len]; exact hzl
          rw [hj] at hts
          generalize (p.take i).foldl tickR (zeros g.Blocks.length) = l at *
          generalize cl1 p ++ sp = E at *
          have hva := cl1_rd (show j < l.length by omega)
          have hjc : j < (cl1 l).length := by rw [cl1_len]; omega
          have hwr : IntKind.i64.wrap (rd l j + 1) = w64 (rd l j + 1) := rfl
          repeat' (first | (with_reducible first | refine stp ?_ | refine k_blk_o rfl ?_ | refine k_seq_n ?_) | ((try (conv => arg 1; simp [s8, s29, s30, s31, b, hlt2, hlt, hpi, hpl2, hpo, hjl, hjl2, hjc, hva, hwr, hw, @cl1_get, ltS, nm_ne])); with_reducible refine evp ?_) | fail)
          refine k_lp_n (i + 1) (by omega) ⟨by omega, by simp [s8], by simp [s29], by simp [s30], by simp, ?_⟩
          rw [hts, show tickR l (j : Int) = l.set j (w64 (rd l j + 1)) by simp [tickR], cl1_set]
          exact Cx.to x
        · have hge : i = p.length := by omega
          have hlt2 : ¬ (i : Int) < p.length := by omega
          rw [hge, List.take_length] at x
          repeat' (first | (with_reducible first | refine stp ?_ | refine k_blk_o rfl ?_ | refine k_seq_n ?_) | ((try (conv => arg 1; simp [s8, s29, s30, s31, hlt2])); with_reducible refine evp ?_) | fail)
          refine fin_own (os := []) (ns := [(h2.tick + 1, 3, 0)]) (bs := ?bs2) ?y2
          case y2 => exact own_zero (Cx.to x) (by rw [foldR_len]; exact hzl)
end Go.Proofs.YtlmlkkkgcbpaoaaGreat.AM

namespace Go.Proofs.YtlmlkkkgcbpaoaaGreat.AM
open Go.RowKit

private def MG96 : FuncId → Mode := fun f => if f = 22 ∨ f = 28 ∨ f = 27 then .fresh else .tree

def layoutR (g : Graph) (A I : List Int) : Graph := reorderR g (chainR g (countsR g A I))
theorem layoutR_small (g : Graph) (d : g.Small) (A I : List Int) : (layoutR g A I).Small := reorderR_small g d _
theorem chainR_nil (g : Graph) : chainR g [] = [] := by
  unfold chainR
  split
  · rename_i h
    have := (ok_blocks h.1).1
    simp at h
    omega
  · rfl
theorem reorderR_nil (g : Graph) : reorderR g [] = g := by
  unfold reorderR
  split
  · rename_i h
    have o := orderB_ord h
    have := (ok_blocks o.ok).1
    have := o.len
    simp at this
    omega
  · rfl
theorem layoutR_nil {g : Graph} {A I : List Int} (h : countsR g A I = []) : layoutR g A I = g := by rw [layoutR, h, chainR_nil, reorderR_nil]
theorem countsR_some {g : Graph} {A I : List Int} (h : ¬ countsR g A I = []) : graphOk g = true ∧ (countsR g A I).length = g.Blocks.length := by
  unfold countsR at h ⊢
  split
  · rename_i ha
    refine ⟨?_, by rw [foldR_len]; simp [zeros]⟩
    simp only [argsG, Bool.and_eq_true] at ha
    exact ha.1.1
  · rename_i ha
    rw [if_neg ha] at h
    exact absurd rfl h

set_option maxHeartbeats 4000000 in
theorem specLayout (g : Graph) (d : g.Small) (A I : List Int) : FreshW Tryz.prog 7 [.agg (g.cells true), ints true A, ints true I] (fun b => .agg ((layoutR g A I).cells b)) := by
  intro T
  have hcl := countsR_len (g := g) (A := A) (I := I)
  have hkl := chainR_len g d (countsR g A I)
  have C := (specCounts g d A I).pure
  have K := (specChain g d (countsR g A I) (by omega)).pure
  have R := specReorder g d (chainR g (countsR g A I)) hkl
  rw [show reorderR g (chainR g (countsR g A I)) = layoutR g A I from rfl] at R
  generalize countsR g A I = cs at C K R
  generalize chainR g cs = ks at K R
  generalize layoutR g A I = r at R ⊢
  refine enter mixed MG96 Tryz.func7 rfl (by kernel_rfl) rfl ?_
  repeat' (first | (with_reducible first | refine stp ?_ | refine k_blk_o rfl ?_) | ((try (conv => arg 1; simp [Graph.cells])); with_reducible refine evp ?_) | fail)
  refine cx_k ((Cx.mt.next.box_one (T := T) (i := 0) Cx.mt.off (by simp)).box_add (n := (T, 1, 0)) (by simp [nms]) (by simp)) ?_
  intro h1 x1
  have b1 := x1.bxs
  simp only [Bxs] at b1
  repeat (with_reducible first | refine stp ?_ | refine k_seq_n ?_)
  refine st_lz (by kernel_rfl) ?_
  repeat' (first | (with_reducible first | refine stp ?_ | refine k_blk_o rfl ?_) | ((try (conv => arg 1; simp [b1, ltS, nm_ne, tk_ne])); with_reducible refine evp ?_) | ((with_reducible refine tcl ?_); first | ((apply tg (C)); (case e => rfl); (case d => (refine dq ?_); (repeat' (first | ((refine Da.mk ?_); first | exact dr_blocks (by simp) _ | exact dr_ints (by simp) _ | assumption) | constructor)))) | ((apply tg (K)); (case e => rfl); (case d => (refine dq ?_); (repeat' (first | ((refine Da.mk ?_); first | exact dr_blocks (by simp) _ | exact dr_ints (by simp) _ | assumption) | constructor))))) | ((with_reducible refine la_id ?_); refine la_end rfl ?_; (repeat (first | refine pl_nil ?_ | refine pl_cons ?_))) | ((with_reducible refine la_id ?_); refine la_pick ?_; (conv => arg 1; whnf); (repeat ((fail_if_success (first | ((refine la_q0 rfl ?_); (try (conv => arg 1; simp [b1, ltS, nm_ne, tk_ne])); with_reducible refine evp ?_) | ((refine la_n rfl rfl ?_); (try (conv => arg 1; simp [b1, ltS, nm_ne, tk_ne])); with_reducible refine evp ?_) | ((refine la_q2 rfl (by decide +kernel) ?_); (repeat (first | refine bk_nil ?_ | refine bk_t (by decide +kernel) ?_ | refine bk_f (by decide +kernel) ?_)); (try (conv => arg 1; simp [b1, ltS, nm_ne, tk_ne])); with_reducible refine evp ?_) | ((refine la_q1 rfl (by decide +kernel) ?_); (try (conv => arg 1; simp [b1, ltS, nm_ne, tk_ne])); with_reducible refine evp ?_) | ((refine la_g0 rfl ?_); (try (conv => arg 1; simp [b1, ltS, nm_ne, tk_ne])); with_reducible refine evp ?_; (with_reducible refine evp ?_); try ((try (conv => arg 1; simp [b1, ltS, nm_ne, tk_ne])); with_reducible refine evp ?_)))); (refine la_there ?_); (conv => arg 1; whnf))); first | ((refine la_q0 rfl ?_); (try (conv => arg 1; simp [b1, ltS, nm_ne, tk_ne])); with_reducible refine evp ?_) | ((refine la_n rfl rfl ?_); (try (conv => arg 1; simp [b1, ltS, nm_ne, tk_ne])); with_reducible refine evp ?_) | ((refine la_q2 rfl (by decide +kernel) ?_); (repeat (first | refine bk_nil ?_ | refine bk_t (by decide +kernel) ?_ | refine bk_f (by decide +kernel) ?_)); (try (conv => arg 1; simp [b1, ltS, nm_ne, tk_ne])); with_reducible refine evp ?_) | ((refine la_q1 rfl (by decide +kernel) ?_); (try (conv => arg 1; simp [b1, ltS, nm_ne, tk_ne])); with_reducible refine evp ?_) | ((refine la_g0 rfl ?_); (try (conv => arg 1; simp [b1, ltS, nm_ne, tk_ne])); with_reducible refine evp ?_; (with_reducible refine evp ?_); try ((try (conv => arg 1; simp [b1, ltS, nm_ne, tk_ne])); with_reducible refine evp ?_))) | ((with_reducible refine la_id ?_); refine la_all rfl ?_) | ((with_reducible refine all_id ?_); (conv => arg 1; whnf); first | exact all_nil | refine all_cons ?_ ?_) | (refine la_op rfl (by first | exact frm_s (by decide +kernel) | exact frm_a (by repeat' (first | exact fa_nil | refine fa_cons (by decide +kernel) ?_))) (by intro hq; first | exact trivial | (cases hq; done) | simp [appT, b1, ltS, nm_ne, tk_ne]) ?_; (repeat (first | refine bk_nil ?_ | refine bk_t (by decide +kernel) ?_ | refine bk_f (by decide +kernel) ?_))) | fail)
  refine st_freshw rfl R (.cons (dr_agg (drs_graphL g fun h => h)) (.cons (dr_ints (by simp) _) .nil)) ?_
  intro v h2 n o e f p t
  have x2 := x1.next.fresh o e f p t
  have z2 : h1.tick < h2.tick := by simp only [hp_next_tick] at t; omega
  obtain ⟨w1, w2, _, _, rfl, _, q1, q2⟩ := ownV_graph (o true)
  have q1 := own_one q1
  have q2 := own_one' q2
  have b2 := x2.bxs
  simp only [Bxs] at b2
  have hF := And.intro b2 (And.intro z2 (And.intro q1.1 (And.intro q1.2.1 (And.intro q1.2.2 (And.intro q2.1 (And.intro q2.2.1 q2.2.2))))))
  repeat' (first | (with_reducible first | refine stp ?_ | refine k_blk_o rfl ?_) | ((try (conv => arg 1; simp [ltS, nm_ne, tk_ne, hF])); with_reducible refine evp ?_) | ((with_reducible refine la_id ?_); refine la_end rfl ?_; (repeat (first | refine pl_nil ?_ | refine pl_cons ?_))) | ((with_reducible refine la_id ?_); refine la_pick ?_; (conv => arg 1; whnf); (repeat ((fail_if_success (first | ((refine la_q0 rfl ?_); (try (conv => arg 1; simp [ltS, nm_ne, tk_ne, hF])); with_reducible refine evp ?_) | ((refine la_n rfl rfl ?_); (try (conv => arg 1; simp [ltS, nm_ne, tk_ne, hF])); with_reducible refine evp ?_) | ((refine la_q2 rfl (by decide +kernel) ?_); (repeat (first | refine bk_nil ?_ | refine bk_t (by decide +kernel) ?_ | refine bk_f (by decide +kernel) ?_)); (try (conv => arg 1; simp [ltS, nm_ne, tk_ne, hF])); with_reducible refine evp ?_) | ((refine la_q1 rfl (by decide +kernel) ?_); (try (conv => arg 1; simp [ltS, nm_ne, tk_ne, hF])); with_reducible refine evp ?_) | ((refine la_g0 rfl ?_); (try (conv => arg 1; simp [ltS, nm_ne, tk_ne, hF])); with_reducible refine evp ?_; (with_reducible refine evp ?_); try ((try (conv => arg 1; simp [ltS, nm_ne, tk_ne, hF])); with_reducible refine evp ?_)))); (refine la_there ?_); (conv => arg 1; whnf))); first | ((refine la_q0 rfl ?_); (try (conv => arg 1; simp [ltS, nm_ne, tk_ne, hF])); with_reducible refine evp ?_) | ((refine la_n rfl rfl ?_); (try (conv => arg 1; simp [ltS, nm_ne, tk_ne, hF])); with_reducible refine evp ?_) | ((refine la_q2 rfl (by decide +kernel) ?_); (repeat (first | refine bk_nil ?_ | refine bk_t (by decide +kernel) ?_ | refine bk_f (by decide +kernel) ?_)); (try (conv => arg 1; simp [ltS, nm_ne, tk_ne, hF])); with_reducible refine evp ?_) | ((refine la_q1 rfl (by decide +kernel) ?_); (try (conv => arg 1; simp [ltS, nm_ne, tk_ne, hF])); with_reducible refine evp ?_) | ((refine la_g0 rfl ?_); (try (conv => arg 1; simp [ltS, nm_ne, tk_ne, hF])); with_reducible refine evp ?_; (with_reducible refine evp ?_); try ((try (conv => arg 1; simp [ltS, nm_ne, tk_ne, hF])); with_reducible refine evp ?_))) | ((with_reducible refine la_id ?_); refine la_all rfl ?_) | ((with_reducible refine all_id ?_); (conv => arg 1; whnf); first | exact all_nil | refine all_cons ?_ ?_) | (refine la_op rfl (by first | exact frm_s (by decide +kernel) | exact frm_a (by repeat' (first | exact fa_nil | refine fa_cons (by decide +kernel) ?_))) (by intro hq; first | exact trivial | (cases hq; done) | simp [appT, ltS, nm_ne, tk_ne, hF]) ?_; (repeat (first | refine bk_nil ?_ | refine bk_t (by decide +kernel) ?_ | refine bk_f (by decide +kernel) ?_))) | fail)
  repeat' (first | (with_reducible first | refine stp ?_ | refine k_blk_o rfl ?_ | refine k_seq_n ?_) | ((try (conv => arg 1; simp [b2, z2, q1.1, q1.2.1, q1.2.2, q2.1, q2.2.1, q2.2.2, ltS, nm_ne, tk_ne])); with_reducible refine evp ?_) | fail)
  refine fin_own (os := []) (ns := n) (bs := ?bs1) ?y1
  case y1 => exact Cx.to x2

set_option maxHeartbeats 4000000 in
theorem implLayout (g : Graph) (d : g.Small) (A I : List Int) : FreshW Tryz.prog 10 [.agg (g.cells true), ints true A, ints true I] (fun b => .agg ((layoutR g A I).cells b)) := by
  intro T
  have hcl := countsR_len (g := g) (A := A) (I := I)
  have hkl := chainR_len g d (countsR g A I)
  have C := (implCounts0 g d A I).pure
  by_cases hn : countsR g A I = []
  · rw [layoutR_nil hn]
    rw [hn] at C
    refine enter mixed MG96 Tryz.func10 rfl (by kernel_rfl) rfl ?_
    repeat' (first | (with_reducible first | refine stp ?_ | refine k_blk_o rfl ?_) | ((try (conv => arg 1; simp [Graph.cells])); with_reducible refine evp ?_) | fail)
    refine cx_k ((Cx.mt.next.box_one (T := T) (i := 0) Cx.mt.off (by simp)).box_add (n := (T, 1, 0)) (by simp [nms]) (by simp)) ?_
    intro h1 x1
    have b1 := x1.bxs
    simp only [Bxs] at b1
    repeat' (first | (with_reducible first | refine stp ?_ | refine k_blk_o rfl ?_ | refine k_seq_n ?_) | ((try (conv => arg 1; simp [b1, ltS, nm_ne, tk_ne])); with_reducible refine evp ?_) | ((with_reducible refine tcl ?_); first | ((apply tg (C)); (case e => rfl); (case d => (refine dq ?_); (repeat' (first | ((refine Da.mk ?_); first | exact dr_blocks (by simp) _ | assumption) | constructor))))) | fail)
    refine st_freshw rfl (copyGraph g d) (.cons (dr_agg (drs_graphL g fun h => h)) .nil) ?_
    intro v h2 n o e f p t
    have x2 := (Cx.to x1).fresh o e f p t
    have z2 : h1.tick < h2.tick := by simp only [hp_next_tick] at t; omega
    obtain ⟨w1, w2, _, _, rfl, _, q1, q2⟩ := ownV_graph (o true)
    have q1 := own_one q1
    have q2 := own_one' q2
    have b2 := x2.bxs
    simp only [Bxs] at b2
    repeat' (first | (with_reducible first | refine stp ?_ | refine k_blk_o rfl ?_ | refine k_seq_n ?_) | ((try (conv => arg 1; simp [b2, z2, q1.1, q1.2.1, q1.2.2, q2.1, q2.2.1, q2.2.2, ltS, nm_ne, tk_ne])); with_reducible refine evp ?_) | fail)
    refine fin_own (os := []) (ns := n) (bs := ?bs1) ?y1
    case y1 => exact Cx.to x2
  · obtain ⟨hg, hl⟩ := countsR_some hn
    have K := (implchain g d hg (countsR g A I) hl).pure
    rw [show (ch g (countsR g A I) g.Blocks.length).1 = chainR g (countsR g A I) by simp [chainR, hg, hl]] at K
    have R := implReorder0 g d (chainR g (countsR g A I)) hkl
    rw [show reorderR g (chainR g (countsR g A I)) = layoutR g A I from rfl] at R
    have hcz : ¬ ((countsR g A I).length : Int) = 0 := by
      have := (ok_blocks hg).1
      omega
    generalize countsR g A I = cs at C K R hcz hn
    generalize chainR g cs = ks at K R
    generalize layoutR g A I = r at R ⊢
    refine enter mixed MG96 Tryz.func10 rfl (by kernel_rfl) rfl ?_
    repeat' (first | (with_reducible first | refine stp ?_ | refine k_blk_o rfl ?_) | ((try (conv => arg 1; simp [Graph.cells])); with_reducible refine evp ?_) | fail)
    refine cx_k ((Cx.mt.next.box_one (T := T) (i := 0) Cx.mt.off (by simp)).box_add (n := (T, 1, 0)) (by simp [nms]) (by simp)) ?_
    intro h1 x1
    have b1 := x1.bxs
    simp only [Bxs] at b1
    repeat' (first | (with_reducible first | refine stp ?_ | refine k_blk_o rfl ?_ | refine k_seq_n ?_) | ((try (conv => arg 1; simp [b1, hcz, hn, ltS, nm_ne, tk_ne])); with_reducible refine evp ?_) | ((with_reducible refine tcl ?_); first | ((apply tg (C)); (case e => rfl); (case d => (refine dq ?_); (repeat' (first | ((refine Da.mk ?_); first | exact dr_blocks (by simp) _ | assumption) | constructor))))) | fail)
    repeat (with_reducible first | refine stp ?_ | refine k_seq_n ?_)
    refine st_lz (by kernel_rfl) ?_
    repeat' (first | (with_reducible first | refine stp ?_ | refine k_blk_o rfl ?_) | ((try (conv => arg 1; simp [b1, ltS, nm_ne, tk_ne])); with_reducible refine evp ?_) | ((with_reducible refine tcl ?_); first | ((apply tg (K)); (case e => rfl); (case d => (refine dq ?_); (repeat' (first | ((refine Da.mk ?_); first | exact dr_blocks (by simp) _ | exact dr_ints (by simp) _ | assumption) | constructor))))) | ((with_reducible refine la_id ?_); refine la_end rfl ?_; (repeat (first | refine pl_nil ?_ | refine pl_cons ?_))) | ((with_reducible refine la_id ?_); refine la_pick ?_; (conv => arg 1; whnf); (repeat ((fail_if_success (first | ((refine la_q0 rfl ?_); (try (conv => arg 1; simp [b1, ltS, nm_ne, tk_ne])); with_reducible refine evp ?_) | ((refine la_n rfl rfl ?_); (try (conv => arg 1; simp [b1, ltS, nm_ne, tk_ne])); with_reducible refine evp ?_) | ((refine la_q2 rfl (by decide +kernel) ?_); (repeat (first | refine bk_nil ?_ | refine bk_t (by decide +kernel) ?_ | refine bk_f (by decide +kernel) ?_)); (try (conv => arg 1; simp [b1, ltS, nm_ne, tk_ne])); with_reducible refine evp ?_) | ((refine la_q1 rfl (by decide +kernel) ?_); (try (conv => arg 1; simp [b1, ltS, nm_ne, tk_ne])); with_reducible refine evp ?_) | ((refine la_g0 rfl ?_); (try (conv => arg 1; simp [b1, ltS, nm_ne, tk_ne])); with_reducible refine evp ?_; (with_reducible refine evp ?_); try ((try (conv => arg 1; simp [b1, ltS, nm_ne, tk_ne])); with_reducible refine evp ?_)))); (refine la_there ?_); (conv => arg 1; whnf))); first | ((refine la_q0 rfl ?_); (try (conv => arg 1; simp [b1, ltS, nm_ne, tk_ne])); with_reducible refine evp ?_) | ((refine la_n rfl rfl ?_); (try (conv => arg 1; simp [b1, ltS, nm_ne, tk_ne])); with_reducible refine evp ?_) | ((refine la_q2 rfl (by decide +kernel) ?_); (repeat (first | refine bk_nil ?_ | refine bk_t (by decide +kernel) ?_ | refine bk_f (by decide +kernel) ?_)); (try (conv => arg 1; simp [b1, ltS, nm_ne, tk_ne])); with_reducible refine evp ?_) | ((refine la_q1 rfl (by decide +kernel) ?_); (try (conv => arg 1; simp [b1, ltS, nm_ne, tk_ne])); with_reducible refine evp ?_) | ((refine la_g0 rfl ?_); (try (conv => arg 1; simp [b1, ltS, nm_ne, tk_ne])); with_reducible refine evp ?_; (with_reducible refine evp ?_); try ((try (conv => arg 1; simp [b1, ltS, nm_ne, tk_ne])); with_reducible refine evp ?_))) | ((with_reducible refine la_id ?_); refine la_all rfl ?_) | ((with_reducible refine all_id ?_); (conv => arg 1; whnf); first | exact all_nil | refine all_cons ?_ ?_) | (refine la_op rfl (by first | exact frm_s (by decide +kernel) | exact frm_a (by repeat' (first | exact fa_nil | refine fa_cons (by decide +kernel) ?_))) (by intro hq; first | exact trivial | (cases hq; done) | simp [appT, b1, ltS, nm_ne, tk_ne]) ?_; (repeat (first | refine bk_nil ?_ | refine bk_t (by decide +kernel) ?_ | refine bk_f (by decide +kernel) ?_))) | fail)
    refine st_freshw rfl R (.cons (dr_agg (drs_graphL g fun h => h)) (.cons (dr_ints (by simp) _) .nil)) ?_
    intro v h2 n o e f p t
    have x2 := (Cx.to x1).fresh o e f p t
    have z2 : h1.tick < h2.tick := by simp only [hp_next_tick] at t; omega
    obtain ⟨w1, w2, _, _, rfl, _, q1, q2⟩ := ownV_graph (o true)
    have q1 := own_one q1
    have q2 := own_one' q2
    have b2 := x2.bxs
    simp only [Bxs] at b2
    have hF := And.intro b2 (And.intro z2 (And.intro q1.1 (And.intro q1.2.1 (And.intro q1.2.2 (And.intro q2.1 (And.intro q2.2.1 q2.2.2))))))
    repeat' (first | (with_reducible first | refine stp ?_ | refine k_blk_o rfl ?_) | ((try (conv => arg 1; simp [ltS, nm_ne, tk_ne, hF])); with_reducible refine evp ?_) | ((with_reducible refine la_id ?_); refine la_end rfl ?_; (repeat (first | refine pl_nil ?_ | refine pl_cons ?_))) | ((with_reducible refine la_id ?_); refine la_pick ?_; (conv => arg 1; whnf); (repeat ((fail_if_success (first | ((refine la_q0 rfl ?_); (try (conv => arg 1; simp [ltS, nm_ne, tk_ne, hF])); with_reducible refine evp ?_) | ((refine la_n rfl rfl ?_); (try (conv => arg 1; simp [ltS, nm_ne, tk_ne, hF])); with_reducible refine evp ?_) | ((refine la_q2 rfl (by decide +kernel) ?_); (repeat (first | refine bk_nil ?_ | refine bk_t (by decide +kernel) ?_ | refine bk_f (by decide +kernel) ?_)); (try (conv => arg 1; simp [ltS, nm_ne, tk_ne, hF])); with_reducible refine evp ?_) | ((refine la_q1 rfl (by decide +kernel) ?_); (try (conv => arg 1; simp [ltS, nm_ne, tk_ne, hF])); with_reducible refine evp ?_) | ((refine la_g0 rfl ?_); (try (conv => arg 1; simp [ltS, nm_ne, tk_ne, hF])); with_reducible refine evp ?_; (with_reducible refine evp ?_); try ((try (conv => arg 1; simp [ltS, nm_ne, tk_ne, hF])); with_reducible refine evp ?_)))); (refine la_there ?_); (conv => arg 1; whnf))); first | ((refine la_q0 rfl ?_); (try (conv => arg 1; simp [ltS, nm_ne, tk_ne, hF])); with_reducible refine evp ?_) | ((refine la_n rfl rfl ?_); (try (conv => arg 1; simp [ltS, nm_ne, tk_ne, hF])); with_reducible refine evp ?_) | ((refine la_q2 rfl (by decide +kernel) ?_); (repeat (first | refine bk_nil ?_ | refine bk_t (by decide +kernel) ?_ | refine bk_f (by decide +kernel) ?_)); (try (conv => arg 1; simp [ltS, nm_ne, tk_ne, hF])); with_reducible refine evp ?_) | ((refine la_q1 rfl (by decide +kernel) ?_); (try (conv => arg 1; simp [ltS, nm_ne, tk_ne, hF])); with_reducible refine evp ?_) | ((refine la_g0 rfl ?_); (try (conv => arg 1; simp [ltS, nm_ne, tk_ne, hF])); with_reducible refine evp ?_; (with_reducible refine evp ?_); try ((try (conv => arg 1; simp [ltS, nm_ne, tk_ne, hF])); with_reducible refine evp ?_))) | ((with_reducible refine la_id ?_); refine la_all rfl ?_) | ((with_reducible refine all_id ?_); (conv => arg 1; whnf); first | exact all_nil | refine all_cons ?_ ?_) | (refine la_op rfl (by first | exact frm_s (by decide +kernel) | exact frm_a (by repeat' (first | exact fa_nil | refine fa_cons (by decide +kernel) ?_))) (by intro hq; first | exact trivial | (cases hq; done) | simp [appT, ltS, nm_ne, tk_ne, hF]) ?_; (repeat (first | refine bk_nil ?_ | refine bk_t (by decide +kernel) ?_ | refine bk_f (by decide +kernel) ?_))) | fail)
    repeat' (first | (with_reducible first | refine stp ?_ | refine k_blk_o rfl ?_ | refine k_seq_n ?_) | ((try (conv => arg 1; simp [b2, z2, q1.1, q1.2.1, q1.2.2, q2.1, q2.2.1, q2.2.2, ltS, nm_ne, tk_ne])); with_reducible refine evp ?_) | fail)
    refine fin_own (os := []) (ns := n) (bs := ?bs2) ?y2
    case y2 => exact Cx.to x2
end Go.Proofs.YtlmlkkkgcbpaoaaGreat.AM


namespace Go.Proofs.YtlmlkkkgcbpaoaaGreat.AM
open Go.RowKit

private def MLLayout : FuncId → Mode := fun f => if f = 8 ∨ f = 9 ∨ f = 10 then .fresh else if f = 13 ∨ f = 14 then .heap else .tree

set_option maxHeartbeats 2000000 in
theorem lawLayout (g : Graph) (aa : List Int) (ii : List Int) (d_g : g.Data) (d_aa : aa.length ≤ maxLen) (d_ii : ii.length ≤ maxLen) : Sound Tryz.prog 3 [.agg (g.cells true), ints true aa, ints true ii] (.mt 0) fun v _ => v = .bool true := by
  have hnil : True := trivial
  refine enter mixed MLLayout Tryz.func3 rfl (by kernel_rfl) rfl ?_
  repeat' (first | (with_reducible first | refine stp ?_ | refine k_blk_o rfl ?_) | ((try (conv => arg 1; simp [Graph.cells])); with_reducible refine evp ?_) | fail)
  refine cx_k Cx.mt_box ?_
  intro h1 x1
  repeat' (first | (with_reducible first | refine stp ?_ | refine k_blk_o rfl ?_) | ((try (conv => arg 1; simp [hnil])); with_reducible refine evp ?_) | fail)
  refine cx_k x1.next ?_
  intro h2 x2
  by_cases hl_aa : (1048576 : Int) < (aa.length : Int)
  · skip
    repeat' (first | (with_reducible first | refine stp ?_ | refine k_blk_o rfl ?_ | refine k_seq_n ?_) | ((try (conv => arg 1; simp [hl_aa])); with_reducible refine evp ?_) | fail)
    rfl
  have hq_aa := hl_aa
  repeat' (first | (with_reducible first | refine stp ?_ | refine k_blk_o rfl ?_) | ((try (conv => arg 1; simp [hl_aa])); with_reducible refine evp ?_) | fail)
  refine k_seq_n ?_
  replace hl_aa : aa.length ≤ 2 ^ 20 := by omega
  repeat' (first | (with_reducible first | refine stp ?_ | refine k_blk_o rfl ?_) | ((try (conv => arg 1; simp [hnil])); with_reducible refine evp ?_) | fail)
  refine cx_k x2.next ?_
  intro h3 x3
  by_cases hl_ii : (1048576 : Int) < (ii.length : Int)
  · skip
    repeat' (first | (with_reducible first | refine stp ?_ | refine k_blk_o rfl ?_ | refine k_seq_n ?_) | ((try (conv => arg 1; simp [hl_ii])); with_reducible refine evp ?_) | fail)
    rfl
  have hq_ii := hl_ii
  repeat' (first | (with_reducible first | refine stp ?_ | refine k_blk_o rfl ?_) | ((try (conv => arg 1; simp [hl_ii])); with_reducible refine evp ?_) | fail)
  refine k_seq_n ?_
  replace hl_ii : ii.length ≤ 2 ^ 20 := by omega
  repeat' (first | (with_reducible first | refine stp ?_ | refine k_blk_o rfl ?_) | ((try (conv => arg 1; simp [hnil])); with_reducible refine evp ?_) | fail)
  refine cx_k x3.next ?_
  intro h4 x4
  obtain ⟨r1, hr_g, hs_g⟩ := szGraph g 1048576 (by omega) (by omega) d_g
  repeat' (first | (with_reducible first | refine stp ?_ | refine k_blk_o rfl ?_) | ((try (conv => arg 1; simp [x4.b0])); with_reducible refine evp ?_) | fail)
  refine st_tree rfl (hr_g) (.cons (dr_agg (drs_graphL g fun h => h)) (.cons (.int _ _) .nil)) ?_
  repeat' (first | (with_reducible first | refine stp ?_ | refine k_blk_o rfl ?_) | ((try (conv => arg 1; simp [x4.b0])); with_reducible refine evp ?_) | fail)
  refine cx_k x4.next ?_
  intro h5 x5
  repeat' (first | (with_reducible first | refine stp ?_ | refine k_blk_o rfl ?_) | ((try (conv => arg 1; simp [hnil])); with_reducible refine evp ?_) | fail)
  refine cx_k x5.next ?_
  intro h6 x6
  by_cases hneg : r1 < 0
  · skip
    repeat' (first | (with_reducible first | refine stp ?_ | refine k_blk_o rfl ?_ | refine k_seq_n ?_) | ((try (conv => arg 1; simp [hneg])); with_reducible refine evp ?_) | fail)
    rfl
  repeat' (first | (with_reducible first | refine stp ?_ | refine k_blk_o rfl ?_) | ((try (conv => arg 1; simp [hneg])); with_reducible refine evp ?_) | fail)
  refine k_seq_n ?_
  replace hs_g := hs_g.resolve_left hneg
  obtain ⟨hs_g, hg1_g, hg2_g⟩ := hs_g
  have S := (specLayout g hs_g aa ii).pure
  have I := implLayout g hs_g aa ii
  have hr := layoutR_small g hs_g aa ii
  have ht_g := hs_g.tot
  generalize layoutR g aa ii = R at S I hr
  have ht_R := hr.tot
  repeat' (first | (with_reducible first | refine stp ?_ | refine k_blk_o rfl ?_) | ((try (conv => arg 1; simp [x6.b0])); with_reducible refine evp ?_) | fail)
  refine st_freshw rfl (toGraph g hs_g) (.cons (dr_agg (drs_graphL g fun h => h)) .nil) ?_
  intro v1 h7 n1 o1 e1 f1 p1 t1
  have x7 := x6.next.fresh o1 e1 f1 p1 t1
  have z7 : h6.tick < h7.tick := by simp only [hp_next_tick] at t1; omega
  obtain ⟨wa1, wb1, _, _, rfl, _, qa1, qb1⟩ := ownV_graph (o1 true)
  have qa1 := own_one qa1
  have qb1 := own_one' qb1
  repeat' (first | (with_reducible first | refine stp ?_ | refine k_blk_o rfl ?_) | ((try (conv => arg 1; simp [x7.b0, z7, qa1.1, qb1.1])); with_reducible refine evp ?_) | fail)
  refine st_fresh rfl (toIntS aa hl_aa) (.cons (dr_ints (fun h => h) _) .nil) ?_
  intro v2 h8 n2 o2 e2 f2 p2 t2
  have x8 := x7.fresh o2 e2 f2 p2 t2
  have z8 : h6.tick < h8.tick := by omega
  repeat' (first | (with_reducible first | refine stp ?_ | refine k_blk_o rfl ?_) | ((try (conv => arg 1; simp [x8.b0, z8])); with_reducible refine evp ?_) | fail)
  refine st_fresh rfl (toIntS ii hl_ii) (.cons (dr_ints (fun h => h) _) .nil) ?_
  intro v3 h9 n3 o3 e3 f3 p3 t3
  have x9 := x8.fresh o3 e3 f3 p3 t3
  have z9 : h6.tick < h9.tick := by omega
  repeat' (first | (with_reducible first | refine stp ?_ | refine k_blk_o rfl ?_) | ((try (conv => arg 1; simp [x9.b0, z9])); with_reducible refine evp ?_) | fail)
  refine st_tree rfl (S) (.cons ((x9.o2 true).dr) (.cons ((x9.o1 true).dr) (.cons ((x9.o0 true).dr) .nil))) ?_
  repeat' (first | (with_reducible first | refine stp ?_ | refine k_blk_o rfl ?_) | ((try (conv => arg 1; simp [x9.b0, z9, Graph.cells])); with_reducible refine evp ?_) | fail)
  refine cx_k (x9.box_new (((x6.off.fresh f1 (by simp [hp_next_tick])).fresh f2 z7).fresh f3 z8) z9) ?_
  intro h10 x10
  repeat' (first | (with_reducible first | refine stp ?_ | refine k_blk_o rfl ?_) | ((try (conv => arg 1; simp [x10.b1])); with_reducible refine evp ?_) | fail)
  refine st_freshw rfl (toGraph g hs_g) (.cons (dr_agg (drs_graphL g fun h => h)) .nil) ?_
  intro v4 h11 n4 o4 e4 f4 p4 t4
  have x11 := x10.next.fresh o4 e4 f4 p4 t4
  have z11 : h10.tick < h11.tick := by simp only [hp_next_tick] at t4; omega
  obtain ⟨wa4, wb4, _, _, rfl, _, qa4, qb4⟩ := ownV_graph (o4 true)
  have qa4 := own_one qa4
  have qb4 := own_one' qb4
  repeat' (first | (with_reducible first | refine stp ?_ | refine k_blk_o rfl ?_) | ((try (conv => arg 1; simp [x11.b1, z11, qa4.1, qb4.1])); with_reducible refine evp ?_) | fail)
  refine cx_k (x11.box_new (x10.off.fresh f4 (by simp [hp_next_tick])) z11) ?_
  intro h12 x12
  repeat' (first | (with_reducible first | refine stp ?_ | refine k_blk_o rfl ?_) | ((try (conv => arg 1; simp [hnil])); with_reducible refine evp ?_) | fail)
  refine st_fresh rfl (toIntS aa hl_aa) (.cons (dr_ints (fun h => h) _) .nil) ?_
  intro v5 h13 n5 o5 e5 f5 p5 t5
  have x13 := x12.next.fresh o5 e5 f5 p5 t5
  have z13 : h12.tick < h13.tick := by simp only [hp_next_tick] at t5; omega
  repeat' (first | (with_reducible first | refine stp ?_ | refine k_blk_o rfl ?_) | ((try (conv => arg 1; simp [z13])); with_reducible refine evp ?_) | fail)
  refine cx_k x13 ?_
  intro h14 x14
  repeat' (first | (with_reducible first | refine stp ?_ | refine k_blk_o rfl ?_) | ((try (conv => arg 1; simp [hnil])); with_reducible refine evp ?_) | fail)
  refine st_fresh rfl (toIntS ii hl_ii) (.cons (dr_ints (fun h => h) _) .nil) ?_
  intro v6 h15 n6 o6 e6 f6 p6 t6
  have x15 := x14.next.fresh o6 e6 f6 p6 t6
  have z15 : h14.tick < h15.tick := by simp only [hp_next_tick] at t6; omega
  repeat' (first | (with_reducible first | refine stp ?_ | refine k_blk_o rfl ?_) | ((try (conv => arg 1; simp [z15])); with_reducible refine evp ?_) | fail)
  refine cx_k x15 ?_
  intro h16 x16
  repeat' (first | (with_reducible first | refine stp ?_ | refine k_blk_o rfl ?_) | ((try (conv => arg 1; simp [x16.b0, qa4.1, qb4.1])); with_reducible refine evp ?_) | fail)
  refine st_freshw rfl I (.cons ((x16.next.o2 true).dr) (.cons ((x16.next.o1 true).dr) (.cons ((x16.next.o0 true).dr) .nil))) ?_
  intro v7 h17 n7 o7 e7 f7 p7 t7
  have x17 := x16.next.fresh o7 e7 f7 p7 t7
  have z17 : h16.tick < h17.tick := by simp only [hp_next_tick] at t7; omega
  obtain ⟨wa7, wb7, _, _, rfl, _, qa7, qb7⟩ := ownV_graph (o7 true)
  have qa7 := own_one qa7
  have qb7 := own_one' qb7
  repeat' (first | (with_reducible first | refine stp ?_ | refine k_blk_o rfl ?_) | ((try (conv => arg 1; simp [x17.b0, qa4.1, qb4.1, z17, qa7.1, qb7.1])); with_reducible refine evp ?_) | fail)
  refine cx_k (x17.box_new (x16.off.fresh f7 (by simp [hp_next_tick])) z17) ?_
  intro h18 x18
  repeat' (first | (with_reducible first | refine stp ?_ | refine k_blk_o rfl ?_) | ((try (conv => arg 1; simp [x18.b0, x18.b2, qa7.1, qb7.1])); with_reducible refine evp ?_) | fail)
  refine st_tree rfl (eqGraph R hr) (.cons ((x18.next.o0 true).dr) (.cons (dr_agg (drs_graphL R (by simp))) .nil)) ?_
  repeat' (first | (with_reducible first | refine stp ?_ | refine k_blk_o rfl ?_) | ((try (conv => arg 1; simp [x18.b0, x18.b2, qa7.1, qb7.1])); with_reducible refine evp ?_) | fail)
  refine cx_k x18.next ?_
  intro h19 x19
  repeat' (first | (with_reducible first | refine stp ?_ | refine k_blk_o rfl ?_) | ((try (conv => arg 1; simp [hnil])); with_reducible refine evp ?_) | fail)
  refine k_seq_n ?_
  repeat' (first | (with_reducible first | refine stp ?_ | refine k_blk_o rfl ?_) | ((try (conv => arg 1; simp [hnil])); with_reducible refine evp ?_) | fail)
  repeat (with_reducible first | refine stp ?_ | refine k_seq_n ?_)
  refine st_draw 5 (fun _ => false) (by kernel_rfl) ?_
  simp only [List.take_succ_cons, List.take_zero, List.drop_succ_cons, List.drop_zero, List.take_nil, List.drop_nil]
  repeat' (first | (with_reducible first | refine stp ?_ | refine k_blk_o rfl ?_) | ((try (conv => arg 1; simp [x19.b1, x19.b3, x19.l1, x19.l3, qa4.1, qb4.1])); with_reducible refine evp ?_) | ((with_reducible refine apn ?na ?_); (case na => simp [appNames, ints, intss] <;> first | kernel_rfl | (refine ⟨?_, ?_⟩ <;> kernel_rfl))) | fail)
  refine treeW_pure (toGraph g hs_g).pure (.cons (dr_agg (drs_graphL g fun h => h)) .nil) ?_
  repeat' (first | (with_reducible first | refine stp ?_ | refine k_blk_o rfl ?_) | ((try (conv => arg 1; simp [x19.b1, x19.b3, x19.l1, x19.l3, qa4.1, qb4.1])); with_reducible refine evp ?_) | ((with_reducible refine apn ?na ?_); (case na => simp [appNames, ints, intss] <;> first | kernel_rfl | (refine ⟨?_, ?_⟩ <;> kernel_rfl))) | fail)
  refine treeW_pure (eqGraph g hs_g) (.cons ((x19.m3 true).dr) (.cons (dr_agg (drs_graphL g (by simp))) .nil)) ?_
  repeat' (first | (with_reducible first | refine stp ?_ | refine k_blk_o rfl ?_) | ((try (conv => arg 1; simp [x19.b1, x19.b3, x19.l1, x19.l3, qa4.1, qb4.1])); with_reducible refine evp ?_) | ((with_reducible refine apn ?na ?_); (case na => simp [appNames, ints, intss] <;> first | kernel_rfl | (refine ⟨?_, ?_⟩ <;> kernel_rfl))) | fail)
  refine cx_k x19.next ?_
  intro h20 x20
  repeat' (first | (with_reducible first | refine stp ?_ | refine k_blk_o rfl ?_) | ((try (conv => arg 1; simp [hnil])); with_reducible refine evp ?_) | ((with_reducible refine apn ?na ?_); (case na => simp [appNames, ints, intss] <;> first | kernel_rfl | (refine ⟨?_, ?_⟩ <;> kernel_rfl))) | fail)
  refine k_seq_n ?_
  repeat' (first | (with_reducible first | refine stp ?_ | refine k_blk_o rfl ?_) | ((try (conv => arg 1; simp [hnil])); with_reducible refine evp ?_) | ((with_reducible refine apn ?na ?_); (case na => simp [appNames, ints, intss] <;> first | kernel_rfl | (refine ⟨?_, ?_⟩ <;> kernel_rfl))) | fail)
  refine st_fresh rfl (toIntS aa hl_aa) (.cons (dr_ints (fun h => h) _) .nil) ?_
  intro v8 h21 n8 o8 e8 f8 p8 t8
  have x21 := x20.next.fresh o8 e8 f8 p8 t8
  have z21 : h20.tick < h21.tick := by simp only [hp_next_tick] at t8; omega
  repeat' (first | (with_reducible first | refine stp ?_ | refine k_blk_o rfl ?_) | ((try (conv => arg 1; simp [z21])); with_reducible refine evp ?_) | ((with_reducible refine apn ?na ?_); (case na => simp [appNames, ints, intss] <;> first | kernel_rfl | (refine ⟨?_, ?_⟩ <;> kernel_rfl))) | fail)
  refine st_tree rfl (eqIntS aa (by omega)) (.cons ((x21.o3 true).dr) (.cons ((x21.o0 true).dr) .nil)) ?_
  repeat' (first | (with_reducible first | refine stp ?_ | refine k_blk_o rfl ?_) | ((try (conv => arg 1; simp [z21])); with_reducible refine evp ?_) | ((with_reducible refine apn ?na ?_); (case na => simp [appNames, ints, intss] <;> first | kernel_rfl | (refine ⟨?_, ?_⟩ <;> kernel_rfl))) | fail)
  refine cx_k x21 ?_
  intro h22 x22
  repeat' (first | (with_reducible first | refine stp ?_ | refine k_blk_o rfl ?_) | ((try (conv => arg 1; simp [hnil])); with_reducible refine evp ?_) | ((with_reducible refine apn ?na ?_); (case na => simp [appNames, ints, intss] <;> first | kernel_rfl | (refine ⟨?_, ?_⟩ <;> kernel_rfl))) | fail)
  refine k_seq_n ?_
  repeat' (first | (with_reducible first | refine stp ?_ | refine k_blk_o rfl ?_) | ((try (conv => arg 1; simp [hnil])); with_reducible refine evp ?_) | ((with_reducible refine apn ?na ?_); (case na => simp [appNames, ints, intss] <;> first | kernel_rfl | (refine ⟨?_, ?_⟩ <;> kernel_rfl))) | fail)
  refine st_fresh rfl (toIntS ii hl_ii) (.cons (dr_ints (fun h => h) _) .nil) ?_
  intro v9 h23 n9 o9 e9 f9 p9 t9
  have x23 := x22.next.fresh o9 e9 f9 p9 t9
  have z23 : h22.tick < h23.tick := by simp only [hp_next_tick] at t9; omega
  repeat' (first | (with_reducible first | refine stp ?_ | refine k_blk_o rfl ?_) | ((try (conv => arg 1; simp [z23])); with_reducible refine evp ?_) | ((with_reducible refine apn ?na ?_); (case na => simp [appNames, ints, intss] <;> first | kernel_rfl | (refine ⟨?_, ?_⟩ <;> kernel_rfl))) | fail)
  refine st_tree rfl (eqIntS ii (by omega)) (.cons ((x23.o3 true).dr) (.cons ((x23.o0 true).dr) .nil)) ?_
  repeat' (first | (with_reducible first | refine stp ?_ | refine k_blk_o rfl ?_) | ((try (conv => arg 1; simp [z23])); with_reducible refine evp ?_) | ((with_reducible refine apn ?na ?_); (case na => simp [appNames, ints, intss] <;> first | kernel_rfl | (refine ⟨?_, ?_⟩ <;> kernel_rfl))) | fail)
  refine cx_k x23 ?_
  intro h24 x24
  repeat' (first | (with_reducible first | refine stp ?_ | refine k_blk_o rfl ?_) | ((try (conv => arg 1; simp [hnil])); with_reducible refine evp ?_) | ((with_reducible refine apn ?na ?_); (case na => simp [appNames, ints, intss] <;> first | kernel_rfl | (refine ⟨?_, ?_⟩ <;> kernel_rfl))) | fail)
  refine k_seq_n ?_
  repeat' (first | (with_reducible first | refine stp ?_ | refine k_blk_o rfl ?_) | ((try (conv => arg 1; simp [hnil])); with_reducible refine evp ?_) | ((with_reducible refine apn ?na ?_); (case na => simp [appNames, ints, intss] <;> first | kernel_rfl | (refine ⟨?_, ?_⟩ <;> kernel_rfl))) | fail)
  refine cx_k x24.next ?_
  intro h25 x25
  repeat' (first | (with_reducible first | refine stp ?_ | refine k_blk_o rfl ?_) | ((try (conv => arg 1; simp [x25.b1, qa4.1, qb4.1])); with_reducible refine evp ?_) | ((with_reducible refine apn ?na ?_); (case na => simp [appNames, ints, intss] <;> first | kernel_rfl | (refine ⟨?_, ?_⟩ <;> kernel_rfl))) | fail)
  have y1 := x25.next.rot5
  refine st_heap rfl (markGraph y1 hs_g (1) (by omega) (by omega)) ?_
  rintro r h26 ⟨rfl, yy1⟩
  have x26 := yy1.drop
  repeat' (first | (with_reducible first | refine stp ?_ | refine k_blk_o rfl ?_) | ((try (conv => arg 1; simp [x26.b1, qa4.1, qb4.1])); with_reducible refine evp ?_) | ((with_reducible refine apn ?na ?_); (case na => simp [appNames, ints, intss] <;> first | kernel_rfl | (refine ⟨?_, ?_⟩ <;> kernel_rfl))) | fail)
  refine cx_k x26 ?_
  intro h27 x27
  repeat' (first | (with_reducible first | refine stp ?_ | refine k_blk_o rfl ?_) | ((try (conv => arg 1; simp [hnil])); with_reducible refine evp ?_) | ((with_reducible refine apn ?na ?_); (case na => simp [appNames, ints, intss] <;> first | kernel_rfl | (refine ⟨?_, ?_⟩ <;> kernel_rfl))) | fail)
  have y2 := x27.next.rot4
  refine st_heap rfl (markIntS (own_of (y2.o0 true) rfl) y2.lts (1 + (g.tot : Int)) (by omega) (by omega)) ?_
  rintro r h28 ⟨rfl, _, pk2, tk2⟩
  have x28 := y2.forget (fun n a _ => pk2 n a) tk2
  repeat' (first | (with_reducible first | refine stp ?_ | refine k_blk_o rfl ?_) | ((try (conv => arg 1; simp [hnil])); with_reducible refine evp ?_) | ((with_reducible refine apn ?na ?_); (case na => simp [appNames, ints, intss] <;> first | kernel_rfl | (refine ⟨?_, ?_⟩ <;> kernel_rfl))) | fail)
  refine cx_k x28 ?_
  intro h29 x29
  repeat' (first | (with_reducible first | refine stp ?_ | refine k_blk_o rfl ?_) | ((try (conv => arg 1; simp [hnil])); with_reducible refine evp ?_) | ((with_reducible refine apn ?na ?_); (case na => simp [appNames, ints, intss] <;> first | kernel_rfl | (refine ⟨?_, ?_⟩ <;> kernel_rfl))) | fail)
  have y3 := x29.next.rot3
  refine st_heap rfl (markIntS (own_of (y3.o0 true) rfl) y3.lts (1 + (g.tot : Int) + (aa.length : Int)) (by omega) (by omega)) ?_
  rintro r h30 ⟨rfl, _, pk3, tk3⟩
  have x30 := y3.forget (fun n a _ => pk3 n a) tk3
  repeat' (first | (with_reducible first | refine stp ?_ | refine k_blk_o rfl ?_) | ((try (conv => arg 1; simp [hnil])); with_reducible refine evp ?_) | ((with_reducible refine apn ?na ?_); (case na => simp [appNames, ints, intss] <;> first | kernel_rfl | (refine ⟨?_, ?_⟩ <;> kernel_rfl))) | fail)
  refine cx_k x30 ?_
  intro h31 x31
  have hkneg : ¬ 1 + (g.tot : Int) + (aa.length : Int) + (ii.length : Int) < 0 := by omega
  repeat' (first | (with_reducible first | refine stp ?_ | refine k_blk_o rfl ?_) | ((try (conv => arg 1; simp [x31.b0, x31.b2, qa7.1, qb7.1, hkneg])); with_reducible refine evp ?_) | ((with_reducible refine apn ?na ?_); (case na => simp [appNames, ints, intss] <;> first | kernel_rfl | (refine ⟨?_, ?_⟩ <;> kernel_rfl))) | fail)
  refine st_tree rfl (eqGraph R hr) (.cons ((x31.next.o2 true).dr) (.cons (dr_agg (drs_graphL R (by simp))) .nil)) ?_
  repeat' (first | (with_reducible first | refine stp ?_ | refine k_blk_o rfl ?_) | ((try (conv => arg 1; simp [x31.b0, x31.b2, qa7.1, qb7.1, hkneg])); with_reducible refine evp ?_) | ((with_reducible refine apn ?na ?_); (case na => simp [appNames, ints, intss] <;> first | kernel_rfl | (refine ⟨?_, ?_⟩ <;> kernel_rfl))) | fail)
  refine cx_k x31.next ?_
  intro h32 x32
  repeat' (first | (with_reducible first | refine stp ?_ | refine k_blk_o rfl ?_) | ((try (conv => arg 1; simp [hkneg])); with_reducible refine evp ?_) | ((with_reducible refine apn ?na ?_); (case na => simp [appNames, ints, intss] <;> first | kernel_rfl | (refine ⟨?_, ?_⟩ <;> kernel_rfl))) | fail)
  refine k_seq_n ?_
  repeat' (first | (with_reducible first | refine stp ?_ | refine k_blk_o rfl ?_) | ((try (conv => arg 1; simp [hkneg])); with_reducible refine evp ?_) | ((with_reducible refine apn ?na ?_); (case na => simp [appNames, ints, intss] <;> first | kernel_rfl | (refine ⟨?_, ?_⟩ <;> kernel_rfl))) | fail)
  refine cx_k x32.next ?_
  intro h33 x33
  repeat' (first | (with_reducible first | refine stp ?_ | refine k_blk_o rfl ?_) | ((try (conv => arg 1; simp [x33.b0, qa7.1, qb7.1, hkneg])); with_reducible refine evp ?_) | ((with_reducible refine apn ?na ?_); (case na => simp [appNames, ints, intss] <;> first | kernel_rfl | (refine ⟨?_, ?_⟩ <;> kernel_rfl))) | fail)
  have y4 := x33.next.rot2
  refine st_heap rfl (markGraph y4 hr 1 (by omega) (by omega)) ?_
  rintro r h34 ⟨rfl, x34⟩
  have hgneg : ¬ 1 + (R.tot : Int) < 0 := by omega
  repeat' (first | (with_reducible first | refine stp ?_ | refine k_blk_o rfl ?_) | ((try (conv => arg 1; simp [x34.b0, qa7.1, qb7.1, hkneg, hgneg])); with_reducible refine evp ?_) | ((with_reducible refine apn ?na ?_); (case na => simp [appNames, ints, intss] <;> first | kernel_rfl | (refine ⟨?_, ?_⟩ <;> kernel_rfl))) | fail)
  refine cx_k x34 ?_
  intro h35 x35
  repeat' (first | (with_reducible first | refine stp ?_ | refine k_blk_o rfl ?_) | ((try (conv => arg 1; simp [hkneg, hgneg])); with_reducible refine evp ?_) | ((with_reducible refine apn ?na ?_); (case na => simp [appNames, ints, intss] <;> first | kernel_rfl | (refine ⟨?_, ?_⟩ <;> kernel_rfl))) | fail)
  refine cx_k x35.next ?_
  intro h36 x36
  repeat' (first | (with_reducible first | refine stp ?_ | refine k_blk_o rfl ?_) | ((try (conv => arg 1; simp [x36.b0, qa7.1, qb7.1, hkneg, hgneg])); with_reducible refine evp ?_) | ((with_reducible refine apn ?na ?_); (case na => simp [appNames, ints, intss] <;> first | kernel_rfl | (refine ⟨?_, ?_⟩ <;> kernel_rfl))) | fail)
  refine st_tree rfl (heldGraph R hr 1 (by omega) (by omega)) (.cons ((x36.next.o0 true).dr) (.cons (.int _ _) .nil)) ?_
  repeat' (first | (with_reducible first | refine stp ?_ | refine k_blk_o rfl ?_) | ((try (conv => arg 1; simp [x36.b0, qa7.1, qb7.1, hkneg, hgneg])); with_reducible refine evp ?_) | ((with_reducible refine apn ?na ?_); (case na => simp [appNames, ints, intss] <;> first | kernel_rfl | (refine ⟨?_, ?_⟩ <;> kernel_rfl))) | fail)
  refine cx_k x36.next ?_
  intro h37 x37
  repeat' (first | (with_reducible first | refine stp ?_ | refine k_blk_o rfl ?_) | ((try (conv => arg 1; simp [hkneg, hgneg])); with_reducible refine evp ?_) | ((with_reducible refine apn ?na ?_); (case na => simp [appNames, ints, intss] <;> first | kernel_rfl | (refine ⟨?_, ?_⟩ <;> kernel_rfl))) | fail)
  refine cx_k x37.next ?_
  intro h38 x38
  repeat' (first | (with_reducible first | refine stp ?_ | refine k_blk_o rfl ?_) | ((try (conv => arg 1; simp [hkneg, hgneg])); with_reducible refine evp ?_) | ((with_reducible refine apn ?na ?_); (case na => simp [appNames, ints, intss] <;> first | kernel_rfl | (refine ⟨?_, ?_⟩ <;> kernel_rfl))) | fail)
  refine k_seq_n ?_
  repeat' (first | (with_reducible first | refine stp ?_ | refine k_blk_o rfl ?_) | ((try (conv => arg 1; simp [hkneg, hgneg])); with_reducible refine evp ?_) | ((with_reducible refine apn ?na ?_); (case na => simp [appNames, ints, intss] <;> first | kernel_rfl | (refine ⟨?_, ?_⟩ <;> kernel_rfl))) | fail)
  refine cx_k x38.next ?_
  intro h39 x39
  repeat' (first | (with_reducible first | refine stp ?_ | refine k_blk_o rfl ?_) | ((try (conv => arg 1; simp [hkneg, hgneg])); with_reducible refine evp ?_) | ((with_reducible refine apn ?na ?_); (case na => simp [appNames, ints, intss] <;> first | kernel_rfl | (refine ⟨?_, ?_⟩ <;> kernel_rfl))) | fail)
  refine k_seq_n ?_
  repeat' (first | (with_reducible first | refine stp ?_ | refine k_blk_o rfl ?_) | ((try (conv => arg 1; simp [x39.b3, hkneg, hgneg])); with_reducible refine evp ?_) | ((with_reducible refine apn ?na ?_); (case na => simp [appNames, ints, intss] <;> first | kernel_rfl | (refine ⟨?_, ?_⟩ <;> kernel_rfl))) | fail)
  refine st_freshw rfl (toGraph g hs_g) (.cons (dr_agg (drs_graphL g fun h => h)) .nil) ?_
  intro v10 h40 n10 o10 e10 f10 p10 t10
  have x40 := x39.next.fresh o10 e10 f10 p10 t10
  have z40 : h39.tick < h40.tick := by simp only [hp_next_tick] at t10; omega
  obtain ⟨wa10, wb10, _, _, rfl, _, qa10, qb10⟩ := ownV_graph (o10 true)
  have qa10 := own_one qa10
  have qb10 := own_one' qb10
  repeat' (first | (with_reducible first | refine stp ?_ | refine k_blk_o rfl ?_) | ((try (conv => arg 1; simp [x40.b3, z40, qa10.1, qb10.1, hkneg, hgneg])); with_reducible refine evp ?_) | ((with_reducible refine apn ?na ?_); (case na => simp [appNames, ints, intss] <;> first | kernel_rfl | (refine ⟨?_, ?_⟩ <;> kernel_rfl))) | fail)
  refine st_fresh rfl (toIntS aa hl_aa) (.cons (dr_ints (fun h => h) _) .nil) ?_
  intro v11 h41 n11 o11 e11 f11 p11 t11
  have x41 := x40.fresh o11 e11 f11 p11 t11
  have z41 : h39.tick < h41.tick := by omega
  repeat' (first | (with_reducible first | refine stp ?_ | refine k_blk_o rfl ?_) | ((try (conv => arg 1; simp [x41.b3, z41, hkneg, hgneg])); with_reducible refine evp ?_) | ((with_reducible refine apn ?na ?_); (case na => simp [appNames, ints, intss] <;> first | kernel_rfl | (refine ⟨?_, ?_⟩ <;> kernel_rfl))) | fail)
  refine st_fresh rfl (toIntS ii hl_ii) (.cons (dr_ints (fun h => h) _) .nil) ?_
  intro v12 h42 n12 o12 e12 f12 p12 t12
  have x42 := x41.fresh o12 e12 f12 p12 t12
  have z42 : h39.tick < h42.tick := by omega
  repeat' (first | (with_reducible first | refine stp ?_ | refine k_blk_o rfl ?_) | ((try (conv => arg 1; simp [x42.b3, z42, hkneg, hgneg])); with_reducible refine evp ?_) | ((with_reducible refine apn ?na ?_); (case na => simp [appNames, ints, intss] <;> first | kernel_rfl | (refine ⟨?_, ?_⟩ <;> kernel_rfl))) | fail)
  refine st_freshw rfl I (.cons ((x42.o2 true).dr) (.cons ((x42.o1 true).dr) (.cons ((x42.o0 true).dr) .nil))) ?_
  intro v13 h43 n13 o13 e13 f13 p13 t13
  have x43 := x42.fresh o13 e13 f13 p13 t13
  have z43 : h39.tick < h43.tick := by omega
  obtain ⟨wa13, wb13, _, _, rfl, _, qa13, qb13⟩ := ownV_graph (o13 true)
  have qa13 := own_one qa13
  have qb13 := own_one' qb13
  repeat' (first | (with_reducible first | refine stp ?_ | refine k_blk_o rfl ?_) | ((try (conv => arg 1; simp [x43.b3, z43, qa13.1, qb13.1, hkneg, hgneg])); with_reducible refine evp ?_) | ((with_reducible refine apn ?na ?_); (case na => simp [appNames, ints, intss] <;> first | kernel_rfl | (refine ⟨?_, ?_⟩ <;> kernel_rfl))) | fail)
  refine cx_k (x43.box_new ((((x39.off.fresh f10 (by simp [hp_next_tick])).fresh f11 z40).fresh f12 z41).fresh f13 z42) z43) ?_
  intro h44 x44
  repeat' (first | (with_reducible first | refine stp ?_ | refine k_blk_o rfl ?_) | ((try (conv => arg 1; simp [x44.b0, x44.b3, qa13.1, qb13.1, hkneg, hgneg])); with_reducible refine evp ?_) | ((with_reducible refine apn ?na ?_); (case na => simp [appNames, ints, intss] <;> first | kernel_rfl | (refine ⟨?_, ?_⟩ <;> kernel_rfl))) | fail)
  refine st_tree rfl (eqGraph R hr) (.cons ((x44.next.o0 true).dr) (.cons (dr_agg (drs_graphL R (by simp))) .nil)) ?_
  repeat' (first | (with_reducible first | refine stp ?_ | refine k_blk_o rfl ?_) | ((try (conv => arg 1; simp [x44.b0, x44.b3, qa13.1, qb13.1, hkneg, hgneg])); with_reducible refine evp ?_) | ((with_reducible refine apn ?na ?_); (case na => simp [appNames, ints, intss] <;> first | kernel_rfl | (refine ⟨?_, ?_⟩ <;> kernel_rfl))) | fail)
  refine cx_k x44.next ?_
  intro h45 x45
  repeat' (first | (with_reducible first | refine stp ?_ | refine k_blk_o rfl ?_) | ((try (conv => arg 1; simp [hkneg, hgneg])); with_reducible refine evp ?_) | ((with_reducible refine apn ?na ?_); (case na => simp [appNames, ints, intss] <;> first | kernel_rfl | (refine ⟨?_, ?_⟩ <;> kernel_rfl))) | fail)
  refine k_seq_n ?_
  repeat' (first | (with_reducible first | refine stp ?_ | refine k_blk_o rfl ?_) | ((try (conv => arg 1; simp [hkneg, hgneg])); with_reducible refine evp ?_) | ((with_reducible refine apn ?na ?_); (case na => simp [appNames, ints, intss] <;> first | kernel_rfl | (refine ⟨?_, ?_⟩ <;> kernel_rfl))) | fail)
  refine cx_k x45.next ?_
  intro h46 x46
  repeat' (first | (with_reducible first | refine stp ?_ | refine k_blk_o rfl ?_) | ((try (conv => arg 1; simp [x46.b1, qa7.1, qb7.1, hkneg, hgneg])); with_reducible refine evp ?_) | ((with_reducible refine apn ?na ?_); (case na => simp [appNames, ints, intss] <;> first | kernel_rfl | (refine ⟨?_, ?_⟩ <;> kernel_rfl))) | fail)
  refine st_tree rfl (heldGraph R hr 1 (by omega) (by omega)) (.cons ((x46.next.o4 true).dr) (.cons (.int _ _) .nil)) ?_
  repeat' (first | (with_reducible first | refine stp ?_ | refine k_blk_o rfl ?_) | ((try (conv => arg 1; simp [x46.b1, qa7.1, qb7.1, hkneg, hgneg])); with_reducible refine evp ?_) | ((with_reducible refine apn ?na ?_); (case na => simp [appNames, ints, intss] <;> first | kernel_rfl | (refine ⟨?_, ?_⟩ <;> kernel_rfl))) | fail)
  refine cx_k x46.next ?_
  intro h47 x47
  repeat' (first | (with_reducible first | refine stp ?_ | refine k_blk_o rfl ?_) | ((try (conv => arg 1; simp [hkneg, hgneg])); with_reducible refine evp ?_) | ((with_reducible refine apn ?na ?_); (case na => simp [appNames, ints, intss] <;> first | kernel_rfl | (refine ⟨?_, ?_⟩ <;> kernel_rfl))) | fail)
  refine cx_k x47.next ?_
  intro h48 x48
  repeat' (first | (with_reducible first | refine stp ?_ | refine k_blk_o rfl ?_) | ((try (conv => arg 1; simp [hkneg, hgneg])); with_reducible refine evp ?_) | ((with_reducible refine apn ?na ?_); (case na => simp [appNames, ints, intss] <;> first | kernel_rfl | (refine ⟨?_, ?_⟩ <;> kernel_rfl))) | fail)
  refine k_seq_n ?_
  repeat' (first | (with_reducible first | refine stp ?_ | refine k_blk_o rfl ?_) | ((try (conv => arg 1; simp [hkneg, hgneg])); with_reducible refine evp ?_) | ((with_reducible refine apn ?na ?_); (case na => simp [appNames, ints, intss] <;> first | kernel_rfl | (refine ⟨?_, ?_⟩ <;> kernel_rfl))) | fail)
  refine cx_k x48.next ?_
  intro h49 x49
  repeat' (first | (with_reducible first | refine stp ?_ | refine k_blk_o rfl ?_) | ((try (conv => arg 1; simp [hkneg, hgneg])); with_reducible refine evp ?_) | ((with_reducible refine apn ?na ?_); (case na => simp [appNames, ints, intss] <;> first | kernel_rfl | (refine ⟨?_, ?_⟩ <;> kernel_rfl))) | fail)
  refine k_seq_n ?_
  repeat' (first | (with_reducible first | refine stp ?_ | refine k_blk_o rfl ?_ | refine k_seq_n ?_) | ((try (conv => arg 1; simp [hkneg, hgneg])); with_reducible refine evp ?_) | ((with_reducible refine apn ?na ?_); (case na => simp [appNames, ints, intss] <;> first | kernel_rfl | (refine ⟨?_, ?_⟩ <;> kernel_rfl))) | fail)
  rfl
end Go.Proofs.YtlmlkkkgcbpaoaaGreat.AM


namespace Go.Proofs.YtlmlkkkgcbpaoaaGreat.fnExactLayout
open Go.ChangeShapes Go.WideShapes Go.ChangeAt Go.RowKit
theorem own : ownKnob Tryz.prog.godebug = none := by kernel_rfl

theorem sound (l : List AM.AV) (h : AM.ShpAll Tryz.prog [25, 22, 22] l) : AM.Sound Tryz.prog 3 l (.mt 0) fun v _ => v = .bool true := by
  obtain ⟨cells0, l0, g0, e0, k0⟩ := AM.shpAll_cons h
  obtain ⟨cells1, l1, g1, e1, k1⟩ := AM.shpAll_cons k0
  obtain ⟨cells2, l2, g2, e2, k2⟩ := AM.shpAll_cons k1
  have e' := AM.shpAll_nil k2
  subst e' e2 e1 e0
  obtain ⟨a0, rfl, d0⟩ := AM.shp_graph g0
  obtain ⟨a1, rfl, d1, _⟩ := g1.ints_inv AM.und_22 AM.und_3
  obtain ⟨a2, rfl, d2, _⟩ := g2.ints_inv AM.und_22 AM.und_3
  rw [AM.agg_graph, AM.av22, AM.av22]
  exact AM.lawLayout a0 a1 a2 d0 d1 d2

set_option maxRecDepth 100000 in
theorem lifted (os : Os) (started : os.Started) (H : Type) (enc : TypeId × Value → H) :
    ReturnsInHanded {} Tryz.checked os 3 .any (Rows.fnExactLayoutSpec.pre6 enc Tryz.prog Tryz.f3 Rows.fnExactLayoutRow.domain false) (Rows.fnExactLayoutSpec.post enc Tryz.prog Tryz.f3 false true false false) := by
  refine returnsInHanded_of_change_sized (C := Tryz.checked) own started (by kernel_rfl) Tryz.func3
    (ChangeSpec.witness6 (enc := enc) (C := Tryz.checked) false ⟨#[], #[.agg #[.slice none 0 0, .int .i64 0, .int .i64 0, .int .i64 0, .slice none 0 0], .slice none 0 0, .slice none 0 0], []⟩ 8 (by kernel_rfl) (by kernel_rfl) (by kernel_rfl) (by kernel_rfl)) ?_
  intro W base args ds gs before hval0 hW hcnd hsz0 _
  have hval : ∀ (j : Nat) t v, Tryz.f3.params[j]? = some t → args[j]? = some v → Value.okWide Tryz.prog W .any base t v := hval0
  have hW' := hW
  obtain ⟨p, q, hA0, hV, rfl, hfz, hnd⟩ := hW
  have hA : DataW.TrodAll enc Tryz.prog W 0 (fun _ => true) true Tryz.f3.params.toList args.toList ds p := hA0
  rw [Tryz.params3] at hA hval
  obtain ⟨v0, vs0, d0, ds0, p0, q0, hargs, rfl, rfl, h0, r0⟩ := trodAll_cons hA
  obtain ⟨v1, vs1, d1, ds1, p1, q1, rfl, rfl, rfl, h1, r1⟩ := trodAll_cons r0
  obtain ⟨v2, vs2, d2, ds2, p2, q2, rfl, rfl, rfl, h2, r2⟩ := trodAll_cons r1
  obtain ⟨rfl, rfl, rfl⟩ := trodAll_nil r2
  obtain rfl : args = #[v0, v1, v2] := by cases args; simp_all
  obtain ⟨rfl, rfl⟩ := trodVars_none hV
  clear hA0 hval0 hsz0
  refine (AM.law_calls (params := [25, 22, 22]) (ts := [25, 3, 22, 23, 54, 52, 161, 9]) sound (by kernel_rfl) (by simp) (args := #[v0, v1, v2]) (fun j t v a b => hval j t v (by simpa using a) b) hA).mono fun e W' ⟨he, bel⟩ => ?_
  subst he
  exact ⟨_, rfl, _, _, _, [], _, [], hW', trodAll_mk1 (shut_bool Tryz.underlying4 _), AM.back_all AM.laid bel _ _ _ _ (by kernel_rfl) hA, rfl, bel.frame _, fun h => by cases h⟩
theorem over : Rows.fnExactLayoutRow.holds Tryz.pinned (OpenSpec.ofChange Rows.fnExactLayoutSpec) :=
  OpenClaim.holds_of_wide 3 Tryz.f3 rfl rfl rfl rfl rfl rfl rfl ⟨rfl, rfl, rfl, rfl, rfl⟩ rfl rfl rfl rfl rfl (by kernel_rfl) Tryz.func3 (by kernel_rfl)
    (of_decide_eq_true (by kernel_rfl)) (by unfold Func.isWrapper; first | (rw [if_pos (by decide +kernel)]; kernel_rfl) | (rw [if_neg (by decide +kernel)]; exact ⟨rfl, rfl⟩))
    (fun os started H enc _ => lifted os started H enc)
theorem proved : Rows.FnExactLayoutSaid := over
end Go.Proofs.YtlmlkkkgcbpaoaaGreat.fnExactLayout
namespace Go.Proofs.YtlmlkkkgcbpaoaaGreat
theorem fnExactLayout_holds : Rows.FnExactLayoutSaid := fnExactLayout.proved
end Go.Proofs.YtlmlkkkgcbpaoaaGreat
