/- Lemmas: an abstract machine over named rows, and what single functions compute (parts W23, W31, W24, W25, W26, W27, W42, W43, W45, W28, W29, W46, W49, W32, W56, W47). -/
import Derived.Test.YtfgaoojogididaaKk3
/-
  The spec's word, word by word.
-/
set_option linter.unusedVariables false
set_option linter.unusedSimpArgs false
set_option maxRecDepth 4000
namespace Go.Proofs.Ytfgaoojogididaa.AM
open Go.RowKit

private def MW23 : FuncId → Mode := fun f => .tree

def runOf (fu : Int) (c : Cpu) (wi w2 w3 w5 : AV) : Row := ⟨0, 8, [[w3, w2, wi, .int .i64 fu, .int .i64 c.Code, .bool c.Over, .int .i64 c.Val, w5]]⟩
/-- What a slice for output is known to be: of whole numbers. -/
def OutV (h : Hp) (w : AV) : Prop := ∀ n ver off len, w = .sl n ver off len → ∃ r, h.rows n = some r ∧ r.ver = ver ∧ r.esz = 1

/-- What the spec's word is to do. -/
def SpecW (c c' : Cpu) (w : Word) : Prop := ∀ (h : Hp) (nr : Nm) (fu : Int) (wi w1 w2 w3 w5 : AV) (n1 n2 n3 n5 : List Nm) (bs : Bx) (os : Ox), wi.one = true →
  Cx h ((nr, runOf fu c wi w2 w3 w5) :: bs) ((w1, (fun b => ints b c.Regs), n1) :: (w2, (fun b => ints b c.Slots), n2) :: (w3, (fun b => intss b c.Mem), n3) :: (w5, (fun b => ints b c.Out), n5) :: os) → OutV h w5 →
  Sound Try.prog 79 [.ptr nr 0 0 0, w1, .agg w.cells, .int .i64 c.At] h fun v h' => ∃ a w5' n5', v = .int .i64 a ∧ (c'.Code = 0 ∧ c'.Over = false → a = c'.At) ∧
    Cx h' ((nr, runOf fu c' wi w2 w3 w5') :: bs) ((w1, (fun b => ints b c'.Regs), n1) :: (w2, (fun b => ints b c'.Slots), n2) :: (w3, (fun b => intss b c'.Mem), n3) :: (w5', (fun b => ints b c'.Out), n5') :: os) ∧ (w5' = w5 ∨ OutV h' w5')

set_option maxHeartbeats 1000000 in
theorem sw_li (c : Cpu) (w : Word) (ho : w.Op = 0) {r : Nat} (hr : w.R = (r : Int)) (hrl : r < c.Regs.length) : SpecW c (stepC c w) w := by
  obtain ⟨Op, R, A, B, N⟩ := w
  obtain ⟨At, Regs, Slots, Mem, Input, Out, Code, Over, Val⟩ := c
  simp only at ho hr hrl
  subst ho hr
  have hnil : True := trivial
  intro h nr fu wi w1 w2 w3 w5 n1 n2 n3 n5 bs os hwi x ok
  dsimp only at x
  have q1 := own_one (own_of (x.o0 true) rfl)
  have q2 := own_one (own_of (x.o1 true) rfl)
  have q3 := own_one (own_of (x.o2 true) rfl)
  have q4 := own_one (own_of (x.o3 true) rfl)
  refine enter mixed MW23 Try.func79 rfl (by kernel_rfl) rfl ?_
  repeat' (first
   | with_reducible refine stp ?_
   | with_reducible refine k_blk_o rfl ?_
   | ((try (conv => arg 1; simp [Word.cells])); with_reducible refine evp ?_)
   | ((with_reducible refine apn ?na ?_); (case na => simp [appNames, ints, intss] <;> first | kernel_rfl | (refine ⟨?_, ?_⟩ <;> kernel_rfl)))
   | fail)
  refine cx_k (x.next.box_one x.off (by simp)) ?_
  intro h1 y1
  have m1 : nr.1 < h1.tick := y1.lt nr (by simp [nms])
  have e1 : ¬ nr.1 = h1.tick := by omega
  repeat' (first
   | with_reducible refine stp ?_
   | with_reducible refine k_blk_o rfl ?_
   | ((try (conv => arg 1; simp [y1.b0, y1.l0])); with_reducible refine evp ?_)
   | ((with_reducible refine apn ?na ?_); (case na => simp [appNames, ints, intss] <;> first | kernel_rfl | (refine ⟨?_, ?_⟩ <;> kernel_rfl)))
   | fail)
  refine cx_k y1.next ?_
  intro h2 y2
  repeat' (first
   | with_reducible refine stp ?_
   | with_reducible refine k_blk_o rfl ?_
   | ((try (conv => arg 1; simp [hnil])); with_reducible refine evp ?_)
   | ((with_reducible refine apn ?na ?_); (case na => simp [appNames, ints, intss] <;> first | kernel_rfl | (refine ⟨?_, ?_⟩ <;> kernel_rfl)))
   | fail)
  refine cx_wp (by first | exact y2 | exact y2.next | exact y2.next.next | exact y2.next.next.next | exact y2.next.next.next.next | exact y2.next.next.next.next.next | exact y2.next.next.next.next.next.next | exact y2.next.next.next.next.next.next.next | exact y2.next.next.next.next.next.next.next.next | exact y2.next.next.next.next.next.next.next.next.next | exact y2.next.next.next.next.next.next.next.next.next.next | exact y2.next.next.next.next.next.next.next.next.next.next.next | exact y2.next.next.next.next.next.next.next.next.next.next.next.next | exact y2.next.next.next.next.next.next.next.next.next.next.next.next.next) ?_
  intro h3 y3
  have m3 : nr.1 < h3.tick := y3.lt nr (by simp [nms])
  have e3 : ¬ nr.1 = h3.tick := by omega
  obtain ⟨k1, v1, p1, s1, a1, b1⟩ := (y3).ints_at hrl
  have ew := a1.val
  subst ew
  have d1 : k1.1 < h3.tick + 1 := by omega
  have c1 : ¬ k1.1 = h3.tick := by omega
  have g1 := a1.get hrl
  repeat' (first
   | with_reducible refine stp ?_
   | with_reducible refine k_blk_o rfl ?_
   | ((try (conv => arg 1; simp [y3.b0, y3.l0, a1.row, g1, c1, d1, hrl])); with_reducible refine evp ?_)
   | ((with_reducible refine apn ?na ?_); (case na => simp [appNames, ints, intss] <;> first | kernel_rfl | (refine ⟨?_, ?_⟩ <;> kernel_rfl)))
   | fail)
  refine cx_k (y3.next.ints_put a1 hrl N) ?_
  intro h4 y4
  repeat' (first
   | with_reducible refine stp ?_
   | with_reducible refine k_blk_o rfl ?_
   | with_reducible refine k_seq_n ?_
   | ((try (conv => arg 1; simp [y4.b0])); with_reducible refine evp ?_)
   | ((with_reducible refine apn ?na ?_); (case na => simp [appNames, ints, intss] <;> first | kernel_rfl | (refine ⟨?_, ?_⟩ <;> kernel_rfl)))
   | fail)
  have es : stepC ⟨At, Regs, Slots, Mem, Input, Out, Code, Over, Val⟩ ⟨0, r, A, B, N⟩ = ⟨IntKind.i64.wrap (At + 1), Regs.set r N, Slots, Mem, Input, Out, Code, Over, Val⟩ := by simp [stepC]
  rw [es]
  exact ⟨_, w5, n5, rfl, fun _ => rfl, y4.next.box_drop, .inl rfl⟩

set_option maxHeartbeats 1000000 in
theorem sw_ld (c : Cpu) (w : Word) (ho : w.Op = 1) {r n : Nat} (hr : w.R = (r : Int)) (hn : w.N = (n : Int)) (hrl : r < c.Regs.length) (hnl : n < c.Slots.length) : SpecW c (stepC c w) w := by
  obtain ⟨Op, R, A, B, N⟩ := w
  obtain ⟨At, Regs, Slots, Mem, Input, Out, Code, Over, Val⟩ := c
  simp only at ho hr hn hrl hnl
  subst ho hr hn
  have hnil : True := trivial
  intro h nr fu wi w1 w2 w3 w5 n1 n2 n3 n5 bs os hwi x ok
  dsimp only at x
  have q1 := own_one (own_of (x.o0 true) rfl)
  have q2 := own_one (own_of (x.o1 true) rfl)
  have q3 := own_one (own_of (x.o2 true) rfl)
  have q4 := own_one (own_of (x.o3 true) rfl)
  refine enter mixed MW23 Try.func79 rfl (by kernel_rfl) rfl ?_
  repeat' (first
   | with_reducible refine stp ?_
   | with_reducible refine k_blk_o rfl ?_
   | ((try (conv => arg 1; simp [Word.cells])); with_reducible refine evp ?_)
   | ((with_reducible refine apn ?na ?_); (case na => simp [appNames, ints, intss] <;> first | kernel_rfl | (refine ⟨?_, ?_⟩ <;> kernel_rfl)))
   | fail)
  refine cx_k (x.next.box_one x.off (by simp)) ?_
  intro h1 y1
  have m1 : nr.1 < h1.tick := y1.lt nr (by simp [nms])
  have e1 : ¬ nr.1 = h1.tick := by omega
  repeat' (first
   | with_reducible refine stp ?_
   | with_reducible refine k_blk_o rfl ?_
   | ((try (conv => arg 1; simp [y1.b0, y1.l0])); with_reducible refine evp ?_)
   | ((with_reducible refine apn ?na ?_); (case na => simp [appNames, ints, intss] <;> first | kernel_rfl | (refine ⟨?_, ?_⟩ <;> kernel_rfl)))
   | fail)
  refine cx_k y1.next ?_
  intro h2 y2
  repeat' (first
   | with_reducible refine stp ?_
   | with_reducible refine k_blk_o rfl ?_
   | with_reducible refine k_seq_n ?_
   | ((try (conv => arg 1; simp [hnil])); with_reducible refine evp ?_)
   | ((with_reducible refine apn ?na ?_); (case na => simp [appNames, ints, intss] <;> first | kernel_rfl | (refine ⟨?_, ?_⟩ <;> kernel_rfl)))
   | fail)
  refine cx_wp (by first | exact y2 | exact y2.next | exact y2.next.next | exact y2.next.next.next | exact y2.next.next.next.next | exact y2.next.next.next.next.next | exact y2.next.next.next.next.next.next | exact y2.next.next.next.next.next.next.next | exact y2.next.next.next.next.next.next.next.next | exact y2.next.next.next.next.next.next.next.next.next | exact y2.next.next.next.next.next.next.next.next.next.next | exact y2.next.next.next.next.next.next.next.next.next.next.next | exact y2.next.next.next.next.next.next.next.next.next.next.next.next | exact y2.next.next.next.next.next.next.next.next.next.next.next.next.next) ?_
  intro h3 y3
  have m3 : nr.1 < h3.tick := y3.lt nr (by simp [nms])
  have e3 : ¬ nr.1 = h3.tick := by omega
  obtain ⟨k1, v1, p1, s1, a1, b1⟩ := (y3).ints_at hrl
  have ew := a1.val
  subst ew
  have d1 : k1.1 < h3.tick + 1 := by omega
  have c1 : ¬ k1.1 = h3.tick := by omega
  obtain ⟨k2, v2, p2, s2, a2, b2⟩ := (y3.rot1).ints_at hnl
  have ew := a2.val
  subst ew
  have d2 : k2.1 < h3.tick + 1 := by omega
  have c2 : ¬ k2.1 = h3.tick := by omega
  have g1 := a1.get hrl
  have g2 := a2.get hnl
  repeat (with_reducible first | refine stp ?_ | refine k_seq_n ?_)
  refine st_lz (by kernel_rfl) ?_
  have hF := And.intro y3.b0 (And.intro y3.l0 (And.intro y3.b1 (And.intro e3 (And.intro a1.row (And.intro g1 (And.intro c1 (And.intro d1 (And.intro hrl (And.intro a2.row (And.intro g2 (And.intro c2 (And.intro d2 hnl))))))))))))
  repeat' (first
   | with_reducible refine stp ?_
   | with_reducible refine k_blk_o rfl ?_
   | ((try (conv => arg 1; simp [runOf, hF])); with_reducible refine evp ?_)
   | ((with_reducible refine apn ?na ?_); (case na => simp [appNames, ints, intss] <;> first | kernel_rfl | (refine ⟨?_, ?_⟩ <;> kernel_rfl)))
    | ((with_reducible refine la_id ?_); refine la_end rfl ?_; (repeat (first | refine pl_nil ?_ | refine pl_cons ?_)))
    | ((with_reducible refine la_id ?_); refine la_pick ?_; (conv => arg 1; whnf); (repeat ((fail_if_success (first | ((refine la_q0 rfl ?_); (try (conv => arg 1; simp [runOf, hF])); with_reducible refine evp ?_) | ((refine la_n rfl rfl ?_); (try (conv => arg 1; simp [runOf, hF])); with_reducible refine evp ?_) | ((refine la_q2 rfl (by decide +kernel) ?_); (repeat (first | refine bk_nil ?_ | refine bk_t (by decide +kernel) ?_ | refine bk_f (by decide +kernel) ?_)); (try (conv => arg 1; simp [runOf, hF])); with_reducible refine evp ?_) | ((refine la_q1 rfl (by decide +kernel) ?_); (try (conv => arg 1; simp [runOf, hF])); with_reducible refine evp ?_) | ((refine la_g0 rfl ?_); (try (conv => arg 1; simp [runOf, hF])); with_reducible refine evp ?_; (with_reducible refine evp ?_); try ((try (conv => arg 1; simp [runOf, hF])); with_reducible refine evp ?_)))); (refine la_there ?_); (conv => arg 1; whnf))); first | ((refine la_q0 rfl ?_); (try (conv => arg 1; simp [runOf, hF])); with_reducible refine evp ?_) | ((refine la_n rfl rfl ?_); (try (conv => arg 1; simp [runOf, hF])); with_reducible refine evp ?_) | ((refine la_q2 rfl (by decide +kernel) ?_); (repeat (first | refine bk_nil ?_ | refine bk_t (by decide +kernel) ?_ | refine bk_f (by decide +kernel) ?_)); (try (conv => arg 1; simp [runOf, hF])); with_reducible refine evp ?_) | ((refine la_q1 rfl (by decide +kernel) ?_); (try (conv => arg 1; simp [runOf, hF])); with_reducible refine evp ?_) | ((refine la_g0 rfl ?_); (try (conv => arg 1; simp [runOf, hF])); with_reducible refine evp ?_; (with_reducible refine evp ?_); try ((try (conv => arg 1; simp [runOf, hF])); with_reducible refine evp ?_)))
    | ((with_reducible refine la_id ?_); refine la_all rfl ?_)
    | ((with_reducible refine all_id ?_); (conv => arg 1; whnf); first | exact all_nil | refine all_cons ?_ ?_)
    | (refine la_op rfl (by first | exact frm_s (by decide +kernel) | exact frm_a (by repeat' (first | exact fa_nil | refine fa_cons (by decide +kernel) ?_))) (by intro _; first | exact trivial | simp [appT, runOf, hF]) ?_; (repeat (first | refine bk_nil ?_ | refine bk_t (by decide +kernel) ?_ | refine bk_f (by decide +kernel) ?_)))
   | fail)
  refine cx_k (y3.next.ints_put a1 hrl Slots[n]) ?_
  intro h4 y4
  repeat' (first
   | with_reducible refine stp ?_
   | with_reducible refine k_blk_o rfl ?_
   | with_reducible refine k_seq_n ?_
   | ((try (conv => arg 1; simp [y4.b0])); with_reducible refine evp ?_)
   | ((with_reducible refine apn ?na ?_); (case na => simp [appNames, ints, intss] <;> first | kernel_rfl | (refine ⟨?_, ?_⟩ <;> kernel_rfl)))
   | fail)
  have es : stepC ⟨At, Regs, Slots, Mem, Input, Out, Code, Over, Val⟩ ⟨1, r, A, B, n⟩ = ⟨IntKind.i64.wrap (At + 1), Regs.set r Slots[n], Slots, Mem, Input, Out, Code, Over, Val⟩ := by simp [stepC, rd_at hnl]
  rw [es]
  exact ⟨_, w5, n5, rfl, fun _ => rfl, y4.next.box_drop, .inl rfl⟩

set_option maxHeartbeats 1000000 in
theorem sw_sd (c : Cpu) (w : Word) (ho : w.Op = 2) {r n : Nat} (hr : w.R = (r : Int)) (hn : w.N = (n : Int)) (hrl : r < c.Regs.length) (hnl : n < c.Slots.length) : SpecW c (stepC c w) w := by
  obtain ⟨Op, R, A, B, N⟩ := w
  obtain ⟨At, Regs, Slots, Mem, Input, Out, Code, Over, Val⟩ := c
  simp only at ho hr hn hrl hnl
  subst ho hr hn
  have hnil : True := trivial
  intro h nr fu wi w1 w2 w3 w5 n1 n2 n3 n5 bs os hwi x ok
  dsimp only at x
  have q1 := own_one (own_of (x.o0 true) rfl)
  have q2 := own_one (own_of (x.o1 true) rfl)
  have q3 := own_one (own_of (x.o2 true) rfl)
  have q4 := own_one (own_of (x.o3 true) rfl)
  refine enter mixed MW23 Try.func79 rfl (by kernel_rfl) rfl ?_
  repeat' (first
   | with_reducible refine stp ?_
   | with_reducible refine k_blk_o rfl ?_
   | ((try (conv => arg 1; simp [Word.cells])); with_reducible refine evp ?_)
   | ((with_reducible refine apn ?na ?_); (case na => simp [appNames, ints, intss] <;> first | kernel_rfl | (refine ⟨?_, ?_⟩ <;> kernel_rfl)))
   | fail)
  refine cx_k (x.next.box_one x.off (by simp)) ?_
  intro h1 y1
  have m1 : nr.1 < h1.tick := y1.lt nr (by simp [nms])
  have e1 : ¬ nr.1 = h1.tick := by omega
  repeat' (first
   | with_reducible refine stp ?_
   | with_reducible refine k_blk_o rfl ?_
   | ((try (conv => arg 1; simp [y1.b0, y1.l0])); with_reducible refine evp ?_)
   | ((with_reducible refine apn ?na ?_); (case na => simp [appNames, ints, intss] <;> first | kernel_rfl | (refine ⟨?_, ?_⟩ <;> kernel_rfl)))
   | fail)
  refine cx_k y1.next ?_
  intro h2 y2
  repeat' (first
   | with_reducible refine stp ?_
   | with_reducible refine k_blk_o rfl ?_
   | with_reducible refine k_seq_n ?_
   | ((try (conv => arg 1; simp [hnil])); with_reducible refine evp ?_)
   | ((with_reducible refine apn ?na ?_); (case na => simp [appNames, ints, intss] <;> first | kernel_rfl | (refine ⟨?_, ?_⟩ <;> kernel_rfl)))
   | fail)
  refine cx_wp (by first | exact y2 | exact y2.next | exact y2.next.next | exact y2.next.next.next | exact y2.next.next.next.next | exact y2.next.next.next.next.next | exact y2.next.next.next.next.next.next | exact y2.next.next.next.next.next.next.next | exact y2.next.next.next.next.next.next.next.next | exact y2.next.next.next.next.next.next.next.next.next | exact y2.next.next.next.next.next.next.next.next.next.next | exact y2.next.next.next.next.next.next.next.next.next.next.next | exact y2.next.next.next.next.next.next.next.next.next.next.next.next | exact y2.next.next.next.next.next.next.next.next.next.next.next.next.next) ?_
  intro h3 y3
  have m3 : nr.1 < h3.tick := y3.lt nr (by simp [nms])
  have e3 : ¬ nr.1 = h3.tick := by omega
  obtain ⟨k1, v1, p1, s1, a1, b1⟩ := (y3).ints_at hrl
  have ew := a1.val
  subst ew
  have d1 : k1.1 < h3.tick + 1 := by omega
  have c1 : ¬ k1.1 = h3.tick := by omega
  obtain ⟨k2, v2, p2, s2, a2, b2⟩ := (y3.rot1).ints_at hnl
  have ew := a2.val
  subst ew
  have d2 : k2.1 < h3.tick + 1 := by omega
  have c2 : ¬ k2.1 = h3.tick := by omega
  have g1 := a1.get hrl
  have g2 := a2.get hnl
  repeat (with_reducible first | refine stp ?_ | refine k_seq_n ?_)
  refine st_lz (by kernel_rfl) ?_
  have hF := And.intro y3.b0 (And.intro y3.l0 (And.intro y3.b1 (And.intro e3 (And.intro a1.row (And.intro g1 (And.intro c1 (And.intro d1 (And.intro hrl (And.intro a2.row (And.intro g2 (And.intro c2 (And.intro d2 hnl))))))))))))
  repeat' (first
   | with_reducible refine stp ?_
   | with_reducible refine k_blk_o rfl ?_
   | ((try (conv => arg 1; simp [runOf, hF])); with_reducible refine evp ?_)
   | ((with_reducible refine apn ?na ?_); (case na => simp [appNames, ints, intss] <;> first | kernel_rfl | (refine ⟨?_, ?_⟩ <;> kernel_rfl)))
    | ((with_reducible refine la_id ?_); refine la_end rfl ?_; (repeat (first | refine pl_nil ?_ | refine pl_cons ?_)))
    | ((with_reducible refine la_id ?_); refine la_pick ?_; (conv => arg 1; whnf); (repeat ((fail_if_success (first | ((refine la_q0 rfl ?_); (try (conv => arg 1; simp [runOf, hF])); with_reducible refine evp ?_) | ((refine la_n rfl rfl ?_); (try (conv => arg 1; simp [runOf, hF])); with_reducible refine evp ?_) | ((refine la_q2 rfl (by decide +kernel) ?_); (repeat (first | refine bk_nil ?_ | refine bk_t (by decide +kernel) ?_ | refine bk_f (by decide +kernel) ?_)); (try (conv => arg 1; simp [runOf, hF])); with_reducible refine evp ?_) | ((refine la_q1 rfl (by decide +kernel) ?_); (try (conv => arg 1; simp [runOf, hF])); with_reducible refine evp ?_) | ((refine la_g0 rfl ?_); (try (conv => arg 1; simp [runOf, hF])); with_reducible refine evp ?_; (with_reducible refine evp ?_); try ((try (conv => arg 1; simp [runOf, hF])); with_reducible refine evp ?_)))); (refine la_there ?_); (conv => arg 1; whnf))); first | ((refine la_q0 rfl ?_); (try (conv => arg 1; simp [runOf, hF])); with_reducible refine evp ?_) | ((refine la_n rfl rfl ?_); (try (conv => arg 1; simp [runOf, hF])); with_reducible refine evp ?_) | ((refine la_q2 rfl (by decide +kernel) ?_); (repeat (first | refine bk_nil ?_ | refine bk_t (by decide +kernel) ?_ | refine bk_f (by decide +kernel) ?_)); (try (conv => arg 1; simp [runOf, hF])); with_reducible refine evp ?_) | ((refine la_q1 rfl (by decide +kernel) ?_); (try (conv => arg 1; simp [runOf, hF])); with_reducible refine evp ?_) | ((refine la_g0 rfl ?_); (try (conv => arg 1; simp [runOf, hF])); with_reducible refine evp ?_; (with_reducible refine evp ?_); try ((try (conv => arg 1; simp [runOf, hF])); with_reducible refine evp ?_)))
    | ((with_reducible refine la_id ?_); refine la_all rfl ?_)
    | ((with_reducible refine all_id ?_); (conv => arg 1; whnf); first | exact all_nil | refine all_cons ?_ ?_)
    | (refine la_op rfl (by first | exact frm_s (by decide +kernel) | exact frm_a (by repeat' (first | exact fa_nil | refine fa_cons (by decide +kernel) ?_))) (by intro _; first | exact trivial | simp [appT, runOf, hF]) ?_; (repeat (first | refine bk_nil ?_ | refine bk_t (by decide +kernel) ?_ | refine bk_f (by decide +kernel) ?_)))
   | fail)
  refine cx_k (y3.rot1.next.ints_put a2 hnl Regs[r]).rot1 ?_
  intro h4 y4
  repeat' (first
   | with_reducible refine stp ?_
   | with_reducible refine k_blk_o rfl ?_
   | with_reducible refine k_seq_n ?_
   | ((try (conv => arg 1; simp [y4.b0])); with_reducible refine evp ?_)
   | ((with_reducible refine apn ?na ?_); (case na => simp [appNames, ints, intss] <;> first | kernel_rfl | (refine ⟨?_, ?_⟩ <;> kernel_rfl)))
   | fail)
  have es : stepC ⟨At, Regs, Slots, Mem, Input, Out, Code, Over, Val⟩ ⟨2, r, A, B, n⟩ = ⟨IntKind.i64.wrap (At + 1), Regs, Slots.set n Regs[r], Mem, Input, Out, Code, Over, Val⟩ := by simp [stepC, rd_at hrl]
  rw [es]
  exact ⟨_, w5, n5, rfl, fun _ => rfl, y4.next.box_drop, .inl rfl⟩

set_option maxHeartbeats 1000000 in
theorem sw_mv (c : Cpu) (w : Word) (ho : w.Op = 11) {r a : Nat} (hr : w.R = (r : Int)) (ha : w.A = (a : Int)) (hrl : r < c.Regs.length) (hal : a < c.Regs.length) : SpecW c (stepC c w) w := by
  obtain ⟨Op, R, A, B, N⟩ := w
  obtain ⟨At, Regs, Slots, Mem, Input, Out, Code, Over, Val⟩ := c
  simp only at ho hr ha hrl hal
  subst ho hr ha
  have hnil : True := trivial
  intro h nr fu wi w1 w2 w3 w5 n1 n2 n3 n5 bs os hwi x ok
  dsimp only at x
  have q1 := own_one (own_of (x.o0 true) rfl)
  have q2 := own_one (own_of (x.o1 true) rfl)
  have q3 := own_one (own_of (x.o2 true) rfl)
  have q4 := own_one (own_of (x.o3 true) rfl)
  refine enter mixed MW23 Try.func79 rfl (by kernel_rfl) rfl ?_
  repeat' (first
   | with_reducible refine stp ?_
   | with_reducible refine k_blk_o rfl ?_
   | ((try (conv => arg 1; simp [Word.cells])); with_reducible refine evp ?_)
   | ((with_reducible refine apn ?na ?_); (case na => simp [appNames, ints, intss] <;> first | kernel_rfl | (refine ⟨?_, ?_⟩ <;> kernel_rfl)))
   | fail)
  refine cx_k (x.next.box_one x.off (by simp)) ?_
  intro h1 y1
  have m1 : nr.1 < h1.tick := y1.lt nr (by simp [nms])
  have e1 : ¬ nr.1 = h1.tick := by omega
  repeat' (first
   | with_reducible refine stp ?_
   | with_reducible refine k_blk_o rfl ?_
   | ((try (conv => arg 1; simp [y1.b0, y1.l0])); with_reducible refine evp ?_)
   | ((with_reducible refine apn ?na ?_); (case na => simp [appNames, ints, intss] <;> first | kernel_rfl | (refine ⟨?_, ?_⟩ <;> kernel_rfl)))
   | fail)
  refine cx_k y1.next ?_
  intro h2 y2
  repeat' (first
   | with_reducible refine stp ?_
   | with_reducible refine k_blk_o rfl ?_
   | with_reducible refine k_seq_n ?_
   | ((try (conv => arg 1; simp [hnil])); with_reducible refine evp ?_)
   | ((with_reducible refine apn ?na ?_); (case na => simp [appNames, ints, intss] <;> first | kernel_rfl | (refine ⟨?_, ?_⟩ <;> kernel_rfl)))
   | fail)
  refine cx_wp (by first | exact y2 | exact y2.next | exact y2.next.next | exact y2.next.next.next | exact y2.next.next.next.next | exact y2.next.next.next.next.next | exact y2.next.next.next.next.next.next | exact y2.next.next.next.next.next.next.next | exact y2.next.next.next.next.next.next.next.next | exact y2.next.next.next.next.next.next.next.next.next | exact y2.next.next.next.next.next.next.next.next.next.next | exact y2.next.next.next.next.next.next.next.next.next.next.next | exact y2.next.next.next.next.next.next.next.next.next.next.next.next | exact y2.next.next.next.next.next.next.next.next.next.next.next.next.next) ?_
  intro h3 y3
  have m3 : nr.1 < h3.tick := y3.lt nr (by simp [nms])
  have e3 : ¬ nr.1 = h3.tick := by omega
  obtain ⟨k1, v1, p1, s1, a1, b1⟩ := (y3).ints_at hrl
  have ew := a1.val
  subst ew
  have d1 : k1.1 < h3.tick + 1 := by omega
  have c1 : ¬ k1.1 = h3.tick := by omega
  have g1 := a1.get hrl
  have g2 := a1.get hal
  repeat (with_reducible first | refine stp ?_ | refine k_seq_n ?_)
  refine st_lz (by kernel_rfl) ?_
  have hF := And.intro y3.b0 (And.intro y3.l0 (And.intro y3.b1 (And.intro e3 (And.intro a1.row (And.intro g1 (And.intro g2 (And.intro c1 (And.intro d1 (And.intro hrl hal)))))))))
  repeat' (first
   | with_reducible refine stp ?_
   | with_reducible refine k_blk_o rfl ?_
   | ((try (conv => arg 1; simp [runOf, hF])); with_reducible refine evp ?_)
   | ((with_reducible refine apn ?na ?_); (case na => simp [appNames, ints, intss] <;> first | kernel_rfl | (refine ⟨?_, ?_⟩ <;> kernel_rfl)))
    | ((with_reducible refine la_id ?_); refine la_end rfl ?_; (repeat (first | refine pl_nil ?_ | refine pl_cons ?_)))
    | ((with_reducible refine la_id ?_); refine la_pick ?_; (conv => arg 1; whnf); (repeat ((fail_if_success (first | ((refine la_q0 rfl ?_); (try (conv => arg 1; simp [runOf, hF])); with_reducible refine evp ?_) | ((refine la_n rfl rfl ?_); (try (conv => arg 1; simp [runOf, hF])); with_reducible refine evp ?_) | ((refine la_q2 rfl (by decide +kernel) ?_); (repeat (first | refine bk_nil ?_ | refine bk_t (by decide +kernel) ?_ | refine bk_f (by decide +kernel) ?_)); (try (conv => arg 1; simp [runOf, hF])); with_reducible refine evp ?_) | ((refine la_q1 rfl (by decide +kernel) ?_); (try (conv => arg 1; simp [runOf, hF])); with_reducible refine evp ?_) | ((refine la_g0 rfl ?_); (try (conv => arg 1; simp [runOf, hF])); with_reducible refine evp ?_; (with_reducible refine evp ?_); try ((try (conv => arg 1; simp [runOf, hF])); with_reducible refine evp ?_)))); (refine la_there ?_); (conv => arg 1; whnf))); first | ((refine la_q0 rfl ?_); (try (conv => arg 1; simp [runOf, hF])); with_reducible refine evp ?_) | ((refine la_n rfl rfl ?_); (try (conv => arg 1; simp [runOf, hF])); with_reducible refine evp ?_) | ((refine la_q2 rfl (by decide +kernel) ?_); (repeat (first | refine bk_nil ?_ | refine bk_t (by decide +kernel) ?_ | refine bk_f (by decide +kernel) ?_)); (try (conv => arg 1; simp [runOf, hF])); with_reducible refine evp ?_) | ((refine la_q1 rfl (by decide +kernel) ?_); (try (conv => arg 1; simp [runOf, hF])); with_reducible refine evp ?_) | ((refine la_g0 rfl ?_); (try (conv => arg 1; simp [runOf, hF])); with_reducible refine evp ?_; (with_reducible refine evp ?_); try ((try (conv => arg 1; simp [runOf, hF])); with_reducible refine evp ?_)))
    | ((with_reducible refine la_id ?_); refine la_all rfl ?_)
    | ((with_reducible refine all_id ?_); (conv => arg 1; whnf); first | exact all_nil | refine all_cons ?_ ?_)
    | (refine la_op rfl (by first | exact frm_s (by decide +kernel) | exact frm_a (by repeat' (first | exact fa_nil | refine fa_cons (by decide +kernel) ?_))) (by intro _; first | exact trivial | simp [appT, runOf, hF]) ?_; (repeat (first | refine bk_nil ?_ | refine bk_t (by decide +kernel) ?_ | refine bk_f (by decide +kernel) ?_)))
   | fail)
  refine cx_k (y3.next.ints_put a1 hrl Regs[a]) ?_
  intro h4 y4
  repeat' (first
   | with_reducible refine stp ?_
   | with_reducible refine k_blk_o rfl ?_
   | with_reducible refine k_seq_n ?_
   | ((try (conv => arg 1; simp [y4.b0])); with_reducible refine evp ?_)
   | ((with_reducible refine apn ?na ?_); (case na => simp [appNames, ints, intss] <;> first | kernel_rfl | (refine ⟨?_, ?_⟩ <;> kernel_rfl)))
   | fail)
  have es : stepC ⟨At, Regs, Slots, Mem, Input, Out, Code, Over, Val⟩ ⟨11, r, a, B, N⟩ = ⟨IntKind.i64.wrap (At + 1), Regs.set r Regs[a], Slots, Mem, Input, Out, Code, Over, Val⟩ := by simp [stepC, rd_at hal]
  rw [es]
  exact ⟨_, w5, n5, rfl, fun _ => rfl, y4.next.box_drop, .inl rfl⟩

set_option maxHeartbeats 1000000 in
theorem sw_alu (c : Cpu) (w : Word) (ho : w.Op = 3) {r a b q : Nat} (hr : w.R = (r : Int)) (ha : w.A = (a : Int)) (hb : w.B = (b : Int)) (hq : w.N = (q : Int)) (hrl : r < c.Regs.length) (hal : a < c.Regs.length) (hbl : b < c.Regs.length) (hql : q < 6) : SpecW c (stepC c w) w := by
  obtain ⟨Op, R, A, B, N⟩ := w
  obtain ⟨At, Regs, Slots, Mem, Input, Out, Code, Over, Val⟩ := c
  simp only at ho hr ha hb hq hrl hal hbl
  subst ho hr ha hb hq
  have hnil : True := trivial
  intro h nr fu wi w1 w2 w3 w5 n1 n2 n3 n5 bs os hwi x ok
  dsimp only at x
  have q1 := own_one (own_of (x.o0 true) rfl)
  have q2 := own_one (own_of (x.o1 true) rfl)
  have q3 := own_one (own_of (x.o2 true) rfl)
  have q4 := own_one (own_of (x.o3 true) rfl)
  refine enter mixed MW23 Try.func79 rfl (by kernel_rfl) rfl ?_
  repeat' (first
   | with_reducible refine stp ?_
   | with_reducible refine k_blk_o rfl ?_
   | ((try (conv => arg 1; simp [Word.cells])); with_reducible refine evp ?_)
   | ((with_reducible refine apn ?na ?_); (case na => simp [appNames, ints, intss] <;> first | kernel_rfl | (refine ⟨?_, ?_⟩ <;> kernel_rfl)))
   | fail)
  refine cx_k (x.next.box_one x.off (by simp)) ?_
  intro h1 y1
  have m1 : nr.1 < h1.tick := y1.lt nr (by simp [nms])
  have e1 : ¬ nr.1 = h1.tick := by omega
  repeat' (first
   | with_reducible refine stp ?_
   | with_reducible refine k_blk_o rfl ?_
   | ((try (conv => arg 1; simp [y1.b0, y1.l0])); with_reducible refine evp ?_)
   | ((with_reducible refine apn ?na ?_); (case na => simp [appNames, ints, intss] <;> first | kernel_rfl | (refine ⟨?_, ?_⟩ <;> kernel_rfl)))
   | fail)
  refine cx_k y1.next ?_
  intro h2 y2
  repeat' (first
   | with_reducible refine stp ?_
   | with_reducible refine k_blk_o rfl ?_
   | with_reducible refine k_seq_n ?_
   | ((try (conv => arg 1; simp [hnil])); with_reducible refine evp ?_)
   | ((with_reducible refine apn ?na ?_); (case na => simp [appNames, ints, intss] <;> first | kernel_rfl | (refine ⟨?_, ?_⟩ <;> kernel_rfl)))
   | fail)
  refine cx_wp (by first | exact y2 | exact y2.next | exact y2.next.next | exact y2.next.next.next | exact y2.next.next.next.next | exact y2.next.next.next.next.next | exact y2.next.next.next.next.next.next | exact y2.next.next.next.next.next.next.next | exact y2.next.next.next.next.next.next.next.next | exact y2.next.next.next.next.next.next.next.next.next | exact y2.next.next.next.next.next.next.next.next.next.next | exact y2.next.next.next.next.next.next.next.next.next.next.next | exact y2.next.next.next.next.next.next.next.next.next.next.next.next | exact y2.next.next.next.next.next.next.next.next.next.next.next.next.next) ?_
  intro h3 y3
  have m3 : nr.1 < h3.tick := y3.lt nr (by simp [nms])
  have e3 : ¬ nr.1 = h3.tick := by omega
  obtain ⟨k1, v1, p1, s1, a1, b1⟩ := (y3).ints_at hrl
  have ew := a1.val
  subst ew
  have d1 : k1.1 < h3.tick + 1 := by omega
  have c1 : ¬ k1.1 = h3.tick := by omega
  have g1 := a1.get hrl
  have g2 := a1.get hal
  have g3 := a1.get hbl
  have hz : Try.prog.types[9].size = 1 := by kernel_rfl
  have hqi : (q : Int) < 6 := by omega
  have hx1 : ¬ k1 = (h3.tick, 3, 0) := fun e => c1 (by rw [e])
  have hrg : List.range 6 = [0, 1, 2, 3, 4, 5] := rfl
  have hs : ([[AV.str ⟨#[43]⟩], [AV.str ⟨#[45]⟩], [AV.str ⟨#[42]⟩], [AV.str ⟨#[38]⟩], [AV.str ⟨#[61, 61]⟩], [AV.str ⟨#[60]⟩]] : List (List AV))[q]? = some [.str (sgn q)] := by
    match q, hql with
    | 0, _ => rfl
    | 1, _ => rfl
    | 2, _ => rfl
    | 3, _ => rfl
    | 4, _ => rfl
    | 5, _ => rfl
  have hs2 : ([[AV.str ⟨#[43]⟩], [AV.str ⟨#[45]⟩], [AV.str ⟨#[42]⟩], [AV.str ⟨#[38]⟩], [AV.str ⟨#[61, 61]⟩], [AV.str ⟨#[60]⟩]] : List (List AV))[q]'(by simpa using hql) = [.str (sgn q)] := by
    rw [← Option.some.injEq, ← List.getElem?_eq_getElem]
    exact hs
  repeat (with_reducible first | refine stp ?_ | refine k_seq_n ?_)
  refine st_lz (by kernel_rfl) ?_
  have hF := And.intro y3.b0 (And.intro y3.l0 (And.intro y3.b1 (And.intro e3 (And.intro a1.row (And.intro g1 (And.intro g2 (And.intro g3 (And.intro c1 (And.intro d1 (And.intro hrl (And.intro hal (And.intro hbl (And.intro hs (And.intro hs2 (And.intro hql (And.intro hqi (And.intro hz (And.intro hrg hx1))))))))))))))))))
  repeat' (first
   | with_reducible refine stp ?_
   | with_reducible refine k_blk_o rfl ?_
   | ((try (conv => arg 1; simp [runOf, hF])); with_reducible refine evp ?_)
   | ((with_reducible refine apn ?na ?_); (case na => simp [appNames, ints, intss] <;> first | kernel_rfl | (refine ⟨?_, ?_⟩ <;> kernel_rfl)))
   | ((with_reducible refine tcl ?_); first | ((apply tg (specBin q _ _)); (case e => rfl); (case d => (refine dq ?_); (repeat' (first | ((refine Da.mk ?_); first | assumption) | constructor)))))
    | ((with_reducible refine la_id ?_); refine la_end rfl ?_; (repeat (first | refine pl_nil ?_ | refine pl_cons ?_)))
    | ((with_reducible refine la_id ?_); refine la_pick ?_; (conv => arg 1; whnf); (repeat ((fail_if_success (first | ((refine la_q0 rfl ?_); (try (conv => arg 1; simp [runOf, hF])); with_reducible refine evp ?_) | ((refine la_n rfl rfl ?_); (try (conv => arg 1; simp [runOf, hF])); with_reducible refine evp ?_) | ((refine la_q2 rfl (by decide +kernel) ?_); (repeat (first | refine bk_nil ?_ | refine bk_t (by decide +kernel) ?_ | refine bk_f (by decide +kernel) ?_)); (try (conv => arg 1; simp [runOf, hF])); with_reducible refine evp ?_) | ((refine la_q1 rfl (by decide +kernel) ?_); (try (conv => arg 1; simp [runOf, hF])); with_reducible refine evp ?_) | ((refine la_g0 rfl ?_); (try (conv => arg 1; simp [runOf, hF])); with_reducible refine evp ?_; (with_reducible refine evp ?_); try ((try (conv => arg 1; simp [runOf, hF])); with_reducible refine evp ?_)))); (refine la_there ?_); (conv => arg 1; whnf))); first | ((refine la_q0 rfl ?_); (try (conv => arg 1; simp [runOf, hF])); with_reducible refine evp ?_) | ((refine la_n rfl rfl ?_); (try (conv => arg 1; simp [runOf, hF])); with_reducible refine evp ?_) | ((refine la_q2 rfl (by decide +kernel) ?_); (repeat (first | refine bk_nil ?_ | refine bk_t (by decide +kernel) ?_ | refine bk_f (by decide +kernel) ?_)); (try (conv => arg 1; simp [runOf, hF])); with_reducible refine evp ?_) | ((refine la_q1 rfl (by decide +kernel) ?_); (try (conv => arg 1; simp [runOf, hF])); with_reducible refine evp ?_) | ((refine la_g0 rfl ?_); (try (conv => arg 1; simp [runOf, hF])); with_reducible refine evp ?_; (with_reducible refine evp ?_); try ((try (conv => arg 1; simp [runOf, hF])); with_reducible refine evp ?_)))
    | ((with_reducible refine la_id ?_); refine la_all rfl ?_)
    | ((with_reducible refine all_id ?_); (conv => arg 1; whnf); first | exact all_nil | refine all_cons ?_ ?_)
    | (refine la_op rfl (by first | exact frm_s (by decide +kernel) | exact frm_a (by repeat' (first | exact fa_nil | refine fa_cons (by decide +kernel) ?_))) (by intro _; first | exact trivial | simp [appT, runOf, hF]) ?_; (repeat (first | refine bk_nil ?_ | refine bk_t (by decide +kernel) ?_ | refine bk_f (by decide +kernel) ?_)))
   | fail)
  refine cx_k ((y3.next.put_junk (n := (h3.tick, 3, 0)) (fun e => by have := y3.lt _ e; simp at this)).ints_put a1 hrl (alu q Regs[a] Regs[b])) ?_
  intro h4 y4
  repeat' (first
   | with_reducible refine stp ?_
   | with_reducible refine k_blk_o rfl ?_
   | with_reducible refine k_seq_n ?_
   | ((try (conv => arg 1; simp [y4.b0])); with_reducible refine evp ?_)
   | ((with_reducible refine apn ?na ?_); (case na => simp [appNames, ints, intss] <;> first | kernel_rfl | (refine ⟨?_, ?_⟩ <;> kernel_rfl)))
   | fail)
  have es : stepC ⟨At, Regs, Slots, Mem, Input, Out, Code, Over, Val⟩ ⟨3, r, a, b, q⟩ = ⟨IntKind.i64.wrap (At + 1), Regs.set r (alu q Regs[a] Regs[b]), Slots, Mem, Input, Out, Code, Over, Val⟩ := by simp [stepC, rd_at, *]
  rw [es]
  exact ⟨_, w5, n5, rfl, fun _ => rfl, y4.next.box_drop, .inl rfl⟩

set_option maxHeartbeats 1000000 in
theorem sw_jmp (c : Cpu) (w : Word) (ho : w.Op = 8)  : SpecW c (stepC c w) w := by
  obtain ⟨Op, R, A, B, N⟩ := w
  obtain ⟨At, Regs, Slots, Mem, Input, Out, Code, Over, Val⟩ := c
  simp only at ho 
  subst ho 
  have hnil : True := trivial
  intro h nr fu wi w1 w2 w3 w5 n1 n2 n3 n5 bs os hwi x ok
  dsimp only at x
  have q1 := own_one (own_of (x.o0 true) rfl)
  have q2 := own_one (own_of (x.o1 true) rfl)
  have q3 := own_one (own_of (x.o2 true) rfl)
  have q4 := own_one (own_of (x.o3 true) rfl)
  refine enter mixed MW23 Try.func79 rfl (by kernel_rfl) rfl ?_
  repeat' (first
   | with_reducible refine stp ?_
   | with_reducible refine k_blk_o rfl ?_
   | ((try (conv => arg 1; simp [Word.cells])); with_reducible refine evp ?_)
   | ((with_reducible refine apn ?na ?_); (case na => simp [appNames, ints, intss] <;> first | kernel_rfl | (refine ⟨?_, ?_⟩ <;> kernel_rfl)))
   | fail)
  refine cx_k (x.next.box_one x.off (by simp)) ?_
  intro h1 y1
  have m1 : nr.1 < h1.tick := y1.lt nr (by simp [nms])
  have e1 : ¬ nr.1 = h1.tick := by omega
  repeat' (first
   | with_reducible refine stp ?_
   | with_reducible refine k_blk_o rfl ?_
   | ((try (conv => arg 1; simp [y1.b0, y1.l0])); with_reducible refine evp ?_)
   | ((with_reducible refine apn ?na ?_); (case na => simp [appNames, ints, intss] <;> first | kernel_rfl | (refine ⟨?_, ?_⟩ <;> kernel_rfl)))
   | fail)
  refine cx_k y1.next ?_
  intro h2 y2
  repeat' (first
   | with_reducible refine stp ?_
   | with_reducible refine k_blk_o rfl ?_
   | ((try (conv => arg 1; simp [hnil])); with_reducible refine evp ?_)
   | ((with_reducible refine apn ?na ?_); (case na => simp [appNames, ints, intss] <;> first | kernel_rfl | (refine ⟨?_, ?_⟩ <;> kernel_rfl)))
   | fail)
  refine k_seq_n ?_
  repeat' (first
   | with_reducible refine stp ?_
   | with_reducible refine k_blk_o rfl ?_
   | ((try (conv => arg 1; simp [hnil])); with_reducible refine evp ?_)
   | ((with_reducible refine apn ?na ?_); (case na => simp [appNames, ints, intss] <;> first | kernel_rfl | (refine ⟨?_, ?_⟩ <;> kernel_rfl)))
   | fail)
  refine k_seq_n ?_
  repeat' (first
   | with_reducible refine stp ?_
   | with_reducible refine k_blk_o rfl ?_
   | ((try (conv => arg 1; simp [hnil])); with_reducible refine evp ?_)
   | ((with_reducible refine apn ?na ?_); (case na => simp [appNames, ints, intss] <;> first | kernel_rfl | (refine ⟨?_, ?_⟩ <;> kernel_rfl)))
   | fail)
  refine k_seq_n ?_
  repeat' (first
   | with_reducible refine stp ?_
   | with_reducible refine k_blk_o rfl ?_
   | ((try (conv => arg 1; simp [hnil])); with_reducible refine evp ?_)
   | ((with_reducible refine apn ?na ?_); (case na => simp [appNames, ints, intss] <;> first | kernel_rfl | (refine ⟨?_, ?_⟩ <;> kernel_rfl)))
   | fail)
  refine k_seq_n ?_
  repeat' (first
   | with_reducible refine stp ?_
   | with_reducible refine k_blk_o rfl ?_
   | ((try (conv => arg 1; simp [hnil])); with_reducible refine evp ?_)
   | ((with_reducible refine apn ?na ?_); (case na => simp [appNames, ints, intss] <;> first | kernel_rfl | (refine ⟨?_, ?_⟩ <;> kernel_rfl)))
   | fail)
  refine k_seq_n ?_
  repeat' (first
   | with_reducible refine stp ?_
   | with_reducible refine k_blk_o rfl ?_
   | ((try (conv => arg 1; simp [hnil])); with_reducible refine evp ?_)
   | ((with_reducible refine apn ?na ?_); (case na => simp [appNames, ints, intss] <;> first | kernel_rfl | (refine ⟨?_, ?_⟩ <;> kernel_rfl)))
   | fail)
  refine k_seq_n ?_
  repeat' (first
   | with_reducible refine stp ?_
   | with_reducible refine k_blk_o rfl ?_
   | ((try (conv => arg 1; simp [hnil])); with_reducible refine evp ?_)
   | ((with_reducible refine apn ?na ?_); (case na => simp [appNames, ints, intss] <;> first | kernel_rfl | (refine ⟨?_, ?_⟩ <;> kernel_rfl)))
   | fail)
  refine k_seq_n ?_
  repeat' (first
   | with_reducible refine stp ?_
   | with_reducible refine k_blk_o rfl ?_
   | ((try (conv => arg 1; simp [hnil])); with_reducible refine evp ?_)
   | ((with_reducible refine apn ?na ?_); (case na => simp [appNames, ints, intss] <;> first | kernel_rfl | (refine ⟨?_, ?_⟩ <;> kernel_rfl)))
   | fail)
  refine k_seq_n ?_
  repeat' (first
   | with_reducible refine stp ?_
   | with_reducible refine k_blk_o rfl ?_
   | ((try (conv => arg 1; simp [hnil])); with_reducible refine evp ?_)
   | ((with_reducible refine apn ?na ?_); (case na => simp [appNames, ints, intss] <;> first | kernel_rfl | (refine ⟨?_, ?_⟩ <;> kernel_rfl)))
   | fail)
  refine k_seq_n ?_
  repeat' (first
   | with_reducible refine stp ?_
   | with_reducible refine k_blk_o rfl ?_
   | ((try (conv => arg 1; simp [hnil])); with_reducible refine evp ?_)
   | ((with_reducible refine apn ?na ?_); (case na => simp [appNames, ints, intss] <;> first | kernel_rfl | (refine ⟨?_, ?_⟩ <;> kernel_rfl)))
   | fail)
  refine cx_wp (by first | exact y2 | exact y2.next | exact y2.next.next | exact y2.next.next.next | exact y2.next.next.next.next | exact y2.next.next.next.next.next | exact y2.next.next.next.next.next.next | exact y2.next.next.next.next.next.next.next | exact y2.next.next.next.next.next.next.next.next | exact y2.next.next.next.next.next.next.next.next.next | exact y2.next.next.next.next.next.next.next.next.next.next | exact y2.next.next.next.next.next.next.next.next.next.next.next | exact y2.next.next.next.next.next.next.next.next.next.next.next.next | exact y2.next.next.next.next.next.next.next.next.next.next.next.next.next) ?_
  intro h3 y3
  have m3 : nr.1 < h3.tick := y3.lt nr (by simp [nms])
  have e3 : ¬ nr.1 = h3.tick := by omega
  repeat' (first
   | with_reducible refine stp ?_
   | with_reducible refine k_blk_o rfl ?_
   | ((try (conv => arg 1; simp [y3.b0, y3.l0])); with_reducible refine evp ?_)
   | ((with_reducible refine apn ?na ?_); (case na => simp [appNames, ints, intss] <;> first | kernel_rfl | (refine ⟨?_, ?_⟩ <;> kernel_rfl)))
   | fail)
  have es : stepC ⟨At, Regs, Slots, Mem, Input, Out, Code, Over, Val⟩ ⟨8, R, A, B, N⟩ = ⟨N, Regs, Slots, Mem, Input, Out, Code, Over, Val⟩ := by simp [stepC]
  rw [es]
  exact ⟨_, w5, n5, rfl, fun _ => rfl, y3.next.box_drop, .inl rfl⟩

set_option maxHeartbeats 1000000 in
theorem sw_jz (c : Cpu) (w : Word) (ho : w.Op = 9) {r : Nat} (hr : w.R = (r : Int)) (hrl : r < c.Regs.length) : SpecW c (stepC c w) w := by
  obtain ⟨Op, R, A, B, N⟩ := w
  obtain ⟨At, Regs, Slots, Mem, Input, Out, Code, Over, Val⟩ := c
  simp only at ho hr hrl
  subst ho hr
  have hnil : True := trivial
  intro h nr fu wi w1 w2 w3 w5 n1 n2 n3 n5 bs os hwi x ok
  dsimp only at x
  have q1 := own_one (own_of (x.o0 true) rfl)
  have q2 := own_one (own_of (x.o1 true) rfl)
  have q3 := own_one (own_of (x.o2 true) rfl)
  have q4 := own_one (own_of (x.o3 true) rfl)
  refine enter mixed MW23 Try.func79 rfl (by kernel_rfl) rfl ?_
  repeat' (first
   | with_reducible refine stp ?_
   | with_reducible refine k_blk_o rfl ?_
   | ((try (conv => arg 1; simp [Word.cells])); with_reducible refine evp ?_)
   | ((with_reducible refine apn ?na ?_); (case na => simp [appNames, ints, intss] <;> first | kernel_rfl | (refine ⟨?_, ?_⟩ <;> kernel_rfl)))
   | fail)
  refine cx_k (x.next.box_one x.off (by simp)) ?_
  intro h1 y1
  have m1 : nr.1 < h1.tick := y1.lt nr (by simp [nms])
  have e1 : ¬ nr.1 = h1.tick := by omega
  repeat' (first
   | with_reducible refine stp ?_
   | with_reducible refine k_blk_o rfl ?_
   | ((try (conv => arg 1; simp [y1.b0, y1.l0])); with_reducible refine evp ?_)
   | ((with_reducible refine apn ?na ?_); (case na => simp [appNames, ints, intss] <;> first | kernel_rfl | (refine ⟨?_, ?_⟩ <;> kernel_rfl)))
   | fail)
  refine cx_k y1.next ?_
  intro h2 y2
  repeat' (first
   | with_reducible refine stp ?_
   | with_reducible refine k_blk_o rfl ?_
   | ((try (conv => arg 1; simp [hnil])); with_reducible refine evp ?_)
   | ((with_reducible refine apn ?na ?_); (case na => simp [appNames, ints, intss] <;> first | kernel_rfl | (refine ⟨?_, ?_⟩ <;> kernel_rfl)))
   | fail)
  refine k_seq_n ?_
  repeat' (first
   | with_reducible refine stp ?_
   | with_reducible refine k_blk_o rfl ?_
   | ((try (conv => arg 1; simp [hnil])); with_reducible refine evp ?_)
   | ((with_reducible refine apn ?na ?_); (case na => simp [appNames, ints, intss] <;> first | kernel_rfl | (refine ⟨?_, ?_⟩ <;> kernel_rfl)))
   | fail)
  refine k_seq_n ?_
  repeat' (first
   | with_reducible refine stp ?_
   | with_reducible refine k_blk_o rfl ?_
   | ((try (conv => arg 1; simp [hnil])); with_reducible refine evp ?_)
   | ((with_reducible refine apn ?na ?_); (case na => simp [appNames, ints, intss] <;> first | kernel_rfl | (refine ⟨?_, ?_⟩ <;> kernel_rfl)))
   | fail)
  refine k_seq_n ?_
  repeat' (first
   | with_reducible refine stp ?_
   | with_reducible refine k_blk_o rfl ?_
   | ((try (conv => arg 1; simp [hnil])); with_reducible refine evp ?_)
   | ((with_reducible refine apn ?na ?_); (case na => simp [appNames, ints, intss] <;> first | kernel_rfl | (refine ⟨?_, ?_⟩ <;> kernel_rfl)))
   | fail)
  refine k_seq_n ?_
  repeat' (first
   | with_reducible refine stp ?_
   | with_reducible refine k_blk_o rfl ?_
   | ((try (conv => arg 1; simp [hnil])); with_reducible refine evp ?_)
   | ((with_reducible refine apn ?na ?_); (case na => simp [appNames, ints, intss] <;> first | kernel_rfl | (refine ⟨?_, ?_⟩ <;> kernel_rfl)))
   | fail)
  refine k_seq_n ?_
  repeat' (first
   | with_reducible refine stp ?_
   | with_reducible refine k_blk_o rfl ?_
   | ((try (conv => arg 1; simp [hnil])); with_reducible refine evp ?_)
   | ((with_reducible refine apn ?na ?_); (case na => simp [appNames, ints, intss] <;> first | kernel_rfl | (refine ⟨?_, ?_⟩ <;> kernel_rfl)))
   | fail)
  refine k_seq_n ?_
  repeat' (first
   | with_reducible refine stp ?_
   | with_reducible refine k_blk_o rfl ?_
   | ((try (conv => arg 1; simp [hnil])); with_reducible refine evp ?_)
   | ((with_reducible refine apn ?na ?_); (case na => simp [appNames, ints, intss] <;> first | kernel_rfl | (refine ⟨?_, ?_⟩ <;> kernel_rfl)))
   | fail)
  refine k_seq_n ?_
  repeat' (first
   | with_reducible refine stp ?_
   | with_reducible refine k_blk_o rfl ?_
   | ((try (conv => arg 1; simp [hnil])); with_reducible refine evp ?_)
   | ((with_reducible refine apn ?na ?_); (case na => simp [appNames, ints, intss] <;> first | kernel_rfl | (refine ⟨?_, ?_⟩ <;> kernel_rfl)))
   | fail)
  refine k_seq_n ?_
  repeat' (first
   | with_reducible refine stp ?_
   | with_reducible refine k_blk_o rfl ?_
   | ((try (conv => arg 1; simp [hnil])); with_reducible refine evp ?_)
   | ((with_reducible refine apn ?na ?_); (case na => simp [appNames, ints, intss] <;> first | kernel_rfl | (refine ⟨?_, ?_⟩ <;> kernel_rfl)))
   | fail)
  refine k_seq_n ?_
  repeat' (first
   | with_reducible refine stp ?_
   | with_reducible refine k_blk_o rfl ?_
   | ((try (conv => arg 1; simp [hnil])); with_reducible refine evp ?_)
   | ((with_reducible refine apn ?na ?_); (case na => simp [appNames, ints, intss] <;> first | kernel_rfl | (refine ⟨?_, ?_⟩ <;> kernel_rfl)))
   | fail)
  refine k_seq_n ?_
  repeat' (first
   | with_reducible refine stp ?_
   | with_reducible refine k_blk_o rfl ?_
   | ((try (conv => arg 1; simp [hnil])); with_reducible refine evp ?_)
   | ((with_reducible refine apn ?na ?_); (case na => simp [appNames, ints, intss] <;> first | kernel_rfl | (refine ⟨?_, ?_⟩ <;> kernel_rfl)))
   | fail)
  refine cx_wp (by first | exact y2 | exact y2.next | exact y2.next.next | exact y2.next.next.next | exact y2.next.next.next.next | exact y2.next.next.next.next.next | exact y2.next.next.next.next.next.next | exact y2.next.next.next.next.next.next.next | exact y2.next.next.next.next.next.next.next.next | exact y2.next.next.next.next.next.next.next.next.next | exact y2.next.next.next.next.next.next.next.next.next.next | exact y2.next.next.next.next.next.next.next.next.next.next.next | exact y2.next.next.next.next.next.next.next.next.next.next.next.next | exact y2.next.next.next.next.next.next.next.next.next.next.next.next.next) ?_
  intro h3 y3
  have m3 : nr.1 < h3.tick := y3.lt nr (by simp [nms])
  have e3 : ¬ nr.1 = h3.tick := by omega
  obtain ⟨k1, v1, p1, s1, a1, b1⟩ := (y3).ints_at hrl
  have ew := a1.val
  subst ew
  have d1 : k1.1 < h3.tick + 1 := by omega
  have c1 : ¬ k1.1 = h3.tick := by omega
  have g1 := a1.get hrl
  repeat' (first
   | with_reducible refine stp ?_
   | with_reducible refine k_blk_o rfl ?_
   | ((try (conv => arg 1; simp [y3.b0, y3.l0, a1.row, g1, c1, d1, hrl])); with_reducible refine evp ?_)
   | ((with_reducible refine apn ?na ?_); (case na => simp [appNames, ints, intss] <;> first | kernel_rfl | (refine ⟨?_, ?_⟩ <;> kernel_rfl)))
   | fail)
  refine cx_k y3.next ?_
  intro h4 y4
  by_cases hz : Regs[r] = 0
  · skip
    repeat' (first
     | with_reducible refine stp ?_
     | with_reducible refine k_blk_o rfl ?_
     | with_reducible refine k_seq_n ?_
     | ((try (conv => arg 1; simp [hz, y4.b0, y4.l0])); with_reducible refine evp ?_)
     | ((with_reducible refine apn ?na ?_); (case na => simp [appNames, ints, intss] <;> first | kernel_rfl | (refine ⟨?_, ?_⟩ <;> kernel_rfl)))
     | fail)
    have es : stepC ⟨At, Regs, Slots, Mem, Input, Out, Code, Over, Val⟩ ⟨9, r, A, B, N⟩ = ⟨N, Regs, Slots, Mem, Input, Out, Code, Over, Val⟩ := by simp [stepC, rd_at hrl, hz]
    rw [es]
    exact ⟨_, w5, n5, rfl, fun _ => rfl, by first | exact y4.box_drop | exact y4.next.box_drop | exact y4.next.next.box_drop, .inl rfl⟩
  · skip
    repeat' (first
     | with_reducible refine stp ?_
     | with_reducible refine k_blk_o rfl ?_
     | with_reducible refine k_seq_n ?_
     | ((try (conv => arg 1; simp [hz, y4.b0, y4.l0])); with_reducible refine evp ?_)
     | ((with_reducible refine apn ?na ?_); (case na => simp [appNames, ints, intss] <;> first | kernel_rfl | (refine ⟨?_, ?_⟩ <;> kernel_rfl)))
     | fail)
    have es : stepC ⟨At, Regs, Slots, Mem, Input, Out, Code, Over, Val⟩ ⟨9, r, A, B, N⟩ = ⟨IntKind.i64.wrap (At + 1), Regs, Slots, Mem, Input, Out, Code, Over, Val⟩ := by simp [stepC, rd_at hrl, hz]
    rw [es]
    exact ⟨_, w5, n5, rfl, fun _ => rfl, by first | exact y4.box_drop | exact y4.next.box_drop | exact y4.next.next.box_drop, .inl rfl⟩

set_option maxHeartbeats 1000000 in
theorem sw_ret (c : Cpu) (w : Word) (ho : w.Op = 10) {r : Nat} (hr : w.R = (r : Int)) (hrl : r < c.Regs.length) : SpecW c (stepC c w) w := by
  obtain ⟨Op, R, A, B, N⟩ := w
  obtain ⟨At, Regs, Slots, Mem, Input, Out, Code, Over, Val⟩ := c
  simp only at ho hr hrl
  subst ho hr
  have hnil : True := trivial
  intro h nr fu wi w1 w2 w3 w5 n1 n2 n3 n5 bs os hwi x ok
  dsimp only at x
  have q1 := own_one (own_of (x.o0 true) rfl)
  have q2 := own_one (own_of (x.o1 true) rfl)
  have q3 := own_one (own_of (x.o2 true) rfl)
  have q4 := own_one (own_of (x.o3 true) rfl)
  refine enter mixed MW23 Try.func79 rfl (by kernel_rfl) rfl ?_
  repeat' (first
   | with_reducible refine stp ?_
   | with_reducible refine k_blk_o rfl ?_
   | ((try (conv => arg 1; simp [Word.cells])); with_reducible refine evp ?_)
   | ((with_reducible refine apn ?na ?_); (case na => simp [appNames, ints, intss] <;> first | kernel_rfl | (refine ⟨?_, ?_⟩ <;> kernel_rfl)))
   | fail)
  refine cx_k (x.next.box_one x.off (by simp)) ?_
  intro h1 y1
  have m1 : nr.1 < h1.tick := y1.lt nr (by simp [nms])
  have e1 : ¬ nr.1 = h1.tick := by omega
  repeat' (first
   | with_reducible refine stp ?_
   | with_reducible refine k_blk_o rfl ?_
   | ((try (conv => arg 1; simp [y1.b0, y1.l0])); with_reducible refine evp ?_)
   | ((with_reducible refine apn ?na ?_); (case na => simp [appNames, ints, intss] <;> first | kernel_rfl | (refine ⟨?_, ?_⟩ <;> kernel_rfl)))
   | fail)
  refine cx_k y1.next ?_
  intro h2 y2
  repeat' (first
   | with_reducible refine stp ?_
   | with_reducible refine k_blk_o rfl ?_
   | ((try (conv => arg 1; simp [hnil])); with_reducible refine evp ?_)
   | ((with_reducible refine apn ?na ?_); (case na => simp [appNames, ints, intss] <;> first | kernel_rfl | (refine ⟨?_, ?_⟩ <;> kernel_rfl)))
   | fail)
  refine k_seq_n ?_
  repeat' (first
   | with_reducible refine stp ?_
   | with_reducible refine k_blk_o rfl ?_
   | ((try (conv => arg 1; simp [hnil])); with_reducible refine evp ?_)
   | ((with_reducible refine apn ?na ?_); (case na => simp [appNames, ints, intss] <;> first | kernel_rfl | (refine ⟨?_, ?_⟩ <;> kernel_rfl)))
   | fail)
  refine k_seq_n ?_
  repeat' (first
   | with_reducible refine stp ?_
   | with_reducible refine k_blk_o rfl ?_
   | ((try (conv => arg 1; simp [hnil])); with_reducible refine evp ?_)
   | ((with_reducible refine apn ?na ?_); (case na => simp [appNames, ints, intss] <;> first | kernel_rfl | (refine ⟨?_, ?_⟩ <;> kernel_rfl)))
   | fail)
  refine k_seq_n ?_
  repeat' (first
   | with_reducible refine stp ?_
   | with_reducible refine k_blk_o rfl ?_
   | ((try (conv => arg 1; simp [hnil])); with_reducible refine evp ?_)
   | ((with_reducible refine apn ?na ?_); (case na => simp [appNames, ints, intss] <;> first | kernel_rfl | (refine ⟨?_, ?_⟩ <;> kernel_rfl)))
   | fail)
  refine k_seq_n ?_
  repeat' (first
   | with_reducible refine stp ?_
   | with_reducible refine k_blk_o rfl ?_
   | ((try (conv => arg 1; simp [hnil])); with_reducible refine evp ?_)
   | ((with_reducible refine apn ?na ?_); (case na => simp [appNames, ints, intss] <;> first | kernel_rfl | (refine ⟨?_, ?_⟩ <;> kernel_rfl)))
   | fail)
  refine k_seq_n ?_
  repeat' (first
   | with_reducible refine stp ?_
   | with_reducible refine k_blk_o rfl ?_
   | ((try (conv => arg 1; simp [hnil])); with_reducible refine evp ?_)
   | ((with_reducible refine apn ?na ?_); (case na => simp [appNames, ints, intss] <;> first | kernel_rfl | (refine ⟨?_, ?_⟩ <;> kernel_rfl)))
   | fail)
  refine k_seq_n ?_
  repeat' (first
   | with_reducible refine stp ?_
   | with_reducible refine k_blk_o rfl ?_
   | ((try (conv => arg 1; simp [hnil])); with_reducible refine evp ?_)
   | ((with_reducible refine apn ?na ?_); (case na => simp [appNames, ints, intss] <;> first | kernel_rfl | (refine ⟨?_, ?_⟩ <;> kernel_rfl)))
   | fail)
  refine k_seq_n ?_
  repeat' (first
   | with_reducible refine stp ?_
   | with_reducible refine k_blk_o rfl ?_
   | ((try (conv => arg 1; simp [hnil])); with_reducible refine evp ?_)
   | ((with_reducible refine apn ?na ?_); (case na => simp [appNames, ints, intss] <;> first | kernel_rfl | (refine ⟨?_, ?_⟩ <;> kernel_rfl)))
   | fail)
  refine k_seq_n ?_
  repeat' (first
   | with_reducible refine stp ?_
   | with_reducible refine k_blk_o rfl ?_
   | ((try (conv => arg 1; simp [hnil])); with_reducible refine evp ?_)
   | ((with_reducible refine apn ?na ?_); (case na => simp [appNames, ints, intss] <;> first | kernel_rfl | (refine ⟨?_, ?_⟩ <;> kernel_rfl)))
   | fail)
  refine k_seq_n ?_
  repeat' (first
   | with_reducible refine stp ?_
   | with_reducible refine k_blk_o rfl ?_
   | ((try (conv => arg 1; simp [hnil])); with_reducible refine evp ?_)
   | ((with_reducible refine apn ?na ?_); (case na => simp [appNames, ints, intss] <;> first | kernel_rfl | (refine ⟨?_, ?_⟩ <;> kernel_rfl)))
   | fail)
  refine k_seq_n ?_
  repeat' (first
   | with_reducible refine stp ?_
   | with_reducible refine k_blk_o rfl ?_
   | ((try (conv => arg 1; simp [hnil])); with_reducible refine evp ?_)
   | ((with_reducible refine apn ?na ?_); (case na => simp [appNames, ints, intss] <;> first | kernel_rfl | (refine ⟨?_, ?_⟩ <;> kernel_rfl)))
   | fail)
  refine cx_wp (by first | exact y2 | exact y2.next | exact y2.next.next | exact y2.next.next.next | exact y2.next.next.next.next | exact y2.next.next.next.next.next | exact y2.next.next.next.next.next.next | exact y2.next.next.next.next.next.next.next | exact y2.next.next.next.next.next.next.next.next | exact y2.next.next.next.next.next.next.next.next.next | exact y2.next.next.next.next.next.next.next.next.next.next | exact y2.next.next.next.next.next.next.next.next.next.next.next | exact y2.next.next.next.next.next.next.next.next.next.next.next.next | exact y2.next.next.next.next.next.next.next.next.next.next.next.next.next) ?_
  intro h3 y3
  have m3 : nr.1 < h3.tick := y3.lt nr (by simp [nms])
  have e3 : ¬ nr.1 = h3.tick := by omega
  obtain ⟨k1, v1, p1, s1, a1, b1⟩ := (y3).ints_at hrl
  have ew := a1.val
  subst ew
  have d1 : k1.1 < h3.tick + 1 := by omega
  have c1 : ¬ k1.1 = h3.tick := by omega
  have g1 := a1.get hrl
  repeat' (first
   | with_reducible refine stp ?_
   | with_reducible refine k_blk_o rfl ?_
   | ((try (conv => arg 1; simp [runOf, y3.b0, y3.b1, y3.l1, m3, a1.row, g1, c1, d1, hrl])); with_reducible refine evp ?_)
   | ((with_reducible refine apn ?na ?_); (case na => simp [appNames, ints, intss] <;> first | kernel_rfl | (refine ⟨?_, ?_⟩ <;> kernel_rfl)))
   | fail)
  refine cx_k (y3.next.box_set1 (r' := runOf fu ⟨At, Regs, Slots, Mem, Input, Out, Code, true, Val⟩ wi w2 w3 w5)) ?_
  intro h4 y4
  have m4 : nr.1 < h4.tick := y4.lt nr (by simp [nms])
  obtain ⟨k1', v1', p1', s1', a1', b1'⟩ := y4.ints_at hrl
  have ew := a1'.val
  simp at ew
  obtain ⟨rfl, rfl, rfl⟩ := ew
  have g1' := a1'.get hrl
  repeat' (first
   | with_reducible refine stp ?_
   | with_reducible refine k_blk_o rfl ?_
   | ((try (conv => arg 1; simp [runOf, y4.b0, y4.b1, y4.l1, m4, a1'.row, g1', hrl])); with_reducible refine evp ?_)
   | ((with_reducible refine apn ?na ?_); (case na => simp [appNames, ints, intss] <;> first | kernel_rfl | (refine ⟨?_, ?_⟩ <;> kernel_rfl)))
   | fail)
  refine cx_k (y4.next.box_set1 (r' := runOf fu ⟨At, Regs, Slots, Mem, Input, Out, Code, true, Regs[r]⟩ wi w2 w3 w5)) ?_
  intro h5 y5
  repeat' (first
   | with_reducible refine stp ?_
   | with_reducible refine k_blk_o rfl ?_
   | with_reducible refine k_seq_n ?_
   | ((try (conv => arg 1; simp [y5.b0])); with_reducible refine evp ?_)
   | ((with_reducible refine apn ?na ?_); (case na => simp [appNames, ints, intss] <;> first | kernel_rfl | (refine ⟨?_, ?_⟩ <;> kernel_rfl)))
   | fail)
  have es : stepC ⟨At, Regs, Slots, Mem, Input, Out, Code, Over, Val⟩ ⟨10, r, A, B, N⟩ = ⟨At, Regs, Slots, Mem, Input, Out, Code, true, Regs[r]⟩ := by simp [stepC, rd_at hrl]
  rw [es]
  exact ⟨_, w5, n5, rfl, (fun e => by cases e.2), y5.next.box_drop, .inl rfl⟩

end Go.Proofs.Ytfgaoojogididaa.AM

/-
  Rows of whole numbers as boxes; contexts behind a run found by instances.
-/
set_option linter.unusedVariables false
set_option linter.unusedSimpArgs false
set_option maxRecDepth 4000
namespace Go.Proofs.Ytfgaoojogididaa.AM
open Go.RowKit

/-- Whole numbers in a row, with what lies ahead and behind. -/
def ir (ver : Nat) (pre : List (List AV)) (xs : List Int) (sp : List (List AV)) : Row := ⟨ver, 1, pre ++ (cl1 xs ++ sp)⟩
structure IrOk (ver : Nat) (pre sp : List (List AV)) : Prop where
  h0 : ∀ e ∈ pre, e.length = 1
  h1 : ∀ e ∈ sp, e.length = 1
  h2 : ClRow ⟨ver, 1, pre⟩
  h3 : ClRow ⟨ver, 1, sp⟩
theorem ir_get {pre sp : List (List AV)} {xs : List Int} {i : Nat} (hi : i < xs.length) : (pre ++ (cl1 xs ++ sp))[pre.length + i]? = some [.int .i64 xs[i]] := by
  rw [mid_get (by simpa [cl1] using hi)]
  simp [cl1, hi]
theorem ir_set {pre sp : List (List AV)} {xs : List Int} {i : Nat} {y : Int} (hi : i < xs.length) : (pre ++ (cl1 xs ++ sp)).set (pre.length + i) [.int .i64 y] = pre ++ (cl1 (xs.set i y) ++ sp) := by
  rw [mid_set (by simpa [cl1] using hi)]
  simp [cl1, List.map_set]
theorem ir_ver {ver : Nat} {pre sp : List (List AV)} {xs : List Int} : (ir ver pre xs sp).ver = ver := Eq.refl _
theorem ir_esz {ver : Nat} {pre sp : List (List AV)} {xs : List Int} : (ir ver pre xs sp).esz = 1 := Eq.refl _
theorem ir_elems {ver : Nat} {pre sp : List (List AV)} {xs : List Int} : (ir ver pre xs sp).elems = pre ++ (cl1 xs ++ sp) := Eq.refl _
theorem ir_mk {ver : Nat} {pre sp : List (List AV)} {xs : List Int} : (⟨ver, 1, pre ++ (cl1 xs ++ sp)⟩ : Row) = ir ver pre xs sp := Eq.refl _

section
variable {h h' : Hp} {bs bs' : Bx} {os : Ox} {n k : Nm} {r r2 : Row} {T i j : Nat} {v w : AV} {ns : List Nm}
theorem Cx.open_ints {xs : List Int} (x : Cx h bs ((w, (fun b => ints b xs), ns) :: os)) (hx : 0 < xs.length) : ∃ k ver pre sp, w = .sl k ver pre.length xs.length ∧ ns = [k] ∧ IrOk ver pre sp ∧ Cx h ((k, ir ver pre xs sp) :: bs) os := by
  rcases own_ints_inv (own_of (x.o0 true) rfl) with ⟨rfl, _, _⟩ | ⟨k, ver, pre, sp, rfl, rfl, hr, h1, h2, h3, h4⟩
  · simp at hx
  · refine ⟨k, ver, pre, sp, rfl, rfl, ⟨h1, h2, h3, h4⟩, ?_, fun y hy => x.own y (by simp [hy]), ?_, fun m hm => x.lt m ?_⟩
    · intro y hy
      simp only [List.mem_cons] at hy
      rcases hy with rfl | hy
      · exact hr
      · exact x.box y hy
    · have := x.nd
      simp only [nms, List.map_cons, List.flatten_cons] at this ⊢
      exact (List.Perm.nodup_iff (by simp)).1 this
    · simp only [nms, List.map_cons, List.flatten_cons, List.mem_append, List.mem_cons] at hm ⊢
      rcases hm with (rfl | hm) | hm
      · simp
      · exact .inl hm
      · exact .inr (.inr hm)
theorem Cx.close_ints {ver : Nat} {pre sp : List (List AV)} {xs : List Int} (x : Cx h ((k, ir ver pre xs sp) :: bs) os) (q : IrOk ver pre sp) : Cx h bs ((.sl k ver pre.length xs.length, (fun b => ints b xs), [k]) :: os) := by
  refine ⟨fun y hy => x.box y (by simp [hy]), fun y hy b => ?_, ?_, fun m hm => x.lt m ?_⟩
  · simp only [List.mem_cons] at hy
    rcases hy with rfl | hy
    · exact .one (own_ints_mk x.b0 q.h0 q.h1 q.h2 q.h3)
    · exact x.own y hy b
  · have := x.nd
    simp only [nms, List.map_cons, List.flatten_cons] at this ⊢
    exact (List.Perm.nodup_iff (by simp)).2 this
  · simp only [nms, List.map_cons, List.flatten_cons, List.mem_append, List.mem_cons] at hm ⊢
    rcases hm with hm | (hm | hm) | hm
    · exact .inl (.inr hm)
    · exact .inl (.inl hm)
    · simp at hm
    · exact .inr hm

/-- A tick not below another one. -/
class GeT (t T : Nat) : Prop where
  le : t ≤ T
instance : GeT T T := ⟨Nat.le_refl _⟩
instance {t T : Nat} [g : GeT t T] : GeT t (T + 1) := ⟨Nat.le_succ_of_le g.le⟩
/-- What of a context is left behind a run. -/
class CxE (h : Hp) (bs : Bx) (os : Ox) (h' : Hp) (bs' : outParam Bx) : Prop where
  cx : Cx h bs os → Cx h' bs' os
  nm : bs'.map (·.1) = bs.map (·.1)
  tk : h.tick ≤ h'.tick
theorem Cx.to (x : Cx h bs os) [e : CxE h bs os h' bs'] : Cx h' bs' os := e.cx x
instance (priority := low) : CxE h bs os h bs := ⟨id, rfl, Nat.le_refl _⟩
instance [e : CxE h bs os h' bs'] : CxE h bs os h'.next bs' := ⟨fun x => (e.cx x).next, e.nm, by rw [hp_next_tick]; exact Nat.le_succ_of_le e.tk⟩
instance [g : GeT h.tick T] [e : CxE h bs os h' bs'] : CxE h bs os (h'.put (T, i, j) r) bs' := ⟨fun x => (e.cx x).put_junk (fun hm => by
    have hl := x.lt (T, i, j) (by
      simp only [nms, List.mem_append] at hm ⊢
      rw [← e.nm]
      exact hm)
    have := g.le
    simp only at hl
    omega), e.nm, by rw [hp_put_tick]; exact e.tk⟩
instance [e : CxE h bs os h' ((n, r) :: bs')] : CxE h bs os (h'.put n r2) ((n, r2) :: bs') := ⟨fun x => (e.cx x).box_set, e.nm, by rw [hp_put_tick]; exact e.tk⟩
instance {a : Nm × Row} [e : CxE h bs os h' (a :: (n, r) :: bs')] : CxE h bs os (h'.put n r2) (a :: (n, r2) :: bs') := ⟨fun x => (e.cx x).box_set1, e.nm, by rw [hp_put_tick]; exact e.tk⟩
instance {a b : Nm × Row} [e : CxE h bs os h' (a :: b :: (n, r) :: bs')] : CxE h bs os (h'.put n r2) (a :: b :: (n, r2) :: bs') := ⟨fun x => (e.cx x).box_set2, e.nm, by rw [hp_put_tick]; exact e.tk⟩
theorem Cx.box_set3 {a b c : Nm × Row} (x : Cx h (a :: b :: c :: (n, r) :: bs) os) : Cx (h.put n r2) (a :: b :: c :: (n, r2) :: bs) os := ((x.bperm (List.perm_middle (l₁ := [a, b, c]))).box_set (r' := r2)).bperm (List.perm_middle (l₁ := [a, b, c])).symm
theorem Cx.box_set4 {a b c d : Nm × Row} (x : Cx h (a :: b :: c :: d :: (n, r) :: bs) os) : Cx (h.put n r2) (a :: b :: c :: d :: (n, r2) :: bs) os := ((x.bperm (List.perm_middle (l₁ := [a, b, c, d]))).box_set (r' := r2)).bperm (List.perm_middle (l₁ := [a, b, c, d])).symm
instance {a b c : Nm × Row} [e : CxE h bs os h' (a :: b :: c :: (n, r) :: bs')] : CxE h bs os (h'.put n r2) (a :: b :: c :: (n, r2) :: bs') := ⟨fun x => (e.cx x).box_set3, e.nm, by rw [hp_put_tick]; exact e.tk⟩
instance {a b c d : Nm × Row} [e : CxE h bs os h' (a :: b :: c :: d :: (n, r) :: bs')] : CxE h bs os (h'.put n r2) (a :: b :: c :: d :: (n, r2) :: bs') := ⟨fun x => (e.cx x).box_set4, e.nm, by rw [hp_put_tick]; exact e.tk⟩

/-- The boxes, one by one. -/
def Bxs (h : Hp) : Bx → Prop
  | [] => True
  | (n, r) :: bs => h.rows n = some r ∧ n.1 < h.tick ∧ Bxs h bs
theorem Bxs.of : ∀ {bs : Bx}, (∀ y ∈ bs, h.rows y.1 = some y.2 ∧ y.1.1 < h.tick) → Bxs h bs
  | [], _ => trivial
  | (n, r) :: bs, p => ⟨(p (n, r) (by simp)).1, (p (n, r) (by simp)).2, Bxs.of fun y hy => p y (by simp [hy])⟩
theorem Cx.bxs (x : Cx h bs os) : Bxs h bs := Bxs.of fun y hy => ⟨x.box y hy, x.lt _ (mem_box hy)⟩
/-- Names apart. -/
def Aps : List Nm → Prop
  | [] => True
  | n :: l => (∀ m ∈ l, n ≠ m ∧ m ≠ n) ∧ Aps l
theorem Aps.of : ∀ {l : List Nm}, l.Nodup → Aps l
  | [], _ => trivial
  | n :: l, p => ⟨fun m hm => ⟨fun e => (List.nodup_cons.1 p).1 (e ▸ hm), fun e => (List.nodup_cons.1 p).1 (e ▸ hm)⟩, Aps.of (List.nodup_cons.1 p).2⟩
theorem Cx.aps (x : Cx h bs os) : Aps (bs.map (·.1)) := Aps.of (List.nodup_append.1 x.nd).1
end
theorem nm_ne {n : Nm} {t i j : Nat} (h : n.1 < t) : (n = (t, i, j)) = False := eq_false fun e => by rw [e] at h; exact Nat.lt_irrefl _ h
theorem nm_ne' {n : Nm} {t i j : Nat} (h : n.1 < t) : ((t, i, j) = n) = False := eq_false fun e => by rw [← e] at h; exact Nat.lt_irrefl _ h
theorem tk_ne {a t : Nat} (h : a < t) : (a = t) = False := eq_false (Nat.ne_of_lt h)
theorem tk_ne' {a t : Nat} (h : a < t) : (t = a) = False := eq_false (Nat.ne_of_gt h)
end Go.Proofs.Ytfgaoojogididaa.AM

/-
  The spec's word, word by word: output, places in regions.
-/
set_option linter.unusedVariables false
set_option linter.unusedSimpArgs false
set_option maxRecDepth 4000
namespace Go.Proofs.Ytfgaoojogididaa.AM
open Go.RowKit

private def MW24 : FuncId → Mode := fun f => if f = 89 ∨ f = 90 then .heap else .tree

theorem l03At {h : Hp} {nr : Nm} {fu : Int} {c : Cpu} {wi w2 w3 w5 : AV} {n3 : List Nm} {bs : Bx} {os : Ox} {q : Nat} {idx : Int} (hq : q < c.Mem.length) (x : Cx h ((nr, runOf fu c wi w2 w3 w5) :: bs) ((w3, (fun b => intss b c.Mem), n3) :: os)) :
    Sound Try.prog 89 [.ptr nr 0 0 0, .int .i64 q, .int .i64 (-1), .int .i64 idx] h fun v h' =>
      (inB idx 0 (IntKind.i64.wrap ((c.Mem.getD q []).length - 1)) = true ∧ v = .int .i64 idx ∧ Cx h' ((nr, runOf fu c wi w2 w3 w5) :: bs) ((w3, (fun b => intss b c.Mem), n3) :: os)) ∨
      (inB idx 0 (IntKind.i64.wrap ((c.Mem.getD q []).length - 1)) = false ∧ Cx h' ((nr, runOf fu { c with Code := 1 } wi w2 w3 w5) :: bs) ((w3, (fun b => intss b c.Mem), n3) :: os)) := by
  have q3 := own_one (own_of (x.o0 true) rfl)
  have hq2 : c.Mem.getD q [] = c.Mem[q] := by simp [hq]
  obtain ⟨k3, v3, s3, u, nq, rfl, r3, g3, l3, ou, lu, _, _, _, _⟩ := x.mem_at hq
  have qu := own_one ou
  have lenu := lenA_own (P := Try.prog) (t := 22) ou (by kernel_rfl)
  have hm : ¬ (0 : Int) ≤ -1 := by omega
  have m0 : nr.1 < h.tick := x.lt nr (by simp [nms])
  refine enter mixed MW24 Try.func89 rfl (by kernel_rfl) rfl ?_
  repeat' (first
   | with_reducible refine stp ?_
   | with_reducible refine k_blk_o rfl ?_
   | with_reducible refine k_seq_n ?_
   | ((try (conv => arg 1; simp [runOf, x.b0, hm, r3, g3, hq, qu.1, lenu])); with_reducible refine evp ?_)
   | ((with_reducible refine apn ?na ?_); (case na => simp [appNames, ints, intss] <;> first | kernel_rfl | (refine ⟨?_, ?_⟩ <;> kernel_rfl)))
   | ((with_reducible refine tcl ?_); first | ((apply tg (l01In _ _ _)); (case e => rfl); (case d => (refine dq ?_); (repeat' (first | ((refine Da.mk ?_); first | assumption) | constructor)))))
   | fail)
  cases hb : inB idx 0 (IntKind.i64.wrap ((c.Mem[q].length : Int) - 1)) with
  | true =>
    repeat' (first
     | with_reducible refine stp ?_
     | with_reducible refine k_blk_o rfl ?_
     | with_reducible refine k_seq_n ?_
     | ((try (conv => arg 1; simp [hb])); with_reducible refine evp ?_)
     | ((with_reducible refine apn ?na ?_); (case na => simp [appNames, ints, intss] <;> first | kernel_rfl | (refine ⟨?_, ?_⟩ <;> kernel_rfl)))
     | fail)
    exact .inl ⟨by rw [hq2]; exact hb, rfl, by first | exact x | exact x.next | exact x.next.next | exact x.next.next.next | exact x.next.next.next.next⟩
  | false =>
    have t1 : nr.1 < h.tick + 1 + 1 + 1 := by omega
    have t2 : nr.1 < h.tick + 1 + 1 + 1 + 1 := by omega
    have t3 : nr.1 < h.tick + 1 + 1 + 1 + 1 + 1 := by omega
    repeat' (first
     | with_reducible refine stp ?_
     | with_reducible refine k_blk_o rfl ?_
     | with_reducible refine k_seq_n ?_
     | ((try (conv => arg 1; simp [runOf, hb, x.b0, t1, t2, t3])); with_reducible refine evp ?_)
     | ((with_reducible refine apn ?na ?_); (case na => simp [appNames, ints, intss] <;> first | kernel_rfl | (refine ⟨?_, ?_⟩ <;> kernel_rfl)))
     | fail)
    exact .inr ⟨by rw [hq2]; exact hb, (Cx.box_set (r' := runOf fu { c with Code := 1 } wi w2 (.sl k3 v3 0 c.Mem.length) w5) (by first | exact x.next.next.next | exact x.next.next.next.next | exact x.next.next.next.next.next)).next⟩

set_option maxHeartbeats 1000000 in
theorem sw_out (c : Cpu) (w : Word) (ho : w.Op = 7) {r : Nat} (hr : w.R = (r : Int)) (hrl : r < c.Regs.length) (hol : c.Out.length + 1 ≤ 4294967296) : SpecW c (stepC c w) w := by
  obtain ⟨Op, R, A, B, N⟩ := w
  obtain ⟨At, Regs, Slots, Mem, Input, Out, Code, Over, Val⟩ := c
  simp only at ho hr hrl hol
  subst ho hr
  have hnil : True := trivial
  intro h nr fu wi w1 w2 w3 w5 n1 n2 n3 n5 bs os hwi x ok
  dsimp only at x
  have q1 := own_one (own_of (x.o0 true) rfl)
  have q2 := own_one (own_of (x.o1 true) rfl)
  have q3 := own_one (own_of (x.o2 true) rfl)
  have q4 := own_one (own_of (x.o3 true) rfl)
  refine enter mixed MW24 Try.func79 rfl (by kernel_rfl) rfl ?_
  repeat' (first
   | with_reducible refine stp ?_
   | with_reducible refine k_blk_o rfl ?_
   | ((try (conv => arg 1; simp [Word.cells])); with_reducible refine evp ?_)
   | ((with_reducible refine apn ?na ?_); (case na => simp [appNames, ints, intss] <;> first | kernel_rfl | (refine ⟨?_, ?_⟩ <;> kernel_rfl)))
   | fail)
  refine cx_kf (fun h' => ∀ n ∈ n5, h'.rows n = h.rows n) (x.next.box_one x.off (by simp)) (fun n hn => by have hl := x.lt n (by simp [nms, hn]); have e0 : n ≠ (h.tick, 0, 0) := (fun e => (by rw [e] at hl; simp at hl)); simp [e0]) ?_
  intro h1 y1 f1
  have m1 : nr.1 < h1.tick := y1.lt nr (by simp [nms])
  have e1 : ¬ nr.1 = h1.tick := by omega
  repeat' (first
   | with_reducible refine stp ?_
   | with_reducible refine k_blk_o rfl ?_
   | ((try (conv => arg 1; simp [y1.b0, y1.l0])); with_reducible refine evp ?_)
   | ((with_reducible refine apn ?na ?_); (case na => simp [appNames, ints, intss] <;> first | kernel_rfl | (refine ⟨?_, ?_⟩ <;> kernel_rfl)))
   | fail)
  refine cx_kf (fun h' => ∀ n ∈ n5, h'.rows n = h.rows n) y1.next (fun n hn => by simp [f1 n hn]) ?_
  intro h2 y2 f2
  repeat' (first
   | with_reducible refine stp ?_
   | with_reducible refine k_blk_o rfl ?_
   | with_reducible refine k_seq_n ?_
   | ((try (conv => arg 1; simp [hnil])); with_reducible refine evp ?_)
   | ((with_reducible refine apn ?na ?_); (case na => simp [appNames, ints, intss] <;> first | kernel_rfl | (refine ⟨?_, ?_⟩ <;> kernel_rfl)))
   | fail)
  refine cx_wpf (fun h' => ∀ n ∈ n5, h'.rows n = h.rows n) (by first | exact y2 | exact y2.next | exact y2.next.next | exact y2.next.next.next | exact y2.next.next.next.next | exact y2.next.next.next.next.next | exact y2.next.next.next.next.next.next | exact y2.next.next.next.next.next.next.next | exact y2.next.next.next.next.next.next.next.next | exact y2.next.next.next.next.next.next.next.next.next | exact y2.next.next.next.next.next.next.next.next.next.next | exact y2.next.next.next.next.next.next.next.next.next.next.next | exact y2.next.next.next.next.next.next.next.next.next.next.next.next | exact y2.next.next.next.next.next.next.next.next.next.next.next.next.next) (fun n hn => by simp [f2 n hn]) ?_
  intro h3 y3 f3
  have m3 : nr.1 < h3.tick := y3.lt nr (by simp [nms])
  have e3 : ¬ nr.1 = h3.tick := by omega
  obtain ⟨k1, v1, p1, s1, a1, b1⟩ := (y3).ints_at hrl
  have ew := a1.val
  subst ew
  have d1 : k1.1 < h3.tick + 1 := by omega
  have c1 : ¬ k1.1 = h3.tick := by omega
  have g1 := a1.get hrl
  have o5 := own_of (y3.o3 true) rfl
  have ok5 : ∀ n ver off len, w5 = .sl n ver off len → ∃ r, h3.rows n = some r ∧ r.ver = ver ∧ r.esz = 1 := fun n ver off len e => by
    obtain ⟨r, q1, q2, q3⟩ := ok n ver off len e
    refine ⟨r, ?_, q2, q3⟩
    rw [f3 n (by rw [e] at o5; exact own_sl_mem o5)]
    exact q1
  have q5 := own_one o5
  have u1 : nr ∉ n5 := y3.bx_own (by simp) (by simp)
  have u2 : (h.tick, 0, 0) ∉ n5 := y3.bx_own (by simp) (by simp)
  have u3 : k1 ∉ n5 := y3.own_own (by simp) (by rw [a1.nms]; simp)
  have u4 : ∀ n ∈ n5, n.1 < h3.tick := fun n hn => y3.lt n (by simp [nms, hn])
  repeat (with_reducible first | refine stp ?_ | refine k_seq_n ?_)
  refine st_draw 14 (fun n => decide (n ∈ n5)) (by kernel_rfl) ?_
  simp only [List.take_succ_cons, List.take_zero, List.drop_succ_cons, List.drop_zero, List.take_nil, List.drop_nil]
  repeat' (first
   | with_reducible refine stp ?_
   | with_reducible refine k_blk_o rfl ?_
   | ((try (conv => arg 1; simp [runOf, y3.b0, y3.l0, y3.b1, e3, u1, u2, u3, a1.row, g1, c1, d1, hrl, q5.1])); with_reducible refine evp ?_)
   | ((with_reducible refine apn ?na ?_); (case na => simp [appNames, ints, intss] <;> first | kernel_rfl | (refine ⟨?_, ?_⟩ <;> kernel_rfl)))
   | fail)
  refine gen_ap (fun h' => (∀ n, n.1 < h3.tick → h'.rows n = h3.rows n) ∧ h'.rows (h3.tick, 10, 0) = some ⟨0, 1, [[.int .i64 Regs[r]]]⟩ ∧ h'.tick = h3.tick + 1) ⟨fun n hn => ?_, by simp, by simp⟩ ?_
  · have : n ≠ (h3.tick, 10, 0) := fun e => by rw [e] at hn; simp at hn
    simp [this]
  rintro hc ⟨z1, z2, z3⟩
  obtain ⟨w', n', r', t1, t2, t3, ⟨off', len', rfl⟩, t5⟩ := append_own (P := Try.prog) (t := 22) (n0 := (h3.tick, 11, 0)) (k := (h3.tick, 10, 0)) (h := hc) (xs := Out) (by kernel_rfl) (o5.congr fun n hn => z1 n (u4 n hn)) (fun n ver off len e => by
    obtain ⟨r, g1, g2, g3⟩ := ok5 n ver off len e
    exact ⟨r, by rw [z1 n (u4 n (by rw [e] at o5; exact own_sl_mem o5))]; exact g1, g2, g3⟩) z2 hol (fun n hn => by have := u4 n hn; omega)
  refine ⟨?names, ?_⟩
  case names =>
    rcases t2 with ⟨rfl, _, _⟩ | ⟨e, v, o, l, rfl⟩
    · exact app_names_nt rfl (by kernel_rfl) rfl
    · exact app_names_ot (fun e' => by have := u4 n' (by rw [e]; simp); omega) (by simp [e]) rfl (by kernel_rfl) rfl
  have hnn : ¬ nr = n' := fun e => by
    rcases t2 with ⟨_, e2, _⟩ | ⟨e2, _⟩
    · rw [e, e2] at m3; simp at m3
    · exact u1 (by rw [e, e2]; simp)
  have hnb : hc.rows nr = some (runOf fu ⟨At, Regs, Slots, Mem, Input, Out, Code, Over, Val⟩ wi w2 w3 w5) := by rw [z1 nr m3]; exact y3.b1
  have hnt : nr.1 < hc.tick := by omega
  rw [t1]
  refine ev2_some ?_
  repeat' (first
   | with_reducible refine stp ?_
   | with_reducible refine k_blk_o rfl ?_
   | ((try (conv => arg 1; simp [runOf, hnn, hnb, hnt, Ne.symm hnn])); with_reducible refine evp ?_)
   | ((with_reducible refine apn ?na ?_); (case na => simp [appNames, ints, intss] <;> first | kernel_rfl | (refine ⟨?_, ?_⟩ <;> kernel_rfl)))
   | fail)
  have base : Cx (hc.put n' r') _ _ := y3.rot3.replace (h' := hc.put n' r') (t' := fun b => ints b (Out ++ [Regs[r]])) (fun b => .one (t5 _ (by simp) b)) (by
      rcases t2 with ⟨_, e2, _⟩ | ⟨e2, _⟩
      · right
        subst e2
        exact ⟨fun e => by have := y3.rot3.lt _ e; simp at this, by simp; omega⟩
      · exact .inl e2) (fun n hn hm => by rw [hp_rows_put, if_neg hn]; exact z1 n (y3.rot3.lt n hm)) (by simp; omega)
  refine cx_kf (fun h' => OutV h' (.sl n' r'.ver off' len')) (base.rot3.rot3.rot3.box_set1 (r' := runOf fu ⟨At, Regs, Slots, Mem, Input, Out, Code, Over, Val⟩ wi w2 w3 (.sl n' r'.ver off' len'))) (fun n ver off len e => ?_) ?_
  · simp at e
    obtain ⟨rfl, rfl, rfl, rfl⟩ := e
    exact ⟨r', by simp [Ne.symm hnn], rfl, t3⟩
  intro h4 y4 f4
  repeat' (first
   | with_reducible refine stp ?_
   | with_reducible refine k_blk_o rfl ?_
   | with_reducible refine k_seq_n ?_
   | ((try (conv => arg 1; simp [y4.b0])); with_reducible refine evp ?_)
   | ((with_reducible refine apn ?na ?_); (case na => simp [appNames, ints, intss] <;> first | kernel_rfl | (refine ⟨?_, ?_⟩ <;> kernel_rfl)))
   | fail)
  have es : stepC ⟨At, Regs, Slots, Mem, Input, Out, Code, Over, Val⟩ ⟨7, r, A, B, N⟩ = ⟨IntKind.i64.wrap (At + 1), Regs, Slots, Mem, Input, Out ++ [Regs[r]], Code, Over, Val⟩ := by simp [stepC, rd_at, *]
  rw [es]
  refine ⟨_, _, _, rfl, fun _ => rfl, y4.next.box_drop, .inr fun n ver off len e => ?_⟩
  obtain ⟨r2, g1, g2, g3⟩ := f4 n ver off len e
  exact ⟨r2, by simpa using g1, g2, g3⟩

end Go.Proofs.Ytfgaoojogididaa.AM

/-
  The spec's word, word by word: places in regions.
-/
set_option linter.unusedVariables false
set_option linter.unusedSimpArgs false
set_option maxRecDepth 4000
namespace Go.Proofs.Ytfgaoojogididaa.AM
open Go.RowKit

private def MW25 : FuncId → Mode := fun f => if f = 89 ∨ f = 90 then .heap else .tree

set_option maxHeartbeats 1000000 in
theorem sw_trap4 (c : Cpu) (w : Word) (ho : w.Op = 4) {r a q : Nat} (hr : w.R = (r : Int)) (ha : w.A = (a : Int)) (hq : w.N = (q : Int)) (hrl : r < c.Regs.length) (hal : a < c.Regs.length) (hql : q < c.Mem.length) (hcode : c.Code = 0) (hb : inB (rd c.Regs (a : Int)) 0 (IntKind.i64.wrap ((c.Mem.getD q []).length - 1)) = false) : SpecW c (stepC c w) w := by
  obtain ⟨Op, R, A, B, N⟩ := w
  obtain ⟨At, Regs, Slots, Mem, Input, Out, Code, Over, Val⟩ := c
  simp only at ho hr ha hq hrl hal hql hcode hb
  subst ho hr ha hq hcode
  have hnil : True := trivial
  intro h nr fu wi w1 w2 w3 w5 n1 n2 n3 n5 bs os hwi x ok
  dsimp only at x
  have q1 := own_one (own_of (x.o0 true) rfl)
  have q2 := own_one (own_of (x.o1 true) rfl)
  have q3 := own_one (own_of (x.o2 true) rfl)
  have q4 := own_one (own_of (x.o3 true) rfl)
  refine enter mixed MW25 Try.func79 rfl (by kernel_rfl) rfl ?_
  repeat' (first
   | with_reducible refine stp ?_
   | with_reducible refine k_blk_o rfl ?_
   | ((try (conv => arg 1; simp [Word.cells])); with_reducible refine evp ?_)
   | ((with_reducible refine apn ?na ?_); (case na => simp [appNames, ints, intss] <;> first | kernel_rfl | (refine ⟨?_, ?_⟩ <;> kernel_rfl)))
   | fail)
  refine cx_k (x.next.box_one x.off (by simp)) ?_
  intro h1 y1
  have m1 : nr.1 < h1.tick := y1.lt nr (by simp [nms])
  have e1 : ¬ nr.1 = h1.tick := by omega
  repeat' (first
   | with_reducible refine stp ?_
   | with_reducible refine k_blk_o rfl ?_
   | ((try (conv => arg 1; simp [y1.b0, y1.l0])); with_reducible refine evp ?_)
   | ((with_reducible refine apn ?na ?_); (case na => simp [appNames, ints, intss] <;> first | kernel_rfl | (refine ⟨?_, ?_⟩ <;> kernel_rfl)))
   | fail)
  refine cx_k y1.next ?_
  intro h2 y2
  repeat' (first
   | with_reducible refine stp ?_
   | with_reducible refine k_blk_o rfl ?_
   | with_reducible refine k_seq_n ?_
   | ((try (conv => arg 1; simp [hnil])); with_reducible refine evp ?_)
   | ((with_reducible refine apn ?na ?_); (case na => simp [appNames, ints, intss] <;> first | kernel_rfl | (refine ⟨?_, ?_⟩ <;> kernel_rfl)))
   | fail)
  refine cx_wp (by first | exact y2 | exact y2.next | exact y2.next.next | exact y2.next.next.next | exact y2.next.next.next.next | exact y2.next.next.next.next.next | exact y2.next.next.next.next.next.next | exact y2.next.next.next.next.next.next.next | exact y2.next.next.next.next.next.next.next.next | exact y2.next.next.next.next.next.next.next.next.next | exact y2.next.next.next.next.next.next.next.next.next.next | exact y2.next.next.next.next.next.next.next.next.next.next.next | exact y2.next.next.next.next.next.next.next.next.next.next.next.next | exact y2.next.next.next.next.next.next.next.next.next.next.next.next.next) ?_
  intro h3 y3
  have m3 : nr.1 < h3.tick := y3.lt nr (by simp [nms])
  have e3 : ¬ nr.1 = h3.tick := by omega
  obtain ⟨k1, v1, p1, s1, a1, b1⟩ := (y3).ints_at hrl
  have ew := a1.val
  subst ew
  have d1 : k1.1 < h3.tick + 1 := by omega
  have c1 : ¬ k1.1 = h3.tick := by omega
  have g2 := a1.get hal
  have ha2 : rd Regs (a : Int) = Regs[a] := rd_at hal
  have hq2 : Mem.getD q [] = Mem[q] := by simp [hql]
  have hq3 : Mem[q]?.getD [] = Mem[q] := by simp [hql]
  repeat (with_reducible first | refine stp ?_ | refine k_seq_n ?_)
  refine st_lz (by kernel_rfl) ?_
  have hF := And.intro y3.b0 (And.intro y3.l0 (And.intro y3.b1 (And.intro e3 (And.intro a1.row (And.intro g2 (And.intro c1 (And.intro d1 hal)))))))
  repeat' (first
   | with_reducible refine stp ?_
   | with_reducible refine k_blk_o rfl ?_
   | ((try (conv => arg 1; simp [runOf, hF])); with_reducible refine evp ?_)
   | ((with_reducible refine apn ?na ?_); (case na => simp [appNames, ints, intss] <;> first | kernel_rfl | (refine ⟨?_, ?_⟩ <;> kernel_rfl)))
    | ((with_reducible refine la_id ?_); refine la_end rfl ?_; (repeat (first | refine pl_nil ?_ | refine pl_cons ?_)))
    | ((with_reducible refine la_id ?_); refine la_pick ?_; (conv => arg 1; whnf); (repeat ((fail_if_success (first | ((refine la_q0 rfl ?_); (try (conv => arg 1; simp [runOf, hF])); with_reducible refine evp ?_) | ((refine la_n rfl rfl ?_); (try (conv => arg 1; simp [runOf, hF])); with_reducible refine evp ?_) | ((refine la_q2 rfl (by decide +kernel) ?_); (repeat (first | refine bk_nil ?_ | refine bk_t (by decide +kernel) ?_ | refine bk_f (by decide +kernel) ?_)); (try (conv => arg 1; simp [runOf, hF])); with_reducible refine evp ?_) | ((refine la_q1 rfl (by decide +kernel) ?_); (try (conv => arg 1; simp [runOf, hF])); with_reducible refine evp ?_) | ((refine la_g0 rfl ?_); (try (conv => arg 1; simp [runOf, hF])); with_reducible refine evp ?_; (with_reducible refine evp ?_); try ((try (conv => arg 1; simp [runOf, hF])); with_reducible refine evp ?_)))); (refine la_there ?_); (conv => arg 1; whnf))); first | ((refine la_q0 rfl ?_); (try (conv => arg 1; simp [runOf, hF])); with_reducible refine evp ?_) | ((refine la_n rfl rfl ?_); (try (conv => arg 1; simp [runOf, hF])); with_reducible refine evp ?_) | ((refine la_q2 rfl (by decide +kernel) ?_); (repeat (first | refine bk_nil ?_ | refine bk_t (by decide +kernel) ?_ | refine bk_f (by decide +kernel) ?_)); (try (conv => arg 1; simp [runOf, hF])); with_reducible refine evp ?_) | ((refine la_q1 rfl (by decide +kernel) ?_); (try (conv => arg 1; simp [runOf, hF])); with_reducible refine evp ?_) | ((refine la_g0 rfl ?_); (try (conv => arg 1; simp [runOf, hF])); with_reducible refine evp ?_; (with_reducible refine evp ?_); try ((try (conv => arg 1; simp [runOf, hF])); with_reducible refine evp ?_)))
    | ((with_reducible refine la_id ?_); refine la_all rfl ?_)
    | ((with_reducible refine all_id ?_); (conv => arg 1; whnf); first | exact all_nil | refine all_cons ?_ ?_)
    | (refine la_op rfl (by first | exact frm_s (by decide +kernel) | exact frm_a (by repeat' (first | exact fa_nil | refine fa_cons (by decide +kernel) ?_))) (by intro _; first | exact trivial | simp [appT, runOf, hF]) ?_; (repeat (first | refine bk_nil ?_ | refine bk_t (by decide +kernel) ?_ | refine bk_f (by decide +kernel) ?_)))
   | fail)
  refine st_heap rfl (l03At hql (y3.next.bperm (List.Perm.swap _ _ _)).rot2) ?_
  rw [ha2] at hb
  rintro v h4 (⟨hb2, rfl, y4⟩ | ⟨hb2, y4⟩)
  · rw [hb] at hb2; cases hb2
  repeat' (first
   | with_reducible refine stp ?_
   | with_reducible refine k_blk_o rfl ?_
   | ((try (conv => arg 1; simp [hnil])); with_reducible refine evp ?_)
   | ((with_reducible refine apn ?na ?_); (case na => simp [appNames, ints, intss] <;> first | kernel_rfl | (refine ⟨?_, ?_⟩ <;> kernel_rfl)))
    | ((with_reducible refine la_id ?_); refine la_end rfl ?_; (repeat (first | refine pl_nil ?_ | refine pl_cons ?_)))
    | ((with_reducible refine la_id ?_); refine la_pick ?_; (conv => arg 1; whnf); (repeat ((fail_if_success (first | ((refine la_q0 rfl ?_); (try (conv => arg 1; simp [hnil])); with_reducible refine evp ?_) | ((refine la_n rfl rfl ?_); (try (conv => arg 1; simp [hnil])); with_reducible refine evp ?_) | ((refine la_q2 rfl (by decide +kernel) ?_); (repeat (first | refine bk_nil ?_ | refine bk_t (by decide +kernel) ?_ | refine bk_f (by decide +kernel) ?_)); (try (conv => arg 1; simp [hnil])); with_reducible refine evp ?_) | ((refine la_q1 rfl (by decide +kernel) ?_); (try (conv => arg 1; simp [hnil])); with_reducible refine evp ?_) | ((refine la_g0 rfl ?_); (try (conv => arg 1; simp [hnil])); with_reducible refine evp ?_; (with_reducible refine evp ?_); try ((try (conv => arg 1; simp [hnil])); with_reducible refine evp ?_)))); (refine la_there ?_); (conv => arg 1; whnf))); first | ((refine la_q0 rfl ?_); (try (conv => arg 1; simp [hnil])); with_reducible refine evp ?_) | ((refine la_n rfl rfl ?_); (try (conv => arg 1; simp [hnil])); with_reducible refine evp ?_) | ((refine la_q2 rfl (by decide +kernel) ?_); (repeat (first | refine bk_nil ?_ | refine bk_t (by decide +kernel) ?_ | refine bk_f (by decide +kernel) ?_)); (try (conv => arg 1; simp [hnil])); with_reducible refine evp ?_) | ((refine la_q1 rfl (by decide +kernel) ?_); (try (conv => arg 1; simp [hnil])); with_reducible refine evp ?_) | ((refine la_g0 rfl ?_); (try (conv => arg 1; simp [hnil])); with_reducible refine evp ?_; (with_reducible refine evp ?_); try ((try (conv => arg 1; simp [hnil])); with_reducible refine evp ?_)))
    | ((with_reducible refine la_id ?_); refine la_all rfl ?_)
    | ((with_reducible refine all_id ?_); (conv => arg 1; whnf); first | exact all_nil | refine all_cons ?_ ?_)
    | (refine la_op rfl (by first | exact frm_s (by decide +kernel) | exact frm_a (by repeat' (first | exact fa_nil | refine fa_cons (by decide +kernel) ?_))) (by intro _; first | exact trivial | simp [appT, hnil]) ?_; (repeat (first | refine bk_nil ?_ | refine bk_t (by decide +kernel) ?_ | refine bk_f (by decide +kernel) ?_)))
   | fail)
  refine cx_k y4 ?_
  intro h5 y5
  repeat' (first
   | with_reducible refine stp ?_
   | with_reducible refine k_blk_o rfl ?_
   | with_reducible refine k_seq_n ?_
   | ((try (conv => arg 1; simp [runOf, y5.b0])); with_reducible refine evp ?_)
   | ((with_reducible refine apn ?na ?_); (case na => simp [appNames, ints, intss] <;> first | kernel_rfl | (refine ⟨?_, ?_⟩ <;> kernel_rfl)))
   | fail)
  have es : stepC ⟨At, Regs, Slots, Mem, Input, Out, 0, Over, Val⟩ ⟨4, r, a, B, q⟩ = ⟨At, Regs, Slots, Mem, Input, Out, 1, Over, Val⟩ := by
    rw [hq2] at hb
    simp [stepC, ha2, hq3, hb]
  rw [es]
  exact ⟨_, w5, n5, rfl, (fun e => by cases e.1), (by first | exact (y5.bperm (List.Perm.swap _ _ _)).box_drop.rot2.rot2 | exact (y5.next.bperm (List.Perm.swap _ _ _)).box_drop.rot2.rot2 | exact (y5.next.next.bperm (List.Perm.swap _ _ _)).box_drop.rot2.rot2), .inl rfl⟩

set_option maxHeartbeats 1000000 in
theorem sw_trap5 (c : Cpu) (w : Word) (ho : w.Op = 5) {r a q : Nat} (hr : w.R = (r : Int)) (ha : w.A = (a : Int)) (hq : w.N = (q : Int)) (hrl : r < c.Regs.length) (hal : a < c.Regs.length) (hql : q < c.Mem.length) (hcode : c.Code = 0) (hb : inB (rd c.Regs (a : Int)) 0 (IntKind.i64.wrap ((c.Mem.getD q []).length - 1)) = false) : SpecW c (stepC c w) w := by
  obtain ⟨Op, R, A, B, N⟩ := w
  obtain ⟨At, Regs, Slots, Mem, Input, Out, Code, Over, Val⟩ := c
  simp only at ho hr ha hq hrl hal hql hcode hb
  subst ho hr ha hq hcode
  have hnil : True := trivial
  intro h nr fu wi w1 w2 w3 w5 n1 n2 n3 n5 bs os hwi x ok
  dsimp only at x
  have q1 := own_one (own_of (x.o0 true) rfl)
  have q2 := own_one (own_of (x.o1 true) rfl)
  have q3 := own_one (own_of (x.o2 true) rfl)
  have q4 := own_one (own_of (x.o3 true) rfl)
  refine enter mixed MW25 Try.func79 rfl (by kernel_rfl) rfl ?_
  repeat' (first
   | with_reducible refine stp ?_
   | with_reducible refine k_blk_o rfl ?_
   | ((try (conv => arg 1; simp [Word.cells])); with_reducible refine evp ?_)
   | ((with_reducible refine apn ?na ?_); (case na => simp [appNames, ints, intss] <;> first | kernel_rfl | (refine ⟨?_, ?_⟩ <;> kernel_rfl)))
   | fail)
  refine cx_k (x.next.box_one x.off (by simp)) ?_
  intro h1 y1
  have m1 : nr.1 < h1.tick := y1.lt nr (by simp [nms])
  have e1 : ¬ nr.1 = h1.tick := by omega
  repeat' (first
   | with_reducible refine stp ?_
   | with_reducible refine k_blk_o rfl ?_
   | ((try (conv => arg 1; simp [y1.b0, y1.l0])); with_reducible refine evp ?_)
   | ((with_reducible refine apn ?na ?_); (case na => simp [appNames, ints, intss] <;> first | kernel_rfl | (refine ⟨?_, ?_⟩ <;> kernel_rfl)))
   | fail)
  refine cx_k y1.next ?_
  intro h2 y2
  repeat' (first
   | with_reducible refine stp ?_
   | with_reducible refine k_blk_o rfl ?_
   | with_reducible refine k_seq_n ?_
   | ((try (conv => arg 1; simp [hnil])); with_reducible refine evp ?_)
   | ((with_reducible refine apn ?na ?_); (case na => simp [appNames, ints, intss] <;> first | kernel_rfl | (refine ⟨?_, ?_⟩ <;> kernel_rfl)))
   | fail)
  refine cx_wp (by first | exact y2 | exact y2.next | exact y2.next.next | exact y2.next.next.next | exact y2.next.next.next.next | exact y2.next.next.next.next.next | exact y2.next.next.next.next.next.next | exact y2.next.next.next.next.next.next.next | exact y2.next.next.next.next.next.next.next.next | exact y2.next.next.next.next.next.next.next.next.next | exact y2.next.next.next.next.next.next.next.next.next.next | exact y2.next.next.next.next.next.next.next.next.next.next.next | exact y2.next.next.next.next.next.next.next.next.next.next.next.next | exact y2.next.next.next.next.next.next.next.next.next.next.next.next.next) ?_
  intro h3 y3
  have m3 : nr.1 < h3.tick := y3.lt nr (by simp [nms])
  have e3 : ¬ nr.1 = h3.tick := by omega
  obtain ⟨k1, v1, p1, s1, a1, b1⟩ := (y3).ints_at hrl
  have ew := a1.val
  subst ew
  have d1 : k1.1 < h3.tick + 1 := by omega
  have c1 : ¬ k1.1 = h3.tick := by omega
  have g2 := a1.get hal
  have ha2 : rd Regs (a : Int) = Regs[a] := rd_at hal
  have hq2 : Mem.getD q [] = Mem[q] := by simp [hql]
  have hq3 : Mem[q]?.getD [] = Mem[q] := by simp [hql]
  repeat (with_reducible first | refine stp ?_ | refine k_seq_n ?_)
  refine st_lz (by kernel_rfl) ?_
  have hF := And.intro y3.b0 (And.intro y3.l0 (And.intro y3.b1 (And.intro e3 (And.intro a1.row (And.intro g2 (And.intro c1 (And.intro d1 hal)))))))
  repeat' (first
   | with_reducible refine stp ?_
   | with_reducible refine k_blk_o rfl ?_
   | ((try (conv => arg 1; simp [runOf, hF])); with_reducible refine evp ?_)
   | ((with_reducible refine apn ?na ?_); (case na => simp [appNames, ints, intss] <;> first | kernel_rfl | (refine ⟨?_, ?_⟩ <;> kernel_rfl)))
    | ((with_reducible refine la_id ?_); refine la_end rfl ?_; (repeat (first | refine pl_nil ?_ | refine pl_cons ?_)))
    | ((with_reducible refine la_id ?_); refine la_pick ?_; (conv => arg 1; whnf); (repeat ((fail_if_success (first | ((refine la_q0 rfl ?_); (try (conv => arg 1; simp [runOf, hF])); with_reducible refine evp ?_) | ((refine la_n rfl rfl ?_); (try (conv => arg 1; simp [runOf, hF])); with_reducible refine evp ?_) | ((refine la_q2 rfl (by decide +kernel) ?_); (repeat (first | refine bk_nil ?_ | refine bk_t (by decide +kernel) ?_ | refine bk_f (by decide +kernel) ?_)); (try (conv => arg 1; simp [runOf, hF])); with_reducible refine evp ?_) | ((refine la_q1 rfl (by decide +kernel) ?_); (try (conv => arg 1; simp [runOf, hF])); with_reducible refine evp ?_) | ((refine la_g0 rfl ?_); (try (conv => arg 1; simp [runOf, hF])); with_reducible refine evp ?_; (with_reducible refine evp ?_); try ((try (conv => arg 1; simp [runOf, hF])); with_reducible refine evp ?_)))); (refine la_there ?_); (conv => arg 1; whnf))); first | ((refine la_q0 rfl ?_); (try (conv => arg 1; simp [runOf, hF])); with_reducible refine evp ?_) | ((refine la_n rfl rfl ?_); (try (conv => arg 1; simp [runOf, hF])); with_reducible refine evp ?_) | ((refine la_q2 rfl (by decide +kernel) ?_); (repeat (first | refine bk_nil ?_ | refine bk_t (by decide +kernel) ?_ | refine bk_f (by decide +kernel) ?_)); (try (conv => arg 1; simp [runOf, hF])); with_reducible refine evp ?_) | ((refine la_q1 rfl (by decide +kernel) ?_); (try (conv => arg 1; simp [runOf, hF])); with_reducible refine evp ?_) | ((refine la_g0 rfl ?_); (try (conv => arg 1; simp [runOf, hF])); with_reducible refine evp ?_; (with_reducible refine evp ?_); try ((try (conv => arg 1; simp [runOf, hF])); with_reducible refine evp ?_)))
    | ((with_reducible refine la_id ?_); refine la_all rfl ?_)
    | ((with_reducible refine all_id ?_); (conv => arg 1; whnf); first | exact all_nil | refine all_cons ?_ ?_)
    | (refine la_op rfl (by first | exact frm_s (by decide +kernel) | exact frm_a (by repeat' (first | exact fa_nil | refine fa_cons (by decide +kernel) ?_))) (by intro _; first | exact trivial | simp [appT, runOf, hF]) ?_; (repeat (first | refine bk_nil ?_ | refine bk_t (by decide +kernel) ?_ | refine bk_f (by decide +kernel) ?_)))
   | fail)
  refine st_heap rfl (l03At hql (y3.next.bperm (List.Perm.swap _ _ _)).rot2) ?_
  rw [ha2] at hb
  rintro v h4 (⟨hb2, rfl, y4⟩ | ⟨hb2, y4⟩)
  · rw [hb] at hb2; cases hb2
  repeat' (first
   | with_reducible refine stp ?_
   | with_reducible refine k_blk_o rfl ?_
   | ((try (conv => arg 1; simp [hnil])); with_reducible refine evp ?_)
   | ((with_reducible refine apn ?na ?_); (case na => simp [appNames, ints, intss] <;> first | kernel_rfl | (refine ⟨?_, ?_⟩ <;> kernel_rfl)))
    | ((with_reducible refine la_id ?_); refine la_end rfl ?_; (repeat (first | refine pl_nil ?_ | refine pl_cons ?_)))
    | ((with_reducible refine la_id ?_); refine la_pick ?_; (conv => arg 1; whnf); (repeat ((fail_if_success (first | ((refine la_q0 rfl ?_); (try (conv => arg 1; simp [hnil])); with_reducible refine evp ?_) | ((refine la_n rfl rfl ?_); (try (conv => arg 1; simp [hnil])); with_reducible refine evp ?_) | ((refine la_q2 rfl (by decide +kernel) ?_); (repeat (first | refine bk_nil ?_ | refine bk_t (by decide +kernel) ?_ | refine bk_f (by decide +kernel) ?_)); (try (conv => arg 1; simp [hnil])); with_reducible refine evp ?_) | ((refine la_q1 rfl (by decide +kernel) ?_); (try (conv => arg 1; simp [hnil])); with_reducible refine evp ?_) | ((refine la_g0 rfl ?_); (try (conv => arg 1; simp [hnil])); with_reducible refine evp ?_; (with_reducible refine evp ?_); try ((try (conv => arg 1; simp [hnil])); with_reducible refine evp ?_)))); (refine la_there ?_); (conv => arg 1; whnf))); first | ((refine la_q0 rfl ?_); (try (conv => arg 1; simp [hnil])); with_reducible refine evp ?_) | ((refine la_n rfl rfl ?_); (try (conv => arg 1; simp [hnil])); with_reducible refine evp ?_) | ((refine la_q2 rfl (by decide +kernel) ?_); (repeat (first | refine bk_nil ?_ | refine bk_t (by decide +kernel) ?_ | refine bk_f (by decide +kernel) ?_)); (try (conv => arg 1; simp [hnil])); with_reducible refine evp ?_) | ((refine la_q1 rfl (by decide +kernel) ?_); (try (conv => arg 1; simp [hnil])); with_reducible refine evp ?_) | ((refine la_g0 rfl ?_); (try (conv => arg 1; simp [hnil])); with_reducible refine evp ?_; (with_reducible refine evp ?_); try ((try (conv => arg 1; simp [hnil])); with_reducible refine evp ?_)))
    | ((with_reducible refine la_id ?_); refine la_all rfl ?_)
    | ((with_reducible refine all_id ?_); (conv => arg 1; whnf); first | exact all_nil | refine all_cons ?_ ?_)
    | (refine la_op rfl (by first | exact frm_s (by decide +kernel) | exact frm_a (by repeat' (first | exact fa_nil | refine fa_cons (by decide +kernel) ?_))) (by intro _; first | exact trivial | simp [appT, hnil]) ?_; (repeat (first | refine bk_nil ?_ | refine bk_t (by decide +kernel) ?_ | refine bk_f (by decide +kernel) ?_)))
   | fail)
  refine cx_k y4 ?_
  intro h5 y5
  repeat' (first
   | with_reducible refine stp ?_
   | with_reducible refine k_blk_o rfl ?_
   | with_reducible refine k_seq_n ?_
   | ((try (conv => arg 1; simp [runOf, y5.b0])); with_reducible refine evp ?_)
   | ((with_reducible refine apn ?na ?_); (case na => simp [appNames, ints, intss] <;> first | kernel_rfl | (refine ⟨?_, ?_⟩ <;> kernel_rfl)))
   | fail)
  have es : stepC ⟨At, Regs, Slots, Mem, Input, Out, 0, Over, Val⟩ ⟨5, r, a, B, q⟩ = ⟨At, Regs, Slots, Mem, Input, Out, 1, Over, Val⟩ := by
    rw [hq2] at hb
    simp [stepC, ha2, hq3, hb]
  rw [es]
  exact ⟨_, w5, n5, rfl, (fun e => by cases e.1), (by first | exact (y5.bperm (List.Perm.swap _ _ _)).box_drop.rot2.rot2 | exact (y5.next.bperm (List.Perm.swap _ _ _)).box_drop.rot2.rot2 | exact (y5.next.next.bperm (List.Perm.swap _ _ _)).box_drop.rot2.rot2), .inl rfl⟩

set_option maxHeartbeats 1000000 in
theorem sw_lx (c : Cpu) (w : Word) (ho : w.Op = 4) {r a q : Nat} (hr : w.R = (r : Int)) (ha : w.A = (a : Int)) (hq : w.N = (q : Int)) (hrl : r < c.Regs.length) (hal : a < c.Regs.length) (hql : q < c.Mem.length) (hcode : c.Code = 0) {j : Nat} (hj : rd c.Regs (a : Int) = (j : Int)) (hjl : j < (c.Mem.getD q []).length) (hm : (c.Mem.getD q []).length ≤ 2 ^ 62) : SpecW c (stepC c w) w := by
  obtain ⟨Op, R, A, B, N⟩ := w
  obtain ⟨At, Regs, Slots, Mem, Input, Out, Code, Over, Val⟩ := c
  simp only at ho hr ha hq hrl hal hql hcode hj hjl hm
  subst ho hr ha hq hcode
  have hnil : True := trivial
  intro h nr fu wi w1 w2 w3 w5 n1 n2 n3 n5 bs os hwi x ok
  dsimp only at x
  have q1 := own_one (own_of (x.o0 true) rfl)
  have q2 := own_one (own_of (x.o1 true) rfl)
  have q3 := own_one (own_of (x.o2 true) rfl)
  have q4 := own_one (own_of (x.o3 true) rfl)
  refine enter mixed MW25 Try.func79 rfl (by kernel_rfl) rfl ?_
  repeat' (first
   | with_reducible refine stp ?_
   | with_reducible refine k_blk_o rfl ?_
   | ((try (conv => arg 1; simp [Word.cells])); with_reducible refine evp ?_)
   | ((with_reducible refine apn ?na ?_); (case na => simp [appNames, ints, intss] <;> first | kernel_rfl | (refine ⟨?_, ?_⟩ <;> kernel_rfl)))
   | fail)
  refine cx_k (x.next.box_one x.off (by simp)) ?_
  intro h1 y1
  have m1 : nr.1 < h1.tick := y1.lt nr (by simp [nms])
  have e1 : ¬ nr.1 = h1.tick := by omega
  repeat' (first
   | with_reducible refine stp ?_
   | with_reducible refine k_blk_o rfl ?_
   | ((try (conv => arg 1; simp [y1.b0, y1.l0])); with_reducible refine evp ?_)
   | ((with_reducible refine apn ?na ?_); (case na => simp [appNames, ints, intss] <;> first | kernel_rfl | (refine ⟨?_, ?_⟩ <;> kernel_rfl)))
   | fail)
  refine cx_k y1.next ?_
  intro h2 y2
  repeat' (first
   | with_reducible refine stp ?_
   | with_reducible refine k_blk_o rfl ?_
   | with_reducible refine k_seq_n ?_
   | ((try (conv => arg 1; simp [hnil])); with_reducible refine evp ?_)
   | ((with_reducible refine apn ?na ?_); (case na => simp [appNames, ints, intss] <;> first | kernel_rfl | (refine ⟨?_, ?_⟩ <;> kernel_rfl)))
   | fail)
  refine cx_wp (by first | exact y2 | exact y2.next | exact y2.next.next | exact y2.next.next.next | exact y2.next.next.next.next | exact y2.next.next.next.next.next | exact y2.next.next.next.next.next.next | exact y2.next.next.next.next.next.next.next | exact y2.next.next.next.next.next.next.next.next | exact y2.next.next.next.next.next.next.next.next.next | exact y2.next.next.next.next.next.next.next.next.next.next | exact y2.next.next.next.next.next.next.next.next.next.next.next | exact y2.next.next.next.next.next.next.next.next.next.next.next.next | exact y2.next.next.next.next.next.next.next.next.next.next.next.next.next) ?_
  intro h3 y3
  have m3 : nr.1 < h3.tick := y3.lt nr (by simp [nms])
  have e3 : ¬ nr.1 = h3.tick := by omega
  obtain ⟨k1, v1, p1, s1, a1, b1⟩ := (y3).ints_at hrl
  have ew := a1.val
  subst ew
  have d1 : k1.1 < h3.tick + 1 := by omega
  have c1 : ¬ k1.1 = h3.tick := by omega
  have g2 := a1.get hal
  have ha2 : rd Regs (a : Int) = Regs[a] := rd_at hal
  have hq2 : Mem.getD q [] = Mem[q] := by simp [hql]
  have hq3 : Mem[q]?.getD [] = Mem[q] := by simp [hql]
  repeat (with_reducible first | refine stp ?_ | refine k_seq_n ?_)
  refine st_lz (by kernel_rfl) ?_
  have hF := And.intro y3.b0 (And.intro y3.l0 (And.intro y3.b1 (And.intro e3 (And.intro a1.row (And.intro g2 (And.intro c1 (And.intro d1 hal)))))))
  repeat' (first
   | with_reducible refine stp ?_
   | with_reducible refine k_blk_o rfl ?_
   | ((try (conv => arg 1; simp [runOf, hF])); with_reducible refine evp ?_)
   | ((with_reducible refine apn ?na ?_); (case na => simp [appNames, ints, intss] <;> first | kernel_rfl | (refine ⟨?_, ?_⟩ <;> kernel_rfl)))
    | ((with_reducible refine la_id ?_); refine la_end rfl ?_; (repeat (first | refine pl_nil ?_ | refine pl_cons ?_)))
    | ((with_reducible refine la_id ?_); refine la_pick ?_; (conv => arg 1; whnf); (repeat ((fail_if_success (first | ((refine la_q0 rfl ?_); (try (conv => arg 1; simp [runOf, hF])); with_reducible refine evp ?_) | ((refine la_n rfl rfl ?_); (try (conv => arg 1; simp [runOf, hF])); with_reducible refine evp ?_) | ((refine la_q2 rfl (by decide +kernel) ?_); (repeat (first | refine bk_nil ?_ | refine bk_t (by decide +kernel) ?_ | refine bk_f (by decide +kernel) ?_)); (try (conv => arg 1; simp [runOf, hF])); with_reducible refine evp ?_) | ((refine la_q1 rfl (by decide +kernel) ?_); (try (conv => arg 1; simp [runOf, hF])); with_reducible refine evp ?_) | ((refine la_g0 rfl ?_); (try (conv => arg 1; simp [runOf, hF])); with_reducible refine evp ?_; (with_reducible refine evp ?_); try ((try (conv => arg 1; simp [runOf, hF])); with_reducible refine evp ?_)))); (refine la_there ?_); (conv => arg 1; whnf))); first | ((refine la_q0 rfl ?_); (try (conv => arg 1; simp [runOf, hF])); with_reducible refine evp ?_) | ((refine la_n rfl rfl ?_); (try (conv => arg 1; simp [runOf, hF])); with_reducible refine evp ?_) | ((refine la_q2 rfl (by decide +kernel) ?_); (repeat (first | refine bk_nil ?_ | refine bk_t (by decide +kernel) ?_ | refine bk_f (by decide +kernel) ?_)); (try (conv => arg 1; simp [runOf, hF])); with_reducible refine evp ?_) | ((refine la_q1 rfl (by decide +kernel) ?_); (try (conv => arg 1; simp [runOf, hF])); with_reducible refine evp ?_) | ((refine la_g0 rfl ?_); (try (conv => arg 1; simp [runOf, hF])); with_reducible refine evp ?_; (with_reducible refine evp ?_); try ((try (conv => arg 1; simp [runOf, hF])); with_reducible refine evp ?_)))
    | ((with_reducible refine la_id ?_); refine la_all rfl ?_)
    | ((with_reducible refine all_id ?_); (conv => arg 1; whnf); first | exact all_nil | refine all_cons ?_ ?_)
    | (refine la_op rfl (by first | exact frm_s (by decide +kernel) | exact frm_a (by repeat' (first | exact fa_nil | refine fa_cons (by decide +kernel) ?_))) (by intro _; first | exact trivial | simp [appT, runOf, hF]) ?_; (repeat (first | refine bk_nil ?_ | refine bk_t (by decide +kernel) ?_ | refine bk_f (by decide +kernel) ?_)))
   | fail)
  refine st_heap rfl (l03At hql (y3.next.bperm (List.Perm.swap _ _ _)).rot2) ?_
  have hb : inB Regs[a] 0 (IntKind.i64.wrap ((Mem.getD q []).length - 1)) = true := by
    rw [ha2] at hj
    rw [hj, wrap_id (by omega) (by omega)]
    simp only [inB, Bool.and_eq_true, decide_eq_true_eq]
    omega
  rintro v h4 (⟨hb2, rfl, y4⟩ | ⟨hb2, y4⟩)
  rotate_left
  · rw [hb] at hb2; cases hb2
  rw [ha2] at hj
  rw [hq2] at hjl hm
  repeat' (first
   | with_reducible refine stp ?_
   | with_reducible refine k_blk_o rfl ?_
   | ((try (conv => arg 1; simp [hnil])); with_reducible refine evp ?_)
   | ((with_reducible refine apn ?na ?_); (case na => simp [appNames, ints, intss] <;> first | kernel_rfl | (refine ⟨?_, ?_⟩ <;> kernel_rfl)))
    | ((with_reducible refine la_id ?_); refine la_end rfl ?_; (repeat (first | refine pl_nil ?_ | refine pl_cons ?_)))
    | ((with_reducible refine la_id ?_); refine la_pick ?_; (conv => arg 1; whnf); (repeat ((fail_if_success (first | ((refine la_q0 rfl ?_); (try (conv => arg 1; simp [hnil])); with_reducible refine evp ?_) | ((refine la_n rfl rfl ?_); (try (conv => arg 1; simp [hnil])); with_reducible refine evp ?_) | ((refine la_q2 rfl (by decide +kernel) ?_); (repeat (first | refine bk_nil ?_ | refine bk_t (by decide +kernel) ?_ | refine bk_f (by decide +kernel) ?_)); (try (conv => arg 1; simp [hnil])); with_reducible refine evp ?_) | ((refine la_q1 rfl (by decide +kernel) ?_); (try (conv => arg 1; simp [hnil])); with_reducible refine evp ?_) | ((refine la_g0 rfl ?_); (try (conv => arg 1; simp [hnil])); with_reducible refine evp ?_; (with_reducible refine evp ?_); try ((try (conv => arg 1; simp [hnil])); with_reducible refine evp ?_)))); (refine la_there ?_); (conv => arg 1; whnf))); first | ((refine la_q0 rfl ?_); (try (conv => arg 1; simp [hnil])); with_reducible refine evp ?_) | ((refine la_n rfl rfl ?_); (try (conv => arg 1; simp [hnil])); with_reducible refine evp ?_) | ((refine la_q2 rfl (by decide +kernel) ?_); (repeat (first | refine bk_nil ?_ | refine bk_t (by decide +kernel) ?_ | refine bk_f (by decide +kernel) ?_)); (try (conv => arg 1; simp [hnil])); with_reducible refine evp ?_) | ((refine la_q1 rfl (by decide +kernel) ?_); (try (conv => arg 1; simp [hnil])); with_reducible refine evp ?_) | ((refine la_g0 rfl ?_); (try (conv => arg 1; simp [hnil])); with_reducible refine evp ?_; (with_reducible refine evp ?_); try ((try (conv => arg 1; simp [hnil])); with_reducible refine evp ?_)))
    | ((with_reducible refine la_id ?_); refine la_all rfl ?_)
    | ((with_reducible refine all_id ?_); (conv => arg 1; whnf); first | exact all_nil | refine all_cons ?_ ?_)
    | (refine la_op rfl (by first | exact frm_s (by decide +kernel) | exact frm_a (by repeat' (first | exact fa_nil | refine fa_cons (by decide +kernel) ?_))) (by intro _; first | exact trivial | simp [appT, hnil]) ?_; (repeat (first | refine bk_nil ?_ | refine bk_t (by decide +kernel) ?_ | refine bk_f (by decide +kernel) ?_)))
   | fail)
  refine cx_k (y4.bperm (List.Perm.swap _ _ _)).rot2.rot2 ?_
  intro h5 y5
  repeat' (first
   | with_reducible refine stp ?_
   | with_reducible refine k_blk_o rfl ?_
   | ((try (conv => arg 1; simp [runOf, y5.b1])); with_reducible refine evp ?_)
   | ((with_reducible refine apn ?na ?_); (case na => simp [appNames, ints, intss] <;> first | kernel_rfl | (refine ⟨?_, ?_⟩ <;> kernel_rfl)))
   | fail)
  refine k_seq_n ?_
  repeat' (first
   | with_reducible refine stp ?_
   | with_reducible refine k_blk_o rfl ?_
   | ((try (conv => arg 1; simp [hnil])); with_reducible refine evp ?_)
   | ((with_reducible refine apn ?na ?_); (case na => simp [appNames, ints, intss] <;> first | kernel_rfl | (refine ⟨?_, ?_⟩ <;> kernel_rfl)))
   | fail)
  refine k_seq_n ?_
  repeat' (first
   | with_reducible refine stp ?_
   | with_reducible refine k_blk_o rfl ?_
   | ((try (conv => arg 1; simp [y5.b0])); with_reducible refine evp ?_)
   | ((with_reducible refine apn ?na ?_); (case na => simp [appNames, ints, intss] <;> first | kernel_rfl | (refine ⟨?_, ?_⟩ <;> kernel_rfl)))
   | fail)
  refine cx_k (by first | exact y5 | exact y5.next | exact y5.next.next | exact y5.next.next.next) ?_
  intro h8 y8
  have m8 : nr.1 < h8.tick := y8.lt nr (by simp [nms])
  have e8 : ¬ nr.1 = h8.tick := by omega
  obtain ⟨k1', v1', p1', s1', a1', b1'⟩ := y8.ints_at hrl
  have ew := a1'.val
  simp at ew
  obtain ⟨rfl, rfl, rfl⟩ := ew
  obtain ⟨k3', v3', s3', u', nq', e3', r3', g3', l3', ou', lu', nu', su', sk', put'⟩ := (y8.rot2).mem_at hql
  obtain ⟨k4, v4, p4, s4, a4⟩ := ints_at_own ou' hjl
  have ew := a4.val
  subst ew
  subst e3'
  have g1' := a1'.get hrl
  have g4 := a4.get hjl
  have hk4 : k4 ∈ nq' := by rw [a4.nms]; simp
  have c1' : ¬ k1.1 = h8.tick := by omega
  have d1' : k1.1 < h8.tick + 1 := by omega
  have c3' : ¬ k3'.1 = h8.tick := by omega
  have l4 := lu' k4 hk4
  have c4 : ¬ k4.1 = h8.tick := by omega
  have d4 : k4.1 < h8.tick + 1 := by omega
  repeat' (first
   | with_reducible refine stp ?_
   | with_reducible refine k_blk_o rfl ?_
   | with_reducible refine k_seq_n ?_
   | ((try (conv => arg 1; simp [hnil])); with_reducible refine evp ?_)
   | ((with_reducible refine apn ?na ?_); (case na => simp [appNames, ints, intss] <;> first | kernel_rfl | (refine ⟨?_, ?_⟩ <;> kernel_rfl)))
   | fail)
  repeat (with_reducible first | refine stp ?_ | refine k_seq_n ?_)
  refine st_lz (by kernel_rfl) ?_
  have hF := And.intro y8.b0 (And.intro y8.l0 (And.intro y8.b1 (And.intro e8 (And.intro a1'.row (And.intro g1' (And.intro c1' (And.intro d1' (And.intro hrl (And.intro r3' (And.intro g3' (And.intro c3' (And.intro hql (And.intro a4.row (And.intro g4 (And.intro c4 (And.intro d4 (And.intro hjl hj)))))))))))))))))
  repeat' (first
   | with_reducible refine stp ?_
   | with_reducible refine k_blk_o rfl ?_
   | ((try (conv => arg 1; simp [runOf, hF])); with_reducible refine evp ?_)
   | ((with_reducible refine apn ?na ?_); (case na => simp [appNames, ints, intss] <;> first | kernel_rfl | (refine ⟨?_, ?_⟩ <;> kernel_rfl)))
    | ((with_reducible refine la_id ?_); refine la_end rfl ?_; (repeat (first | refine pl_nil ?_ | refine pl_cons ?_)))
    | ((with_reducible refine la_id ?_); refine la_pick ?_; (conv => arg 1; whnf); (repeat ((fail_if_success (first | ((refine la_q0 rfl ?_); (try (conv => arg 1; simp [runOf, hF])); with_reducible refine evp ?_) | ((refine la_n rfl rfl ?_); (try (conv => arg 1; simp [runOf, hF])); with_reducible refine evp ?_) | ((refine la_q2 rfl (by decide +kernel) ?_); (repeat (first | refine bk_nil ?_ | refine bk_t (by decide +kernel) ?_ | refine bk_f (by decide +kernel) ?_)); (try (conv => arg 1; simp [runOf, hF])); with_reducible refine evp ?_) | ((refine la_q1 rfl (by decide +kernel) ?_); (try (conv => arg 1; simp [runOf, hF])); with_reducible refine evp ?_) | ((refine la_g0 rfl ?_); (try (conv => arg 1; simp [runOf, hF])); with_reducible refine evp ?_; (with_reducible refine evp ?_); try ((try (conv => arg 1; simp [runOf, hF])); with_reducible refine evp ?_)))); (refine la_there ?_); (conv => arg 1; whnf))); first | ((refine la_q0 rfl ?_); (try (conv => arg 1; simp [runOf, hF])); with_reducible refine evp ?_) | ((refine la_n rfl rfl ?_); (try (conv => arg 1; simp [runOf, hF])); with_reducible refine evp ?_) | ((refine la_q2 rfl (by decide +kernel) ?_); (repeat (first | refine bk_nil ?_ | refine bk_t (by decide +kernel) ?_ | refine bk_f (by decide +kernel) ?_)); (try (conv => arg 1; simp [runOf, hF])); with_reducible refine evp ?_) | ((refine la_q1 rfl (by decide +kernel) ?_); (try (conv => arg 1; simp [runOf, hF])); with_reducible refine evp ?_) | ((refine la_g0 rfl ?_); (try (conv => arg 1; simp [runOf, hF])); with_reducible refine evp ?_; (with_reducible refine evp ?_); try ((try (conv => arg 1; simp [runOf, hF])); with_reducible refine evp ?_)))
    | ((with_reducible refine la_id ?_); refine la_all rfl ?_)
    | ((with_reducible refine all_id ?_); (conv => arg 1; whnf); first | exact all_nil | refine all_cons ?_ ?_)
    | (refine la_op rfl (by first | exact frm_s (by decide +kernel) | exact frm_a (by repeat' (first | exact fa_nil | refine fa_cons (by decide +kernel) ?_))) (by intro _; first | exact trivial | simp [appT, runOf, hF]) ?_; (repeat (first | refine bk_nil ?_ | refine bk_t (by decide +kernel) ?_ | refine bk_f (by decide +kernel) ?_)))
   | fail)
  refine cx_k (y8.next.ints_put a1' hrl (Mem[q][j])) ?_
  intro h9 y9
  repeat' (first
   | with_reducible refine stp ?_
   | with_reducible refine k_blk_o rfl ?_
   | with_reducible refine k_seq_n ?_
   | ((try (conv => arg 1; simp [y9.b0])); with_reducible refine evp ?_)
   | ((with_reducible refine apn ?na ?_); (case na => simp [appNames, ints, intss] <;> first | kernel_rfl | (refine ⟨?_, ?_⟩ <;> kernel_rfl)))
   | fail)
  have es : stepC ⟨At, Regs, Slots, Mem, Input, Out, 0, Over, Val⟩ ⟨4, r, a, B, q⟩ = ⟨IntKind.i64.wrap (At + 1), Regs.set r (Mem[q][j]), Slots, Mem, Input, Out, 0, Over, Val⟩ := by
    have hin' := hb
    rw [hq2, hj] at hin'
    simp [stepC, ha2, hq3, hj, hin', rd_at hjl]
  rw [es]
  exact ⟨_, w5, n5, rfl, fun _ => rfl, y9.next.box_drop, .inl rfl⟩

set_option maxHeartbeats 1000000 in
theorem sw_sx (c : Cpu) (w : Word) (ho : w.Op = 5) {r a q : Nat} (hr : w.R = (r : Int)) (ha : w.A = (a : Int)) (hq : w.N = (q : Int)) (hrl : r < c.Regs.length) (hal : a < c.Regs.length) (hql : q < c.Mem.length) (hcode : c.Code = 0) {j : Nat} (hj : rd c.Regs (a : Int) = (j : Int)) (hjl : j < (c.Mem.getD q []).length) (hm : (c.Mem.getD q []).length ≤ 2 ^ 62) : SpecW c (stepC c w) w := by
  obtain ⟨Op, R, A, B, N⟩ := w
  obtain ⟨At, Regs, Slots, Mem, Input, Out, Code, Over, Val⟩ := c
  simp only at ho hr ha hq hrl hal hql hcode hj hjl hm
  subst ho hr ha hq hcode
  have hnil : True := trivial
  intro h nr fu wi w1 w2 w3 w5 n1 n2 n3 n5 bs os hwi x ok
  dsimp only at x
  have q1 := own_one (own_of (x.o0 true) rfl)
  have q2 := own_one (own_of (x.o1 true) rfl)
  have q3 := own_one (own_of (x.o2 true) rfl)
  have q4 := own_one (own_of (x.o3 true) rfl)
  refine enter mixed MW25 Try.func79 rfl (by kernel_rfl) rfl ?_
  repeat' (first
   | with_reducible refine stp ?_
   | with_reducible refine k_blk_o rfl ?_
   | ((try (conv => arg 1; simp [Word.cells])); with_reducible refine evp ?_)
   | ((with_reducible refine apn ?na ?_); (case na => simp [appNames, ints, intss] <;> first | kernel_rfl | (refine ⟨?_, ?_⟩ <;> kernel_rfl)))
   | fail)
  refine cx_k (x.next.box_one x.off (by simp)) ?_
  intro h1 y1
  have m1 : nr.1 < h1.tick := y1.lt nr (by simp [nms])
  have e1 : ¬ nr.1 = h1.tick := by omega
  repeat' (first
   | with_reducible refine stp ?_
   | with_reducible refine k_blk_o rfl ?_
   | ((try (conv => arg 1; simp [y1.b0, y1.l0])); with_reducible refine evp ?_)
   | ((with_reducible refine apn ?na ?_); (case na => simp [appNames, ints, intss] <;> first | kernel_rfl | (refine ⟨?_, ?_⟩ <;> kernel_rfl)))
   | fail)
  refine cx_k y1.next ?_
  intro h2 y2
  repeat' (first
   | with_reducible refine stp ?_
   | with_reducible refine k_blk_o rfl ?_
   | with_reducible refine k_seq_n ?_
   | ((try (conv => arg 1; simp [hnil])); with_reducible refine evp ?_)
   | ((with_reducible refine apn ?na ?_); (case na => simp [appNames, ints, intss] <;> first | kernel_rfl | (refine ⟨?_, ?_⟩ <;> kernel_rfl)))
   | fail)
  refine cx_wp (by first | exact y2 | exact y2.next | exact y2.next.next | exact y2.next.next.next | exact y2.next.next.next.next | exact y2.next.next.next.next.next | exact y2.next.next.next.next.next.next | exact y2.next.next.next.next.next.next.next | exact y2.next.next.next.next.next.next.next.next | exact y2.next.next.next.next.next.next.next.next.next | exact y2.next.next.next.next.next.next.next.next.next.next | exact y2.next.next.next.next.next.next.next.next.next.next.next | exact y2.next.next.next.next.next.next.next.next.next.next.next.next | exact y2.next.next.next.next.next.next.next.next.next.next.next.next.next) ?_
  intro h3 y3
  have m3 : nr.1 < h3.tick := y3.lt nr (by simp [nms])
  have e3 : ¬ nr.1 = h3.tick := by omega
  obtain ⟨k1, v1, p1, s1, a1, b1⟩ := (y3).ints_at hrl
  have ew := a1.val
  subst ew
  have d1 : k1.1 < h3.tick + 1 := by omega
  have c1 : ¬ k1.1 = h3.tick := by omega
  have g2 := a1.get hal
  have ha2 : rd Regs (a : Int) = Regs[a] := rd_at hal
  have hq2 : Mem.getD q [] = Mem[q] := by simp [hql]
  have hq3 : Mem[q]?.getD [] = Mem[q] := by simp [hql]
  repeat (with_reducible first | refine stp ?_ | refine k_seq_n ?_)
  refine st_lz (by kernel_rfl) ?_
  have hF := And.intro y3.b0 (And.intro y3.l0 (And.intro y3.b1 (And.intro e3 (And.intro a1.row (And.intro g2 (And.intro c1 (And.intro d1 hal)))))))
  repeat' (first
   | with_reducible refine stp ?_
   | with_reducible refine k_blk_o rfl ?_
   | ((try (conv => arg 1; simp [runOf, hF])); with_reducible refine evp ?_)
   | ((with_reducible refine apn ?na ?_); (case na => simp [appNames, ints, intss] <;> first | kernel_rfl | (refine ⟨?_, ?_⟩ <;> kernel_rfl)))
    | ((with_reducible refine la_id ?_); refine la_end rfl ?_; (repeat (first | refine pl_nil ?_ | refine pl_cons ?_)))
    | ((with_reducible refine la_id ?_); refine la_pick ?_; (conv => arg 1; whnf); (repeat ((fail_if_success (first | ((refine la_q0 rfl ?_); (try (conv => arg 1; simp [runOf, hF])); with_reducible refine evp ?_) | ((refine la_n rfl rfl ?_); (try (conv => arg 1; simp [runOf, hF])); with_reducible refine evp ?_) | ((refine la_q2 rfl (by decide +kernel) ?_); (repeat (first | refine bk_nil ?_ | refine bk_t (by decide +kernel) ?_ | refine bk_f (by decide +kernel) ?_)); (try (conv => arg 1; simp [runOf, hF])); with_reducible refine evp ?_) | ((refine la_q1 rfl (by decide +kernel) ?_); (try (conv => arg 1; simp [runOf, hF])); with_reducible refine evp ?_) | ((refine la_g0 rfl ?_); (try (conv => arg 1; simp [runOf, hF])); with_reducible refine evp ?_; (with_reducible refine evp ?_); try ((try (conv => arg 1; simp [runOf, hF])); with_reducible refine evp ?_)))); (refine la_there ?_); (conv => arg 1; whnf))); first | ((refine la_q0 rfl ?_); (try (conv => arg 1; simp [runOf, hF])); with_reducible refine evp ?_) | ((refine la_n rfl rfl ?_); (try (conv => arg 1; simp [runOf, hF])); with_reducible refine evp ?_) | ((refine la_q2 rfl (by decide +kernel) ?_); (repeat (first | refine bk_nil ?_ | refine bk_t (by decide +kernel) ?_ | refine bk_f (by decide +kernel) ?_)); (try (conv => arg 1; simp [runOf, hF])); with_reducible refine evp ?_) | ((refine la_q1 rfl (by decide +kernel) ?_); (try (conv => arg 1; simp [runOf, hF])); with_reducible refine evp ?_) | ((refine la_g0 rfl ?_); (try (conv => arg 1; simp [runOf, hF])); with_reducible refine evp ?_; (with_reducible refine evp ?_); try ((try (conv => arg 1; simp [runOf, hF])); with_reducible refine evp ?_)))
    | ((with_reducible refine la_id ?_); refine la_all rfl ?_)
    | ((with_reducible refine all_id ?_); (conv => arg 1; whnf); first | exact all_nil | refine all_cons ?_ ?_)
    | (refine la_op rfl (by first | exact frm_s (by decide +kernel) | exact frm_a (by repeat' (first | exact fa_nil | refine fa_cons (by decide +kernel) ?_))) (by intro _; first | exact trivial | simp [appT, runOf, hF]) ?_; (repeat (first | refine bk_nil ?_ | refine bk_t (by decide +kernel) ?_ | refine bk_f (by decide +kernel) ?_)))
   | fail)
  refine st_heap rfl (l03At hql (y3.next.bperm (List.Perm.swap _ _ _)).rot2) ?_
  have hb : inB Regs[a] 0 (IntKind.i64.wrap ((Mem.getD q []).length - 1)) = true := by
    rw [ha2] at hj
    rw [hj, wrap_id (by omega) (by omega)]
    simp only [inB, Bool.and_eq_true, decide_eq_true_eq]
    omega
  rintro v h4 (⟨hb2, rfl, y4⟩ | ⟨hb2, y4⟩)
  rotate_left
  · rw [hb] at hb2; cases hb2
  rw [ha2] at hj
  rw [hq2] at hjl hm
  repeat' (first
   | with_reducible refine stp ?_
   | with_reducible refine k_blk_o rfl ?_
   | ((try (conv => arg 1; simp [hnil])); with_reducible refine evp ?_)
   | ((with_reducible refine apn ?na ?_); (case na => simp [appNames, ints, intss] <;> first | kernel_rfl | (refine ⟨?_, ?_⟩ <;> kernel_rfl)))
    | ((with_reducible refine la_id ?_); refine la_end rfl ?_; (repeat (first | refine pl_nil ?_ | refine pl_cons ?_)))
    | ((with_reducible refine la_id ?_); refine la_pick ?_; (conv => arg 1; whnf); (repeat ((fail_if_success (first | ((refine la_q0 rfl ?_); (try (conv => arg 1; simp [hnil])); with_reducible refine evp ?_) | ((refine la_n rfl rfl ?_); (try (conv => arg 1; simp [hnil])); with_reducible refine evp ?_) | ((refine la_q2 rfl (by decide +kernel) ?_); (repeat (first | refine bk_nil ?_ | refine bk_t (by decide +kernel) ?_ | refine bk_f (by decide +kernel) ?_)); (try (conv => arg 1; simp [hnil])); with_reducible refine evp ?_) | ((refine la_q1 rfl (by decide +kernel) ?_); (try (conv => arg 1; simp [hnil])); with_reducible refine evp ?_) | ((refine la_g0 rfl ?_); (try (conv => arg 1; simp [hnil])); with_reducible refine evp ?_; (with_reducible refine evp ?_); try ((try (conv => arg 1; simp [hnil])); with_reducible refine evp ?_)))); (refine la_there ?_); (conv => arg 1; whnf))); first | ((refine la_q0 rfl ?_); (try (conv => arg 1; simp [hnil])); with_reducible refine evp ?_) | ((refine la_n rfl rfl ?_); (try (conv => arg 1; simp [hnil])); with_reducible refine evp ?_) | ((refine la_q2 rfl (by decide +kernel) ?_); (repeat (first | refine bk_nil ?_ | refine bk_t (by decide +kernel) ?_ | refine bk_f (by decide +kernel) ?_)); (try (conv => arg 1; simp [hnil])); with_reducible refine evp ?_) | ((refine la_q1 rfl (by decide +kernel) ?_); (try (conv => arg 1; simp [hnil])); with_reducible refine evp ?_) | ((refine la_g0 rfl ?_); (try (conv => arg 1; simp [hnil])); with_reducible refine evp ?_; (with_reducible refine evp ?_); try ((try (conv => arg 1; simp [hnil])); with_reducible refine evp ?_)))
    | ((with_reducible refine la_id ?_); refine la_all rfl ?_)
    | ((with_reducible refine all_id ?_); (conv => arg 1; whnf); first | exact all_nil | refine all_cons ?_ ?_)
    | (refine la_op rfl (by first | exact frm_s (by decide +kernel) | exact frm_a (by repeat' (first | exact fa_nil | refine fa_cons (by decide +kernel) ?_))) (by intro _; first | exact trivial | simp [appT, hnil]) ?_; (repeat (first | refine bk_nil ?_ | refine bk_t (by decide +kernel) ?_ | refine bk_f (by decide +kernel) ?_)))
   | fail)
  refine cx_k (y4.bperm (List.Perm.swap _ _ _)).rot2.rot2 ?_
  intro h5 y5
  repeat' (first
   | with_reducible refine stp ?_
   | with_reducible refine k_blk_o rfl ?_
   | ((try (conv => arg 1; simp [runOf, y5.b1])); with_reducible refine evp ?_)
   | ((with_reducible refine apn ?na ?_); (case na => simp [appNames, ints, intss] <;> first | kernel_rfl | (refine ⟨?_, ?_⟩ <;> kernel_rfl)))
   | fail)
  refine k_seq_n ?_
  repeat' (first
   | with_reducible refine stp ?_
   | with_reducible refine k_blk_o rfl ?_
   | ((try (conv => arg 1; simp [hnil])); with_reducible refine evp ?_)
   | ((with_reducible refine apn ?na ?_); (case na => simp [appNames, ints, intss] <;> first | kernel_rfl | (refine ⟨?_, ?_⟩ <;> kernel_rfl)))
   | fail)
  refine k_seq_n ?_
  repeat' (first
   | with_reducible refine stp ?_
   | with_reducible refine k_blk_o rfl ?_
   | ((try (conv => arg 1; simp [y5.b0])); with_reducible refine evp ?_)
   | ((with_reducible refine apn ?na ?_); (case na => simp [appNames, ints, intss] <;> first | kernel_rfl | (refine ⟨?_, ?_⟩ <;> kernel_rfl)))
   | fail)
  refine cx_k (by first | exact y5 | exact y5.next | exact y5.next.next | exact y5.next.next.next) ?_
  intro h8 y8
  have m8 : nr.1 < h8.tick := y8.lt nr (by simp [nms])
  have e8 : ¬ nr.1 = h8.tick := by omega
  obtain ⟨k1', v1', p1', s1', a1', b1'⟩ := y8.ints_at hrl
  have ew := a1'.val
  simp at ew
  obtain ⟨rfl, rfl, rfl⟩ := ew
  obtain ⟨k3', v3', s3', u', nq', e3', r3', g3', l3', ou', lu', nu', su', sk', put'⟩ := (y8.rot2).mem_at hql
  obtain ⟨k4, v4, p4, s4, a4⟩ := ints_at_own ou' hjl
  have ew := a4.val
  subst ew
  subst e3'
  have g1' := a1'.get hrl
  have g4 := a4.get hjl
  have hk4 : k4 ∈ nq' := by rw [a4.nms]; simp
  have c1' : ¬ k1.1 = h8.tick := by omega
  have d1' : k1.1 < h8.tick + 1 := by omega
  have c3' : ¬ k3'.1 = h8.tick := by omega
  have l4 := lu' k4 hk4
  have c4 : ¬ k4.1 = h8.tick := by omega
  have d4 : k4.1 < h8.tick + 1 := by omega
  repeat' (first
   | with_reducible refine stp ?_
   | with_reducible refine k_blk_o rfl ?_
   | with_reducible refine k_seq_n ?_
   | ((try (conv => arg 1; simp [hnil])); with_reducible refine evp ?_)
   | ((with_reducible refine apn ?na ?_); (case na => simp [appNames, ints, intss] <;> first | kernel_rfl | (refine ⟨?_, ?_⟩ <;> kernel_rfl)))
   | fail)
  repeat (with_reducible first | refine stp ?_ | refine k_seq_n ?_)
  refine st_lz (by kernel_rfl) ?_
  have hF := And.intro y8.b0 (And.intro y8.l0 (And.intro y8.b1 (And.intro e8 (And.intro a1'.row (And.intro g1' (And.intro c1' (And.intro d1' (And.intro hrl (And.intro r3' (And.intro g3' (And.intro c3' (And.intro hql (And.intro a4.row (And.intro g4 (And.intro c4 (And.intro d4 (And.intro hjl hj)))))))))))))))))
  repeat' (first
   | with_reducible refine stp ?_
   | with_reducible refine k_blk_o rfl ?_
   | ((try (conv => arg 1; simp [runOf, hF])); with_reducible refine evp ?_)
   | ((with_reducible refine apn ?na ?_); (case na => simp [appNames, ints, intss] <;> first | kernel_rfl | (refine ⟨?_, ?_⟩ <;> kernel_rfl)))
    | ((with_reducible refine la_id ?_); refine la_end rfl ?_; (repeat (first | refine pl_nil ?_ | refine pl_cons ?_)))
    | ((with_reducible refine la_id ?_); refine la_pick ?_; (conv => arg 1; whnf); (repeat ((fail_if_success (first | ((refine la_q0 rfl ?_); (try (conv => arg 1; simp [runOf, hF])); with_reducible refine evp ?_) | ((refine la_n rfl rfl ?_); (try (conv => arg 1; simp [runOf, hF])); with_reducible refine evp ?_) | ((refine la_q2 rfl (by decide +kernel) ?_); (repeat (first | refine bk_nil ?_ | refine bk_t (by decide +kernel) ?_ | refine bk_f (by decide +kernel) ?_)); (try (conv => arg 1; simp [runOf, hF])); with_reducible refine evp ?_) | ((refine la_q1 rfl (by decide +kernel) ?_); (try (conv => arg 1; simp [runOf, hF])); with_reducible refine evp ?_) | ((refine la_g0 rfl ?_); (try (conv => arg 1; simp [runOf, hF])); with_reducible refine evp ?_; (with_reducible refine evp ?_); try ((try (conv => arg 1; simp [runOf, hF])); with_reducible refine evp ?_)))); (refine la_there ?_); (conv => arg 1; whnf))); first | ((refine la_q0 rfl ?_); (try (conv => arg 1; simp [runOf, hF])); with_reducible refine evp ?_) | ((refine la_n rfl rfl ?_); (try (conv => arg 1; simp [runOf, hF])); with_reducible refine evp ?_) | ((refine la_q2 rfl (by decide +kernel) ?_); (repeat (first | refine bk_nil ?_ | refine bk_t (by decide +kernel) ?_ | refine bk_f (by decide +kernel) ?_)); (try (conv => arg 1; simp [runOf, hF])); with_reducible refine evp ?_) | ((refine la_q1 rfl (by decide +kernel) ?_); (try (conv => arg 1; simp [runOf, hF])); with_reducible refine evp ?_) | ((refine la_g0 rfl ?_); (try (conv => arg 1; simp [runOf, hF])); with_reducible refine evp ?_; (with_reducible refine evp ?_); try ((try (conv => arg 1; simp [runOf, hF])); with_reducible refine evp ?_)))
    | ((with_reducible refine la_id ?_); refine la_all rfl ?_)
    | ((with_reducible refine all_id ?_); (conv => arg 1; whnf); first | exact all_nil | refine all_cons ?_ ?_)
    | (refine la_op rfl (by first | exact frm_s (by decide +kernel) | exact frm_a (by repeat' (first | exact fa_nil | refine fa_cons (by decide +kernel) ?_))) (by intro _; first | exact trivial | simp [appT, runOf, hF]) ?_; (repeat (first | refine bk_nil ?_ | refine bk_t (by decide +kernel) ?_ | refine bk_f (by decide +kernel) ?_)))
   | fail)
  have fr := put' (h8.next.put k4 ⟨v4, 1, s4.set (p4 + j) [.int .i64 Regs[r]]⟩) (Mem[q].set j Regs[r]) (fun m hm => by
    have hne : m ≠ k4 := fun e => hm (by rw [e]; exact hk4)
    simp [hne]) (by simp) (a4.put_own hjl Regs[r] (by simp) true)
  refine cx_k fr.rot2.rot2 ?_
  intro h9 y9
  repeat' (first
   | with_reducible refine stp ?_
   | with_reducible refine k_blk_o rfl ?_
   | with_reducible refine k_seq_n ?_
   | ((try (conv => arg 1; simp [y9.b0])); with_reducible refine evp ?_)
   | ((with_reducible refine apn ?na ?_); (case na => simp [appNames, ints, intss] <;> first | kernel_rfl | (refine ⟨?_, ?_⟩ <;> kernel_rfl)))
   | fail)
  have es : stepC ⟨At, Regs, Slots, Mem, Input, Out, 0, Over, Val⟩ ⟨5, r, a, B, q⟩ = ⟨IntKind.i64.wrap (At + 1), Regs, Slots, Mem.set q (Mem[q].set j Regs[r]), Input, Out, 0, Over, Val⟩ := by
    have hin' := hb
    rw [hq2, hj] at hin'
    simp [stepC, ha2, hq3, hj, hin', rd_at hrl]
  rw [es]
  exact ⟨_, w5, n5, rfl, fun _ => rfl, y9.next.box_drop, .inl rfl⟩

end Go.Proofs.Ytfgaoojogididaa.AM

/-
  The spec's word, word by word: input.
-/
set_option linter.unusedVariables false
set_option linter.unusedSimpArgs false
set_option maxRecDepth 4000
namespace Go.Proofs.Ytfgaoojogididaa.AM
open Go.RowKit

private def MW26 : FuncId → Mode := fun f => if f = 89 ∨ f = 90 then .heap else .tree

/-- Input after a word is read. -/
def inpC (c : Cpu) : Cpu := { c with Input := c.Input.tail }

theorem l03Get_own {h : Hp} {nr : Nm} {fu : Int} {c : Cpu} {wi w2 w3 w5 : AV} {n4 : List Nm} {bs : Bx} {os : Ox} (hl : c.Input.length ≤ 2 ^ 40) (x : Cx h ((nr, runOf fu c wi w2 w3 w5) :: bs) ((wi, (fun b => ints b c.Input), n4) :: os)) :
    Sound Try.prog 90 [.ptr nr 0 0 0] h fun v h' => ∃ wi', v = .int .i64 (c.Input.headD (-1)) ∧ wi'.one = true ∧ Cx h' ((nr, runOf fu (inpC c) wi' w2 w3 w5) :: bs) ((wi', (fun b => ints b c.Input.tail), n4) :: os) := by
  obtain ⟨At, Regs, Slots, Mem, Input, Out, Code, Over, Val⟩ := c
  have q4 := own_one (own_of (x.o0 true) rfl)
  have len4 := lenA_own (P := Try.prog) (t := 22) (own_of (x.o0 true) rfl) (by kernel_rfl)
  have m0 : nr.1 < h.tick := x.lt nr (by simp [nms])
  cases Input with
  | nil =>
    refine enter mixed MW26 Try.func90 rfl (by kernel_rfl) rfl ?_
    repeat' (first
     | with_reducible refine stp ?_
     | with_reducible refine k_blk_o rfl ?_
     | with_reducible refine k_seq_n ?_
     | ((try (conv => arg 1; simp [runOf, x.b0, len4, q4.1])); with_reducible refine evp ?_)
     | ((with_reducible refine apn ?na ?_); (case na => simp [appNames, ints, intss] <;> first | kernel_rfl | (refine ⟨?_, ?_⟩ <;> kernel_rfl)))
     | fail)
    exact ⟨wi, rfl, q4.1, by first | exact x.next.next | exact x.next.next.next⟩
  | cons z zs =>
    obtain ⟨k, v, p, s, a, b⟩ := x.ints_at (i := 0) (by simp)
    have ew := a.val
    subst ew
    have g := a.get (i := 0) (by simp)
    have len := a.len
    simp at g len hl
    have gl : p < s.length := by omega
    have gg : s[p] = [.int .i64 z] := by
      have := List.getElem?_eq_getElem gl
      rw [this] at g
      exact Option.some.inj g
    have hz1 : (zs.length : Int) + 1 ≠ 0 := by omega
    have hz : decide ((zs.length : Int) + 1 = 0) = false := decide_eq_false hz1
    have h1 : (1 : Int) ≤ zs.length + 1 := by omega
    have t1 : nr.1 < h.tick + 1 + 1 := by omega
    have t2 : nr.1 < h.tick + 1 + 1 + 1 := by omega
    have t3 : nr.1 < h.tick + 1 + 1 + 1 + 1 := by omega
    have t4 : nr.1 < h.tick + 1 + 1 + 1 + 1 + 1 := by omega
    refine enter mixed MW26 Try.func90 rfl (by kernel_rfl) rfl ?_
    repeat' (first
     | with_reducible refine stp ?_
     | with_reducible refine k_blk_o rfl ?_
     | with_reducible refine k_seq_n ?_
     | ((try (conv => arg 1; simp [runOf, x.b0, sliceA, bnd, len4, hz, hz1, a.row, g, gl, gg, len, h1, t1, t2, t3, t4])); with_reducible refine evp ?_)
     | ((with_reducible refine apn ?na ?_); (case na => simp [appNames, ints, intss] <;> first | kernel_rfl | (refine ⟨?_, ?_⟩ <;> kernel_rfl)))
     | fail)
    have en := a.nms
    subst en
    exact ⟨.sl k v (p + 1) zs.length, rfl, rfl, (Cx.box_set (r' := runOf fu ⟨At, Regs, Slots, Mem, zs, Out, Code, Over, Val⟩ (.sl k v (p + 1) zs.length) w2 w3 w5) (a.tail x.next.next.next.next (by simp [a.row]))).next⟩

theorem sliceA_tail {P : Program} {rows : Nm → Option Row} {t e : TypeId} {b : Bool} {z : Int} {zs : List Int} (hu : P.underlying t = some (.slice e)) (hs : tsz P e = some 1) : sliceA P rows t (.tr b ([.int .i64 z] :: zs.map fun n => [.int .i64 n])) (some (.int .i64 1)) none false = some (.tr b (zs.map fun n => [.int .i64 n])) := by
  unfold sliceA
  cases zs with
  | nil => simp [hu, hs, bnd]
  | cons z2 zs =>
    have ht : List.take zs.length (List.map (fun n => [AV.int .i64 n]) zs) = List.map (fun n => [AV.int .i64 n]) zs := by
      rw [List.take_of_length_le (by simp)]
    simp [hu, hs, bnd, ht]

theorem l03Get_tree {h : Hp} {nr : Nm} {fu : Int} {c : Cpu} {w2 w3 w5 : AV} {bs : Bx} {os : Ox} (hl : c.Input.length ≤ 2 ^ 40) (x : Cx h ((nr, runOf fu c (ints true c.Input) w2 w3 w5) :: bs) os) :
    Sound Try.prog 90 [.ptr nr 0 0 0] h fun v h' => v = .int .i64 (c.Input.headD (-1)) ∧ Cx h' ((nr, runOf fu (inpC c) (ints true c.Input.tail) w2 w3 w5) :: bs) os := by
  obtain ⟨At, Regs, Slots, Mem, Input, Out, Code, Over, Val⟩ := c
  have m0 : nr.1 < h.tick := x.lt nr (by simp [nms])
  cases Input with
  | nil =>
    refine enter mixed MW26 Try.func90 rfl (by kernel_rfl) rfl ?_
    repeat' (first
     | with_reducible refine stp ?_
     | with_reducible refine k_blk_o rfl ?_
     | with_reducible refine k_seq_n ?_
     | ((try (conv => arg 1; simp [runOf, x.b0])); with_reducible refine evp ?_)
     | ((with_reducible refine apn ?na ?_); (case na => simp [appNames, ints, intss] <;> first | kernel_rfl | (refine ⟨?_, ?_⟩ <;> kernel_rfl)))
     | fail)
    exact ⟨rfl, by first | exact x.next.next | exact x.next.next.next⟩
  | cons z zs =>
    simp at hl
    have hz1 : (zs.length : Int) + 1 ≠ 0 := by omega
    have hz : decide ((zs.length : Int) + 1 = 0) = false := decide_eq_false hz1
    have h1 : (1 : Int) ≤ zs.length + 1 := by omega
    have t1 : nr.1 < h.tick + 1 + 1 := by omega
    have t2 : nr.1 < h.tick + 1 + 1 + 1 := by omega
    have t3 : nr.1 < h.tick + 1 + 1 + 1 + 1 := by omega
    have t4 : nr.1 < h.tick + 1 + 1 + 1 + 1 + 1 := by omega
    refine enter mixed MW26 Try.func90 rfl (by kernel_rfl) rfl ?_
    have hsl := fun rows => sliceA_tail (P := Try.prog) (rows := rows) (t := 22) (e := 3) (b := true) (z := z) (zs := zs) (by kernel_rfl) (by kernel_rfl)
    repeat' (first
     | with_reducible refine stp ?_
     | with_reducible refine k_blk_o rfl ?_
     | with_reducible refine k_seq_n ?_
     | ((try (conv => arg 1; simp [hsl, runOf, ints, x.b0, hz, hz1, h1, t1, t2, t3, t4])); with_reducible refine evp ?_)
     | ((with_reducible refine apn ?na ?_); (case na => simp [appNames, ints, intss] <;> first | kernel_rfl | (refine ⟨?_, ?_⟩ <;> kernel_rfl)))
     | fail)
    exact ⟨rfl, (Cx.box_set (r' := runOf fu ⟨At, Regs, Slots, Mem, zs, Out, Code, Over, Val⟩ (ints true zs) w2 w3 w5) x.next.next.next.next).next⟩


/-- What the spec's word is to do with input of its own. -/
def SpecI (c c' : Cpu) (w : Word) : Prop := ∀ (h : Hp) (nr : Nm) (fu : Int) (wi w1 w2 w3 w5 : AV) (n1 n2 n3 n4 n5 : List Nm) (bs : Bx) (os : Ox),
  Cx h ((nr, runOf fu c wi w2 w3 w5) :: bs) ((w1, (fun b => ints b c.Regs), n1) :: (w2, (fun b => ints b c.Slots), n2) :: (w3, (fun b => intss b c.Mem), n3) :: (w5, (fun b => ints b c.Out), n5) :: (wi, (fun b => ints b c.Input), n4) :: os) →
  Sound Try.prog 79 [.ptr nr 0 0 0, w1, .agg w.cells, .int .i64 c.At] h fun v h' => ∃ wi', v = .int .i64 c'.At ∧ wi'.one = true ∧
    Cx h' ((nr, runOf fu c' wi' w2 w3 w5) :: bs) ((w1, (fun b => ints b c'.Regs), n1) :: (w2, (fun b => ints b c'.Slots), n2) :: (w3, (fun b => intss b c'.Mem), n3) :: (w5, (fun b => ints b c'.Out), n5) :: (wi', (fun b => ints b c'.Input), n4) :: os)
/-- And with input that is a tree. -/
def SpecJ (c c' : Cpu) (w : Word) : Prop := ∀ (h : Hp) (nr : Nm) (fu : Int) (w1 w2 w3 w5 : AV) (n1 n2 n3 n5 : List Nm) (bs : Bx) (os : Ox),
  Cx h ((nr, runOf fu c (ints true c.Input) w2 w3 w5) :: bs) ((w1, (fun b => ints b c.Regs), n1) :: (w2, (fun b => ints b c.Slots), n2) :: (w3, (fun b => intss b c.Mem), n3) :: (w5, (fun b => ints b c.Out), n5) :: os) →
  Sound Try.prog 79 [.ptr nr 0 0 0, w1, .agg w.cells, .int .i64 c.At] h fun v h' => v = .int .i64 c'.At ∧
    Cx h' ((nr, runOf fu c' (ints true c'.Input) w2 w3 w5) :: bs) ((w1, (fun b => ints b c'.Regs), n1) :: (w2, (fun b => ints b c'.Slots), n2) :: (w3, (fun b => intss b c'.Mem), n3) :: (w5, (fun b => ints b c'.Out), n5) :: os)

set_option maxHeartbeats 1000000 in
theorem sw_in_own (c : Cpu) (w : Word) (ho : w.Op = 6) {r : Nat} (hr : w.R = (r : Int)) (hrl : r < c.Regs.length) (hil : c.Input.length ≤ 2 ^ 40) : SpecI c (stepC c w) w := by
  obtain ⟨Op, R, A, B, N⟩ := w
  obtain ⟨At, Regs, Slots, Mem, Input, Out, Code, Over, Val⟩ := c
  simp only at ho hr hrl hil
  subst ho hr
  have hnil : True := trivial
  intro h nr fu wi w1 w2 w3 w5 n1 n2 n3 n4 n5 bs os x
  dsimp only at x
  have q1 := own_one (own_of (x.o0 true) rfl)
  have q2 := own_one (own_of (x.o1 true) rfl)
  have q3 := own_one (own_of (x.o2 true) rfl)
  have q4 := own_one (own_of (x.o3 true) rfl)
  have hwi := (own_one (own_of (x.o4 true) rfl)).1
  refine enter mixed MW26 Try.func79 rfl (by kernel_rfl) rfl ?_
  repeat' (first
   | with_reducible refine stp ?_
   | with_reducible refine k_blk_o rfl ?_
   | ((try (conv => arg 1; simp [Word.cells])); with_reducible refine evp ?_)
   | ((with_reducible refine apn ?na ?_); (case na => simp [appNames, ints, intss] <;> first | kernel_rfl | (refine ⟨?_, ?_⟩ <;> kernel_rfl)))
   | fail)
  refine cx_k (x.next.box_one x.off (by simp)) ?_
  intro h1 y1
  have m1 : nr.1 < h1.tick := y1.lt nr (by simp [nms])
  have e1 : ¬ nr.1 = h1.tick := by omega
  repeat' (first
   | with_reducible refine stp ?_
   | with_reducible refine k_blk_o rfl ?_
   | ((try (conv => arg 1; simp [y1.b0, y1.l0])); with_reducible refine evp ?_)
   | ((with_reducible refine apn ?na ?_); (case na => simp [appNames, ints, intss] <;> first | kernel_rfl | (refine ⟨?_, ?_⟩ <;> kernel_rfl)))
   | fail)
  refine cx_k y1.next ?_
  intro h2 y2
  repeat' (first
   | with_reducible refine stp ?_
   | with_reducible refine k_blk_o rfl ?_
   | with_reducible refine k_seq_n ?_
   | ((try (conv => arg 1; simp [hnil])); with_reducible refine evp ?_)
   | ((with_reducible refine apn ?na ?_); (case na => simp [appNames, ints, intss] <;> first | kernel_rfl | (refine ⟨?_, ?_⟩ <;> kernel_rfl)))
   | fail)
  refine cx_wp (by first | exact y2 | exact y2.next | exact y2.next.next | exact y2.next.next.next | exact y2.next.next.next.next | exact y2.next.next.next.next.next | exact y2.next.next.next.next.next.next | exact y2.next.next.next.next.next.next.next | exact y2.next.next.next.next.next.next.next.next | exact y2.next.next.next.next.next.next.next.next.next | exact y2.next.next.next.next.next.next.next.next.next.next | exact y2.next.next.next.next.next.next.next.next.next.next.next | exact y2.next.next.next.next.next.next.next.next.next.next.next.next | exact y2.next.next.next.next.next.next.next.next.next.next.next.next.next) ?_
  intro h3 y3
  have m3 : nr.1 < h3.tick := y3.lt nr (by simp [nms])
  have e3 : ¬ nr.1 = h3.tick := by omega
  obtain ⟨k1, v1, p1, s1, a1, b1⟩ := (y3).ints_at hrl
  have ew := a1.val
  subst ew
  have c1 : ¬ k1.1 = h3.tick := by omega
  have d1 : k1.1 < h3.tick + 1 := by omega
  have g1 := a1.get hrl
  repeat (with_reducible first | refine stp ?_ | refine k_seq_n ?_)
  refine st_lz (by kernel_rfl) ?_
  have hF := And.intro y3.b0 (And.intro y3.l0 (And.intro y3.b1 (And.intro e3 (And.intro a1.row (And.intro g1 (And.intro c1 (And.intro d1 hrl)))))))
  repeat' (first
   | with_reducible refine stp ?_
   | with_reducible refine k_blk_o rfl ?_
   | ((try (conv => arg 1; simp [runOf, hF])); with_reducible refine evp ?_)
   | ((with_reducible refine apn ?na ?_); (case na => simp [appNames, ints, intss] <;> first | kernel_rfl | (refine ⟨?_, ?_⟩ <;> kernel_rfl)))
    | ((with_reducible refine la_id ?_); refine la_end rfl ?_; (repeat (first | refine pl_nil ?_ | refine pl_cons ?_)))
    | ((with_reducible refine la_id ?_); refine la_pick ?_; (conv => arg 1; whnf); (repeat ((fail_if_success (first | ((refine la_q0 rfl ?_); (try (conv => arg 1; simp [runOf, hF])); with_reducible refine evp ?_) | ((refine la_n rfl rfl ?_); (try (conv => arg 1; simp [runOf, hF])); with_reducible refine evp ?_) | ((refine la_q2 rfl (by decide +kernel) ?_); (repeat (first | refine bk_nil ?_ | refine bk_t (by decide +kernel) ?_ | refine bk_f (by decide +kernel) ?_)); (try (conv => arg 1; simp [runOf, hF])); with_reducible refine evp ?_) | ((refine la_q1 rfl (by decide +kernel) ?_); (try (conv => arg 1; simp [runOf, hF])); with_reducible refine evp ?_) | ((refine la_g0 rfl ?_); (try (conv => arg 1; simp [runOf, hF])); with_reducible refine evp ?_; (with_reducible refine evp ?_); try ((try (conv => arg 1; simp [runOf, hF])); with_reducible refine evp ?_)))); (refine la_there ?_); (conv => arg 1; whnf))); first | ((refine la_q0 rfl ?_); (try (conv => arg 1; simp [runOf, hF])); with_reducible refine evp ?_) | ((refine la_n rfl rfl ?_); (try (conv => arg 1; simp [runOf, hF])); with_reducible refine evp ?_) | ((refine la_q2 rfl (by decide +kernel) ?_); (repeat (first | refine bk_nil ?_ | refine bk_t (by decide +kernel) ?_ | refine bk_f (by decide +kernel) ?_)); (try (conv => arg 1; simp [runOf, hF])); with_reducible refine evp ?_) | ((refine la_q1 rfl (by decide +kernel) ?_); (try (conv => arg 1; simp [runOf, hF])); with_reducible refine evp ?_) | ((refine la_g0 rfl ?_); (try (conv => arg 1; simp [runOf, hF])); with_reducible refine evp ?_; (with_reducible refine evp ?_); try ((try (conv => arg 1; simp [runOf, hF])); with_reducible refine evp ?_)))
    | ((with_reducible refine la_id ?_); refine la_all rfl ?_)
    | ((with_reducible refine all_id ?_); (conv => arg 1; whnf); first | exact all_nil | refine all_cons ?_ ?_)
    | (refine la_op rfl (by first | exact frm_s (by decide +kernel) | exact frm_a (by repeat' (first | exact fa_nil | refine fa_cons (by decide +kernel) ?_))) (by intro _; first | exact trivial | simp [appT, runOf, hF]) ?_; (repeat (first | refine bk_nil ?_ | refine bk_t (by decide +kernel) ?_ | refine bk_f (by decide +kernel) ?_)))
   | fail)
  rotate_left
  have hF := And.intro y3.b0 (And.intro y3.l0 (And.intro y3.b1 (And.intro e3 (And.intro a1.row (And.intro g1 (And.intro c1 (And.intro d1 hrl)))))))
  repeat' (first
   | with_reducible refine stp ?_
   | with_reducible refine k_blk_o rfl ?_
   | ((try (conv => arg 1; simp [runOf, hF])); with_reducible refine evp ?_)
   | ((with_reducible refine apn ?na ?_); (case na => simp [appNames, ints, intss] <;> first | kernel_rfl | (refine ⟨?_, ?_⟩ <;> kernel_rfl)))
    | ((with_reducible refine la_id ?_); refine la_end rfl ?_; (repeat (first | refine pl_nil ?_ | refine pl_cons ?_)))
    | ((with_reducible refine la_id ?_); refine la_pick ?_; (conv => arg 1; whnf); (repeat ((fail_if_success (first | ((refine la_q0 rfl ?_); (try (conv => arg 1; simp [runOf, hF])); with_reducible refine evp ?_) | ((refine la_n rfl rfl ?_); (try (conv => arg 1; simp [runOf, hF])); with_reducible refine evp ?_) | ((refine la_q2 rfl (by decide +kernel) ?_); (repeat (first | refine bk_nil ?_ | refine bk_t (by decide +kernel) ?_ | refine bk_f (by decide +kernel) ?_)); (try (conv => arg 1; simp [runOf, hF])); with_reducible refine evp ?_) | ((refine la_q1 rfl (by decide +kernel) ?_); (try (conv => arg 1; simp [runOf, hF])); with_reducible refine evp ?_) | ((refine la_g0 rfl ?_); (try (conv => arg 1; simp [runOf, hF])); with_reducible refine evp ?_; (with_reducible refine evp ?_); try ((try (conv => arg 1; simp [runOf, hF])); with_reducible refine evp ?_)))); (refine la_there ?_); (conv => arg 1; whnf))); first | ((refine la_q0 rfl ?_); (try (conv => arg 1; simp [runOf, hF])); with_reducible refine evp ?_) | ((refine la_n rfl rfl ?_); (try (conv => arg 1; simp [runOf, hF])); with_reducible refine evp ?_) | ((refine la_q2 rfl (by decide +kernel) ?_); (repeat (first | refine bk_nil ?_ | refine bk_t (by decide +kernel) ?_ | refine bk_f (by decide +kernel) ?_)); (try (conv => arg 1; simp [runOf, hF])); with_reducible refine evp ?_) | ((refine la_q1 rfl (by decide +kernel) ?_); (try (conv => arg 1; simp [runOf, hF])); with_reducible refine evp ?_) | ((refine la_g0 rfl ?_); (try (conv => arg 1; simp [runOf, hF])); with_reducible refine evp ?_; (with_reducible refine evp ?_); try ((try (conv => arg 1; simp [runOf, hF])); with_reducible refine evp ?_)))
    | ((with_reducible refine la_id ?_); refine la_all rfl ?_)
    | ((with_reducible refine all_id ?_); (conv => arg 1; whnf); first | exact all_nil | refine all_cons ?_ ?_)
    | (refine la_op rfl (by first | exact frm_s (by decide +kernel) | exact frm_a (by repeat' (first | exact fa_nil | refine fa_cons (by decide +kernel) ?_))) (by intro _; first | exact trivial | simp [appT, runOf, hF]) ?_; (repeat (first | refine bk_nil ?_ | refine bk_t (by decide +kernel) ?_ | refine bk_f (by decide +kernel) ?_)))
   | fail)
  all_goals
    refine st_heap rfl (l03Get_own (c := ⟨At, Regs, Slots, Mem, Input, Out, Code, Over, Val⟩) hil (y3.next.bperm (List.Perm.swap _ _ _)).rot4) ?_
    rintro v h4 ⟨wi', hv, hw1, y4'⟩
    have y4 := (y4'.bperm (List.Perm.swap _ _ _)).rot4.rot4.rot4.rot4
    clear y4'
    dsimp only at hv
    generalize hz : Input.headD (-1) = z at hv
    subst hv
    obtain ⟨k1', v1', p1', s1', a1', b1'⟩ := y4.ints_at hrl
    have ew := a1'.val
    simp at ew
    obtain ⟨rfl, rfl, rfl⟩ := ew
    have g1' := a1'.get hrl
    have hF := And.intro y4.b0 (And.intro y4.l0 (And.intro y4.b1 (And.intro e3 (And.intro a1'.row (And.intro g1' (And.intro c1 (And.intro b1' hrl)))))))
    repeat' (first
     | with_reducible refine stp ?_
     | with_reducible refine k_blk_o rfl ?_
     | ((try (conv => arg 1; simp [runOf, hF])); with_reducible refine evp ?_)
     | ((with_reducible refine apn ?na ?_); (case na => simp [appNames, ints, intss] <;> first | kernel_rfl | (refine ⟨?_, ?_⟩ <;> kernel_rfl)))
      | ((with_reducible refine la_id ?_); refine la_end rfl ?_; (repeat (first | refine pl_nil ?_ | refine pl_cons ?_)))
      | ((with_reducible refine la_id ?_); refine la_pick ?_; (conv => arg 1; whnf); (repeat ((fail_if_success (first | ((refine la_q0 rfl ?_); (try (conv => arg 1; simp [runOf, hF])); with_reducible refine evp ?_) | ((refine la_n rfl rfl ?_); (try (conv => arg 1; simp [runOf, hF])); with_reducible refine evp ?_) | ((refine la_q2 rfl (by decide +kernel) ?_); (repeat (first | refine bk_nil ?_ | refine bk_t (by decide +kernel) ?_ | refine bk_f (by decide +kernel) ?_)); (try (conv => arg 1; simp [runOf, hF])); with_reducible refine evp ?_) | ((refine la_q1 rfl (by decide +kernel) ?_); (try (conv => arg 1; simp [runOf, hF])); with_reducible refine evp ?_) | ((refine la_g0 rfl ?_); (try (conv => arg 1; simp [runOf, hF])); with_reducible refine evp ?_; (with_reducible refine evp ?_); try ((try (conv => arg 1; simp [runOf, hF])); with_reducible refine evp ?_)))); (refine la_there ?_); (conv => arg 1; whnf))); first | ((refine la_q0 rfl ?_); (try (conv => arg 1; simp [runOf, hF])); with_reducible refine evp ?_) | ((refine la_n rfl rfl ?_); (try (conv => arg 1; simp [runOf, hF])); with_reducible refine evp ?_) | ((refine la_q2 rfl (by decide +kernel) ?_); (repeat (first | refine bk_nil ?_ | refine bk_t (by decide +kernel) ?_ | refine bk_f (by decide +kernel) ?_)); (try (conv => arg 1; simp [runOf, hF])); with_reducible refine evp ?_) | ((refine la_q1 rfl (by decide +kernel) ?_); (try (conv => arg 1; simp [runOf, hF])); with_reducible refine evp ?_) | ((refine la_g0 rfl ?_); (try (conv => arg 1; simp [runOf, hF])); with_reducible refine evp ?_; (with_reducible refine evp ?_); try ((try (conv => arg 1; simp [runOf, hF])); with_reducible refine evp ?_)))
      | ((with_reducible refine la_id ?_); refine la_all rfl ?_)
      | ((with_reducible refine all_id ?_); (conv => arg 1; whnf); first | exact all_nil | refine all_cons ?_ ?_)
      | (refine la_op rfl (by first | exact frm_s (by decide +kernel) | exact frm_a (by repeat' (first | exact fa_nil | refine fa_cons (by decide +kernel) ?_))) (by intro _; first | exact trivial | simp [appT, runOf, hF]) ?_; (repeat (first | refine bk_nil ?_ | refine bk_t (by decide +kernel) ?_ | refine bk_f (by decide +kernel) ?_)))
     | fail)
    refine cx_k (y4.ints_put a1' hrl z) ?_
    intro h5 y5
    repeat' (first
     | with_reducible refine stp ?_
     | with_reducible refine k_blk_o rfl ?_
     | with_reducible refine k_seq_n ?_
     | ((try (conv => arg 1; simp [y5.b0])); with_reducible refine evp ?_)
     | ((with_reducible refine apn ?na ?_); (case na => simp [appNames, ints, intss] <;> first | kernel_rfl | (refine ⟨?_, ?_⟩ <;> kernel_rfl)))
     | fail)
    have es : stepC ⟨At, Regs, Slots, Mem, Input, Out, Code, Over, Val⟩ ⟨6, r, A, B, N⟩ = ⟨IntKind.i64.wrap (At + 1), Regs.set r (Input.headD (-1)), Slots, Mem, Input.tail, Out, Code, Over, Val⟩ := by simp [stepC]
    rw [es, hz]
    exact ⟨wi', rfl, hw1, y5.next.box_drop⟩

set_option maxHeartbeats 1000000 in
theorem sw_in_tree (c : Cpu) (w : Word) (ho : w.Op = 6) {r : Nat} (hr : w.R = (r : Int)) (hrl : r < c.Regs.length) (hil : c.Input.length ≤ 2 ^ 40) : SpecJ c (stepC c w) w := by
  obtain ⟨Op, R, A, B, N⟩ := w
  obtain ⟨At, Regs, Slots, Mem, Input, Out, Code, Over, Val⟩ := c
  simp only at ho hr hrl hil
  subst ho hr
  have hnil : True := trivial
  intro h nr fu w1 w2 w3 w5 n1 n2 n3 n5 bs os x
  dsimp only at x
  have q1 := own_one (own_of (x.o0 true) rfl)
  have q2 := own_one (own_of (x.o1 true) rfl)
  have q3 := own_one (own_of (x.o2 true) rfl)
  have q4 := own_one (own_of (x.o3 true) rfl)
  refine enter mixed MW26 Try.func79 rfl (by kernel_rfl) rfl ?_
  repeat' (first
   | with_reducible refine stp ?_
   | with_reducible refine k_blk_o rfl ?_
   | ((try (conv => arg 1; simp [Word.cells])); with_reducible refine evp ?_)
   | ((with_reducible refine apn ?na ?_); (case na => simp [appNames, ints, intss] <;> first | kernel_rfl | (refine ⟨?_, ?_⟩ <;> kernel_rfl)))
   | fail)
  refine cx_k (x.next.box_one x.off (by simp)) ?_
  intro h1 y1
  have m1 : nr.1 < h1.tick := y1.lt nr (by simp [nms])
  have e1 : ¬ nr.1 = h1.tick := by omega
  repeat' (first
   | with_reducible refine stp ?_
   | with_reducible refine k_blk_o rfl ?_
   | ((try (conv => arg 1; simp [y1.b0, y1.l0])); with_reducible refine evp ?_)
   | ((with_reducible refine apn ?na ?_); (case na => simp [appNames, ints, intss] <;> first | kernel_rfl | (refine ⟨?_, ?_⟩ <;> kernel_rfl)))
   | fail)
  refine cx_k y1.next ?_
  intro h2 y2
  repeat' (first
   | with_reducible refine stp ?_
   | with_reducible refine k_blk_o rfl ?_
   | with_reducible refine k_seq_n ?_
   | ((try (conv => arg 1; simp [hnil])); with_reducible refine evp ?_)
   | ((with_reducible refine apn ?na ?_); (case na => simp [appNames, ints, intss] <;> first | kernel_rfl | (refine ⟨?_, ?_⟩ <;> kernel_rfl)))
   | fail)
  refine cx_wp (by first | exact y2 | exact y2.next | exact y2.next.next | exact y2.next.next.next | exact y2.next.next.next.next | exact y2.next.next.next.next.next | exact y2.next.next.next.next.next.next | exact y2.next.next.next.next.next.next.next | exact y2.next.next.next.next.next.next.next.next | exact y2.next.next.next.next.next.next.next.next.next | exact y2.next.next.next.next.next.next.next.next.next.next | exact y2.next.next.next.next.next.next.next.next.next.next.next | exact y2.next.next.next.next.next.next.next.next.next.next.next.next | exact y2.next.next.next.next.next.next.next.next.next.next.next.next.next) ?_
  intro h3 y3
  have m3 : nr.1 < h3.tick := y3.lt nr (by simp [nms])
  have e3 : ¬ nr.1 = h3.tick := by omega
  obtain ⟨k1, v1, p1, s1, a1, b1⟩ := (y3).ints_at hrl
  have ew := a1.val
  subst ew
  have c1 : ¬ k1.1 = h3.tick := by omega
  have d1 : k1.1 < h3.tick + 1 := by omega
  have g1 := a1.get hrl
  repeat (with_reducible first | refine stp ?_ | refine k_seq_n ?_)
  refine st_lz (by kernel_rfl) ?_
  have hF := And.intro y3.b0 (And.intro y3.l0 (And.intro y3.b1 (And.intro e3 (And.intro a1.row (And.intro g1 (And.intro c1 (And.intro d1 hrl)))))))
  repeat' (first
   | with_reducible refine stp ?_
   | with_reducible refine k_blk_o rfl ?_
   | ((try (conv => arg 1; simp [runOf, hF])); with_reducible refine evp ?_)
   | ((with_reducible refine apn ?na ?_); (case na => simp [appNames, ints, intss] <;> first | kernel_rfl | (refine ⟨?_, ?_⟩ <;> kernel_rfl)))
    | ((with_reducible refine la_id ?_); refine la_end rfl ?_; (repeat (first | refine pl_nil ?_ | refine pl_cons ?_)))
    | ((with_reducible refine la_id ?_); refine la_pick ?_; (conv => arg 1; whnf); (repeat ((fail_if_success (first | ((refine la_q0 rfl ?_); (try (conv => arg 1; simp [runOf, hF])); with_reducible refine evp ?_) | ((refine la_n rfl rfl ?_); (try (conv => arg 1; simp [runOf, hF])); with_reducible refine evp ?_) | ((refine la_q2 rfl (by decide +kernel) ?_); (repeat (first | refine bk_nil ?_ | refine bk_t (by decide +kernel) ?_ | refine bk_f (by decide +kernel) ?_)); (try (conv => arg 1; simp [runOf, hF])); with_reducible refine evp ?_) | ((refine la_q1 rfl (by decide +kernel) ?_); (try (conv => arg 1; simp [runOf, hF])); with_reducible refine evp ?_) | ((refine la_g0 rfl ?_); (try (conv => arg 1; simp [runOf, hF])); with_reducible refine evp ?_; (with_reducible refine evp ?_); try ((try (conv => arg 1; simp [runOf, hF])); with_reducible refine evp ?_)))); (refine la_there ?_); (conv => arg 1; whnf))); first | ((refine la_q0 rfl ?_); (try (conv => arg 1; simp [runOf, hF])); with_reducible refine evp ?_) | ((refine la_n rfl rfl ?_); (try (conv => arg 1; simp [runOf, hF])); with_reducible refine evp ?_) | ((refine la_q2 rfl (by decide +kernel) ?_); (repeat (first | refine bk_nil ?_ | refine bk_t (by decide +kernel) ?_ | refine bk_f (by decide +kernel) ?_)); (try (conv => arg 1; simp [runOf, hF])); with_reducible refine evp ?_) | ((refine la_q1 rfl (by decide +kernel) ?_); (try (conv => arg 1; simp [runOf, hF])); with_reducible refine evp ?_) | ((refine la_g0 rfl ?_); (try (conv => arg 1; simp [runOf, hF])); with_reducible refine evp ?_; (with_reducible refine evp ?_); try ((try (conv => arg 1; simp [runOf, hF])); with_reducible refine evp ?_)))
    | ((with_reducible refine la_id ?_); refine la_all rfl ?_)
    | ((with_reducible refine all_id ?_); (conv => arg 1; whnf); first | exact all_nil | refine all_cons ?_ ?_)
    | (refine la_op rfl (by first | exact frm_s (by decide +kernel) | exact frm_a (by repeat' (first | exact fa_nil | refine fa_cons (by decide +kernel) ?_))) (by intro _; first | exact trivial | simp [appT, runOf, hF]) ?_; (repeat (first | refine bk_nil ?_ | refine bk_t (by decide +kernel) ?_ | refine bk_f (by decide +kernel) ?_)))
   | fail)
  rotate_left
  have hF := And.intro y3.b0 (And.intro y3.l0 (And.intro y3.b1 (And.intro e3 (And.intro a1.row (And.intro g1 (And.intro c1 (And.intro d1 hrl)))))))
  repeat' (first
   | with_reducible refine stp ?_
   | with_reducible refine k_blk_o rfl ?_
   | ((try (conv => arg 1; simp [runOf, hF])); with_reducible refine evp ?_)
   | ((with_reducible refine apn ?na ?_); (case na => simp [appNames, ints, intss] <;> first | kernel_rfl | (refine ⟨?_, ?_⟩ <;> kernel_rfl)))
    | ((with_reducible refine la_id ?_); refine la_end rfl ?_; (repeat (first | refine pl_nil ?_ | refine pl_cons ?_)))
    | ((with_reducible refine la_id ?_); refine la_pick ?_; (conv => arg 1; whnf); (repeat ((fail_if_success (first | ((refine la_q0 rfl ?_); (try (conv => arg 1; simp [runOf, hF])); with_reducible refine evp ?_) | ((refine la_n rfl rfl ?_); (try (conv => arg 1; simp [runOf, hF])); with_reducible refine evp ?_) | ((refine la_q2 rfl (by decide +kernel) ?_); (repeat (first | refine bk_nil ?_ | refine bk_t (by decide +kernel) ?_ | refine bk_f (by decide +kernel) ?_)); (try (conv => arg 1; simp [runOf, hF])); with_reducible refine evp ?_) | ((refine la_q1 rfl (by decide +kernel) ?_); (try (conv => arg 1; simp [runOf, hF])); with_reducible refine evp ?_) | ((refine la_g0 rfl ?_); (try (conv => arg 1; simp [runOf, hF])); with_reducible refine evp ?_; (with_reducible refine evp ?_); try ((try (conv => arg 1; simp [runOf, hF])); with_reducible refine evp ?_)))); (refine la_there ?_); (conv => arg 1; whnf))); first | ((refine la_q0 rfl ?_); (try (conv => arg 1; simp [runOf, hF])); with_reducible refine evp ?_) | ((refine la_n rfl rfl ?_); (try (conv => arg 1; simp [runOf, hF])); with_reducible refine evp ?_) | ((refine la_q2 rfl (by decide +kernel) ?_); (repeat (first | refine bk_nil ?_ | refine bk_t (by decide +kernel) ?_ | refine bk_f (by decide +kernel) ?_)); (try (conv => arg 1; simp [runOf, hF])); with_reducible refine evp ?_) | ((refine la_q1 rfl (by decide +kernel) ?_); (try (conv => arg 1; simp [runOf, hF])); with_reducible refine evp ?_) | ((refine la_g0 rfl ?_); (try (conv => arg 1; simp [runOf, hF])); with_reducible refine evp ?_; (with_reducible refine evp ?_); try ((try (conv => arg 1; simp [runOf, hF])); with_reducible refine evp ?_)))
    | ((with_reducible refine la_id ?_); refine la_all rfl ?_)
    | ((with_reducible refine all_id ?_); (conv => arg 1; whnf); first | exact all_nil | refine all_cons ?_ ?_)
    | (refine la_op rfl (by first | exact frm_s (by decide +kernel) | exact frm_a (by repeat' (first | exact fa_nil | refine fa_cons (by decide +kernel) ?_))) (by intro _; first | exact trivial | simp [appT, runOf, hF]) ?_; (repeat (first | refine bk_nil ?_ | refine bk_t (by decide +kernel) ?_ | refine bk_f (by decide +kernel) ?_)))
   | fail)
  all_goals
    refine st_heap rfl (l03Get_tree (c := ⟨At, Regs, Slots, Mem, Input, Out, Code, Over, Val⟩) hil (y3.next.bperm (List.Perm.swap _ _ _))) ?_
    rintro v h4 ⟨hv, y4'⟩
    have y4 := (y4'.bperm (List.Perm.swap _ _ _))
    clear y4'
    dsimp only at hv
    generalize hz : Input.headD (-1) = z at hv
    subst hv
    obtain ⟨k1', v1', p1', s1', a1', b1'⟩ := y4.ints_at hrl
    have ew := a1'.val
    simp at ew
    obtain ⟨rfl, rfl, rfl⟩ := ew
    have g1' := a1'.get hrl
    have hF := And.intro y4.b0 (And.intro y4.l0 (And.intro y4.b1 (And.intro e3 (And.intro a1'.row (And.intro g1' (And.intro c1 (And.intro b1' hrl)))))))
    repeat' (first
     | with_reducible refine stp ?_
     | with_reducible refine k_blk_o rfl ?_
     | ((try (conv => arg 1; simp [runOf, hF])); with_reducible refine evp ?_)
     | ((with_reducible refine apn ?na ?_); (case na => simp [appNames, ints, intss] <;> first | kernel_rfl | (refine ⟨?_, ?_⟩ <;> kernel_rfl)))
      | ((with_reducible refine la_id ?_); refine la_end rfl ?_; (repeat (first | refine pl_nil ?_ | refine pl_cons ?_)))
      | ((with_reducible refine la_id ?_); refine la_pick ?_; (conv => arg 1; whnf); (repeat ((fail_if_success (first | ((refine la_q0 rfl ?_); (try (conv => arg 1; simp [runOf, hF])); with_reducible refine evp ?_) | ((refine la_n rfl rfl ?_); (try (conv => arg 1; simp [runOf, hF])); with_reducible refine evp ?_) | ((refine la_q2 rfl (by decide +kernel) ?_); (repeat (first | refine bk_nil ?_ | refine bk_t (by decide +kernel) ?_ | refine bk_f (by decide +kernel) ?_)); (try (conv => arg 1; simp [runOf, hF])); with_reducible refine evp ?_) | ((refine la_q1 rfl (by decide +kernel) ?_); (try (conv => arg 1; simp [runOf, hF])); with_reducible refine evp ?_) | ((refine la_g0 rfl ?_); (try (conv => arg 1; simp [runOf, hF])); with_reducible refine evp ?_; (with_reducible refine evp ?_); try ((try (conv => arg 1; simp [runOf, hF])); with_reducible refine evp ?_)))); (refine la_there ?_); (conv => arg 1; whnf))); first | ((refine la_q0 rfl ?_); (try (conv => arg 1; simp [runOf, hF])); with_reducible refine evp ?_) | ((refine la_n rfl rfl ?_); (try (conv => arg 1; simp [runOf, hF])); with_reducible refine evp ?_) | ((refine la_q2 rfl (by decide +kernel) ?_); (repeat (first | refine bk_nil ?_ | refine bk_t (by decide +kernel) ?_ | refine bk_f (by decide +kernel) ?_)); (try (conv => arg 1; simp [runOf, hF])); with_reducible refine evp ?_) | ((refine la_q1 rfl (by decide +kernel) ?_); (try (conv => arg 1; simp [runOf, hF])); with_reducible refine evp ?_) | ((refine la_g0 rfl ?_); (try (conv => arg 1; simp [runOf, hF])); with_reducible refine evp ?_; (with_reducible refine evp ?_); try ((try (conv => arg 1; simp [runOf, hF])); with_reducible refine evp ?_)))
      | ((with_reducible refine la_id ?_); refine la_all rfl ?_)
      | ((with_reducible refine all_id ?_); (conv => arg 1; whnf); first | exact all_nil | refine all_cons ?_ ?_)
      | (refine la_op rfl (by first | exact frm_s (by decide +kernel) | exact frm_a (by repeat' (first | exact fa_nil | refine fa_cons (by decide +kernel) ?_))) (by intro _; first | exact trivial | simp [appT, runOf, hF]) ?_; (repeat (first | refine bk_nil ?_ | refine bk_t (by decide +kernel) ?_ | refine bk_f (by decide +kernel) ?_)))
     | fail)
    refine cx_k (y4.ints_put a1' hrl z) ?_
    intro h5 y5
    repeat' (first
     | with_reducible refine stp ?_
     | with_reducible refine k_blk_o rfl ?_
     | with_reducible refine k_seq_n ?_
     | ((try (conv => arg 1; simp [y5.b0])); with_reducible refine evp ?_)
     | ((with_reducible refine apn ?na ?_); (case na => simp [appNames, ints, intss] <;> first | kernel_rfl | (refine ⟨?_, ?_⟩ <;> kernel_rfl)))
     | fail)
    have es : stepC ⟨At, Regs, Slots, Mem, Input, Out, Code, Over, Val⟩ ⟨6, r, A, B, N⟩ = ⟨IntKind.i64.wrap (At + 1), Regs.set r (Input.headD (-1)), Slots, Mem, Input.tail, Out, Code, Over, Val⟩ := by simp [stepC]
    rw [es, hz]
    exact ⟨rfl, y5.next.box_drop⟩

end Go.Proofs.Ytfgaoojogididaa.AM

/-
  The spec's step of a stepper.
-/
set_option linter.unusedVariables false
set_option linter.unusedSimpArgs false
set_option maxRecDepth 4000
namespace Go.Proofs.Ytfgaoojogididaa.AM
open Go.RowKit

private def MW27 : FuncId → Mode := fun f => if f = 79 then .heap else .tree

/-- What the spec's word does, whichever: input of its own. -/
def SpecA (c c' : Cpu) (w : Word) : Prop := ∀ (h : Hp) (nr : Nm) (fu : Int) (wi w1 w2 w3 w5 : AV) (n1 n2 n3 n4 n5 : List Nm) (bs : Bx) (os : Ox),
  Cx h ((nr, runOf fu c wi w2 w3 w5) :: bs) ((w1, (fun b => ints b c.Regs), n1) :: (w2, (fun b => ints b c.Slots), n2) :: (w3, (fun b => intss b c.Mem), n3) :: (w5, (fun b => ints b c.Out), n5) :: (wi, (fun b => ints b c.Input), n4) :: os) → OutV h w5 →
  Sound Try.prog 79 [.ptr nr 0 0 0, w1, .agg w.cells, .int .i64 c.At] h fun v h' => ∃ a wi' w5' n5', v = .int .i64 a ∧ (c'.Code = 0 ∧ c'.Over = false → a = c'.At) ∧ wi'.one = true ∧
    Cx h' ((nr, runOf fu c' wi' w2 w3 w5') :: bs) ((w1, (fun b => ints b c'.Regs), n1) :: (w2, (fun b => ints b c'.Slots), n2) :: (w3, (fun b => intss b c'.Mem), n3) :: (w5', (fun b => ints b c'.Out), n5') :: (wi', (fun b => ints b c'.Input), n4) :: os) ∧ (w5' = w5 ∨ OutV h' w5')
/-- And with input that is a tree. -/
def SpecT (c c' : Cpu) (w : Word) : Prop := ∀ (h : Hp) (nr : Nm) (fu : Int) (w1 w2 w3 w5 : AV) (n1 n2 n3 n5 : List Nm) (bs : Bx) (os : Ox),
  Cx h ((nr, runOf fu c (ints true c.Input) w2 w3 w5) :: bs) ((w1, (fun b => ints b c.Regs), n1) :: (w2, (fun b => ints b c.Slots), n2) :: (w3, (fun b => intss b c.Mem), n3) :: (w5, (fun b => ints b c.Out), n5) :: os) → OutV h w5 →
  Sound Try.prog 79 [.ptr nr 0 0 0, w1, .agg w.cells, .int .i64 c.At] h fun v h' => ∃ a w5' n5', v = .int .i64 a ∧ (c'.Code = 0 ∧ c'.Over = false → a = c'.At) ∧
    Cx h' ((nr, runOf fu c' (ints true c'.Input) w2 w3 w5') :: bs) ((w1, (fun b => ints b c'.Regs), n1) :: (w2, (fun b => ints b c'.Slots), n2) :: (w3, (fun b => intss b c'.Mem), n3) :: (w5', (fun b => ints b c'.Out), n5') :: os) ∧ (w5' = w5 ∨ OutV h' w5')

/-- A row keeps its elements' size. -/
def Eszs (h h' : Hp) : Prop := ∀ n r r', h.rows n = some r → h'.rows n = some r' → r'.ver = r.ver → r'.esz = r.esz
theorem Sound.esz {P : Program} {f : FuncId} {args : List AV} {h : Hp} {K : AV → Hp → Prop} (s : Sound P f args h K) : Sound P f args h fun v h' => K v h' ∧ Eszs h h' := by
  refine ⟨s.1, fun mu pr w vs R hv => (s.2 mu pr w vs R hv).mono fun e w' ⟨z, v, h', mu', pr', e1, k, r, A⟩ => ⟨z, v, h', mu', pr', e1, ⟨k, fun n r1 r2 g1 g2 g3 => ?_⟩, r, A⟩⟩
  obtain ⟨l, arr, ty, m1, _, _, z1, _⟩ := R.row n r1 g1
  obtain ⟨l', arr', ty', m2, _, _, z2, _⟩ := A.rel.row n r2 g2
  have := A.ext.names _ _ _ m1
  rw [g3, this] at m2
  cases m2
  omega
theorem own_sl_row {rows : Nm → Option Row} {c : Bool} {n : Nm} {ver off len : Nat} {t : AV} {ns : List Nm} (o : Own rows c [.sl n ver off len] [t] ns) : ∃ r, rows n = some r ∧ r.ver = ver := by
  cases o with
  | sl _ _ _ _ r _ h1 h2 => exact ⟨r, h1, h2⟩
  | slo _ _ _ _ _ h1 => exact ⟨_, h1, rfl⟩
theorem OutV.of_esz {h h' : Hp} {w t : AV} {ns : List Nm} (ok : OutV h w) (o : Own h'.rows true [w] [t] ns) (e : Eszs h h') : OutV h' w := by
  intro n ver off len hw
  subst hw
  obtain ⟨r, h1, h2, h3⟩ := ok n ver off len rfl
  obtain ⟨r', g1, g2⟩ := own_sl_row o
  exact ⟨r', g1, g2, by rw [e n r r' h1 g1 (by omega)]; exact h3⟩
theorem OutV.keep {h h' : Hp} {w : AV} (ok : OutV h w) (lt : ∀ n ver off len, w = .sl n ver off len → n.1 < h.tick) (p : ∀ n, n.1 < h.tick → h'.rows n = h.rows n) : OutV h' w := by
  intro n ver off len hw
  obtain ⟨r, h1, h2, h3⟩ := ok n ver off len hw
  exact ⟨r, by rw [p n (lt n ver off len hw)]; exact h1, h2, h3⟩
theorem OutV.lt {h : Hp} {w t : AV} {ns : List Nm} {rows : Nm → Option Row} {c : Bool} (o : Own rows c [w] [t] ns) (l : ∀ n ∈ ns, n.1 < h.tick) : ∀ n ver off len, w = .sl n ver off len → n.1 < h.tick := fun n ver off len e => by
  subst e
  exact l n (own_sl_mem o)

theorem SpecW.toA {c c' : Cpu} {w : Word} (s : SpecW c c' w) (hi : c'.Input = c.Input) : SpecA c c' w := by
  intro h nr fu wi w1 w2 w3 w5 n1 n2 n3 n4 n5 bs os x ok
  have hwi := (own_one (own_of (x.o4 true) rfl)).1
  refine (s h nr fu wi w1 w2 w3 w5 n1 n2 n3 n5 bs ((wi, (fun b => ints b c.Input), n4) :: os) hwi x ok).mono ?_
  rintro v h' ⟨a, w5', n5', e1, e2, y, e3⟩
  rw [← hi] at y
  exact ⟨a, wi, w5', n5', e1, e2, hwi, y, e3⟩
theorem SpecI.toA {c c' : Cpu} {w : Word} (s : SpecI c c' w) : SpecA c c' w := by
  intro h nr fu wi w1 w2 w3 w5 n1 n2 n3 n4 n5 bs os x ok
  refine (s h nr fu wi w1 w2 w3 w5 n1 n2 n3 n4 n5 bs os x).mono ?_
  rintro v h' ⟨wi', e1, e2, y⟩
  exact ⟨_, wi', w5, n5, e1, fun _ => rfl, e2, y, .inl rfl⟩
theorem SpecW.toT {c c' : Cpu} {w : Word} (s : SpecW c c' w) (hi : c'.Input = c.Input) : SpecT c c' w := by
  intro h nr fu w1 w2 w3 w5 n1 n2 n3 n5 bs os x ok
  refine (s h nr fu (ints true c.Input) w1 w2 w3 w5 n1 n2 n3 n5 bs os rfl x ok).mono ?_
  rintro v h' ⟨a, w5', n5', e1, e2, y, e3⟩
  rw [← hi] at y
  exact ⟨a, w5', n5', e1, e2, y, e3⟩
theorem SpecJ.toT {c c' : Cpu} {w : Word} (s : SpecJ c c' w) : SpecT c c' w := by
  intro h nr fu w1 w2 w3 w5 n1 n2 n3 n5 bs os x ok
  refine (s h nr fu w1 w2 w3 w5 n1 n2 n3 n5 bs os x).mono ?_
  rintro v h' ⟨e1, y⟩
  exact ⟨_, w5, n5, e1, fun _ => rfl, y, .inl rfl⟩

theorem stepC_input {c : Cpu} {w : Word} (h : w.Op ≠ 6) : (stepC c w).Input = c.Input := by
  unfold stepC
  repeat' split
  all_goals first | rfl | contradiction

theorem spec_word {m : Image} {c : Cpu} {i : Nat} {w : Word} (h : Runs m c) (hat : c.At = (i : Int)) (hw : m.Code[i]? = some w) (hol : c.Out.length + 1 ≤ 4294967296) (hil : c.Input.length ≤ 2 ^ 40) : SpecA c (stepC c w) w ∧ SpecT c (stepC c w) w := by
  have hi := imageOk_code h.img
  have hmem : w ∈ m.Code := List.mem_of_getElem? hw
  have hr := h.regs
  have hs := h.slots
  have hml := h.memlen
  have two : w.Op ≠ 6 → SpecW c (stepC c w) w → SpecA c (stepC c w) w ∧ SpecT c (stepC c w) w := fun h6 s => ⟨s.toA (stepC_input h6), s.toT (stepC_input h6)⟩
  refine word_cases (hi.2.2.1 w hmem) ?_ ?_ ?_ ?_ ?_ ?_ ?_ ?_ ?_ ?_ ?_ ?_
  · intro r ho h1 h2
    exact two (by omega) (sw_li c w ho h1 (by omega))
  · intro r n ho h1 h2 h3 h4
    exact two (by omega) (sw_ld c w ho h1 h3 (by omega) (by have := w2 h4 (by omega) (by omega); omega))
  · intro r n ho h1 h2 h3 h4
    exact two (by omega) (sw_sd c w ho h1 h3 (by omega) (by have := w2 h4 (by omega) (by omega); omega))
  · intro r a b n ho h1 h2 h3 h4 h5 h6 h7 h8
    exact two (by omega) (sw_alu c w ho h1 h3 h5 h7 (by omega) (by omega) (by omega) h8)
  · intro r a n ho h1 h2 h3 h4 h5 h6
    have hq : n < c.Mem.length := by have := w1 h6 (by omega); omega
    have hmq := h.memq hq
    cases hb : inB (rd c.Regs (a : Int)) 0 (IntKind.i64.wrap ((c.Mem.getD n []).length - 1)) with
    | false => exact two (by omega) (sw_trap4 c w ho h1 h3 h5 (by omega) (by omega) hq h.code hb)
    | true =>
      obtain ⟨j, hj, hj2⟩ := inB_nat hb
      exact two (by omega) (sw_lx c w ho h1 h3 h5 (by omega) (by omega) hq h.code hj (by have := w1 hj2 (by omega); omega) (by omega))
  · intro r a n ho h1 h2 h3 h4 h5 h6
    have hq : n < c.Mem.length := by have := w1 h6 (by omega); omega
    have hmq := h.memq hq
    cases hb : inB (rd c.Regs (a : Int)) 0 (IntKind.i64.wrap ((c.Mem.getD n []).length - 1)) with
    | false => exact two (by omega) (sw_trap5 c w ho h1 h3 h5 (by omega) (by omega) hq h.code hb)
    | true =>
      obtain ⟨j, hj, hj2⟩ := inB_nat hb
      exact two (by omega) (sw_sx c w ho h1 h3 h5 (by omega) (by omega) hq h.code hj (by have := w1 hj2 (by omega); omega) (by omega))
  · intro r ho h1 h2
    exact ⟨(sw_in_own c w ho h1 (by omega) hil).toA, (sw_in_tree c w ho h1 (by omega) hil).toT⟩
  · intro r ho h1 h2
    exact two (by omega) (sw_out c w ho h1 (by omega) hol)
  · intro n ho h1 h2
    exact two (by omega) (sw_jmp c w ho)
  · intro r n ho h1 h2 h3 h4
    exact two (by omega) (sw_jz c w ho h1 (by omega))
  · intro r ho h1 h2
    exact two (by omega) (sw_ret c w ho h1 (by omega))
  · intro r a ho h1 h2 h3 h4
    exact two (by omega) (sw_mv c w ho h1 h3 (by omega) (by omega))
end Go.Proofs.Ytfgaoojogididaa.AM

/-
  The spec's run at first: zeros, variables, regions.
-/
set_option linter.unusedVariables false
set_option linter.unusedSimpArgs false
set_option maxRecDepth 4000
namespace Go.Proofs.Ytfgaoojogididaa.AM
open Go.RowKit

private def MW42 : FuncId → Mode := fun f => if f = 62 then .fresh else .tree

def zeros (n : Nat) : List Int := List.replicate n 0
theorem zeros_succ (n : Nat) : zeros (n + 1) = zeros n ++ [0] := by simp [zeros, List.replicate_succ']

/-- Onto a row that ends where the slice ends. -/
theorem appendA_ext {P : Program} {t : TypeId} {m n : Nm} {v len s : Nat} {x : AV} {h : Hp} {l : List (List AV)} (es : List (List AV)) (h0 : ((telem P t).bind fun e => (tsz P e).bind fun s => (tby P e).bind fun bb => (tzero P e).bind fun z => some (s, decide (0 < s ∧ bb ≤ 32768 ∧ z.length = s))) = some (s, true))
    (hr : h.rows m = some ⟨v, s, l⟩) (hlen : l.length = len) (hx : srcElems h.rows x = some es) (hes : ∀ e ∈ es, e.length = s) (hl : len + es.length ≤ 4294967296) (hm : decide (m.1 < h.tick) = true) :
    appendA P t (.sl m v 0 len) x h n = some (.sl m (v + if es = [] then 0 else 1) 0 (len + es.length), h.put m ⟨v + if es = [] then 0 else 1, s, l ++ es⟩) := by
  simp only [Option.bind_eq_some_iff] at h0
  obtain ⟨e', he', s', hs, bb, hb, z, hz, hd⟩ := h0
  simp only [Option.some.injEq, Prod.mk.injEq, decide_eq_true_eq] at hd
  obtain ⟨e1, hd1, hd2, hd3⟩ := hd
  rw [e1] at hs hd1 hd3
  subst hlen
  have hall : es.all (fun e => e.length == s) = true := by
    rw [List.all_eq_true]
    intro e he
    simpa using hes e he
  unfold appendA
  simp only [he', hx, hs, hb, hz]
  rw [if_pos ⟨hd1, hd2, hd3, hall⟩]
  simp only [hr]
  rw [if_pos ⟨trivial, trivial, by omega, hl, of_decide_eq_true hm⟩]
  cases es with
  | nil =>
    simp only [if_true, List.length_nil, Nat.add_zero, List.append_nil]
    congr 2
    obtain ⟨rows, tick⟩ := h
    simp only [Hp.put]
    congr 1
    funext k
    by_cases hk : k = m
    · rw [if_pos hk, hk]; exact hr
    · rw [if_neg hk]
  | cons e es =>
    have hnot : ¬ 0 + (l.length + (e :: es).length) ≤ l.length := by simp
    rw [if_neg (by simp), if_neg hnot]
    simp

section
variable {h h' : Hp} {bs : Bx} {os : Ox} {k : Nm} {ns : List Nm}
/-- A slice of slices, out of its row and what the row's elements own. -/
theorem Cx.close_intss {ver : Nat} {vs : List AV} {sp : List (List AV)} {xs : List (List Int)} (x : Cx h ((k, ⟨ver, 1, vs.map (fun v => [v]) ++ sp⟩) :: bs) ((.agg vs, (fun b => .agg (xs.map (ints b))), ns) :: os)) (h1 : ∀ e ∈ sp, e.length = 1) (h2 : ClRow ⟨ver, 1, sp⟩) :
    Cx h bs ((.sl k ver 0 xs.length, (fun b => intss b xs), k :: ns) :: os) := by
  have oa : ∀ b, Own h.rows b vs (xs.map (ints b)) ns := fun b => by
    have o1 := x.o0 b
    generalize hu : AV.agg (xs.map (ints b)) = u at o1
    cases o1 with
    | one h => subst hu; cases h
    | agg o1 => cases hu; exact o1
  refine ⟨fun y hy => x.box y (by simp [hy]), fun y hy b => ?_, ?_, fun m hm => x.lt m ?_⟩
  · simp only [List.mem_cons] at hy
    rcases hy with rfl | hy
    · exact .one (own_intss_mk x.b0 h1 h2 (oa b))
    · exact x.own y (by simp [hy]) b
  · have := x.nd
    simp only [nms, List.map_cons, List.flatten_cons] at this ⊢
    exact (List.Perm.nodup_iff (by simp)).2 this
  · simp only [nms, List.map_cons, List.flatten_cons, List.mem_append, List.mem_cons] at hm ⊢
    rcases hm with hm | (hm | hm) | hm
    · exact .inl (.inr hm)
    · exact .inl (.inl hm)
    · exact .inr (.inl hm)
    · exact .inr (.inr hm)
/-- A new row of zeros, own. -/
theorem Cx.close_new {ver : Nat} {r : Row} (x : Cx h ((k, r) :: bs) os) {xs : List Int} (hr : r = ⟨ver, 1, cl1 xs⟩) : Cx h bs ((.sl k ver 0 xs.length, (fun b => ints b xs), [k]) :: os) := by
  subst hr
  exact Cx.close_ints (pre := []) (sp := []) (by simpa [ir] using x) ⟨by simp, by simp, fun i e j x he => by simp at he, fun i e j x he => by simp at he⟩
end

theorem l03Zeros (n : Int) (hn : n ≤ 100000) : FreshW Try.prog 62 [.int .i64 n] (fun b => ints b (zeros n.toNat)) := by
  intro T
  refine enter mixed MW42 Try.func62 rfl (by kernel_rfl) rfl ?_
  repeat' (first
   | with_reducible refine stp ?_
   | with_reducible refine k_blk_o rfl ?_
   | ((try (conv => arg 1; simp [zeros])); with_reducible refine evp ?_)
   | ((with_reducible refine apn ?na ?_); (case na => simp [appNames, ints, intss] <;> first | kernel_rfl | (refine ⟨?_, ?_⟩ <;> kernel_rfl)))
   | fail)
  refine k_seq_n ?_
  repeat' (first
   | with_reducible refine stp ?_
   | with_reducible refine k_blk_o rfl ?_
   | ((try (conv => arg 1; simp [zeros])); with_reducible refine evp ?_)
   | ((with_reducible refine apn ?na ?_); (case na => simp [appNames, ints, intss] <;> first | kernel_rfl | (refine ⟨?_, ?_⟩ <;> kernel_rfl)))
   | fail)
  refine cx_k (Cx.mt.next.next.box_one (T := T + 1) (i := 0) Cx.mt.next.off (by simp)) ?_
  intro h1 x1
  repeat' (first
   | with_reducible refine stp ?_
   | with_reducible refine k_blk_o rfl ?_
   | with_reducible refine k_seq_n ?_
   | ((try (conv => arg 1; simp [zeros])); with_reducible refine evp ?_)
   | ((with_reducible refine apn ?na ?_); (case na => simp [appNames, ints, intss] <;> first | kernel_rfl | (refine ⟨?_, ?_⟩ <;> kernel_rfl)))
   | fail)
  refine st_loop (fun (k : Nat) σ h => (k : Int) ≤ n.toNat ∧ σ 0 = .int .i64 n ∧ σ 3 = .sl (T + 1, 0, 0) k 0 k ∧ σ 4 = .int .i64 k ∧ Cx h [((T + 1, 0, 0), ⟨k, 1, cl1 (zeros k)⟩)] []) (fun k => n.toNat - k) 0 ?init ?step
  case init => exact ⟨by omega, by simp, by simp, by simp, Cx.to x1⟩
  case step =>
    rintro k σ h ⟨hk, s0, s3, s4, x⟩
    have b := x.bxs
    simp only [Bxs] at b
    have hkw : IntKind.i64.wrap (k + 1) = k + 1 := wrap_id (by omega) (by omega)
    by_cases hkn : (k : Int) < n
    · have hl1 : T + 1 < h.tick := x.lt (T + 1, 0, 0) (by simp [nms])
      repeat' (first
       | with_reducible refine stp ?_
       | with_reducible refine k_blk_o rfl ?_
       | with_reducible refine k_seq_n ?_
       | ((try (conv => arg 1; simp [s0, s3, s4, hkn])); with_reducible refine evp ?_)
       | ((with_reducible refine apn ?na ?_); (case na => simp [appNames, ints, intss] <;> first | kernel_rfl | (refine ⟨?_, ?_⟩ <;> kernel_rfl)))
       | fail)
      conv => arg 1; simp [s3]
      rw [appendA_ext (s := 1) (l := cl1 (zeros k)) [[.int .i64 0]] (by kernel_rfl) ?hr (by simp [cl1, zeros]) ?hx (by simp) (by simp; omega) ?hm]
      case hr => simp [b, show ¬ T + 1 = h.tick + 1 by omega, show ¬ T = h.tick by omega]
      case hx => simp [srcElems]
      case hm => simp; omega
      refine ev2_some ?_
      repeat' (first
       | with_reducible refine stp ?_
       | with_reducible refine k_blk_o rfl ?_
       | with_reducible refine k_seq_n ?_
       | ((try (conv => arg 1; simp [s4, hkw])); with_reducible refine evp ?_)
       | ((with_reducible refine apn ?na ?_); (case na => simp [appNames, ints, intss] <;> first | kernel_rfl | (refine ⟨?_, ?_⟩ <;> kernel_rfl)))
       | fail)
      refine k_lp_n (k + 1) (by omega) ⟨by omega, by simp [s0], by simp, by simp, ?_⟩
      have e1 : cl1 (zeros k) ++ [[AV.int .i64 0]] = cl1 (zeros (k + 1)) := by simp [zeros_succ, cl1]
      rw [e1]
      exact Cx.to x
    · have hke : k = n.toNat := by omega
      repeat' (first
       | with_reducible refine stp ?_
       | with_reducible refine k_blk_o rfl ?_
       | with_reducible refine k_seq_n ?_
       | ((try (conv => arg 1; simp [s0, s3, s4, hkn])); with_reducible refine evp ?_)
       | ((with_reducible refine apn ?na ?_); (case na => simp [appNames, ints, intss] <;> first | kernel_rfl | (refine ⟨?_, ?_⟩ <;> kernel_rfl)))
       | fail)
      have x' := Cx.close_ints (ver := k) (pre := []) (sp := []) (xs := zeros k) (h := h) (k := (T + 1, 0, 0)) (bs := []) (os := []) (by simpa [ir] using x) ⟨by simp, by simp, fun i e j x he => by simp at he, fun i e j x he => by simp at he⟩
      have hz : (zeros k).length = k := by simp [zeros]
      rw [← hke]
      rw [hz] at x'
      exact ⟨_, x'.o0, x'.nodup, fun n hn => Nat.lt_of_lt_of_le (x'.lts n hn) (by simp; omega)⟩
end Go.Proofs.Ytfgaoojogididaa.AM

/-
  The program's run at first: regions.
-/
set_option linter.unusedVariables false
set_option linter.unusedSimpArgs false
set_option maxRecDepth 4000
namespace Go.Proofs.Ytfgaoojogididaa.AM
open Go.RowKit

private def MW43 : FuncId → Mode := fun f => .tree

def mem0 (xs : List Int) : List (List Int) := xs.map fun n => zeros n.toNat

set_option maxHeartbeats 1000000 in
theorem newMem (xs : List Int) (hl : xs.length ≤ 100000) (hx : ∀ n ∈ xs, 0 ≤ n ∧ n ≤ 1000) : FreshW Try.prog 81 [ints true xs] (fun b => intss b (mem0 xs)) := by
  intro T
  refine enter mixed MW43 Try.func81 rfl (by kernel_rfl) rfl ?_
  repeat' (first
   | with_reducible refine stp ?_
   | with_reducible refine k_blk_o rfl ?_
   | ((try (conv => arg 1; simp [zeros])); with_reducible refine evp ?_)
   | ((with_reducible refine apn ?na ?_); (case na => simp [appNames, ints, intss] <;> first | kernel_rfl | (refine ⟨?_, ?_⟩ <;> kernel_rfl)))
   | fail)
  refine k_seq_n ?_
  repeat' (first
   | with_reducible refine stp ?_
   | with_reducible refine k_blk_o rfl ?_
   | ((try (conv => arg 1; simp [zeros])); with_reducible refine evp ?_)
   | ((with_reducible refine apn ?na ?_); (case na => simp [appNames, ints, intss] <;> first | kernel_rfl | (refine ⟨?_, ?_⟩ <;> kernel_rfl)))
   | fail)
  refine cx_k (Cx.mt.next.next.box_one (T := T + 1) (i := 0) Cx.mt.next.off (by simp)) ?_
  intro h1 x1
  repeat' (first
   | with_reducible refine stp ?_
   | with_reducible refine k_blk_o rfl ?_
   | with_reducible refine k_seq_n ?_
   | ((try (conv => arg 1; simp [zeros])); with_reducible refine evp ?_)
   | ((with_reducible refine apn ?na ?_); (case na => simp [appNames, ints, intss] <;> first | kernel_rfl | (refine ⟨?_, ?_⟩ <;> kernel_rfl)))
   | fail)
  refine st_loop (fun (k : Nat) σ h => k ≤ xs.length ∧ σ 7 = ints true xs ∧ σ 8 = .int .i64 xs.length ∧ σ 9 = .int .i64 k ∧ σ 3 = .sl (T + 1, 0, 0) k 0 k ∧
    ∃ vs ns, vs.length = k ∧ Cx h [((T + 1, 0, 0), ⟨k, 1, vs.map fun v => [v]⟩)] [(.agg vs, (fun b => .agg (((mem0 xs).take k).map (ints b))), ns)]) (fun k => xs.length - k) 0 ?init ?step
  case init => exact ⟨Nat.zero_le _, by simp, by simp, by simp, by simp, [], [], rfl, Cx.to x1.agg_nil⟩
  case step =>
    rintro k σ h ⟨hk, s7, s8, s9, s3, vs, ns, hvl, x⟩
    have b := x.bxs
    simp only [Bxs] at b
    have hkw : IntKind.i64.wrap (k + 1) = k + 1 := wrap_id (by omega) (by omega)
    by_cases hkn : k < xs.length
    · have hkn2 : (k : Int) < xs.length := by omega
      have hxk : xs[k]? = some xs[k] := by simp
      have hx2 := hx xs[k] (List.getElem_mem hkn)
      have hx3 : xs[k] ≤ 4294967296 := by omega
      obtain ⟨n, hn⟩ : ∃ n : Nat, xs[k] = (n : Int) := ⟨xs[k].toNat, by omega⟩
      have hl1 : T + 1 < h.tick := x.lt (T + 1, 0, 0) (by simp [nms])
      rw [hn] at hxk hx2 hx3
      repeat' (first
       | with_reducible refine stp ?_
       | with_reducible refine k_blk_o rfl ?_
       | with_reducible refine k_seq_n ?_
       | ((try (conv => arg 1; simp [s7, s8, s9, s3, hkn2, hxk, ints, hx2.1, hx3])); with_reducible refine evp ?_)
       | ((with_reducible refine apn ?na ?_); (case na => simp [appNames, ints, intss] <;> first | kernel_rfl | (refine ⟨?_, ?_⟩ <;> kernel_rfl)))
       | fail)
      conv => arg 1; simp [s3]
      have ne : ¬ T + 1 = h.tick + 1 + 1 := by omega
      have hq : ∀ j, (h.tick + 1 + 1, j, 0) ∉ nms _ _ := fun j e => by have := x.lt _ e; simp at this; omega
      rw [appendA_snoc (s := 1) (l := vs.map fun v => [v]) (e := [.sl (h.tick + 1 + 1, 2, 0) 0 0 n]) (by kernel_rfl) ?hr (by simp [hvl]) ?hk rfl (by omega) ?hm]
      case hr => simp [b.1, ne]
      case hk => simp
      case hm => simp; omega
      refine ev2_some ?_
      repeat' (first
       | with_reducible refine stp ?_
       | with_reducible refine k_blk_o rfl ?_
       | with_reducible refine k_seq_n ?_
       | ((try (conv => arg 1; simp [s9, hkw])); with_reducible refine evp ?_)
       | ((with_reducible refine apn ?na ?_); (case na => simp [appNames, ints, intss] <;> first | kernel_rfl | (refine ⟨?_, ?_⟩ <;> kernel_rfl)))
       | fail)
      have ez : List.replicate n [AV.int IntKind.i64 0] = cl1 (zeros n) := by simp [cl1, zeros]
      have c1 := (x.next.next.next.box_one (T := h.tick + 1 + 1) (i := 2) (r := ⟨0, 1, List.replicate n [AV.int IntKind.i64 0]⟩) (fun n hn e => by have := x.lt n hn; omega) (by simp)).close_new (ver := 0) (xs := zeros n) (by rw [ez])
      rw [show (zeros n).length = n by simp [zeros]] at c1
      have c2 := c1.agg_snoc (fun b => rfl)
      have c3 := c2.put_junk (n := (h.tick + 1 + 1, 3, 0)) (r := ⟨0, 1, [[.sl (h.tick + 1 + 1, 2, 0) 0 0 n]]⟩) (nin_agg (hq 3) (by simp))
      have c4 := c3.box_set (r' := ⟨k + 1, 1, vs.map (fun v => [v]) ++ [[.sl (h.tick + 1 + 1, 2, 0) 0 0 n]]⟩)
      refine k_lp_n (k + 1) (by omega) ⟨by omega, by simp [s7], by simp [s8], by simp, by simp, vs ++ [.sl (h.tick + 1 + 1, 2, 0) 0 0 n], ns ++ [(h.tick + 1 + 1, 2, 0)], by simp [hvl], ?_⟩
      rw [List.map_append, List.map_cons, List.map_nil]
      have hm : (mem0 xs)[k]? = some (zeros n) := by simp [mem0, hxk]
      have e1 : ∀ b, ((mem0 xs).take (k + 1)).map (ints b) = ((mem0 xs).take k).map (ints b) ++ [ints b (zeros n)] := fun b => by rw [List.take_add_one, hm, Option.toList_some, List.map_append]; rfl
      simp only [e1]
      exact Cx.to c4
    · have hke : k = xs.length := by omega
      have hkn2 : ¬ (k : Int) < xs.length := by omega
      subst hke
      repeat' (first
       | with_reducible refine stp ?_
       | with_reducible refine k_blk_o rfl ?_
       | with_reducible refine k_seq_n ?_
       | ((try (conv => arg 1; simp [s7, s8, s9, s3, hkn2])); with_reducible refine evp ?_)
       | ((with_reducible refine apn ?na ?_); (case na => simp [appNames, ints, intss] <;> first | kernel_rfl | (refine ⟨?_, ?_⟩ <;> kernel_rfl)))
       | fail)
      have e1 : (mem0 xs).take xs.length = mem0 xs := by rw [List.take_of_length_le (by simp [mem0])]
      rw [e1] at x
      have x' := Cx.close_intss (sp := []) (xs := mem0 xs) (by simpa using x) (by simp) (fun i e j x he => by simp at he)
      have hz : (mem0 xs).length = xs.length := by simp [mem0]
      rw [hz] at x'
      exact ⟨_, x'.o0, x'.nodup, fun n hn => Nat.lt_of_lt_of_le (x'.lts n hn) (by simp; omega)⟩
end Go.Proofs.Ytfgaoojogididaa.AM

/-
  The spec's run at first.
-/
set_option linter.unusedVariables false
set_option linter.unusedSimpArgs false
set_option maxRecDepth 4000
namespace Go.Proofs.Ytfgaoojogididaa.AM
open Go.RowKit

private def MW45 : FuncId → Mode := fun f => if f = 62 then .fresh else .tree

theorem own_src {rows : Nm → Option Row} {w : AV} {xs : List Int} {ns : List Nm} (o : Own rows true [w] [ints true xs] ns) : srcElems rows w = some (xs.map fun n => [.int .i64 n]) := by
  rcases own_ints_inv o with ⟨rfl, _, hx⟩ | ⟨n, ver, pre, sp, rfl, rfl, hr, h1, h2, h3, h4⟩
  · rcases hx with ⟨rfl, hns⟩ | ⟨n, ver, off, rfl, hns⟩
    · rfl
    · generalize ht : ints true [] = t at o
      generalize hv : AV.sl n ver off 0 = v at o
      cases o with
      | int => cases hv
      | bool => cases hv
      | str => cases hv
      | nilsl => cases hv
      | sl n' ver' len s r ts' g1 g2 g3 g4 g5 g6 g7 g8 g9 g10 => injection hv with e1 e2 e3 e4; subst e1 e2 e3 e4; simp [srcElems, g1, g2]
      | slo n' ver' pre sp zs g1 =>
        injection hv with e1 e2 e3 e4
        have hz : zs = [] := by cases zs with | nil => rfl | cons => simp at e4
        subst e1 e2 e3 hz
        simp [srcElems, g1]
  · simp [srcElems, hr]

/-- Onto nothing: a new row. -/
theorem appendA_nil1 {P : Program} {t : TypeId} {n k : Nm} {vk s : Nat} {h : Hp} {e : List AV} (h0 : ((telem P t).bind fun e => (tsz P e).bind fun s => (tby P e).bind fun bb => (tzero P e).bind fun z => some (s, decide (0 < s ∧ bb ≤ 32768 ∧ z.length = s))) = some (s, true))
    (hk : h.rows k = some ⟨vk, s, [e]⟩) (he : e.length = s) :
    appendA P t .nilsl (.sl k vk 0 1) h n = some (.sl n 0 0 1, h.put n ⟨0, s, [e]⟩) := by
  simp only [Option.bind_eq_some_iff] at h0
  obtain ⟨e', he', s', hs, bb, hb, z, hz, hd⟩ := h0
  simp only [Option.some.injEq, Prod.mk.injEq, decide_eq_true_eq] at hd
  obtain ⟨e1, hd1, hd2, hd3⟩ := hd
  rw [e1] at hs hd1 hd3
  unfold appendA
  have hsrc : srcElems h.rows (.sl k vk 0 1) = some [e] := by simp [srcElems, hk]
  rw [he', hsrc]
  simp only [hs, hb, hz]
  simp [he, hd1, hd2, hd3]

def startC (S : List Int) (vars : Nat) (A I : List Int) : Cpu := ⟨0, zeros 16, A ++ zeros (vars - A.length), mem0 S, I, [], 0, false, 0⟩

set_option maxHeartbeats 1000000 in
theorem l03Start {h : Hp} {bs : Bx} {os : Ox} (x : Cx h bs os) (S A I : List Int) (vars : Nat) (fu : Int) (ha : A.length ≤ vars) (hv : vars ≤ 1000) (hl : S.length ≤ 4) (hS : ∀ n ∈ S, 0 ≤ n ∧ n ≤ 1000) :
    Sound Try.prog 61 [ints true S, .int .i64 vars, ints true A, ints true I, .int .i64 fu] h fun r h' => ∃ nr w2 w3 n2 n3, r = .ptr nr 0 0 0 ∧ Cx h' ((nr, runOf fu (startC S vars A I) (ints true I) w2 w3 .nilsl) :: bs) ((w2, (fun b => ints b (startC S vars A I).Slots), n2) :: (w3, (fun b => intss b (startC S vars A I).Mem), n3) :: os) := by
  have hw : IntKind.i64.wrap ((vars : Int) - A.length) = ((vars - A.length : Nat) : Int) := by rw [wrap_id (by omega) (by omega)]; omega
  have hA : A.length ≤ 4294967296 := by omega
  refine enter mixed MW45 Try.func61 rfl (by kernel_rfl) rfl ?_
  repeat' (first
   | with_reducible refine stp ?_
   | with_reducible refine k_blk_o rfl ?_
   | with_reducible refine k_seq_n ?_
   | ((try (conv => arg 1; simp [hw, hA])); with_reducible refine evp ?_)
   | ((with_reducible refine apn ?na ?_); (case na => simp [appNames, ints, intss] <;> first | kernel_rfl | (refine ⟨?_, ?_⟩ <;> kernel_rfl)))
   | fail)
  refine st_freshw rfl (l03Zeros ((vars - A.length : Nat) : Int) (by omega)) (.cons (.int _ _) .nil) ?_
  intro v1 h1 n1 o1 e1 f1 p1 t1
  have x1 := ((x.next.next.box_one (T := h.tick + 1) (i := 0) (r := ⟨0, 1, []⟩) (fun n hn e => by have := x.lt n hn; omega) (by simp)).box_set (r' := ⟨if A = [] then 0 else 1, 1, A.map fun n => [.int .i64 n]⟩)).fresh o1 e1 f1 p1 t1
  have q1 := own_src (ownV_ints (o1 true))
  have z1 : h.tick + 1 < h1.tick := x1.lt (h.tick + 1, 0, 0) (by simp [nms])
  rw [show ((vars - A.length : Nat) : Int).toNat = vars - A.length by omega] at q1 x1
  repeat' (first
   | with_reducible refine stp ?_
   | with_reducible refine k_blk_o rfl ?_
   | with_reducible refine k_seq_n ?_
   | ((try (conv => arg 1; simp [hw])); with_reducible refine evp ?_)
   | ((with_reducible refine apn ?na ?_); (case na => simp [appNames, ints, intss] <;> first | kernel_rfl | (refine ⟨?_, ?_⟩ <;> kernel_rfl)))
   | fail)
  conv => arg 1; simp
  rw [appendA_ext (s := 1) (l := A.map fun n => [.int .i64 n]) _ (by kernel_rfl) ?hr (by simp) ?hx ?he ?hl ?hm]
  case hx => exact q1
  case hr => simp [x1.b0]
  case he => simp
  case hl => simp [zeros]; omega
  case hm => simp; omega
  refine ev2_some ?_
  repeat' (first
   | with_reducible refine stp ?_
   | with_reducible refine k_blk_o rfl ?_
   | with_reducible refine k_seq_n ?_
   | ((try (conv => arg 1; simp [hw])); with_reducible refine evp ?_)
   | ((with_reducible refine apn ?na ?_); (case na => simp [appNames, ints, intss] <;> first | kernel_rfl | (refine ⟨?_, ?_⟩ <;> kernel_rfl)))
   | fail)
  have cA : (A ++ zeros (vars - A.length)).map (fun n => [AV.int IntKind.i64 n]) = A.map (fun n => [AV.int IntKind.i64 n]) ++ (zeros (vars - A.length)).map (fun n => [AV.int IntKind.i64 n]) := List.map_append
  have x2 := (x1.drop.box_set (r' := ⟨(if A = [] then 0 else 1) + (if zeros (vars - A.length) = [] then 0 else 1), 1, cl1 (A ++ zeros (vars - A.length))⟩)).box_add (n := (h.tick + 1, 12, 0)) (r := runOf fu (startC S vars A I) (ints true I) (.sl (h.tick + 1, 0, 0) ((if A = [] then 0 else 1) + (if zeros (vars - A.length) = [] then 0 else 1)) 0 (A ++ zeros (vars - A.length)).length) .nilsl .nilsl) (fun e => by
    rcases (show ((h.tick + 1, 12, 0) : Nm) = (h.tick + 1, 0, 0) ∨ ((h.tick + 1, 12, 0) : Nm) ∈ nms bs os by simpa [nms] using e) with e | e
    · simp at e
    · have := x.lt _ e; simp at this; omega) (by simp; omega)
  have x3 := (x2.bperm (List.Perm.swap _ _ _)).close_new rfl
  refine st_loop (fun (k : Nat) σ h' => k ≤ S.length ∧ σ 0 = ints true S ∧ σ 12 = .int .i64 k ∧ σ 11 = .ptr (h.tick + 1, 12, 0) 0 0 0 ∧ ∃ w2 n2, ((k = 0 ∧ Cx h' (((h.tick + 1, 12, 0), runOf fu (startC S vars A I) (ints true I) w2 .nilsl .nilsl) :: bs) ((w2, (fun b => ints b (startC S vars A I).Slots), n2) :: os)) ∨
    (0 < k ∧ ∃ m ver vs ns, vs.length = k ∧ Cx h' (((h.tick + 1, 12, 0), runOf fu (startC S vars A I) (ints true I) w2 (.sl m ver 0 k) .nilsl) :: (m, ⟨ver, 1, vs.map fun v => [v]⟩) :: bs) ((w2, (fun b => ints b (startC S vars A I).Slots), n2) :: (.agg vs, (fun b => .agg (((mem0 S).take k).map (ints b))), ns) :: os)))) (fun k => S.length - k) 0 ?init ?step
  case init =>
    rw [cl1, cA, List.length_append] at x3
    exact ⟨Nat.zero_le _, by simp, by simp, by simp, _, _, .inl ⟨rfl, x3.next⟩⟩
  case step =>
    rintro k σ h' ⟨hk, s0, s12, s11, w2, n2, hx⟩
    have hkw : IntKind.i64.wrap (k + 1) = k + 1 := wrap_id (by omega) (by omega)
    by_cases hkn : k < S.length
    · have hkn2 : (k : Int) < S.length := by omega
      have hxk : S[k]? = some S[k] := by simp
      have hx2 := hS S[k] (List.getElem_mem hkn)
      rcases hx with ⟨rfl, x⟩ | ⟨hk0, m, ver, vs, ns, hvl, x⟩
      · have b := x.bxs
        simp only [Bxs, runOf] at b
        repeat' (first
         | with_reducible refine stp ?_
         | with_reducible refine k_blk_o rfl ?_
         | with_reducible refine k_seq_n ?_
         | ((try (conv => arg 1; simp [s0, s12, s11, hkn2, hkn])); with_reducible refine evp ?_)
         | ((with_reducible refine apn ?na ?_); (case na => simp [appNames, ints, intss] <;> first | kernel_rfl | (refine ⟨?_, ?_⟩ <;> kernel_rfl)))
         | fail)
        repeat (with_reducible first | refine stp ?_ | refine k_seq_n ?_)
        refine st_lz (by kernel_rfl) ?_
        have hF := And.intro s0 (And.intro s12 (And.intro s11 (And.intro hxk (And.intro b hx2.1))))
        repeat' (first
         | with_reducible refine stp ?_
         | with_reducible refine k_blk_o rfl ?_
         | ((try (conv => arg 1; simp [ints, hF])); with_reducible refine evp ?_)
         | ((with_reducible refine apn ?na ?_); (case na => simp [appNames, ints, intss] <;> first | kernel_rfl | (refine ⟨?_, ?_⟩ <;> kernel_rfl)))
          | ((with_reducible refine la_id ?_); refine la_end rfl ?_; (repeat (first | refine pl_nil ?_ | refine pl_cons ?_)))
          | ((with_reducible refine la_id ?_); refine la_pick ?_; (conv => arg 1; whnf); (repeat ((fail_if_success (first | ((refine la_q0 rfl ?_); (try (conv => arg 1; simp [ints, hF])); with_reducible refine evp ?_) | ((refine la_n rfl rfl ?_); (try (conv => arg 1; simp [ints, hF])); with_reducible refine evp ?_) | ((refine la_q2 rfl (by decide +kernel) ?_); (repeat (first | refine bk_nil ?_ | refine bk_t (by decide +kernel) ?_ | refine bk_f (by decide +kernel) ?_)); (try (conv => arg 1; simp [ints, hF])); with_reducible refine evp ?_) | ((refine la_q1 rfl (by decide +kernel) ?_); (try (conv => arg 1; simp [ints, hF])); with_reducible refine evp ?_) | ((refine la_g0 rfl ?_); (try (conv => arg 1; simp [ints, hF])); with_reducible refine evp ?_; (with_reducible refine evp ?_); try ((try (conv => arg 1; simp [ints, hF])); with_reducible refine evp ?_)))); (refine la_there ?_); (conv => arg 1; whnf))); first | ((refine la_q0 rfl ?_); (try (conv => arg 1; simp [ints, hF])); with_reducible refine evp ?_) | ((refine la_n rfl rfl ?_); (try (conv => arg 1; simp [ints, hF])); with_reducible refine evp ?_) | ((refine la_q2 rfl (by decide +kernel) ?_); (repeat (first | refine bk_nil ?_ | refine bk_t (by decide +kernel) ?_ | refine bk_f (by decide +kernel) ?_)); (try (conv => arg 1; simp [ints, hF])); with_reducible refine evp ?_) | ((refine la_q1 rfl (by decide +kernel) ?_); (try (conv => arg 1; simp [ints, hF])); with_reducible refine evp ?_) | ((refine la_g0 rfl ?_); (try (conv => arg 1; simp [ints, hF])); with_reducible refine evp ?_; (with_reducible refine evp ?_); try ((try (conv => arg 1; simp [ints, hF])); with_reducible refine evp ?_)))
          | ((with_reducible refine la_id ?_); refine la_all rfl ?_)
          | ((with_reducible refine all_id ?_); (conv => arg 1; whnf); first | exact all_nil | refine all_cons ?_ ?_)
          | (refine la_op rfl (by first | exact frm_s (by decide +kernel) | exact frm_a (by repeat' (first | exact fa_nil | refine fa_cons (by decide +kernel) ?_))) (by intro hq; first | exact trivial | (cases hq; done) | simp [appT, ints, hF]) ?_; (repeat (first | refine bk_nil ?_ | refine bk_t (by decide +kernel) ?_ | refine bk_f (by decide +kernel) ?_)))
         | fail)
        refine st_freshw rfl (l03Zeros S[0] (by omega)) (.cons (.int _ _) .nil) ?_
        intro v2 h2 m2 o2 e2 f2 p2 t2
        have y := x.next.next.fresh o2 e2 f2 p2 t2
        have b2 := y.bxs
        simp only [Bxs, runOf] at b2
        have q2 := own_one (ownV_ints (o2 true))
        have z2 : h'.next.tick < h2.tick := by simp at t2 ⊢; omega
        have hF := And.intro s0 (And.intro s12 (And.intro s11 (And.intro b2 (And.intro q2.1 (And.intro q2.2.1 (And.intro q2.2.2 z2))))))
        repeat' (first
         | with_reducible refine stp ?_
         | with_reducible refine k_blk_o rfl ?_
         | ((try (conv => arg 1; simp [hF])); with_reducible refine evp ?_)
         | ((with_reducible refine apn ?na ?_); (case na => simp [appNames, ints, intss] <;> first | kernel_rfl | (refine ⟨?_, ?_⟩ <;> kernel_rfl)))
          | ((with_reducible refine la_id ?_); refine la_end rfl ?_; (repeat (first | refine pl_nil ?_ | refine pl_cons ?_)))
          | ((with_reducible refine la_id ?_); refine la_pick ?_; (conv => arg 1; whnf); (repeat ((fail_if_success (first | ((refine la_q0 rfl ?_); (try (conv => arg 1; simp [hF])); with_reducible refine evp ?_) | ((refine la_n rfl rfl ?_); (try (conv => arg 1; simp [hF])); with_reducible refine evp ?_) | ((refine la_q2 rfl (by decide +kernel) ?_); (repeat (first | refine bk_nil ?_ | refine bk_t (by decide +kernel) ?_ | refine bk_f (by decide +kernel) ?_)); (try (conv => arg 1; simp [hF])); with_reducible refine evp ?_) | ((refine la_q1 rfl (by decide +kernel) ?_); (try (conv => arg 1; simp [hF])); with_reducible refine evp ?_) | ((refine la_g0 rfl ?_); (try (conv => arg 1; simp [hF])); with_reducible refine evp ?_; (with_reducible refine evp ?_); try ((try (conv => arg 1; simp [hF])); with_reducible refine evp ?_)))); (refine la_there ?_); (conv => arg 1; whnf))); first | ((refine la_q0 rfl ?_); (try (conv => arg 1; simp [hF])); with_reducible refine evp ?_) | ((refine la_n rfl rfl ?_); (try (conv => arg 1; simp [hF])); with_reducible refine evp ?_) | ((refine la_q2 rfl (by decide +kernel) ?_); (repeat (first | refine bk_nil ?_ | refine bk_t (by decide +kernel) ?_ | refine bk_f (by decide +kernel) ?_)); (try (conv => arg 1; simp [hF])); with_reducible refine evp ?_) | ((refine la_q1 rfl (by decide +kernel) ?_); (try (conv => arg 1; simp [hF])); with_reducible refine evp ?_) | ((refine la_g0 rfl ?_); (try (conv => arg 1; simp [hF])); with_reducible refine evp ?_; (with_reducible refine evp ?_); try ((try (conv => arg 1; simp [hF])); with_reducible refine evp ?_)))
          | ((with_reducible refine la_id ?_); refine la_all rfl ?_)
          | ((with_reducible refine all_id ?_); (conv => arg 1; whnf); first | exact all_nil | refine all_cons ?_ ?_)
          | (refine la_op rfl (by first | exact frm_s (by decide +kernel) | exact frm_a (by repeat' (first | exact fa_nil | refine fa_cons (by decide +kernel) ?_))) (by intro hq; first | exact trivial | (cases hq; done) | simp [appT, hF]) ?_; (repeat (first | refine bk_nil ?_ | refine bk_t (by decide +kernel) ?_ | refine bk_f (by decide +kernel) ?_)))
         | fail)
        conv => arg 1; simp
        rw [appendA_nil1 (s := 1) (e := [v2]) (by kernel_rfl) ?hk rfl]
        case hk => simp
        refine ev2_some ?_
        have hF := And.intro s0 (And.intro s12 (And.intro s11 (And.intro b2 (And.intro q2.1 (And.intro q2.2.1 (And.intro q2.2.2 z2))))))
        repeat' (first
         | with_reducible refine stp ?_
         | with_reducible refine k_blk_o rfl ?_
         | ((try (conv => arg 1; simp [hF])); with_reducible refine evp ?_)
         | ((with_reducible refine apn ?na ?_); (case na => simp [appNames, ints, intss] <;> first | kernel_rfl | (refine ⟨?_, ?_⟩ <;> kernel_rfl)))
          | ((with_reducible refine la_id ?_); refine la_end rfl ?_; (repeat (first | refine pl_nil ?_ | refine pl_cons ?_)))
          | ((with_reducible refine la_id ?_); refine la_pick ?_; (conv => arg 1; whnf); (repeat ((fail_if_success (first | ((refine la_q0 rfl ?_); (try (conv => arg 1; simp [hF])); with_reducible refine evp ?_) | ((refine la_n rfl rfl ?_); (try (conv => arg 1; simp [hF])); with_reducible refine evp ?_) | ((refine la_q2 rfl (by decide +kernel) ?_); (repeat (first | refine bk_nil ?_ | refine bk_t (by decide +kernel) ?_ | refine bk_f (by decide +kernel) ?_)); (try (conv => arg 1; simp [hF])); with_reducible refine evp ?_) | ((refine la_q1 rfl (by decide +kernel) ?_); (try (conv => arg 1; simp [hF])); with_reducible refine evp ?_) | ((refine la_g0 rfl ?_); (try (conv => arg 1; simp [hF])); with_reducible refine evp ?_; (with_reducible refine evp ?_); try ((try (conv => arg 1; simp [hF])); with_reducible refine evp ?_)))); (refine la_there ?_); (conv => arg 1; whnf))); first | ((refine la_q0 rfl ?_); (try (conv => arg 1; simp [hF])); with_reducible refine evp ?_) | ((refine la_n rfl rfl ?_); (try (conv => arg 1; simp [hF])); with_reducible refine evp ?_) | ((refine la_q2 rfl (by decide +kernel) ?_); (repeat (first | refine bk_nil ?_ | refine bk_t (by decide +kernel) ?_ | refine bk_f (by decide +kernel) ?_)); (try (conv => arg 1; simp [hF])); with_reducible refine evp ?_) | ((refine la_q1 rfl (by decide +kernel) ?_); (try (conv => arg 1; simp [hF])); with_reducible refine evp ?_) | ((refine la_g0 rfl ?_); (try (conv => arg 1; simp [hF])); with_reducible refine evp ?_; (with_reducible refine evp ?_); try ((try (conv => arg 1; simp [hF])); with_reducible refine evp ?_)))
          | ((with_reducible refine la_id ?_); refine la_all rfl ?_)
          | ((with_reducible refine all_id ?_); (conv => arg 1; whnf); first | exact all_nil | refine all_cons ?_ ?_)
          | (refine la_op rfl (by first | exact frm_s (by decide +kernel) | exact frm_a (by repeat' (first | exact fa_nil | refine fa_cons (by decide +kernel) ?_))) (by intro hq; first | exact trivial | (cases hq; done) | simp [appT, hF]) ?_; (repeat (first | refine bk_nil ?_ | refine bk_t (by decide +kernel) ?_ | refine bk_f (by decide +kernel) ?_)))
         | fail)
        have hkw0 : IntKind.i64.wrap 1 = 1 := by decide
        repeat' (first
         | with_reducible refine stp ?_
         | with_reducible refine k_blk_o rfl ?_
         | with_reducible refine k_seq_n ?_
         | ((try (conv => arg 1; simp [s0, s12, s11, hkw0])); with_reducible refine evp ?_)
         | ((with_reducible refine apn ?na ?_); (case na => simp [appNames, ints, intss] <;> first | kernel_rfl | (refine ⟨?_, ?_⟩ <;> kernel_rfl)))
         | fail)
        have z := Off.fresh (h := h'.next.next) (h' := h2) (v := v2) (t := fun b => ints b (zeros S[0].toNat)) x.next.off f2 (by simp)
        have no10 : (h'.tick + 1, 10, 0) ∉ nms _ _ := fun e => z _ e (by simp)
        have c1 := (y.put_junk (r := ⟨0, 1, [[v2]]⟩) no10).box_one (T := h'.tick + 1) (i := 11) (r := ⟨0, 1, [[v2]]⟩) z z2
        have c2 := ((c1.agg_nil.perm (List.Perm.swap _ _ _)).agg_snoc (fun b => rfl)).perm (List.Perm.swap _ _ _)
        have c3 := (c2.bperm (List.Perm.swap _ _ _)).box_set (r' := runOf fu (startC S vars A I) (ints true I) w2 (.sl (h'.tick + 1, 11, 0) 0 0 1) .nilsl)
        refine k_lp_n 1 (by omega) ⟨by omega, by simp [s0], by simp, by simp [s11], w2, n2, .inr ⟨by omega, (h'.tick + 1, 11, 0), 0, [v2], [] ++ m2, rfl, ?_⟩⟩
        have hm : (mem0 S)[0]? = some (zeros S[0].toNat) := by simp [mem0, hxk]
        have e1 : ∀ b, ((mem0 S).take 1).map (ints b) = [] ++ [ints b (zeros S[0].toNat)] := fun b => by rw [show (1 : Nat) = 0 + 1 from rfl, List.take_add_one, hm]; rfl
        simp only [e1]
        exact c3.next
      · have b := x.bxs
        simp only [Bxs, runOf] at b
        have lm : ¬ m.1 = h'.tick + 1 := by omega
        repeat' (first
         | with_reducible refine stp ?_
         | with_reducible refine k_blk_o rfl ?_
         | with_reducible refine k_seq_n ?_
         | ((try (conv => arg 1; simp [s0, s12, s11, hkn2, hkn])); with_reducible refine evp ?_)
         | ((with_reducible refine apn ?na ?_); (case na => simp [appNames, ints, intss] <;> first | kernel_rfl | (refine ⟨?_, ?_⟩ <;> kernel_rfl)))
         | fail)
        repeat (with_reducible first | refine stp ?_ | refine k_seq_n ?_)
        refine st_lz (by kernel_rfl) ?_
        have hF := And.intro s0 (And.intro s12 (And.intro s11 (And.intro hxk (And.intro b (And.intro hx2.1 lm)))))
        repeat' (first
         | with_reducible refine stp ?_
         | with_reducible refine k_blk_o rfl ?_
         | ((try (conv => arg 1; simp [ints, hF])); with_reducible refine evp ?_)
         | ((with_reducible refine apn ?na ?_); (case na => simp [appNames, ints, intss] <;> first | kernel_rfl | (refine ⟨?_, ?_⟩ <;> kernel_rfl)))
          | ((with_reducible refine la_id ?_); refine la_end rfl ?_; (repeat (first | refine pl_nil ?_ | refine pl_cons ?_)))
          | ((with_reducible refine la_id ?_); refine la_pick ?_; (conv => arg 1; whnf); (repeat ((fail_if_success (first | ((refine la_q0 rfl ?_); (try (conv => arg 1; simp [ints, hF])); with_reducible refine evp ?_) | ((refine la_n rfl rfl ?_); (try (conv => arg 1; simp [ints, hF])); with_reducible refine evp ?_) | ((refine la_q2 rfl (by decide +kernel) ?_); (repeat (first | refine bk_nil ?_ | refine bk_t (by decide +kernel) ?_ | refine bk_f (by decide +kernel) ?_)); (try (conv => arg 1; simp [ints, hF])); with_reducible refine evp ?_) | ((refine la_q1 rfl (by decide +kernel) ?_); (try (conv => arg 1; simp [ints, hF])); with_reducible refine evp ?_) | ((refine la_g0 rfl ?_); (try (conv => arg 1; simp [ints, hF])); with_reducible refine evp ?_; (with_reducible refine evp ?_); try ((try (conv => arg 1; simp [ints, hF])); with_reducible refine evp ?_)))); (refine la_there ?_); (conv => arg 1; whnf))); first | ((refine la_q0 rfl ?_); (try (conv => arg 1; simp [ints, hF])); with_reducible refine evp ?_) | ((refine la_n rfl rfl ?_); (try (conv => arg 1; simp [ints, hF])); with_reducible refine evp ?_) | ((refine la_q2 rfl (by decide +kernel) ?_); (repeat (first | refine bk_nil ?_ | refine bk_t (by decide +kernel) ?_ | refine bk_f (by decide +kernel) ?_)); (try (conv => arg 1; simp [ints, hF])); with_reducible refine evp ?_) | ((refine la_q1 rfl (by decide +kernel) ?_); (try (conv => arg 1; simp [ints, hF])); with_reducible refine evp ?_) | ((refine la_g0 rfl ?_); (try (conv => arg 1; simp [ints, hF])); with_reducible refine evp ?_; (with_reducible refine evp ?_); try ((try (conv => arg 1; simp [ints, hF])); with_reducible refine evp ?_)))
          | ((with_reducible refine la_id ?_); refine la_all rfl ?_)
          | ((with_reducible refine all_id ?_); (conv => arg 1; whnf); first | exact all_nil | refine all_cons ?_ ?_)
          | (refine la_op rfl (by first | exact frm_s (by decide +kernel) | exact frm_a (by repeat' (first | exact fa_nil | refine fa_cons (by decide +kernel) ?_))) (by intro hq; first | exact trivial | (cases hq; done) | simp [appT, ints, hF]) ?_; (repeat (first | refine bk_nil ?_ | refine bk_t (by decide +kernel) ?_ | refine bk_f (by decide +kernel) ?_)))
         | fail)
        refine st_freshw rfl (l03Zeros S[k] (by omega)) (.cons (.int _ _) .nil) ?_
        intro v2 h2 m2 o2 e2 f2 p2 t2
        have y := x.next.next.fresh o2 e2 f2 p2 t2
        have b2 := y.bxs
        simp only [Bxs, runOf] at b2
        have q2 := own_one (ownV_ints (o2 true))
        have z2 : h'.next.tick < h2.tick := by simp at t2 ⊢; omega
        have nm : ¬ m = (h'.tick + 1, 10, 0) := fun e => lm (by rw [e])
        have hF := And.intro s0 (And.intro s12 (And.intro s11 (And.intro b2 (And.intro q2.1 (And.intro q2.2.1 (And.intro q2.2.2 (And.intro z2 lm)))))))
        repeat' (first
         | with_reducible refine stp ?_
         | with_reducible refine k_blk_o rfl ?_
         | ((try (conv => arg 1; simp [hF])); with_reducible refine evp ?_)
         | ((with_reducible refine apn ?na ?_); (case na => simp [appNames, ints, intss] <;> first | kernel_rfl | (refine ⟨?_, ?_⟩ <;> kernel_rfl)))
          | ((with_reducible refine la_id ?_); refine la_end rfl ?_; (repeat (first | refine pl_nil ?_ | refine pl_cons ?_)))
          | ((with_reducible refine la_id ?_); refine la_pick ?_; (conv => arg 1; whnf); (repeat ((fail_if_success (first | ((refine la_q0 rfl ?_); (try (conv => arg 1; simp [hF])); with_reducible refine evp ?_) | ((refine la_n rfl rfl ?_); (try (conv => arg 1; simp [hF])); with_reducible refine evp ?_) | ((refine la_q2 rfl (by decide +kernel) ?_); (repeat (first | refine bk_nil ?_ | refine bk_t (by decide +kernel) ?_ | refine bk_f (by decide +kernel) ?_)); (try (conv => arg 1; simp [hF])); with_reducible refine evp ?_) | ((refine la_q1 rfl (by decide +kernel) ?_); (try (conv => arg 1; simp [hF])); with_reducible refine evp ?_) | ((refine la_g0 rfl ?_); (try (conv => arg 1; simp [hF])); with_reducible refine evp ?_; (with_reducible refine evp ?_); try ((try (conv => arg 1; simp [hF])); with_reducible refine evp ?_)))); (refine la_there ?_); (conv => arg 1; whnf))); first | ((refine la_q0 rfl ?_); (try (conv => arg 1; simp [hF])); with_reducible refine evp ?_) | ((refine la_n rfl rfl ?_); (try (conv => arg 1; simp [hF])); with_reducible refine evp ?_) | ((refine la_q2 rfl (by decide +kernel) ?_); (repeat (first | refine bk_nil ?_ | refine bk_t (by decide +kernel) ?_ | refine bk_f (by decide +kernel) ?_)); (try (conv => arg 1; simp [hF])); with_reducible refine evp ?_) | ((refine la_q1 rfl (by decide +kernel) ?_); (try (conv => arg 1; simp [hF])); with_reducible refine evp ?_) | ((refine la_g0 rfl ?_); (try (conv => arg 1; simp [hF])); with_reducible refine evp ?_; (with_reducible refine evp ?_); try ((try (conv => arg 1; simp [hF])); with_reducible refine evp ?_)))
          | ((with_reducible refine la_id ?_); refine la_all rfl ?_)
          | ((with_reducible refine all_id ?_); (conv => arg 1; whnf); first | exact all_nil | refine all_cons ?_ ?_)
          | (refine la_op rfl (by first | exact frm_s (by decide +kernel) | exact frm_a (by repeat' (first | exact fa_nil | refine fa_cons (by decide +kernel) ?_))) (by intro hq; first | exact trivial | (cases hq; done) | simp [appT, hF]) ?_; (repeat (first | refine bk_nil ?_ | refine bk_t (by decide +kernel) ?_ | refine bk_f (by decide +kernel) ?_)))
         | fail)
        conv => arg 1; simp
        rw [appendA_snoc (s := 1) (l := vs.map fun v => [v]) (e := [v2]) (by kernel_rfl) ?hr (by simp [hvl]) ?hk rfl (by omega) ?hm]
        case hr => simp [b2, nm]
        case hk => simp
        case hm => simp; omega
        refine ev2_some ?_
        have nn : ¬ ((h.tick + 1, 12, 0) : Nm) = m := fun e => by
          have := y.nd
          simp [nms, e] at this
        have hF := And.intro s0 (And.intro s12 (And.intro s11 (And.intro b2 (And.intro q2.1 (And.intro q2.2.1 (And.intro q2.2.2 (And.intro z2 (And.intro lm nn))))))))
        repeat' (first
         | with_reducible refine stp ?_
         | with_reducible refine k_blk_o rfl ?_
         | ((try (conv => arg 1; simp [hF])); with_reducible refine evp ?_)
         | ((with_reducible refine apn ?na ?_); (case na => simp [appNames, ints, intss] <;> first | kernel_rfl | (refine ⟨?_, ?_⟩ <;> kernel_rfl)))
          | ((with_reducible refine la_id ?_); refine la_end rfl ?_; (repeat (first | refine pl_nil ?_ | refine pl_cons ?_)))
          | ((with_reducible refine la_id ?_); refine la_pick ?_; (conv => arg 1; whnf); (repeat ((fail_if_success (first | ((refine la_q0 rfl ?_); (try (conv => arg 1; simp [hF])); with_reducible refine evp ?_) | ((refine la_n rfl rfl ?_); (try (conv => arg 1; simp [hF])); with_reducible refine evp ?_) | ((refine la_q2 rfl (by decide +kernel) ?_); (repeat (first | refine bk_nil ?_ | refine bk_t (by decide +kernel) ?_ | refine bk_f (by decide +kernel) ?_)); (try (conv => arg 1; simp [hF])); with_reducible refine evp ?_) | ((refine la_q1 rfl (by decide +kernel) ?_); (try (conv => arg 1; simp [hF])); with_reducible refine evp ?_) | ((refine la_g0 rfl ?_); (try (conv => arg 1; simp [hF])); with_reducible refine evp ?_; (with_reducible refine evp ?_); try ((try (conv => arg 1; simp [hF])); with_reducible refine evp ?_)))); (refine la_there ?_); (conv => arg 1; whnf))); first | ((refine la_q0 rfl ?_); (try (conv => arg 1; simp [hF])); with_reducible refine evp ?_) | ((refine la_n rfl rfl ?_); (try (conv => arg 1; simp [hF])); with_reducible refine evp ?_) | ((refine la_q2 rfl (by decide +kernel) ?_); (repeat (first | refine bk_nil ?_ | refine bk_t (by decide +kernel) ?_ | refine bk_f (by decide +kernel) ?_)); (try (conv => arg 1; simp [hF])); with_reducible refine evp ?_) | ((refine la_q1 rfl (by decide +kernel) ?_); (try (conv => arg 1; simp [hF])); with_reducible refine evp ?_) | ((refine la_g0 rfl ?_); (try (conv => arg 1; simp [hF])); with_reducible refine evp ?_; (with_reducible refine evp ?_); try ((try (conv => arg 1; simp [hF])); with_reducible refine evp ?_)))
          | ((with_reducible refine la_id ?_); refine la_all rfl ?_)
          | ((with_reducible refine all_id ?_); (conv => arg 1; whnf); first | exact all_nil | refine all_cons ?_ ?_)
          | (refine la_op rfl (by first | exact frm_s (by decide +kernel) | exact frm_a (by repeat' (first | exact fa_nil | refine fa_cons (by decide +kernel) ?_))) (by intro hq; first | exact trivial | (cases hq; done) | simp [appT, hF]) ?_; (repeat (first | refine bk_nil ?_ | refine bk_t (by decide +kernel) ?_ | refine bk_f (by decide +kernel) ?_)))
         | fail)
        repeat' (first
         | with_reducible refine stp ?_
         | with_reducible refine k_blk_o rfl ?_
         | with_reducible refine k_seq_n ?_
         | ((try (conv => arg 1; simp [s0, s12, s11, hkw])); with_reducible refine evp ?_)
         | ((with_reducible refine apn ?na ?_); (case na => simp [appNames, ints, intss] <;> first | kernel_rfl | (refine ⟨?_, ?_⟩ <;> kernel_rfl)))
         | fail)
        have z := Off.fresh (h := h'.next.next) (h' := h2) (v := v2) (t := fun b => ints b (zeros S[k].toNat)) x.next.off f2 (by simp)
        have no10 : (h'.tick + 1, 10, 0) ∉ nms _ _ := fun e => z _ e (by simp)
        have c1 := ((y.put_junk (r := ⟨0, 1, [[v2]]⟩) no10).bperm (List.Perm.swap _ _ _)).box_set (r' := ⟨ver + 1, 1, vs.map (fun v => [v]) ++ [[v2]]⟩)
        have c2 := ((c1.perm (.cons _ (.swap _ _ _))).agg_snoc (fun b => rfl)).perm (List.Perm.swap _ _ _)
        have c3 := (c2.bperm (List.Perm.swap _ _ _)).box_set (r' := runOf fu (startC S vars A I) (ints true I) w2 (.sl m (ver + 1) 0 (k + 1)) .nilsl)
        refine k_lp_n (k + 1) (by omega) ⟨by omega, by simp [s0], by simp, by simp [s11], w2, n2, .inr ⟨by omega, m, ver + 1, vs ++ [v2], ns ++ m2, by simp [hvl], ?_⟩⟩
        have hm : (mem0 S)[k]? = some (zeros S[k].toNat) := by simp [mem0, hxk]
        have e1 : ∀ b, ((mem0 S).take (k + 1)).map (ints b) = ((mem0 S).take k).map (ints b) ++ [ints b (zeros S[k].toNat)] := fun b => by rw [List.take_add_one, hm, Option.toList_some, List.map_append]; rfl
        simp only [e1]
        rw [List.map_append, List.map_cons, List.map_nil]
        exact c3.next
    · have hke : k = S.length := by omega
      have hkn2 : ¬ (k : Int) < S.length := by omega
      subst hke
      have e1 : (mem0 S).take S.length = mem0 S := by rw [List.take_of_length_le (by simp [mem0])]
      have hz : (mem0 S).length = S.length := by simp [mem0]
      rcases hx with ⟨h0, x⟩ | ⟨hk0, m, ver, vs, ns, hvl, x⟩
      · have hS0 : S = [] := List.eq_nil_of_length_eq_zero h0
        subst hS0
        repeat' (first
         | with_reducible refine stp ?_
         | with_reducible refine k_blk_o rfl ?_
         | with_reducible refine k_seq_n ?_
         | ((try (conv => arg 1; simp [s0, s12, s11, hkn2])); with_reducible refine evp ?_)
         | ((with_reducible refine apn ?na ?_); (case na => simp [appNames, ints, intss] <;> first | kernel_rfl | (refine ⟨?_, ?_⟩ <;> kernel_rfl)))
         | fail)
        have y := (x.next.next.add_own (h' := h'.next.next) (v := .nilsl) (t := fun b => intss b (startC [] vars A I).Mem) (ns := []) (fun b => .one (.nilsl .nil)) (by simp) (fun n hn => by simp at hn) (fun n hn => rfl) (Nat.le_refl _)).perm (List.Perm.swap _ _ _)
        exact ⟨_, w2, _, n2, _, rfl, y⟩
      · rw [e1] at x
        have x' := (Cx.close_intss (sp := []) (xs := mem0 S) (by simpa using (x.bperm (List.Perm.swap _ _ _)).perm (List.Perm.swap _ _ _)) (by simp) (fun i e j x he => by simp at he)).perm (List.Perm.swap _ _ _)
        rw [hz] at x'
        repeat' (first
         | with_reducible refine stp ?_
         | with_reducible refine k_blk_o rfl ?_
         | with_reducible refine k_seq_n ?_
         | ((try (conv => arg 1; simp [s0, s12, s11, hkn2])); with_reducible refine evp ?_)
         | ((with_reducible refine apn ?na ?_); (case na => simp [appNames, ints, intss] <;> first | kernel_rfl | (refine ⟨?_, ?_⟩ <;> kernel_rfl)))
         | fail)
        exact ⟨_, w2, _, n2, _, rfl, x'.next.next⟩
end Go.Proofs.Ytfgaoojogididaa.AM

/-
  The spec's step of a stepper: whole.
-/
set_option linter.unusedVariables false
set_option linter.unusedSimpArgs false
set_option maxRecDepth 4000
namespace Go.Proofs.Ytfgaoojogididaa.AM
open Go.RowKit

private def MW28 : FuncId → Mode := fun f => if f = 79 then .heap else .tree

theorem stepC_elim {c : Cpu} {w : Word} {Q : Cpu → Prop} (hrun : ∀ x : Cpu, x.Code = c.Code → x.Over = c.Over → x.Val = c.Val → Q x) (htrap : Q { c with Code := 1 }) (hret : Q { c with Over := true, Val := rd c.Regs w.R }) : Q (stepC c w) := by
  have ite : ∀ (p : Prop) [Decidable p] (a b : Cpu), Q a → Q b → Q (if p then a else b) := fun p _ a b ha hb => by
    by_cases h : p
    · rw [if_pos h]; exact ha
    · rw [if_neg h]; exact hb
  unfold stepC
  repeat' (first | exact htrap | exact hret | exact hrun _ rfl rfl rfl | refine ite _ _ _ ?_ ?_)
theorem stepC_or (c : Cpu) (w : Word) : (stepC c w).At = c.At ∨ ((stepC c w).Code = c.Code ∧ (stepC c w).Over = c.Over) :=
  stepC_elim (Q := fun x => x.At = c.At ∨ (x.Code = c.Code ∧ x.Over = c.Over)) (fun x h1 h2 _ => .inr ⟨h1, h2⟩) (.inl rfl) (.inl rfl)
theorem stepC_val (c : Cpu) (w : Word) : (stepC c w).Over = true ∨ (stepC c w).Val = c.Val :=
  stepC_elim (Q := fun x => x.Over = true ∨ x.Val = c.Val) (fun x _ _ h => .inr h) (.inr rfl) (.inl rfl)
theorem stepC_stop {c : Cpu} {w : Word} (hc : c.Code = 0) (ho : c.Over = false) (h : (decide ((stepC c w).Code = 0) && !(stepC c w).Over) = false) : (stepC c w).At = c.At := by
  rcases stepC_or c w with e | ⟨e1, e2⟩
  · exact e
  · rw [e1, e2, hc, ho] at h
    simp at h

set_option maxHeartbeats 1000000 in
theorem l15Step {m : Image} {c : Cpu} {i : Nat} {w : Word} (hr : Runs m c) (hv : c.Val = 0) (hat : c.At = (i : Int)) (hw : m.Code[i]? = some w) (hol : c.Out.length + 1 ≤ 4294967296) (hil : c.Input.length ≤ 2 ^ 40) {h : Hp} {l : List AV} {ns : List Nm} {bs : Bx} {os : Ox} (x : Cx h bs ((.agg l, (fun b => .agg (c.cells b)), ns) :: os)) (ok : OutOk h l) :
    Sound Try.prog 68 [.agg (m.cells true), .agg l] h fun v h' => ∃ l' ns', v = .agg l' ∧ Cx h' bs ((.agg l', (fun b => .agg ((stepC c w).cells b)), ns') :: os) ∧ OutOk h' l' := by
  obtain ⟨w1, w2, w3, w4, w5, n1, n2, n3, n4, n5, rfl, y⟩ := x.cpu_split
  have hc := hr.code
  have ho := hr.over
  have q1 := own_one (own_of (y.o0 true) rfl)
  have q2 := own_one (own_of (y.o1 true) rfl)
  have q3 := own_one (own_of (y.o2 true) rfl)
  have q4 := own_one (own_of (y.o3 true) rfl)
  have q5 := own_one (own_of (y.o4 true) rfl)
  have hnil : True := trivial
  refine enter mixed MW28 Try.func68 rfl (by kernel_rfl) rfl ?_
  repeat' (first
   | with_reducible refine stp ?_
   | with_reducible refine k_blk_o rfl ?_
   | ((try (conv => arg 1; simp [Image.cells, q1.1, q2.1, q3.1, q4.1, q5.1])); with_reducible refine evp ?_)
   | ((with_reducible refine apn ?na ?_); (case na => simp [appNames, ints, intss] <;> first | kernel_rfl | (refine ⟨?_, ?_⟩ <;> kernel_rfl)))
   | fail)
  have no : ∀ j, (h.tick, j, 0) ∉ nms bs _ := fun j e => by have := y.lt _ e; simp at this
  have okv : OutV h w5 := fun n ver off len e => ok n ver off len (by rw [e]; rfl)
  refine cx_kf (fun h' => OutV h' w5) (((y.next.box_one (i := 0) y.off (by simp)).box_add (n := (h.tick, 1, 0)) (by rw [nms_box]; simp [no]) (by simp)).box_add (n := (h.tick, 2, 0)) (by rw [nms_box, nms_box]; simp [no]) (by simp)) (okv.keep (OutV.lt (own_of (y.o4 true) rfl) fun n hn => y.lt n (by simp [nms, hn])) fun n hn => by simp [nm_ne hn]) ?_
  intro h1 y1 ok1
  repeat' (first
   | with_reducible refine stp ?_
   | with_reducible refine k_blk_o rfl ?_
   | ((try (conv => arg 1; simp [y1.b1, y1.l1, q1, q2, q3, q4, q5])); with_reducible refine evp ?_)
   | ((with_reducible refine apn ?na ?_); (case na => simp [appNames, ints, intss] <;> first | kernel_rfl | (refine ⟨?_, ?_⟩ <;> kernel_rfl)))
   | fail)
  refine cx_kf (fun h' => OutV h' w5) (y1.next.box_one (i := 9) y1.off (by simp)) (ok1.keep (OutV.lt (own_of (y1.o4 true) rfl) fun n hn => y1.lt n (by simp [nms, hn])) fun n hn => by simp [nm_ne hn]) ?_
  intro h2 y2 ok2
  repeat (with_reducible first | refine stp ?_ | refine k_seq_n ?_)
  refine st_lz (by kernel_rfl) ?_
  have hF := And.intro hat (And.intro y2.b0 (And.intro y2.b1 (And.intro y2.b2 (And.intro y2.b3 (And.intro y2.l1 (And.intro y2.l2 (And.intro y2.l3 hw)))))))
  repeat' (first
   | with_reducible refine stp ?_
   | with_reducible refine k_blk_o rfl ?_
   | ((try (conv => arg 1; simp [Image.cells, words, Word.cells, hF])); with_reducible refine evp ?_)
   | ((with_reducible refine apn ?na ?_); (case na => simp [appNames, ints, intss] <;> first | kernel_rfl | (refine ⟨?_, ?_⟩ <;> kernel_rfl)))
    | ((with_reducible refine la_id ?_); refine la_end rfl ?_; (repeat (first | refine pl_nil ?_ | refine pl_cons ?_)))
    | ((with_reducible refine la_id ?_); refine la_pick ?_; (conv => arg 1; whnf); (repeat ((fail_if_success (first | ((refine la_q0 rfl ?_); (try (conv => arg 1; simp [Image.cells, words, Word.cells, hF])); with_reducible refine evp ?_) | ((refine la_n rfl rfl ?_); (try (conv => arg 1; simp [Image.cells, words, Word.cells, hF])); with_reducible refine evp ?_) | ((refine la_q2 rfl (by decide +kernel) ?_); (repeat (first | refine bk_nil ?_ | refine bk_t (by decide +kernel) ?_ | refine bk_f (by decide +kernel) ?_)); (try (conv => arg 1; simp [Image.cells, words, Word.cells, hF])); with_reducible refine evp ?_) | ((refine la_q1 rfl (by decide +kernel) ?_); (try (conv => arg 1; simp [Image.cells, words, Word.cells, hF])); with_reducible refine evp ?_) | ((refine la_g0 rfl ?_); (try (conv => arg 1; simp [Image.cells, words, Word.cells, hF])); with_reducible refine evp ?_; (with_reducible refine evp ?_); try ((try (conv => arg 1; simp [Image.cells, words, Word.cells, hF])); with_reducible refine evp ?_)))); (refine la_there ?_); (conv => arg 1; whnf))); first | ((refine la_q0 rfl ?_); (try (conv => arg 1; simp [Image.cells, words, Word.cells, hF])); with_reducible refine evp ?_) | ((refine la_n rfl rfl ?_); (try (conv => arg 1; simp [Image.cells, words, Word.cells, hF])); with_reducible refine evp ?_) | ((refine la_q2 rfl (by decide +kernel) ?_); (repeat (first | refine bk_nil ?_ | refine bk_t (by decide +kernel) ?_ | refine bk_f (by decide +kernel) ?_)); (try (conv => arg 1; simp [Image.cells, words, Word.cells, hF])); with_reducible refine evp ?_) | ((refine la_q1 rfl (by decide +kernel) ?_); (try (conv => arg 1; simp [Image.cells, words, Word.cells, hF])); with_reducible refine evp ?_) | ((refine la_g0 rfl ?_); (try (conv => arg 1; simp [Image.cells, words, Word.cells, hF])); with_reducible refine evp ?_; (with_reducible refine evp ?_); try ((try (conv => arg 1; simp [Image.cells, words, Word.cells, hF])); with_reducible refine evp ?_)))
    | ((with_reducible refine la_id ?_); refine la_all rfl ?_)
    | ((with_reducible refine all_id ?_); (conv => arg 1; whnf); first | exact all_nil | refine all_cons ?_ ?_)
    | (refine la_op rfl (by first | exact frm_s (by decide +kernel) | exact frm_a (by repeat' (first | exact fa_nil | refine fa_cons (by decide +kernel) ?_))) (by intro _; first | exact trivial | simp [appT, Image.cells, words, Word.cells, hF]) ?_; (repeat (first | refine bk_nil ?_ | refine bk_t (by decide +kernel) ?_ | refine bk_f (by decide +kernel) ?_)))
   | fail)
  have sp := (spec_word hr hat hw hol hil).1
  unfold SpecA at sp
  rw [hat] at sp
  have er : runOf 0 c w4 w2 w3 w5 = ⟨0, 8, [[w3, w2, w4, .int .i64 0, .int .i64 0, .bool false, .int .i64 0, w5]]⟩ := by simp [runOf, hc, ho, hv]
  have y2' := y2.next.perm (.cons _ (.cons _ (.cons _ (.swap _ _ _))))
  rw [← er] at y2'
  refine st_heap rfl (sp _ _ 0 w4 w1 w2 w3 w5 n1 n2 n3 n4 n5 _ _ y2' (ok2.keep (OutV.lt (own_of (y2.o4 true) rfl) fun n hn => y2.lt n (by simp [nms, hn])) fun n hn => by simp)).esz ?_
  rintro v h3 ⟨⟨a, wi', w5', n5', rfl, ha, hwi, y3, e5⟩, esz⟩
  have ok3 : OutV h3 w5' := by
    rcases e5 with rfl | e5
    · exact OutV.of_esz (ok2.keep (OutV.lt (own_of (y2.o4 true) rfl) fun n hn => y2.lt n (by simp [nms, hn])) fun n hn => by simp) (own_of (y3.o3 true) rfl) esz
    · exact e5
  repeat' (first
   | with_reducible refine stp ?_
   | with_reducible refine k_blk_o rfl ?_
   | ((try (conv => arg 1; simp [hnil])); with_reducible refine evp ?_)
   | ((with_reducible refine apn ?na ?_); (case na => simp [appNames, ints, intss] <;> first | kernel_rfl | (refine ⟨?_, ?_⟩ <;> kernel_rfl)))
    | ((with_reducible refine la_id ?_); refine la_end rfl ?_; (repeat (first | refine pl_nil ?_ | refine pl_cons ?_)))
    | ((with_reducible refine la_id ?_); refine la_pick ?_; (conv => arg 1; whnf); (repeat ((fail_if_success (first | ((refine la_q0 rfl ?_); (try (conv => arg 1; simp [hnil])); with_reducible refine evp ?_) | ((refine la_n rfl rfl ?_); (try (conv => arg 1; simp [hnil])); with_reducible refine evp ?_) | ((refine la_q2 rfl (by decide +kernel) ?_); (repeat (first | refine bk_nil ?_ | refine bk_t (by decide +kernel) ?_ | refine bk_f (by decide +kernel) ?_)); (try (conv => arg 1; simp [hnil])); with_reducible refine evp ?_) | ((refine la_q1 rfl (by decide +kernel) ?_); (try (conv => arg 1; simp [hnil])); with_reducible refine evp ?_) | ((refine la_g0 rfl ?_); (try (conv => arg 1; simp [hnil])); with_reducible refine evp ?_; (with_reducible refine evp ?_); try ((try (conv => arg 1; simp [hnil])); with_reducible refine evp ?_)))); (refine la_there ?_); (conv => arg 1; whnf))); first | ((refine la_q0 rfl ?_); (try (conv => arg 1; simp [hnil])); with_reducible refine evp ?_) | ((refine la_n rfl rfl ?_); (try (conv => arg 1; simp [hnil])); with_reducible refine evp ?_) | ((refine la_q2 rfl (by decide +kernel) ?_); (repeat (first | refine bk_nil ?_ | refine bk_t (by decide +kernel) ?_ | refine bk_f (by decide +kernel) ?_)); (try (conv => arg 1; simp [hnil])); with_reducible refine evp ?_) | ((refine la_q1 rfl (by decide +kernel) ?_); (try (conv => arg 1; simp [hnil])); with_reducible refine evp ?_) | ((refine la_g0 rfl ?_); (try (conv => arg 1; simp [hnil])); with_reducible refine evp ?_; (with_reducible refine evp ?_); try ((try (conv => arg 1; simp [hnil])); with_reducible refine evp ?_)))
    | ((with_reducible refine la_id ?_); refine la_all rfl ?_)
    | ((with_reducible refine all_id ?_); (conv => arg 1; whnf); first | exact all_nil | refine all_cons ?_ ?_)
    | (refine la_op rfl (by first | exact frm_s (by decide +kernel) | exact frm_a (by repeat' (first | exact fa_nil | refine fa_cons (by decide +kernel) ?_))) (by intro _; first | exact trivial | simp [appT, hnil]) ?_; (repeat (first | refine bk_nil ?_ | refine bk_t (by decide +kernel) ?_ | refine bk_f (by decide +kernel) ?_)))
   | fail)
  generalize hc' : stepC c w = c' at *
  refine cx_kf (fun h' => OutV h' w5') y3 ok3 ?_
  intro h4 y4 ok4
  have p1 := own_one (own_of (y4.o0 true) rfl)
  have p2 := own_one (own_of (y4.o1 true) rfl)
  have p3 := own_one (own_of (y4.o2 true) rfl)
  have p5 := own_one (own_of (y4.o3 true) rfl)
  have p4 := own_one (own_of (y4.o4 true) rfl)
  have b4 := y4.bxs
  simp only [Bxs] at b4
  repeat' (first
   | with_reducible refine stp ?_
   | with_reducible refine k_blk_o rfl ?_
   | with_reducible refine k_seq_n ?_
   | ((try (conv => arg 1; simp [runOf, b4, nm_ne, ltS, p1, p2, p3, p4, p5])); with_reducible refine evp ?_)
   | ((with_reducible refine apn ?na ?_); (case na => simp [appNames, ints, intss] <;> first | kernel_rfl | (refine ⟨?_, ?_⟩ <;> kernel_rfl)))
   | fail)
  have z4 := y4.perm (.cons _ (.cons _ (.cons _ (.swap _ _ _))))
  have e0 : stepC c w = c' := hc'
  refine st_tree rfl (l15Runs ⟨c.At, c'.Regs, c'.Slots, c'.Mem, c'.Input, c'.Out, c'.Code, c'.Over, c'.Val⟩) (.cons (((Cx.to z4).cpu_join (c := ⟨c.At, c'.Regs, c'.Slots, c'.Mem, c'.Input, c'.Out, c'.Code, c'.Over, c'.Val⟩)).o0 true).dr .nil) ?_
  have stop := stepC_stop (w := w) hc ho
  rw [e0] at stop
  have okf : ∀ (A : Int) (h' : Hp), (∀ n, n ≠ (h.tick, 1, 0) → n ≠ (h.tick, 2, 0) → h'.rows n = h4.rows n) → OutOk h' [.int .i64 A, w1, w2, w3, wi', w5', .int .i64 c'.Code, .bool c'.Over, .int .i64 c'.Val] := fun A h' p n ver off len e => by
    have e5 : w5' = .sl n ver off len := by simpa using e
    obtain ⟨r, g1, g2, g3⟩ := ok4 n ver off len e5
    have hm : n ∈ n5' := own_sl_mem (e5 ▸ own_of (y4.o3 true) rfl)
    refine ⟨r, ?_, g2, g3⟩
    rw [p n (fun e => y4.bx_own (n := (h.tick, 1, 0)) (ns := n5') (by simp) (by simp) (e ▸ hm)) (fun e => y4.bx_own (n := (h.tick, 2, 0)) (ns := n5') (by simp) (by simp) (e ▸ hm))]
    exact g1
  cases hrn : decide (c'.Code = 0) && !c'.Over with
  | true =>
    have ea : a = c'.At := ha (by simpa using hrn)
    subst ea
    repeat' (first
     | with_reducible refine stp ?_
     | with_reducible refine k_blk_o rfl ?_
     | with_reducible refine k_seq_n ?_
     | ((try (conv => arg 1; simp [runOf, b4, nm_ne, ltS, hrn, p1, p2, p3, p4, p5])); with_reducible refine evp ?_)
     | ((with_reducible refine apn ?na ?_); (case na => simp [appNames, ints, intss] <;> first | kernel_rfl | (refine ⟨?_, ?_⟩ <;> kernel_rfl)))
     | fail)
    exact ⟨_, _, rfl, (Cx.to z4).box_drop.box_drop.box_drop.box_drop.cpu_join (c := c'), okf _ _ fun n e1 e2 => by simp [e1, e2]⟩
  | false =>
    have ea := stop hrn
    repeat' (first
     | with_reducible refine stp ?_
     | with_reducible refine k_blk_o rfl ?_
     | with_reducible refine k_seq_n ?_
     | ((try (conv => arg 1; simp [runOf, b4, nm_ne, ltS, hrn, p1, p2, p3, p4, p5])); with_reducible refine evp ?_)
     | ((with_reducible refine apn ?na ?_); (case na => simp [appNames, ints, intss] <;> first | kernel_rfl | (refine ⟨?_, ?_⟩ <;> kernel_rfl)))
     | fail)
    rw [← ea]
    exact ⟨_, _, rfl, (Cx.to z4).box_drop.box_drop.box_drop.box_drop.cpu_join (c := c'), okf _ _ fun n e1 e2 => by simp [e1, e2]⟩
end Go.Proofs.Ytfgaoojogididaa.AM

/-
  A stepper's run: the plain law; its state as an argument.
-/
set_option linter.unusedVariables false
set_option linter.unusedSimpArgs false
set_option maxRecDepth 4000
namespace Go.Proofs.Ytfgaoojogididaa.AM
open Go.RowKit

def isRun (c : Cpu) : Bool := decide (c.Code = 0) && !c.Over
def nextC (m : Image) (c : Cpu) : Cpu := stepC c (m.Code.getD c.At.toNat ⟨0, 0, 0, 0, 0⟩)
def runN (m : Image) : Nat → Cpu → Cpu
  | 0, c => c
  | n + 1, c => if isRun c = true then runN m n (nextC m c) else c
theorem runN_stop {m : Image} {c : Cpu} (h : isRun c = false) : ∀ n, runN m n c = c
  | 0 => rfl
  | n + 1 => by simp [runN, h]

/-- A state that a run has come to. -/
structure Good (m : Image) (c : Cpu) : Prop where
  img : imageOk m = true
  run : isRun c = true → Runs m c ∧ c.Val = 0
  regs : c.Regs.length = 16
  slots : (c.Slots.length : Int) = m.Slots
theorem stepC_slots (c : Cpu) (w : Word) : (stepC c w).Slots.length = c.Slots.length ∧ (stepC c w).Regs.length = c.Regs.length ∧ (stepC c w).Out.length ≤ c.Out.length + 1 ∧ (stepC c w).Input.length ≤ c.Input.length := by
  have ite : ∀ (Q : Cpu → Prop) (p : Prop) [Decidable p] (a b : Cpu), Q a → Q b → Q (if p then a else b) := fun Q p _ a b ha hb => by
    by_cases h : p
    · rw [if_pos h]; exact ha
    · rw [if_neg h]; exact hb
  unfold stepC
  repeat' (first | (refine ite (fun x => x.Slots.length = c.Slots.length ∧ x.Regs.length = c.Regs.length ∧ x.Out.length ≤ c.Out.length + 1 ∧ x.Input.length ≤ c.Input.length) _ _ _ ?_ ?_) | (simp; done))
theorem isRun_iff {c : Cpu} : isRun c = true ↔ c.Code = 0 ∧ c.Over = false := by simp [isRun]
theorem Good.at_ {m : Image} {c : Cpu} (g : Good m c) (hr : isRun c = true) : ∃ (i : Nat) (w : Word), c.At = (i : Int) ∧ m.Code[i]? = some w ∧ nextC m c = stepC c w := by
  obtain ⟨i, h1, h2⟩ := (g.run hr).1.at_
  refine ⟨i, m.Code[i], h1, by simp, ?_⟩
  unfold nextC
  rw [h1]
  simp [h2]
theorem Good.next {m : Image} {c : Cpu} (g : Good m c) (hr : isRun c = true) : Good m (nextC m c) := by
  obtain ⟨i, w, h1, h2, h3⟩ := g.at_ hr
  have hs := stepC_slots c w
  rw [h3]
  refine ⟨g.img, fun hr2 => ?_, by rw [hs.2.1]; exact g.regs, by rw [hs.1]; exact g.slots⟩
  obtain ⟨e1, e2⟩ := isRun_iff.1 hr2
  refine ⟨(g.run hr).1.keep h1 h2 e1 e2, ?_⟩
  rcases stepC_val c w with e | e
  · rw [e] at e2; cases e2
  · rw [e]; exact (g.run hr).2
theorem cpuOk_good {m : Image} {c : Cpu} (h : cpuOk m c = true) : Good m c ∧ c.Input.length ≤ 100 := by
  simp only [cpuOk, headBad, tailOk, Bool.and_eq_true, Bool.or_eq_true, Bool.not_eq_true', Bool.or_eq_false_iff, Bool.not_eq_false', decide_eq_true_eq, decide_eq_false_iff_not] at h
  obtain ⟨⟨⟨⟨⟨⟨⟨h1, h2⟩, h3⟩, h4⟩, h5⟩, h6⟩, h7⟩, h8, h9⟩ := h
  have hc := imageOk_code h1
  refine ⟨⟨h1, fun hr => ?_, by omega, h4⟩, by omega⟩
  obtain ⟨e1, e2⟩ := isRun_iff.1 hr
  obtain ⟨n, hn, hn2⟩ := inB_nat h2
  refine ⟨⟨h1, ⟨n, hn, by have := w1 hn2 (by omega); omega⟩, by omega, h4, h7, e1, e2⟩, ?_⟩
  rcases h9 with h9 | h9
  · rw [e2] at h9; cases h9
  · exact h9

section
variable {h h' : Hp} {bs : Bx} {os : Ox} {nb : Nm} {l : List AV} {ns : List Nm} {c : Cpu}
theorem Cx.dr_box (x : Cx h ((nb, boxOf l) :: bs) ((.agg l, (fun b => .agg (c.cells b)), ns) :: os)) : DR true h.rows (.ptr nb 0 0 0) (.tptr true (c.cells true)) := by
  have d := (x.o0 true).dr
  generalize ht : AV.agg (c.cells true) = t at d
  cases d with
  | agg cs ts h1 h2 =>
    cases ht
    exact dr_ptr0 x.b0 rfl rfl ⟨h1, h2⟩
theorem Cx.drs_cells (x : Cx h bs ((.agg l, (fun b => .agg (c.cells b)), ns) :: os)) : DRs true h.rows l (c.cells true) := by
  have d := (x.o0 true).dr
  generalize ht : AV.agg (c.cells true) = t at d
  cases d with
  | agg cs ts h1 h2 =>
    cases ht
    exact ⟨h1, h2⟩
theorem OutOk.of_esz {l' : List AV} {c' : Cpu} {ns' : List Nm} (ok : OutOk h l) (e : l'[5]? = l[5]?) (x : Cx h' bs ((.agg l', (fun b => .agg (c'.cells b)), ns') :: os)) (z : Eszs h h') : OutOk h' l' := by
  obtain ⟨w1, w2, w3, w4, w5, n1, n2, n3, n4, n5, e1, e2, o1, o2, o3, o4, o5⟩ := ownV_cpu (x.o0 true)
  cases e1
  have okv : OutV h w5 := fun n ver off len e' => ok n ver off len (by rw [← e, e']; rfl)
  intro n ver off len e'
  exact okv.of_esz o5 z n ver off len (by simpa using e')
theorem OutOk.keep (ok : OutOk h l) (lt : ∀ n ver off len, l[5]? = some (.sl n ver off len) → n.1 < h.tick) (p : ∀ n, n.1 < h.tick → h'.rows n = h.rows n) : OutOk h' l := by
  intro n ver off len hw
  obtain ⟨r, h1, h2, h3⟩ := ok n ver off len hw
  exact ⟨r, by rw [p n (lt n ver off len hw)]; exact h1, h2, h3⟩
theorem Cx.ok_lt (x : Cx h bs ((.agg l, (fun b => .agg (c.cells b)), ns) :: os)) : ∀ n ver off len, l[5]? = some (.sl n ver off len) → n ∈ ns := by
  obtain ⟨w1, w2, w3, w4, w5, n1, n2, n3, n4, n5, e1, e2, o1, o2, o3, o4, o5⟩ := ownV_cpu (x.o0 true)
  cases e1
  intro n ver off len e
  have e : w5 = .sl n ver off len := by simpa using e
  rw [e] at o5
  rw [e2]
  simp [own_sl_mem o5]
theorem Cx.out_ok (x : Cx h bs ((.agg l, (fun b => .agg (c.cells b)), ns) :: os)) (hb : c.Out ≠ [] ∨ ∀ n ver off len, l[5]? = some (.sl n ver off len) → ∃ r, h.rows n = some r ∧ r.ver = ver ∧ r.esz = 1) : OutOk h l := by
  rcases hb with hb | hb
  · obtain ⟨w1, w2, w3, w4, w5, n1, n2, n3, n4, n5, e1, e2, o1, o2, o3, o4, o5⟩ := ownV_cpu (x.o0 true)
    cases e1
    rcases own_ints_inv o5 with ⟨e, _⟩ | ⟨n, ver, pre, sp, rfl, _, hr, _⟩
    · exact absurd e hb
    · intro n' ver' off' len' e
      simp at e
      obtain ⟨rfl, rfl, rfl, rfl⟩ := e
      exact ⟨_, hr, rfl, rfl⟩
  · exact hb
end
end Go.Proofs.Ytfgaoojogididaa.AM

/-
  A run of an image: the plain law.
-/
set_option linter.unusedVariables false
set_option linter.unusedSimpArgs false
set_option maxRecDepth 4000
namespace Go.Proofs.Ytfgaoojogididaa.AM
open Go.RowKit

/-- A run with fuel: the state, what is left. -/
def execN (m : Image) : Nat → Cpu → Cpu × Nat
  | 0, c => (c, 0)
  | n + 1, c => if isRun c = true then execN m n (nextC m c) else (c, n + 1)
theorem execN_stop {m : Image} {c : Cpu} (h : isRun c = false) : ∀ n, execN m n c = (c, n)
  | 0 => rfl
  | n + 1 => by simp [execN, h]
theorem execN_run {m : Image} {c : Cpu} (h : isRun c = true) (n : Nat) : execN m (n + 1) c = execN m n (nextC m c) := by simp [execN, h]

/-- What a run has come to: nothing yielded but by one that has returned. -/
structure Run (m : Image) (c : Cpu) : Prop where
  good : Good m c
  val : c.Code ≠ 0 → c.Val = 0
  code : c.Code = 0 ∨ c.Code = 1
theorem Run.next {m : Image} {c : Cpu} (g : Run m c) (hr : isRun c = true) : Run m (nextC m c) := by
  obtain ⟨i, w, h1, h2, h3⟩ := g.good.at_ hr
  obtain ⟨_, hv⟩ := g.good.run hr
  refine ⟨g.good.next hr, ?_, ?_⟩
  · rw [h3]
    exact stepC_elim (Q := fun x => x.Code ≠ 0 → x.Val = 0) (fun x e1 _ e3 _ => by rw [e3, hv]) (fun _ => hv) (fun e => absurd (isRun_iff.1 hr).1 e)
  · rw [h3]
    exact stepC_elim (Q := fun x => x.Code = 0 ∨ x.Code = 1) (fun x e1 _ _ => by rw [e1]; exact g.code) (.inr rfl) g.code
theorem execN_ok {m : Image} : ∀ (n : Nat) (c : Cpu), Run m c → Run m (execN m n c).1 ∧ (execN m n c).2 ≤ n ∧ (execN m n c).1.Out.length ≤ c.Out.length + n
  | 0, c, g => ⟨g, Nat.le_refl _, by simp [execN]⟩
  | n + 1, c, g => by
    cases hr : isRun c with
    | false => rw [execN_stop hr]; exact ⟨g, Nat.le_refl _, by simp⟩
    | true =>
      rw [execN_run hr]
      obtain ⟨i, w, h1, h2, h3⟩ := g.good.at_ hr
      have := execN_ok n _ (g.next hr)
      have hs := stepC_slots c w
      rw [← h3] at hs
      exact ⟨this.1, by omega, by omega⟩

def argsOk (m : Image) (A I : List Int) : Bool := imageOk m && decide ((A.length : Int) = m.Params) && decide (I.length ≤ 100)
def execC (m : Image) (A I : List Int) (fu : Nat) : Cpu × Nat := execN m fu (startC m.Sizes m.Slots.toNat A I)
def execE (m : Image) (A I : List Int) (fu : Int) : EndV := if argsOk m A I && inB fu 0 100000 then endOf (execC m A I fu.toNat).1 else ⟨3, 0, []⟩
def costE (m : Image) (A I : List Int) : Int := if argsOk m A I then 100000 - (execC m A I 100000).2 else -1

theorem start_run {m : Image} {A I : List Int} (h : argsOk m A I = true) : Run m (startC m.Sizes m.Slots.toNat A I) := by
  simp only [argsOk, Bool.and_eq_true, decide_eq_true_eq] at h
  obtain ⟨⟨h1, h2⟩, h3⟩ := h
  have hc := imageOk_code h1
  have hsl : (((A ++ zeros (m.Slots.toNat - A.length)).length : Nat) : Int) = m.Slots := by
    simp [zeros]
    omega
  have hml : lens (mem0 m.Sizes) = m.Sizes := by
    have h9 := hc.2.2.2.2.2.2.2.2.1
    have : ∀ l : List Int, (∀ n ∈ l, 1 ≤ n ∧ n ≤ 16) → lens (mem0 l) = l := fun l hl => by
      induction l with
      | nil => rfl
      | cons a l ih =>
        have := hl a (by simp)
        have e := ih fun n hn => hl n (by simp [hn])
        simp only [lens, mem0, List.map_cons, List.cons.injEq] at e ⊢
        exact ⟨by simp [zeros]; omega, e⟩
    exact this _ h9
  exact ⟨⟨h1, fun _ => ⟨⟨h1, ⟨0, rfl, by omega⟩, by simp [startC, zeros], hsl, hml, rfl, rfl⟩, rfl⟩, by simp [startC, zeros], hsl⟩, fun _ => rfl, .inl rfl⟩
/-- An end, as the two sides reckon it. -/
theorem Run.end_run {m : Image} {c : Cpu} (g : Run m c) (h : isRun c = true) : endOf c = ⟨2, 0, c.Out⟩ := by
  obtain ⟨h1, h2⟩ := isRun_iff.1 h
  simp [endOf, h1, h2]
theorem Run.end_stop {m : Image} {c : Cpu} (g : Run m c) (h : isRun c = false) : endOf c = ⟨c.Code, c.Val, c.Out⟩ := by
  have h2 : ¬ (c.Code = 0 ∧ c.Over = false) := fun e => by rw [isRun_iff.2 e] at h; cases h
  by_cases hc : c.Code = 0
  · have ho : c.Over = true := by cases hv : c.Over with
      | true => rfl
      | false => exact absurd ⟨hc, hv⟩ h2
    simp [endOf, hc, ho]
  · simp [endOf, hc, g.val hc]
end Go.Proofs.Ytfgaoojogididaa.AM

/-
  The program's stepper at first.
-/
set_option linter.unusedVariables false
set_option linter.unusedSimpArgs false
set_option maxRecDepth 4000
namespace Go.Proofs.Ytfgaoojogididaa.AM
open Go.RowKit

private def MW49 : FuncId → Mode := fun f => if f = 81 then .fresh else .tree

theorem hp_put_same {h : Hp} {m : Nm} {r : Row} (hr : h.rows m = some r) : h.put m r = h := by
  obtain ⟨rows, tick⟩ := h
  simp only [Hp.put]
  congr 1
  funext k
  by_cases hk : k = m
  · rw [if_pos hk, hk]; exact hr.symm
  · rw [if_neg hk]
/-- Over the first places of a row of zeros. -/
theorem copyA_zeros {P : Program} {t : TypeId} {n : Nm} {v s : Nat} {h : Hp} {A : List Int} (h0 : ((telem P t).bind fun e => tsz P e) = some 1) (hr : h.rows n = some ⟨v, 1, cl1 (zeros s)⟩) (hA : A.length ≤ s) (hm : n.1 < h.tick) :
    copyA P t (.sl n v 0 s) (ints true A) h = some (.int .i64 A.length, h.put n ⟨v, 1, cl1 (A ++ zeros (s - A.length))⟩) := by
  simp only [Option.bind_eq_some_iff] at h0
  obtain ⟨e, he, hs⟩ := h0
  have hl : (A.map fun n => [AV.int .i64 n]).length = A.length := by simp
  have ht : (A.map fun n => [AV.int .i64 n]).take s = A.map fun n => [AV.int .i64 n] := List.take_of_length_le (by simpa using hA)
  have hall : (A.map fun n => [AV.int .i64 n]).all (fun e => e.length == 1) = true := by simp
  unfold copyA
  simp only [he, srcElems_ints, lenOfA, hs]
  rw [if_pos ⟨hall, Nat.one_pos⟩, ht]
  by_cases hA0 : A = []
  · subst hA0
    rw [if_pos (by simp)]
    have : h.put n ⟨v, 1, cl1 ([] ++ zeros (s - 0))⟩ = h := hp_put_same (by simpa using hr)
    simp only [List.length_nil]
    rw [this]
    rfl
  · rw [if_neg (by simpa using hA0)]
    have e2 : (cl1 (zeros s)).drop A.length = cl1 (zeros (s - A.length)) := by simp [cl1, zeros]
    simp only [overA, hr]
    rw [if_pos ⟨trivial, trivial, by simp [cl1, zeros], by simpa using hA, hm⟩]
    have e3 : (List.map (fun n => [AV.int IntKind.i64 n]) (zeros s)).drop A.length = List.map (fun n => [AV.int IntKind.i64 n]) (zeros (s - A.length)) := e2
    simp [e3, cl1]

def zeroCpu : Cpu := ⟨0, [], [], [], [], [], 0, false, 0⟩
def newR (m : Image) (A I : List Int) : Cpu × Bool := if argsOk m A I then (startC m.Sizes m.Slots.toNat A I, true) else (zeroCpu, false)

set_option maxHeartbeats 1000000 in
theorem newCpu (m : Image) (A I : List Int) (hs : m.Sizes.length ≤ 2 ^ 62) (hcd : m.Code.length ≤ 2 ^ 62) (hA : A.length ≤ 2 ^ 20) (hI : I.length ≤ 2 ^ 20) {h : Hp} {bs : Bx} {os : Ox} (x : Cx h bs os) :
    Sound Try.prog 63 [.agg (m.cells true), ints true A, ints true I] h fun v h' => ∃ l ns, v = .tup [.agg l, .bool (newR m A I).2] ∧ Cx h' bs ((.agg l, (fun b => .agg ((newR m A I).1.cells b)), ns) :: os) ∧ OutOk h' l ∧ ∀ n ∈ ns, h.tick ≤ n.1 := by
  have hok := isImage m hs hcd
  refine enter mixed MW49 Try.func63 rfl (by kernel_rfl) rfl ?_
  repeat' (first
   | with_reducible refine stp ?_
   | with_reducible refine k_blk_o rfl ?_
   | ((try (conv => arg 1; simp [Image.cells])); with_reducible refine evp ?_)
   | ((with_reducible refine apn ?na ?_); (case na => simp [appNames, ints, intss] <;> first | kernel_rfl | (refine ⟨?_, ?_⟩ <;> kernel_rfl)))
   | fail)
  refine cx_k ((x.next.box_one (i := 0) x.off (by simp)).box_add (n := (h.tick, 1, 0)) (by rw [nms_box]; simp; intro e; have := x.lt _ e; simp at this) (by simp)) ?_
  intro h1 x1
  have b1 := x1.bxs
  simp only [Bxs] at b1
  by_cases hg : argsOk m A I = true
  · have hg2 := hg
    simp only [argsOk, Bool.and_eq_true, decide_eq_true_eq] at hg2
    obtain ⟨⟨g1, g2⟩, g3⟩ := hg2
    have hc := imageOk_code g1
    have g3' : ¬ (100 : Int) < I.length := by omega
    obtain ⟨s, hsl⟩ : ∃ s : Nat, m.Slots = (s : Int) := ⟨m.Slots.toNat, by omega⟩
    have es : m.Slots.toNat = s := by omega
    have hs2 : (s : Int) ≤ 4294967296 := by omega
    have hI2 : I.length ≤ 4294967296 := by omega
    have e1 : newR m A I = (startC m.Sizes s A I, true) := by simp [newR, hg, es]
    rw [e1]
    repeat' (first
     | with_reducible refine stp ?_
     | with_reducible refine k_blk_o rfl ?_
     | with_reducible refine k_seq_n ?_
     | ((try (conv => arg 1; simp [Image.cells, b1, g1, g2, g3', nm_ne, ltS])); with_reducible refine evp ?_)
     | ((with_reducible refine apn ?na ?_); (case na => simp [appNames, ints, intss] <;> first | kernel_rfl | (refine ⟨?_, ?_⟩ <;> kernel_rfl)))
     | ((with_reducible refine tcl ?_); first | ((apply tg (hok)); (case e => rfl); (case d => (refine dq ?_); (repeat' (first | ((refine Da.mk ?_); first | exact dr_words (by simp) _ | assumption) | constructor)))))
     | fail)
    have hT : ¬ h.tick = h1.tick + 1 := by have := x1.lt (h.tick, 0, 0) (by simp [nms]); simp at this; omega
    repeat (with_reducible first | refine stp ?_ | refine k_seq_n ?_)
    refine st_lz (by kernel_rfl) ?_
    have hF := And.intro b1 (And.intro hsl (And.intro hs2 (And.intro hI2 hT)))
    repeat' (first
     | with_reducible refine stp ?_
     | with_reducible refine k_blk_o rfl ?_
     | ((try (conv => arg 1; simp [Image.cells, hF])); with_reducible refine evp ?_)
     | ((with_reducible refine apn ?na ?_); (case na => simp [appNames, ints, intss] <;> first | kernel_rfl | (refine ⟨?_, ?_⟩ <;> kernel_rfl)))
      | ((with_reducible refine la_id ?_); refine la_end rfl ?_; (repeat (first | refine pl_nil ?_ | refine pl_cons ?_)))
      | ((with_reducible refine la_id ?_); refine la_pick ?_; (conv => arg 1; whnf); (repeat ((fail_if_success (first | ((refine la_q0 rfl ?_); (try (conv => arg 1; simp [Image.cells, hF])); with_reducible refine evp ?_) | ((refine la_n rfl rfl ?_); (try (conv => arg 1; simp [Image.cells, hF])); with_reducible refine evp ?_) | ((refine la_q2 rfl (by decide +kernel) ?_); (repeat (first | refine bk_nil ?_ | refine bk_t (by decide +kernel) ?_ | refine bk_f (by decide +kernel) ?_)); (try (conv => arg 1; simp [Image.cells, hF])); with_reducible refine evp ?_) | ((refine la_q1 rfl (by decide +kernel) ?_); (try (conv => arg 1; simp [Image.cells, hF])); with_reducible refine evp ?_) | ((refine la_g0 rfl ?_); (try (conv => arg 1; simp [Image.cells, hF])); with_reducible refine evp ?_; (with_reducible refine evp ?_); try ((try (conv => arg 1; simp [Image.cells, hF])); with_reducible refine evp ?_)))); (refine la_there ?_); (conv => arg 1; whnf))); first | ((refine la_q0 rfl ?_); (try (conv => arg 1; simp [Image.cells, hF])); with_reducible refine evp ?_) | ((refine la_n rfl rfl ?_); (try (conv => arg 1; simp [Image.cells, hF])); with_reducible refine evp ?_) | ((refine la_q2 rfl (by decide +kernel) ?_); (repeat (first | refine bk_nil ?_ | refine bk_t (by decide +kernel) ?_ | refine bk_f (by decide +kernel) ?_)); (try (conv => arg 1; simp [Image.cells, hF])); with_reducible refine evp ?_) | ((refine la_q1 rfl (by decide +kernel) ?_); (try (conv => arg 1; simp [Image.cells, hF])); with_reducible refine evp ?_) | ((refine la_g0 rfl ?_); (try (conv => arg 1; simp [Image.cells, hF])); with_reducible refine evp ?_; (with_reducible refine evp ?_); try ((try (conv => arg 1; simp [Image.cells, hF])); with_reducible refine evp ?_)))
      | ((with_reducible refine la_id ?_); refine la_all rfl ?_)
      | ((with_reducible refine all_id ?_); (conv => arg 1; whnf); first | exact all_nil | refine all_cons ?_ ?_)
      | (refine la_op rfl (by first | exact frm_s (by decide +kernel) | exact frm_a (by repeat' (first | exact fa_nil | refine fa_cons (by decide +kernel) ?_))) (by intro hq; first | exact trivial | (cases hq; done) | simp [appT, Image.cells, hF]) ?_; (repeat (first | refine bk_nil ?_ | refine bk_t (by decide +kernel) ?_ | refine bk_f (by decide +kernel) ?_)))
     | fail)
    refine st_freshw rfl (newMem m.Sizes (by omega) (fun n hn => by have := hc.2.2.2.2.2.2.2.2.1 n hn; omega)) (.cons (dr_ints (fun h => h) _) .nil) ?_
    intro v2 h2 m2 o2 e2 f2 p2 t2
    have y := x1.next.next.fresh o2 e2 f2 p2 t2
    have b2 := y.bxs
    simp only [Bxs] at b2
    have q2 := own_one (own_of (o2 true) rfl)
    have z2 : h1.tick + 1 < h2.tick := by simp at t2 ⊢; omega
    have hF := And.intro b2 (And.intro q2 (And.intro z2 (And.intro hI2 hT)))
    repeat' (first
     | with_reducible refine stp ?_
     | with_reducible refine k_blk_o rfl ?_
     | ((try (conv => arg 1; simp [Image.cells, hF])); with_reducible refine evp ?_)
     | ((with_reducible refine apn ?na ?_); (case na => simp [appNames, ints, intss] <;> first | kernel_rfl | (refine ⟨?_, ?_⟩ <;> kernel_rfl)))
      | ((with_reducible refine la_id ?_); refine la_end rfl ?_; (repeat (first | refine pl_nil ?_ | refine pl_cons ?_)))
      | ((with_reducible refine la_id ?_); refine la_pick ?_; (conv => arg 1; whnf); (repeat ((fail_if_success (first | ((refine la_q0 rfl ?_); (try (conv => arg 1; simp [Image.cells, hF])); with_reducible refine evp ?_) | ((refine la_n rfl rfl ?_); (try (conv => arg 1; simp [Image.cells, hF])); with_reducible refine evp ?_) | ((refine la_q2 rfl (by decide +kernel) ?_); (repeat (first | refine bk_nil ?_ | refine bk_t (by decide +kernel) ?_ | refine bk_f (by decide +kernel) ?_)); (try (conv => arg 1; simp [Image.cells, hF])); with_reducible refine evp ?_) | ((refine la_q1 rfl (by decide +kernel) ?_); (try (conv => arg 1; simp [Image.cells, hF])); with_reducible refine evp ?_) | ((refine la_g0 rfl ?_); (try (conv => arg 1; simp [Image.cells, hF])); with_reducible refine evp ?_; (with_reducible refine evp ?_); try ((try (conv => arg 1; simp [Image.cells, hF])); with_reducible refine evp ?_)))); (refine la_there ?_); (conv => arg 1; whnf))); first | ((refine la_q0 rfl ?_); (try (conv => arg 1; simp [Image.cells, hF])); with_reducible refine evp ?_) | ((refine la_n rfl rfl ?_); (try (conv => arg 1; simp [Image.cells, hF])); with_reducible refine evp ?_) | ((refine la_q2 rfl (by decide +kernel) ?_); (repeat (first | refine bk_nil ?_ | refine bk_t (by decide +kernel) ?_ | refine bk_f (by decide +kernel) ?_)); (try (conv => arg 1; simp [Image.cells, hF])); with_reducible refine evp ?_) | ((refine la_q1 rfl (by decide +kernel) ?_); (try (conv => arg 1; simp [Image.cells, hF])); with_reducible refine evp ?_) | ((refine la_g0 rfl ?_); (try (conv => arg 1; simp [Image.cells, hF])); with_reducible refine evp ?_; (with_reducible refine evp ?_); try ((try (conv => arg 1; simp [Image.cells, hF])); with_reducible refine evp ?_)))
      | ((with_reducible refine la_id ?_); refine la_all rfl ?_)
      | ((with_reducible refine all_id ?_); (conv => arg 1; whnf); first | exact all_nil | refine all_cons ?_ ?_)
      | (refine la_op rfl (by first | exact frm_s (by decide +kernel) | exact frm_a (by repeat' (first | exact fa_nil | refine fa_cons (by decide +kernel) ?_))) (by intro hq; first | exact trivial | (cases hq; done) | simp [appT, Image.cells, hF]) ?_; (repeat (first | refine bk_nil ?_ | refine bk_t (by decide +kernel) ?_ | refine bk_f (by decide +kernel) ?_)))
     | fail)
    have z := Off.fresh (h := h1.next.next) (h' := h2) (v := v2) (t := fun b => intss b (mem0 m.Sizes)) x1.next.off f2 (by simp)
    have no : ∀ j, (h1.tick + 1, j, 0) ∉ nms _ _ := fun j e => z _ e (by simp)
    have ez : List.replicate s [AV.int IntKind.i64 0] = cl1 (zeros s) := by simp [cl1, zeros]
    refine cx_k ((((y.box_new (T := h1.tick + 1) (i := 7) z z2).box_add (n := (h1.tick + 1, 0, 0)) (by rw [nms_box]; simp [no 0]) z2).box_add (n := (h1.tick + 1, 3, 0)) (by rw [nms_box, nms_box]; simp [no 3]) z2).box_add (n := (h1.tick + 1, 11, 0)) (by rw [nms_box, nms_box, nms_box]; simp [no 11]) z2).box_set ?_
    intro h3 x3
    rw [ez] at x3
    have b3 := x3.bxs
    simp only [Bxs] at b3
    repeat' (first
     | with_reducible refine stp ?_
     | with_reducible refine k_blk_o rfl ?_
     | with_reducible refine k_seq_n ?_
     | ((try (conv => arg 1; simp [b3, q2.1, q2.2.1, q2.2.2, ltS, nm_ne])); with_reducible refine evp ?_)
     | ((with_reducible refine apn ?na ?_); (case na => simp [appNames, ints, intss] <;> first | kernel_rfl | (refine ⟨?_, ?_⟩ <;> kernel_rfl)))
     | fail)
    conv => arg 1; simp
    rw [copyA_zeros (P := Try.prog) (by kernel_rfl) ?hr (by omega) ?hm]
    case hr => simp [b3]
    case hm => simp [b3]
    refine ev2_some ?_
    repeat' (first
     | with_reducible refine stp ?_
     | with_reducible refine k_blk_o rfl ?_
     | with_reducible refine k_seq_n ?_
     | ((try (conv => arg 1; simp [b3, q2.1, q2.2.1, q2.2.2, ltS, nm_ne])); with_reducible refine evp ?_)
     | ((with_reducible refine apn ?na ?_); (case na => simp [appNames, ints, intss] <;> first | kernel_rfl | (refine ⟨?_, ?_⟩ <;> kernel_rfl)))
     | fail)
    have hls : (A ++ zeros (s - A.length)).length = s := by simp [zeros]; omega
    have x4 := ((x3.next.box_set1 (r' := ⟨0, 1, cl1 (A ++ zeros (s - A.length))⟩)).next).box_set4 (r2 := ⟨0, 9, [[.int .i64 0, .sl (h1.tick + 1, 0, 0) 0 0 16, .sl (h1.tick + 1, 3, 0) 0 0 s, v2, .sl (h1.tick + 1, 7, 0) (if I = [] then 0 else 1) 0 I.length, .nilsl, .int .i64 0, .bool false, .int .i64 0]]⟩)
    have x5 := ((x4.box_drop.close_new rfl).close_new (xs := zeros 16) rfl).close_new (xs := I) rfl
    rw [hls] at x5
    have x6 := x5.box_drop.box_drop.add_own (v := .nilsl) (t := fun b => ints b []) (ns := []) (fun b => .one (.nilsl .nil)) (by simp) (fun n hn => by simp at hn) (fun n hn => rfl) (Nat.le_refl _)
    exact ⟨_, _, rfl, (x6.rot1.rot4.rot4.rot4).cpu_join (c := startC m.Sizes s A I), (fun n ver off len e => by simp at e), fun n hn => by
      have lt : h.tick < h1.tick := b1.2.2.2.1
      simp only [List.append_nil, List.mem_append, List.mem_cons, List.not_mem_nil, or_false] at hn
      rcases hn with rfl | rfl | hn | rfl
      · simp; omega
      · simp; omega
      · have := (f2 n hn).1; simp at this; omega
      · simp; omega⟩
  · have e1 : newR m A I = (zeroCpu, false) := by simp [newR, hg]
    rw [e1]
    have fin : ∀ h', Cx h' bs os → ∃ l ns, AV.tup [.agg [.int .i64 0, .nilsl, .nilsl, .nilsl, .nilsl, .nilsl, .int .i64 0, .bool false, .int .i64 0], .bool false] = .tup [.agg l, .bool (zeroCpu, false).2] ∧ Cx h' bs ((.agg l, (fun b => .agg ((zeroCpu, false).1.cells b)), ns) :: os) ∧ OutOk h' l ∧ ∀ n ∈ ns, h.tick ≤ n.1 := fun h' x' =>
      ⟨_, [], rfl, x'.add_own (fun b => .agg (.int _ _ (.nilsl (.nilsl (.nilsl (.nilsl (.nilsl (.int _ _ (.bool _ (.int _ _ .nil)))))))))) (by simp) (fun n hn => by simp at hn) (fun n hn => rfl) (Nat.le_refl _), (fun n ver off len e => by simp at e), fun n hn => by simp at hn⟩
    cases g1 : imageOk m with
    | false =>
      repeat' (first
       | with_reducible refine stp ?_
       | with_reducible refine k_blk_o rfl ?_
       | with_reducible refine k_seq_n ?_
       | ((try (conv => arg 1; simp [Image.cells, b1, g1, nm_ne, ltS])); with_reducible refine evp ?_)
       | ((with_reducible refine apn ?na ?_); (case na => simp [appNames, ints, intss] <;> first | kernel_rfl | (refine ⟨?_, ?_⟩ <;> kernel_rfl)))
       | ((with_reducible refine tcl ?_); first | ((apply tg (hok)); (case e => rfl); (case d => (refine dq ?_); (repeat' (first | ((refine Da.mk ?_); first | exact dr_words (by simp) _ | assumption) | constructor)))))
       | fail)
      exact fin _ (Cx.to x1).box_drop.box_drop
    | true =>
      by_cases g2 : (A.length : Int) = m.Params
      · have g3' : (100 : Int) < I.length := by
          simp [argsOk, g1, g2] at hg
          omega
        repeat' (first
         | with_reducible refine stp ?_
         | with_reducible refine k_blk_o rfl ?_
         | with_reducible refine k_seq_n ?_
         | ((try (conv => arg 1; simp [Image.cells, b1, g1, g2, g3', nm_ne, ltS])); with_reducible refine evp ?_)
         | ((with_reducible refine apn ?na ?_); (case na => simp [appNames, ints, intss] <;> first | kernel_rfl | (refine ⟨?_, ?_⟩ <;> kernel_rfl)))
         | ((with_reducible refine tcl ?_); first | ((apply tg (hok)); (case e => rfl); (case d => (refine dq ?_); (repeat' (first | ((refine Da.mk ?_); first | exact dr_words (by simp) _ | assumption) | constructor)))))
         | fail)
        exact fin _ (Cx.to x1).box_drop.box_drop
      · skip
        repeat' (first
         | with_reducible refine stp ?_
         | with_reducible refine k_blk_o rfl ?_
         | with_reducible refine k_seq_n ?_
         | ((try (conv => arg 1; simp [Image.cells, b1, g1, g2, nm_ne, ltS])); with_reducible refine evp ?_)
         | ((with_reducible refine apn ?na ?_); (case na => simp [appNames, ints, intss] <;> first | kernel_rfl | (refine ⟨?_, ?_⟩ <;> kernel_rfl)))
         | ((with_reducible refine tcl ?_); first | ((apply tg (hok)); (case e => rfl); (case d => (refine dq ?_); (repeat' (first | ((refine Da.mk ?_); first | exact dr_words (by simp) _ | assumption) | constructor)))))
         | fail)
        exact fin _ (Cx.to x1).box_drop.box_drop
end Go.Proofs.Ytfgaoojogididaa.AM

/-
  The program's stepper: so many words.
-/
set_option linter.unusedVariables false
set_option linter.unusedSimpArgs false
set_option maxRecDepth 4000
namespace Go.Proofs.Ytfgaoojogididaa.AM
open Go.RowKit

private def MW32 : FuncId → Mode := fun f => if f = 72 then .heap else if f = 70 then .fresh else .tree

/-- What so many words leave of a state. -/
def runRes (m : Image) (n : Nat) (c : Cpu) : Cpu := if cpuOk m c = true then runN m n c else c

theorem OutOk.put {h : Hp} {bs : Bx} {os : Ox} {l : List AV} {ns : List Nm} {c : Cpu} {n0 : Nm} {r : Row} (ok : OutOk h l) (x : Cx h bs ((.agg l, (fun b => .agg (c.cells b)), ns) :: os)) (hn : n0 ∈ bs.map (·.1)) : OutOk (h.put n0 r) l := by
  intro n ver off len e
  obtain ⟨r', g1, g2⟩ := ok n ver off len e
  have hm := x.ok_lt n ver off len e
  have hne : ¬ n = n0 := fun e' => x.bx_own hn (ns := ns) (by simp) (e' ▸ hm)
  exact ⟨r', by rw [hp_rows_put, if_neg hne]; exact g1, g2⟩
theorem OutOk.r {h : Hp} {l : List AV} (ok : OutOk h l) : OutR h.rows (.agg l) := fun l' n ver off len e e' => by
  cases e
  exact ok n ver off len e'
/-- A state's cells as a value. -/
structure CellsOk (l : List AV) : Prop where
  one : ones l = true
  len : l.length = 9
  take : List.take 9 l = l ∧ List.drop 9 l = []
theorem Cx.cells_ok {h : Hp} {bs : Bx} {os : Ox} {l : List AV} {ns : List Nm} {c : Cpu} (x : Cx h bs ((.agg l, (fun b => .agg (c.cells b)), ns) :: os)) : CellsOk l := by
  obtain ⟨w1, w2, w3, w4, w5, n1, n2, n3, n4, n5, e1, e2, o1, o2, o3, o4, o5⟩ := ownV_cpu (x.o0 true)
  cases e1
  exact ⟨by simp [own_one o1, own_one o2, own_one o3, own_one o4, own_one o5], rfl, rfl, rfl⟩

set_option maxHeartbeats 1000000 in
theorem runCpu (m : Image) (c : Cpu) (hm : m.Small) (hc : c.Small) (n : Nat) (hn : n ≤ 100000) : FreshC Try.prog 73 [.agg (m.cells true), .agg (c.cells true), .int .i64 n] (runRes m n c) := by
  intro T
  have hok := isCpu m c (by have := hm.sizes; omega) (by have := hm.code; omega) (by have := (mem_small hc.mem).1; omega)
  refine enter mixed MW32 Try.func73 rfl (by kernel_rfl) rfl ?_
  repeat' (first
   | with_reducible refine stp ?_
   | with_reducible refine k_blk_o rfl ?_
   | ((try (conv => arg 1; simp [Image.cells, Cpu.cells])); with_reducible refine evp ?_)
   | ((with_reducible refine apn ?na ?_); (case na => simp [appNames, ints, intss] <;> first | kernel_rfl | (refine ⟨?_, ?_⟩ <;> kernel_rfl)))
   | fail)
  refine cx_k (((Cx.mt.next.box_one (T := T) (i := 0) Cx.mt.off (by simp)).box_add (n := (T, 1, 0)) (by simp [nms]) (by simp)).box_add (n := (T, 2, 0)) (by simp [nms]) (by simp)) ?_
  intro h1 x1
  have b1 := x1.bxs
  simp only [Bxs] at b1
  repeat' (first
   | with_reducible refine stp ?_
   | with_reducible refine k_blk_o rfl ?_
   | with_reducible refine k_seq_n ?_
   | ((try (conv => arg 1; simp [b1])); with_reducible refine evp ?_)
   | ((with_reducible refine apn ?na ?_); (case na => simp [appNames, ints, intss] <;> first | kernel_rfl | (refine ⟨?_, ?_⟩ <;> kernel_rfl)))
   | fail)
  refine st_freshc rfl (copyCpu c hc) (.cons (dr_agg (drs_cpu _ (fun h => h))) .nil) ?_
  intro v h2 ns o d f p t q
  have x2 := x1.next.fresh o d f p t
  have z2 : h1.tick < h2.tick := by simp only [hp_next_tick] at t; omega
  have hv : ∃ l, v = .agg l := by
    obtain ⟨w1, w2, w3, w4, w5, m1, m2, m3, m4, m5, e, _⟩ := ownV_cpu (o true)
    exact ⟨_, e⟩
  obtain ⟨l, rfl⟩ := hv
  have ok2 : OutOk h2 l := fun n ver off len e => q _ n ver off len rfl e
  obtain ⟨cl1, cl2, cl3⟩ := x2.cells_ok
  repeat' (first
   | with_reducible refine stp ?_
   | with_reducible refine k_blk_o rfl ?_
   | ((try (conv => arg 1; simp [b1, z2, cl1, cl2, cl3])); with_reducible refine evp ?_)
   | ((with_reducible refine apn ?na ?_); (case na => simp [appNames, ints, intss] <;> first | kernel_rfl | (refine ⟨?_, ?_⟩ <;> kernel_rfl)))
   | fail)
  have lt2 := x2.ok_lt
  refine cx_kg (fun h' => OutOk h' l) (x2.box_new (x1.off.fresh f (by simp)) z2) (fun n ver off len e => ?_) ?_
  · obtain ⟨r, g1, g2, g3⟩ := ok2 n ver off len e
    have hne : ¬ n = (h1.tick, 2, 0) := fun e' => by
      have := (f n (lt2 n ver off len e)).1
      rw [e'] at this
      simp only [hp_next_tick] at this
      omega
    exact ⟨r, by simp [hne, g1], g2, g3⟩
  intro h3 x3 ok3
  have b3 := x3.bxs
  simp only [Bxs] at b3
  cases hb : cpuOk m c with
  | false =>
    repeat' (first
     | with_reducible refine stp ?_
     | with_reducible refine k_blk_o rfl ?_
     | with_reducible refine k_seq_n ?_
     | ((try (conv => arg 1; simp [b3, hb, nm_ne, ltS, cl1, cl2, cl3])); with_reducible refine evp ?_)
     | ((with_reducible refine apn ?na ?_); (case na => simp [appNames, ints, intss] <;> first | kernel_rfl | (refine ⟨?_, ?_⟩ <;> kernel_rfl)))
     | ((with_reducible refine tcl ?_); first | ((apply tg (hok)); (case e => rfl); (case d => (refine dq ?_); (repeat' (first | ((refine Da.mk ?_); first | exact dr_words (by simp) _ | assumption) | constructor)))))
     | fail)
    have e1 : runRes m n c = c := by simp [runRes, hb]
    rw [e1]
    have x' := (Cx.to (h' := (h3.next.next.put (T, 2, 0) (boxOf l))) x3)
    exact ⟨_, x'.o0, x'.nodup, x'.lts, ((OutOk.put (h := h3.next.next) ok3 x3.next.next (n0 := (T, 2, 0)) (by simp))).r⟩
  | true =>
    repeat' (first
     | with_reducible refine stp ?_
     | with_reducible refine k_blk_o rfl ?_
     | with_reducible refine k_seq_n ?_
     | ((try (conv => arg 1; simp [b3, hb, nm_ne, ltS, cl1, cl2, cl3])); with_reducible refine evp ?_)
     | ((with_reducible refine apn ?na ?_); (case na => simp [appNames, ints, intss] <;> first | kernel_rfl | (refine ⟨?_, ?_⟩ <;> kernel_rfl)))
     | ((with_reducible refine tcl ?_); first | ((apply tg (hok)); (case e => rfl); (case d => (refine dq ?_); (repeat' (first | ((refine Da.mk ?_); first | exact dr_words (by simp) _ | assumption) | constructor)))))
     | fail)
    obtain ⟨good, hin⟩ := cpuOk_good hb
    have e1 : runRes m n c = runN m n c := by simp [runRes, hb]
    rw [e1]
    refine st_loop (fun (k : Nat) σ h => k ≤ n ∧ σ 2 = .int .i64 n ∧ σ 3 = .ptr (T, 0, 0) 0 0 0 ∧ σ 6 = .ptr (T, 2, 0) 0 0 0 ∧ σ 7 = .ptr (h1.tick, 2, 0) 0 0 0 ∧ σ 8 = .int .i64 k ∧
      ∃ ck l ns, Good m ck ∧ runN m (n - k) ck = runN m n c ∧ ck.Out.length ≤ c.Out.length + k ∧ ck.Input.length ≤ 100 ∧ OutOk h l ∧
        Cx h [((h1.tick, 2, 0), boxOf l), ((T, 2, 0), ⟨0, 9, [[.int .i64 0, .nilsl, .nilsl, .nilsl, .nilsl, .nilsl, .int .i64 0, .bool false, .int .i64 0]]⟩), ((T, 1, 0), ⟨0, 9, [[.int .i64 c.At, ints true c.Regs, ints true c.Slots, intss true c.Mem, ints true c.Input, ints true c.Out, .int .i64 c.Code, .bool c.Over, .int .i64 c.Val]]⟩), ((T, 0, 0), ⟨0, 4, [m.cells true]⟩)]
          [(.agg l, (fun b => .agg (ck.cells b)), ns)]) (fun k => n - k) 0 ?init ?step
    case init =>
      refine ⟨Nat.zero_le _, by simp, by simp, by simp, by simp, by simp, c, l, ns, good, rfl, by simp, hin, ok3, Cx.to x3⟩
    case step =>
      rintro k σ h ⟨hk, s2, s3, s6, s7, s8, ck, l, ns, gk, ek, lk, ik, ok, x⟩
      have b := x.bxs
      simp only [Bxs] at b
      have hr := x.dr_box
      obtain ⟨cl1, cl2, cl3⟩ := x.cells_ok
      have hkw : IntKind.i64.wrap (k + 1) = k + 1 := wrap_id (by omega) (by omega)
      by_cases hkn : k < n
      · have hkn2 : (k : Int) < n := by omega
        cases hrn : isRun ck with
        | false =>
          have hrn' : (decide (ck.Code = 0) && !ck.Over) = false := hrn
          repeat' (first
           | with_reducible refine stp ?_
           | with_reducible refine k_blk_o rfl ?_
           | with_reducible refine k_seq_n ?_
           | ((try (conv => arg 1; simp [Image.cells, boxOf, b, s2, s3, s6, s7, s8, hkn, hkn2, hrn', nm_ne, ltS, cl1, cl2, cl3])); with_reducible refine evp ?_)
           | ((with_reducible refine apn ?na ?_); (case na => simp [appNames, ints, intss] <;> first | kernel_rfl | (refine ⟨?_, ?_⟩ <;> kernel_rfl)))
           | ((with_reducible refine tcl ?_); first | ((apply tg (runs ck)); (case e => rfl); (case d => (refine dq ?_); (repeat' (first | ((refine Da.mk ?_); first | exact hr | assumption) | constructor)))))
           | fail)
          rw [← ek, runN_stop hrn]
          have x' := (Cx.to (h' := (h.next.next.put (T, 2, 0) (boxOf l))) x)
          exact ⟨_, x'.o0, x'.nodup, x'.lts, ((OutOk.put (h := h.next.next) ok x.next.next (n0 := (T, 2, 0)) (by simp))).r⟩
        | true =>
          have hrn' : (decide (ck.Code = 0) && !ck.Over) = true := hrn
          repeat' (first
           | with_reducible refine stp ?_
           | with_reducible refine k_blk_o rfl ?_
           | with_reducible refine k_seq_n ?_
           | ((try (conv => arg 1; simp [Image.cells, boxOf, b, s2, s3, s6, s7, s8, hkn, hkn2, hrn', nm_ne, ltS, cl1, cl2, cl3])); with_reducible refine evp ?_)
           | ((with_reducible refine apn ?na ?_); (case na => simp [appNames, ints, intss] <;> first | kernel_rfl | (refine ⟨?_, ?_⟩ <;> kernel_rfl)))
           | ((with_reducible refine tcl ?_); first | ((apply tg (runs ck)); (case e => rfl); (case d => (refine dq ?_); (repeat' (first | ((refine Da.mk ?_); first | exact hr | assumption) | constructor)))))
           | fail)
          obtain ⟨i, w, hat, hw, hnx⟩ := gk.at_ hrn
          refine st_heap rfl ((step_ok (gk.run hrn).1 hat hw (by have := hc.out; omega) _ _ _ _ _ _ x.next.next ok).esz) ?_
          rintro v h' ⟨⟨l', ns', x', hor⟩, z⟩
          have ok' : OutOk h' l' := hor.elim (fun e => ok.of_esz e x' z) id
          have b' := x'.bxs
          simp only [Bxs] at b'
          repeat' (first
           | with_reducible refine stp ?_
           | with_reducible refine k_blk_o rfl ?_
           | with_reducible refine k_seq_n ?_
           | ((try (conv => arg 1; simp [s8, hkw])); with_reducible refine evp ?_)
           | ((with_reducible refine apn ?na ?_); (case na => simp [appNames, ints, intss] <;> first | kernel_rfl | (refine ⟨?_, ?_⟩ <;> kernel_rfl)))
           | fail)
          have hs := stepC_slots ck w
          refine k_lp_n (k + 1) (by omega) ⟨by omega, by simp [s2], by simp [s3], by simp [s6], by simp [s7], by simp, nextC m ck, l', ns', gk.next hrn, ?_, by rw [hnx]; omega, by rw [hnx]; omega, ok', ?_⟩
          · rw [← ek, show n - k = n - (k + 1) + 1 by omega]
            simp [runN, hrn]
          · rw [hnx]
            exact Cx.to x'
      · have hkn2 : ¬ (k : Int) < n := by omega
        have hke : n - k = 0 := by omega
        rw [hke] at ek
        repeat' (first
         | with_reducible refine stp ?_
         | with_reducible refine k_blk_o rfl ?_
         | with_reducible refine k_seq_n ?_
         | ((try (conv => arg 1; simp [Image.cells, boxOf, b, s2, s3, s6, s7, s8, hkn, hkn2, nm_ne, ltS, cl1, cl2, cl3])); with_reducible refine evp ?_)
         | ((with_reducible refine apn ?na ?_); (case na => simp [appNames, ints, intss] <;> first | kernel_rfl | (refine ⟨?_, ?_⟩ <;> kernel_rfl)))
         | fail)
        rw [← ek]
        have x' := (Cx.to (h' := (h.next.next.put (T, 2, 0) (boxOf l))) x)
        exact ⟨_, x'.o0, x'.nodup, x'.lts, ((OutOk.put (h := h.next.next) ok x.next.next (n0 := (T, 2, 0)) (by simp))).r⟩
end Go.Proofs.Ytfgaoojogididaa.AM

/-
  The program's stepper at first: exported.
-/
set_option linter.unusedVariables false
set_option linter.unusedSimpArgs false
set_option maxRecDepth 4000
namespace Go.Proofs.Ytfgaoojogididaa.AM
open Go.RowKit

private def MW56 : FuncId → Mode := fun f => if f = 63 then .heap else .tree

set_option maxHeartbeats 1000000 in
theorem implCpuNew (m : Image) (A I : List Int) (hs : m.Sizes.length ≤ 2 ^ 62) (hcd : m.Code.length ≤ 2 ^ 62) (hA : A.length ≤ 2 ^ 20) (hI : I.length ≤ 2 ^ 20) :
    FreshW Try.prog 31 [.agg (m.cells true), ints true A, ints true I] (fun b => .tup [.agg ((newR m A I).1.cells b), .bool (newR m A I).2]) := by
  intro T
  refine enter mixed MW56 Try.func31 rfl (by kernel_rfl) rfl ?_
  repeat' (first
   | with_reducible refine stp ?_
   | with_reducible refine k_blk_o rfl ?_
   | ((try (conv => arg 1; simp [Image.cells])); with_reducible refine evp ?_)
   | ((with_reducible refine apn ?na ?_); (case na => simp [appNames, ints, intss] <;> first | kernel_rfl | (refine ⟨?_, ?_⟩ <;> kernel_rfl)))
   | fail)
  refine cx_k ((Cx.mt.next.box_one (T := T) (i := 0) Cx.mt.off (by simp)).box_add (n := (T, 1, 0)) (by simp [nms]) (by simp)) ?_
  intro h1 x1
  have b1 := x1.bxs
  simp only [Bxs] at b1
  repeat' (first
   | with_reducible refine stp ?_
   | with_reducible refine k_blk_o rfl ?_
   | with_reducible refine k_seq_n ?_
   | ((try (conv => arg 1; simp [b1, nm_ne, ltS])); with_reducible refine evp ?_)
   | ((with_reducible refine apn ?na ?_); (case na => simp [appNames, ints, intss] <;> first | kernel_rfl | (refine ⟨?_, ?_⟩ <;> kernel_rfl)))
   | fail)
  refine st_heap rfl (newCpu m A I hs hcd hA hI x1.next) ?_
  rintro v h2 ⟨l, ns, rfl, x2, _, _⟩
  have b2 := x2.bxs
  simp only [Bxs] at b2
  obtain ⟨cl1, cl2, cl3⟩ := x2.cells_ok
  repeat' (first
   | with_reducible refine stp ?_
   | with_reducible refine k_blk_o rfl ?_
   | with_reducible refine k_seq_n ?_
   | ((try (conv => arg 1; simp [b2, nm_ne, ltS, cl1, cl2, cl3])); with_reducible refine evp ?_)
   | ((with_reducible refine apn ?na ?_); (case na => simp [appNames, ints, intss] <;> first | kernel_rfl | (refine ⟨?_, ?_⟩ <;> kernel_rfl)))
   | fail)
  have x' := (Cx.to (h' := (h2.put (T, 1, 0) (boxOf l))) x2)
  exact ⟨ns ++ [], fun b => .tup2 (x'.o0 b) (.one (.bool _ .nil)), by simpa using x'.nodup, by simpa using x'.lts⟩
end Go.Proofs.Ytfgaoojogididaa.AM

/-
  The spec's run of an image: fuel, its end.
-/
set_option linter.unusedVariables false
set_option linter.unusedSimpArgs false
set_option maxRecDepth 4000
namespace Go.Proofs.Ytfgaoojogididaa.AM
open Go.RowKit

private def MW47 : FuncId → Mode := fun f => .tree

def runT (fu : Int) (c : Cpu) : List AV := [intss true c.Mem, ints true c.Slots, ints true c.Input, .int .i64 fu, .int .i64 c.Code, .bool c.Over, .int .i64 c.Val, ints true c.Out]
def endR (c : Cpu) : EndV := ⟨c.Code, if c.Code = 0 then c.Val else 0, c.Out⟩

set_option maxHeartbeats 1000000 in
theorem l03End (fu : Int) (c : Cpu) (hl : c.Out.length ≤ 2 ^ 20) : Pure Try.prog 80 [.tptr true (runT fu c)] (.agg ((endR c).cells false)) := by
  obtain ⟨At, Regs, Slots, Mem, Input, Out, Code, Over, Val⟩ := c
  simp only at hl
  intro T
  have hl2 : Out.length ≤ 4294967296 := by omega
  have hnil : True := trivial
  refine enter mixed MW47 Try.func80 rfl (by kernel_rfl) rfl ?_
  by_cases hz : Code = 0
  all_goals try subst hz
  all_goals
    repeat' (first
     | with_reducible refine stp ?_
     | with_reducible refine k_blk_o rfl ?_
     | ((try (conv => arg 1; simp [hnil])); with_reducible refine evp ?_)
     | ((with_reducible refine apn ?na ?_); (case na => simp [appNames, ints, intss] <;> first | kernel_rfl | (refine ⟨?_, ?_⟩ <;> kernel_rfl)))
     | fail)
    repeat (with_reducible first | refine stp ?_ | refine k_seq_n ?_)
    refine st_lz (by kernel_rfl) ?_
    repeat' (first
     | with_reducible refine stp ?_
     | with_reducible refine k_blk_o rfl ?_
     | ((try (conv => arg 1; simp [runT, hl2])); with_reducible refine evp ?_)
     | ((with_reducible refine apn ?na ?_); (case na => simp [appNames, ints, intss] <;> first | kernel_rfl | (refine ⟨?_, ?_⟩ <;> kernel_rfl)))
      | ((with_reducible refine la_id ?_); refine la_end rfl ?_; (repeat (first | refine pl_nil ?_ | refine pl_cons ?_)))
      | ((with_reducible refine la_id ?_); refine la_pick ?_; (conv => arg 1; whnf); (repeat ((fail_if_success (first | ((refine la_q0 rfl ?_); (try (conv => arg 1; simp [runT, hl2])); with_reducible refine evp ?_) | ((refine la_n rfl rfl ?_); (try (conv => arg 1; simp [runT, hl2])); with_reducible refine evp ?_) | ((refine la_q2 rfl (by decide +kernel) ?_); (repeat (first | refine bk_nil ?_ | refine bk_t (by decide +kernel) ?_ | refine bk_f (by decide +kernel) ?_)); (try (conv => arg 1; simp [runT, hl2])); with_reducible refine evp ?_) | ((refine la_q1 rfl (by decide +kernel) ?_); (try (conv => arg 1; simp [runT, hl2])); with_reducible refine evp ?_) | ((refine la_g0 rfl ?_); (try (conv => arg 1; simp [runT, hl2])); with_reducible refine evp ?_; (with_reducible refine evp ?_); try ((try (conv => arg 1; simp [runT, hl2])); with_reducible refine evp ?_)))); (refine la_there ?_); (conv => arg 1; whnf))); first | ((refine la_q0 rfl ?_); (try (conv => arg 1; simp [runT, hl2])); with_reducible refine evp ?_) | ((refine la_n rfl rfl ?_); (try (conv => arg 1; simp [runT, hl2])); with_reducible refine evp ?_) | ((refine la_q2 rfl (by decide +kernel) ?_); (repeat (first | refine bk_nil ?_ | refine bk_t (by decide +kernel) ?_ | refine bk_f (by decide +kernel) ?_)); (try (conv => arg 1; simp [runT, hl2])); with_reducible refine evp ?_) | ((refine la_q1 rfl (by decide +kernel) ?_); (try (conv => arg 1; simp [runT, hl2])); with_reducible refine evp ?_) | ((refine la_g0 rfl ?_); (try (conv => arg 1; simp [runT, hl2])); with_reducible refine evp ?_; (with_reducible refine evp ?_); try ((try (conv => arg 1; simp [runT, hl2])); with_reducible refine evp ?_)))
      | ((with_reducible refine la_id ?_); refine la_all rfl ?_)
      | ((with_reducible refine all_id ?_); (conv => arg 1; whnf); first | exact all_nil | refine all_cons ?_ ?_)
      | (refine la_op rfl (by first | exact frm_s (by decide +kernel) | exact frm_a (by repeat' (first | exact fa_nil | refine fa_cons (by decide +kernel) ?_))) (by intro hq; first | exact trivial | (cases hq; done) | simp [appT, runT, hl2]) ?_; (repeat (first | refine bk_nil ?_ | refine bk_t (by decide +kernel) ?_ | refine bk_f (by decide +kernel) ?_)))
     | fail)
    repeat' (first
     | with_reducible refine stp ?_
     | with_reducible refine k_blk_o rfl ?_
     | with_reducible refine k_seq_n ?_
     | ((try (conv => arg 1; simp [runT, *])); with_reducible refine evp ?_)
     | ((with_reducible refine apn ?na ?_); (case na => simp [appNames, ints, intss] <;> first | kernel_rfl | (refine ⟨?_, ?_⟩ <;> kernel_rfl)))
     | fail)
    conv => arg 4; simp [endR, EndV.cells, *]
    refine dr_agg (.cons (.int _ _) (.cons (.int _ _) (.cons ?_ .nil)))
    refine (own_ints (ys := Out) ?_ List.take_length rfl).dr 0 _ _ rfl rfl
    simp [hp_next_rows, hp_rows_put]

section
variable {h : Hp} {nr : Nm} {c : Cpu} {wi w2 w3 w5 : AV} {bs : Bx} {os : Ox}
theorem l03Burn_stop {fu : Int} (x : Cx h ((nr, runOf fu c wi w2 w3 w5) :: bs) os) (hr : isRun c = false) :
    Sound Try.prog 78 [.ptr nr 0 0 0] h fun v h' => v = .bool false ∧ Cx h' ((nr, runOf fu c wi w2 w3 w5) :: bs) os := by
  have b := x.bxs
  simp only [Bxs, runOf] at b
  have hr' : c.Code = 0 → c.Over = true := fun e => by cases ho : c.Over with
    | true => rfl
    | false => rw [isRun_iff.2 ⟨e, ho⟩] at hr; cases hr
  refine enter mixed MW47 Try.func78 rfl (by kernel_rfl) rfl ?_
  by_cases hc : c.Code = 0
  · have ho := hr' hc
    repeat' (first
     | with_reducible refine stp ?_
     | with_reducible refine k_blk_o rfl ?_
     | with_reducible refine k_seq_n ?_
     | ((try (conv => arg 1; simp [b, hc, ho, ltS, nm_ne])); with_reducible refine evp ?_)
     | ((with_reducible refine apn ?na ?_); (case na => simp [appNames, ints, intss] <;> first | kernel_rfl | (refine ⟨?_, ?_⟩ <;> kernel_rfl)))
     | fail)
    exact ⟨rfl, Cx.to x⟩
  · skip
    repeat' (first
     | with_reducible refine stp ?_
     | with_reducible refine k_blk_o rfl ?_
     | with_reducible refine k_seq_n ?_
     | ((try (conv => arg 1; simp [b, hc, ltS, nm_ne])); with_reducible refine evp ?_)
     | ((with_reducible refine apn ?na ?_); (case na => simp [appNames, ints, intss] <;> first | kernel_rfl | (refine ⟨?_, ?_⟩ <;> kernel_rfl)))
     | fail)
    exact ⟨rfl, Cx.to x⟩
theorem l03Burn_none (x : Cx h ((nr, runOf 0 c wi w2 w3 w5) :: bs) os) (hr : isRun c = true) :
    Sound Try.prog 78 [.ptr nr 0 0 0] h fun v h' => v = .bool false ∧ Cx h' ((nr, runOf 0 { c with Code := 2 } wi w2 w3 w5) :: bs) os := by
  have b := x.bxs
  simp only [Bxs, runOf] at b
  obtain ⟨hc, ho⟩ := isRun_iff.1 hr
  refine enter mixed MW47 Try.func78 rfl (by kernel_rfl) rfl ?_
  obtain ⟨At, Regs, Slots, Mem, Input, Out, Code, Over, Val⟩ := c
  simp only at hc ho
  subst hc ho
  repeat' (first
   | with_reducible refine stp ?_
   | with_reducible refine k_blk_o rfl ?_
   | with_reducible refine k_seq_n ?_
   | ((try (conv => arg 1; simp [b, ltS, nm_ne])); with_reducible refine evp ?_)
   | ((with_reducible refine apn ?na ?_); (case na => simp [appNames, ints, intss] <;> first | kernel_rfl | (refine ⟨?_, ?_⟩ <;> kernel_rfl)))
   | fail)
  exact ⟨rfl, (x.next.next.next.next.box_set (r' := runOf 0 ⟨At, Regs, Slots, Mem, Input, Out, 2, false, Val⟩ wi w2 w3 w5)).next⟩
theorem l03Burn_run {n : Nat} (hn : n ≤ 100000) (x : Cx h ((nr, runOf ((n + 1 : Nat) : Int) c wi w2 w3 w5) :: bs) os) (hr : isRun c = true) :
    Sound Try.prog 78 [.ptr nr 0 0 0] h fun v h' => v = .bool true ∧ Cx h' ((nr, runOf n c wi w2 w3 w5) :: bs) os := by
  have b := x.bxs
  simp only [Bxs, runOf] at b
  obtain ⟨hc, ho⟩ := isRun_iff.1 hr
  have hz : ¬ (n : Int) + 1 = 0 := by omega
  have hw : IntKind.i64.wrap (n : Int) = n := wrap_id (by omega) (by omega)
  refine enter mixed MW47 Try.func78 rfl (by kernel_rfl) rfl ?_
  obtain ⟨At, Regs, Slots, Mem, Input, Out, Code, Over, Val⟩ := c
  simp only at hc ho
  subst hc ho
  repeat' (first
   | with_reducible refine stp ?_
   | with_reducible refine k_blk_o rfl ?_
   | with_reducible refine k_seq_n ?_
   | ((try (conv => arg 1; simp [b, hz, hw, ltS, nm_ne])); with_reducible refine evp ?_)
   | ((with_reducible refine apn ?na ?_); (case na => simp [appNames, ints, intss] <;> first | kernel_rfl | (refine ⟨?_, ?_⟩ <;> kernel_rfl)))
   | fail)
  exact ⟨rfl, (x.next.next.next.next.box_set (r' := runOf n ⟨At, Regs, Slots, Mem, Input, Out, 0, false, Val⟩ wi w2 w3 w5)).next⟩
end
end Go.Proofs.Ytfgaoojogididaa.AM
