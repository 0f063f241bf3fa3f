/- Lemmas: an abstract machine over named rows, and what single functions compute (parts G77, G78, G81, G83, G84, G85, G90, G91, G86, G92). -/
import Derived.Test.YtlmlkkkgcbpaoaaGreatKk3
set_option linter.unusedVariables false
set_option linter.unusedSimpArgs false
set_option maxRecDepth 4000
namespace Go.Proofs.YtlmlkkkgcbpaoaaGreat.AM
open Go.RowKit

private def MG77 : FuncId → Mode := fun f => if f = 34 ∨ f = 50 then .fresh else .tree

theorem blk_jumpR {g : Graph} (hg : graphOk g = true) {i : Nat} (hi : i < g.Blocks.length) : g.Blocks[i].Jump = 0 ∨ g.Blocks[i].Jump = 1 ∨ g.Blocks[i].Jump = 2 := by
  simp only [graphOk, Bool.and_eq_true, List.all_eq_true] at hg
  have hb := hg.2 _ (List.getElem_mem hi)
  unfold blockOk at hb
  simp only [Bool.and_eq_true] at hb
  have hb := hb.2
  split at hb
  · rename_i h; exact .inl h
  · split at hb
    · rename_i h; exact .inr (.inl h)
    · split at hb
      · rename_i h; exact .inr (.inr h)
      · cases hb
theorem aim_okR {g : Graph} (hg : graphOk g = true) {i : Nat} (hi : i < g.Blocks.length) {t : Int} (ht : t ∈ nextL g.Blocks[i]) : ∃ u : Nat, t = (u : Int) ∧ u < g.Blocks.length := by
  have := next_ok hg hi t ht
  exact ⟨t.toNat, by omega, by omega⟩
def pickI (L : List OB) (k : Int) : OB := L.getD k.toNat (.nilsl, ⟨[], 0, 0, 0, 0⟩, [])
def rePick (L : List OB) (l : List Int) (k : Int) : OB := ((pickI L k).1, reB l (pickI L k).2.1, (pickI L k).2.2)
theorem pickI_range (L : List OB) : (rangeI L.length).map (pickI L) = L := by
  refine List.ext_getElem (by simp [rangeI]) fun i h1 h2 => ?_
  simp [rangeI, pickI, h2]
theorem pickI_blk {L : List OB} {g : Graph} (e : (L.map fun p => p.2.1) = g.Blocks) (k : Int) : (pickI L k).2.1 = blkAt g k := by
  simp only [pickI, blkAt, ← e, List.getD_eq_getElem?_getD, List.getElem?_map]
  cases L[k.toNat]? <;> rfl
theorem Cx.reorder {h : Hp} {bs : Bx} {os : Ox} {L : List OB} {g : Graph} {l : List Int} (o : Ord g l) (e : (L.map fun p => p.2.1) = g.Blocks) (x : Cx h bs (L.map OB.own ++ os)) :
    ∃ ns, Cx h bs ((.agg (l.map fun k => (rePick L l k).cells).flatten, (fun b => .agg ((l.map fun k => reB l (blkAt g k)).map (Block.cells b)).flatten), ns) :: os) := by
  have hl : L.length = g.Blocks.length := by rw [← e, List.length_map]
  have p : (L.map OB.own).Perm ((l.map (rePick L l)).map OB.own) := by
    rw [List.map_map]
    have h1 := (o.perm.map fun k => (pickI L k).own).symm
    rw [← hl] at h1
    have h2 : (rangeI L.length).map (fun k => (pickI L k).own) = L.map OB.own := by
      conv => rhs; rw [← pickI_range L]
      rw [List.map_map]; rfl
    rw [h2] at h1
    exact h1
  obtain ⟨ns, y⟩ := Cx.join_blocks (x.perm (p.append_right os))
  refine ⟨ns, ?_⟩
  have e1 : (l.map (rePick L l)).map OB.cells = l.map fun k => (rePick L l k).cells := by rw [List.map_map]; rfl
  have e2 : ((l.map (rePick L l)).map fun p => p.2.1) = l.map fun k => reB l (blkAt g k) := by
    rw [List.map_map]
    refine List.map_congr_left fun k _ => ?_
    show reB l (pickI L k).2.1 = _
    rw [pickI_blk e]
  rw [e1, e2] at y
  exact y
theorem pick_at {L : List OB} {g : Graph} {es : List (List AV)} (e : (L.map fun p => p.2.1) = g.Blocks) (ec : L.map OB.cells = es) (q : ∀ p ∈ L, p.1.one = true ∧ p.1.stored = true ∧ p.1.cells = [p.1]) {k : Nat} (hk : k < g.Blocks.length) :
    es[k]? = some [(pickI L k).1, .int .i64 g.Blocks[k].Jump, .int .i64 g.Blocks[k].A, .int .i64 g.Blocks[k].To, .int .i64 g.Blocks[k].Else] ∧ (pickI L k).1.one = true ∧ (pickI L k).1.stored = true ∧ (pickI L k).1.cells = [(pickI L k).1] := by
  have hl : L.length = g.Blocks.length := by rw [← e, List.length_map]
  have h1 : pickI L (k : Int) = L[k]'(by omega) := by simp [pickI, hl, hk]
  have h2 := pickI_blk e (k : Int)
  have h3 : blkAt g (k : Int) = g.Blocks[k] := by simp [blkAt, hk]
  rw [h3, h1] at h2
  rw [h1, ← ec, List.getElem?_map, List.getElem?_eq_getElem (by omega)]
  refine ⟨?_, q _ (List.getElem_mem _)⟩
  simp only [Option.map_some, OB.cells, h2]
/-- The places as far as the loop has come. -/
def plaI (n : Nat) (l : List Int) (i : Nat) : List Int := (List.range n).map fun t : Nat => if (t : Int) ∈ l.take i then placeI l t else 0
theorem plaI_len (n : Nat) (l : List Int) (i : Nat) : (plaI n l i).length = n := by simp [plaI]
theorem plaI_zero (n : Nat) (l : List Int) : plaI n l 0 = zeros n := by
  refine List.ext_getElem (by simp [plaI, zeros]) fun i h1 h2 => by simp [plaI, zeros]
theorem plaI_set {n : Nat} {l : List Int} (hn : l.Nodup) {i k : Nat} (hi : i < l.length) (hk : l[i] = (k : Int)) (hkn : k < n) : (plaI n l i).set k i = plaI n l (i + 1) := by
  refine List.ext_getElem (by simp [plaI]) fun j h1 h2 => ?_
  simp only [plaI_len, List.length_set] at h1
  rw [List.getElem_set]
  simp only [plaI, List.getElem_map, List.getElem_range, take_snoc hi, List.mem_append, List.mem_singleton, hk]
  by_cases e : k = j
  · subst e
    have := placeI_at hn hi
    rw [hk] at this
    simp [this]
  · rw [if_neg e]
    have : ¬ (j : Int) = (k : Int) := by omega
    simp [this]
theorem plaI_end {g : Graph} {l : List Int} (o : Ord g l) {t : Nat} (ht : t < g.Blocks.length) : (plaI g.Blocks.length l l.length)[t]'(by rw [plaI_len]; exact ht) = placeI l t := by
  have : (t : Int) ∈ l := o.perm.symm.subset (by simp only [rangeI, List.mem_map, List.mem_range]; exact ⟨t, ht, rfl⟩)
  simp [plaI, this]

set_option maxHeartbeats 4000000 in
theorem specReorder (g : Graph) (d : g.Small) (l : List Int) (hll : l.length ≤ 2 ^ 20) : FreshW Tryz.prog 22 [.agg (g.cells true), ints true l] (fun b => .agg ((reorderR g l).cells b)) := by
  intro T
  have hln := d.len
  have hnil : True := trivial
  have G := specOrderOk g d l hll
  refine enter mixed MG77 Tryz.func22 rfl (by kernel_rfl) rfl ?_
  repeat' (first | (with_reducible first | refine stp ?_ | refine k_blk_o rfl ?_) | ((try (conv => arg 1; simp [Graph.cells])); with_reducible refine evp ?_) | fail)
  refine cx_k ((Cx.mt.next.box_one (T := T) (i := 0) Cx.mt.off (by simp)).box_add (n := (T, 1, 0)) (by simp [nms]) (by simp)) ?_
  intro h1 x1
  have b1 := x1.bxs
  simp only [Bxs] at b1
  repeat' (first | (with_reducible first | refine stp ?_ | refine k_blk_o rfl ?_ | refine k_seq_n ?_) | ((try (conv => arg 1; simp [b1, ltS, nm_ne, tk_ne])); with_reducible refine evp ?_) | fail)
  refine st_freshw rfl (l04Copy g d) (.cons (dr_agg (drs_graphL g fun h => h)) .nil) ?_
  intro v h2 n o e f p t
  have x2 := x1.next.fresh o e f p t
  have z2 : h1.tick < h2.tick := by simp only [hp_next_tick] at t; omega
  obtain ⟨w1, w2, _, _, rfl, _, q1, q2⟩ := ownV_graph (o true)
  have q1 := own_one q1
  have q2 := own_one' q2
  have b2 := x2.bxs
  simp only [Bxs] at b2
  repeat' (first | (with_reducible first | refine stp ?_ | refine k_blk_o rfl ?_) | ((try (conv => arg 1; simp [b2, z2, q1.1, q1.2.1, q1.2.2, q2.1, q2.2.1, q2.2.2, ltS, nm_ne, tk_ne])); with_reducible refine evp ?_) | fail)
  refine cx_k (x2.box_new (x1.off.fresh f (by simp [hp_next_tick])) z2) ?_
  intro h3 x3
  have b3 := x3.bxs
  simp only [Bxs] at b3
  cases hk : orderB g l with
  | false =>
    rw [hk] at G
    have hr : reorderR g l = g := by simp [reorderR, hk]
    rw [hr]
    repeat' (first | (with_reducible first | refine stp ?_ | refine k_blk_o rfl ?_ | refine k_seq_n ?_) | ((try (conv => arg 1; simp [b3, q1.1, q1.2.1, q1.2.2, q2.1, q2.2.1, q2.2.2, ltS, nm_ne, tk_ne])); with_reducible refine evp ?_) | ((with_reducible refine tcl ?_); first | ((apply tg (G)); (case e => rfl); (case d => (refine dq ?_); (repeat' (first | ((refine Da.mk ?_); first | exact dr_blocks (by simp) _ | assumption) | constructor))))) | fail)
    refine fin_own (os := []) (ns := n) (bs := ?bs1) ?y1
    case y1 => exact Cx.to x3
  | true =>
    rw [hk] at G
    have O := orderB_ord hk
    have hgk := O.ok
    have hle := O.len
    have hr : reorderR g l = { g with Blocks := l.map fun k => reB l (blkAt g k) } := by simp [reorderR, hk]
    rw [hr]
    have hnb := (ok_blocks hgk).1
    have hbne : (g.Blocks.map (Block.cells true)) ≠ [] := fun e => by have := List.map_eq_nil_iff.1 e; rw [this] at hnb; simp at hnb
    repeat' (first | (with_reducible first | refine stp ?_ | refine k_blk_o rfl ?_ | refine k_seq_n ?_) | ((try (conv => arg 1; simp [b3, q1.1, q1.2.1, q1.2.2, q2.1, q2.2.1, q2.2.2, ltS, nm_ne, tk_ne])); with_reducible refine evp ?_) | ((with_reducible refine tcl ?_); first | ((apply tg (G)); (case e => rfl); (case d => (refine dq ?_); (repeat' (first | ((refine Da.mk ?_); first | exact dr_blocks (by simp) _ | assumption) | constructor))))) | fail)
    refine st_freshw rfl (l03Zeros l.length hll) (.cons (.int _ _) .nil) ?_
    intro v3 h4 n4 o4 e4 f4 p4 t4
    have x4 := (Cx.to x3).fresh o4 e4 f4 p4 t4
    obtain ⟨kp, vp, pre, spp, rfl, rfl, irk, x5⟩ := x4.open_ints (by simp [zeros]; omega)
    obtain ⟨u1, u2, n1, n2, eu, rfl, x6⟩ := x5.graph_split
    simp only [List.cons.injEq, true_and, and_true] at eu
    obtain ⟨rfl, rfl⟩ := eu
    obtain ⟨kk, ver, es, sp, n3, rfl, rfl, hel, he5, c1, c2, y⟩ := x6.rot1.open_row (s := 5) (ts := fun b => g.Blocks.map (Block.cells b)) (by omega) (fun b t ht => by simp at ht; obtain ⟨a, _, rfl⟩ := ht; rfl) hbne
    have hel2 : es.length = g.Blocks.length := by simpa using hel
    rw [hel2] at q2 b3 y
    obtain ⟨L, eL, ec, qL, y2⟩ := Cx.split_blocks (by omega) he5 y
    rw [hle] at y2
    repeat' (first | (with_reducible first | refine stp ?_ | refine k_blk_o rfl ?_ | refine k_seq_n ?_) | ((try (conv => arg 1; simp [hnil])); with_reducible refine evp ?_) | fail)
    refine st_loop (fun (i : Nat) σ h => i ≤ l.length ∧ σ 1 = ints true l ∧ σ 4 = .ptr (T, 1, 0) 0 0 0 ∧ σ 5 = .ptr (h1.tick, 2, 0) 0 0 0 ∧ σ 6 = .sl kp vp pre.length l.length ∧ σ 7 = .int .i64 i ∧ ∃ R, R = pre ++ (cl1 (plaI g.Blocks.length l i) ++ spp) ∧
      Cx h [(kk, ⟨ver, 5, es ++ sp⟩), (kp, ⟨vp, 1, R⟩), ((h1.tick, 2, 0), ⟨0, 5, [[w1, .int .i64 g.Params, .int .i64 g.Vars, .int .i64 g.Slots, .sl kk ver 0 g.Blocks.length]]⟩), ((T, 1, 0), ⟨0, 5, [[.nilsl, .int .i64 0, .int .i64 0, .int .i64 0, .nilsl]]⟩), ((T, 0, 0), graphRow g)] (L.map OB.own ++ [(w1, (fun b => ints b g.Sizes), n1)])) (fun i => l.length - i) 0 ?init1 ?step1
    case init1 =>
      refine ⟨Nat.zero_le _, by simp, by simp, by simp, by simp [zeros], by simp, _, rfl, ?_⟩
      rw [plaI_zero]
      exact Cx.to y2
    case step1 =>
      rintro i σ h ⟨hi, s1, s4, s5, s6, s7, R, hR, x⟩
      have b := x.bxs
      simp only [Bxs, graphRow] at b
      by_cases hlt : i < l.length
      · have hlt2 : (i : Int) < l.length := by omega
        have hw : IntKind.i64.wrap (i + 1) = i + 1 := wrap_id (by omega) (by omega)
        have hx : l[i]? = some l[i] := by simp
        obtain ⟨k, hk2, hkN⟩ := O.at hlt
        have hkN2 : (k : Int) < l.length := by omega
        have hkN3 : k < l.length := by omega
        have hst := plaI_set (n := g.Blocks.length) O.nodup hlt hk2 hkN
        generalize hli : l[i] = li at *
        subst hk2
        have hop : ∀ hh, l[i]'hh = (k : Int) := fun _ => hli
        have hRs : R.set (pre.length + k) [.int .i64 i] = pre ++ (cl1 (plaI g.Blocks.length l (i + 1)) ++ spp) := by
          rw [hR, ir_set (by rw [plaI_len]; exact hkN), hst]
        have hRl : pre.length + k < R.length := by rw [hR]; simp only [List.length_append, cl1, List.length_map, plaI_len]; omega
        have hRe : ∀ hh, R[pre.length + k]'hh = [.int .i64 ((plaI g.Blocks.length l i)[k]'(by rw [plaI_len]; exact hkN))] := fun hh => by
          have := ir_get (pre := pre) (sp := spp) (xs := plaI g.Blocks.length l i) (i := k) (by rw [plaI_len]; exact hkN)
          rw [← hR, List.getElem?_eq_getElem hh] at this
          exact Option.some.inj this
        repeat' (first | (with_reducible first | refine stp ?_ | refine k_blk_o rfl ?_ | refine k_seq_n ?_) | ((try (conv => arg 1; simp [s1, s4, s5, s6, s7, ints, b, hlt, hlt2, hx, hop, hkN2, hkN3, hRl, hRe, hw, ltS, nm_ne, tk_ne])); with_reducible refine evp ?_) | fail)
        refine k_lp_n (i + 1) (by omega) ⟨by omega, by simp [s1, ints], by simp [s4], by simp [s5], by simp [s6], by simp, _, hRs, Cx.to x⟩
      · have hge : i = l.length := by omega
        have hlt2 : ¬ (i : Int) < l.length := by omega
        subst hge
        repeat' (first | (with_reducible first | refine stp ?_ | refine k_blk_o rfl ?_ | refine k_seq_n ?_) | ((try (conv => arg 1; simp [s1, s4, s5, s6, s7, ints, hlt2])); with_reducible refine evp ?_) | fail)
        refine st_loop (fun (i : Nat) σ h => i ≤ l.length ∧ σ 1 = ints true l ∧ σ 4 = .ptr (T, 1, 0) 0 0 0 ∧ σ 5 = .ptr (h1.tick, 2, 0) 0 0 0 ∧ σ 6 = .sl kp vp pre.length l.length ∧ σ 9 = .int .i64 i ∧ ∃ kn es', es' = ((l.take i).map fun k => (rePick L l k).cells) ∧ σ 8 = .sl kn i 0 i ∧
          Cx h [(kn, ⟨i, 5, es'⟩), (kk, ⟨ver, 5, es ++ sp⟩), (kp, ⟨vp, 1, R⟩), ((h1.tick, 2, 0), ⟨0, 5, [[w1, .int .i64 g.Params, .int .i64 g.Vars, .int .i64 g.Slots, .sl kk ver 0 g.Blocks.length]]⟩), ((T, 1, 0), ⟨0, 5, [[.nilsl, .int .i64 0, .int .i64 0, .int .i64 0, .nilsl]]⟩), ((T, 0, 0), graphRow g)] (L.map OB.own ++ [(w1, (fun b => ints b g.Sizes), n1)])) (fun i => l.length - i) 0 ?init2 ?step2
        case init2 =>
          have z1 := x.next.next.box_one (T := h.tick + 1) (i := 0) (r := ⟨0, 5, []⟩) x.next.off (by simp)
          refine ⟨Nat.zero_le _, by simp [s1, ints], by simp [s4], by simp [s5], by simp [s6], by simp, _, [], by simp, by simp, Cx.to z1⟩
        case step2 =>
          clear s1 s4 s5 s6 s7 x b hi σ h hlt hlt2
          rintro i σ h ⟨hi, s1, s4, s5, s6, s9, kn, es', he', s8, x⟩
          have b := x.bxs
          simp only [Bxs, graphRow] at b
          by_cases hlt : i < l.length
          · have hlt2 : (i : Int) < l.length := by omega
            have hw : IntKind.i64.wrap (i + 1) = i + 1 := wrap_id (by omega) (by omega)
            have hx : l[i]? = some l[i] := by simp
            obtain ⟨k, hk2, hkN⟩ := O.at hlt
            have hkN2 : (k : Int) < g.Blocks.length := by omega
            have hts := take_snoc hlt
            generalize hli : l[i] = li at *
            subst hk2
            have hop : ∀ hh, l[i]'hh = (k : Int) := fun _ => hli
            have hel' : es'.length = i := by rw [he']; simp; omega
            obtain ⟨pa, qw⟩ := pick_at eL ec qL hkN
            have hpb := pickI_blk eL (k : Int)
            rw [show blkAt g (k : Int) = g.Blocks[k] by simp [blkAt, hkN]] at hpb
            have hpl : ∀ u : Nat, u < g.Blocks.length → R[pre.length + u]? = some [.int .i64 (placeI l u)] := fun u hu => by
              rw [hR, ir_get (by rw [plaI_len]; exact hu), plaI_end O hu]
            have fin : ∀ J A To El : Int, reB l g.Blocks[k] = ⟨g.Blocks[k].Code, J, A, To, El⟩ → es' ++ [[(pickI L k).1, .int .i64 J, .int .i64 A, .int .i64 To, .int .i64 El]] = (l.take (i + 1)).map fun k => (rePick L l k).cells := fun J A To El e => by
              rw [hts, List.map_append, ← he']
              simp only [List.map_cons, List.map_nil, OB.cells, rePick, hpb, e]
            have hat : (es ++ sp)[k]? = some [(pickI L k).1, .int .i64 g.Blocks[k].Jump, .int .i64 g.Blocks[k].A, .int .i64 g.Blocks[k].To, .int .i64 g.Blocks[k].Else] := by
              rw [List.getElem?_append_left (by omega), pa]
            generalize hE : es ++ sp = E at *
            generalize hwp : (pickI L k).1 = w at *
            rcases blk_jumpR hgk hkN with hJ | hJ | hJ
            · obtain ⟨u, hT, hu⟩ := aim_okR hgk hkN (t := g.Blocks[k].To) (by simp [nextL, hJ])
              have hu2 : (u : Int) < l.length := by omega
              have hpu := hpl u hu
              rw [hJ, hT] at hat
              repeat' (first | (with_reducible first | refine stp ?_ | refine k_blk_o rfl ?_ | refine k_seq_n ?_) | ((try (conv => arg 1; simp [s1, s4, s5, s6, s8, s9, ints, b, hlt, hlt2, ltS, nm_ne, tk_ne])); with_reducible refine evp ?_) | fail)
              repeat (with_reducible first | refine stp ?_ | refine k_seq_n ?_)
              refine st_lz (by kernel_rfl) ?_
              have hF := And.intro s1 (And.intro s4 (And.intro s5 (And.intro s6 (And.intro s8 (And.intro s9 (And.intro b (And.intro hlt (And.intro hlt2 (And.intro hx (And.intro hop (And.intro hkN2 (And.intro hat (And.intro qw.1 (And.intro qw.2.1 qw.2.2))))))))))))))
              repeat' (first | (with_reducible first | refine stp ?_ | refine k_blk_o rfl ?_) | ((try (conv => arg 1; simp [ints, ltS, nm_ne, tk_ne, hF])); with_reducible refine evp ?_) | ((with_reducible refine la_id ?_); refine la_end rfl ?_; (repeat (first | refine pl_nil ?_ | refine pl_cons ?_))) | ((with_reducible refine la_id ?_); refine la_pick ?_; (conv => arg 1; whnf); (repeat ((fail_if_success (first | ((refine la_q0 rfl ?_); (try (conv => arg 1; simp [ints, ltS, nm_ne, tk_ne, hF])); with_reducible refine evp ?_) | ((refine la_n rfl rfl ?_); (try (conv => arg 1; simp [ints, ltS, nm_ne, tk_ne, hF])); with_reducible refine evp ?_) | ((refine la_q2 rfl (by decide +kernel) ?_); (repeat (first | refine bk_nil ?_ | refine bk_t (by decide +kernel) ?_ | refine bk_f (by decide +kernel) ?_)); (try (conv => arg 1; simp [ints, ltS, nm_ne, tk_ne, hF])); with_reducible refine evp ?_) | ((refine la_q1 rfl (by decide +kernel) ?_); (try (conv => arg 1; simp [ints, ltS, nm_ne, tk_ne, hF])); with_reducible refine evp ?_) | ((refine la_g0 rfl ?_); (try (conv => arg 1; simp [ints, ltS, nm_ne, tk_ne, hF])); with_reducible refine evp ?_; (with_reducible refine evp ?_); try ((try (conv => arg 1; simp [ints, ltS, nm_ne, tk_ne, hF])); with_reducible refine evp ?_)))); (refine la_there ?_); (conv => arg 1; whnf))); first | ((refine la_q0 rfl ?_); (try (conv => arg 1; simp [ints, ltS, nm_ne, tk_ne, hF])); with_reducible refine evp ?_) | ((refine la_n rfl rfl ?_); (try (conv => arg 1; simp [ints, ltS, nm_ne, tk_ne, hF])); with_reducible refine evp ?_) | ((refine la_q2 rfl (by decide +kernel) ?_); (repeat (first | refine bk_nil ?_ | refine bk_t (by decide +kernel) ?_ | refine bk_f (by decide +kernel) ?_)); (try (conv => arg 1; simp [ints, ltS, nm_ne, tk_ne, hF])); with_reducible refine evp ?_) | ((refine la_q1 rfl (by decide +kernel) ?_); (try (conv => arg 1; simp [ints, ltS, nm_ne, tk_ne, hF])); with_reducible refine evp ?_) | ((refine la_g0 rfl ?_); (try (conv => arg 1; simp [ints, ltS, nm_ne, tk_ne, hF])); with_reducible refine evp ?_; (with_reducible refine evp ?_); try ((try (conv => arg 1; simp [ints, ltS, nm_ne, tk_ne, hF])); with_reducible refine evp ?_))) | ((with_reducible refine la_id ?_); refine la_all rfl ?_) | ((with_reducible refine all_id ?_); (conv => arg 1; whnf); first | exact all_nil | refine all_cons ?_ ?_) | (refine la_op rfl (by first | exact frm_s (by decide +kernel) | exact frm_a (by repeat' (first | exact fa_nil | refine fa_cons (by decide +kernel) ?_))) (by intro hq; first | exact trivial | (cases hq; done) | simp [appT, ints, ltS, nm_ne, tk_ne, hF]) ?_; (repeat (first | refine bk_nil ?_ | refine bk_t (by decide +kernel) ?_ | refine bk_f (by decide +kernel) ?_))) | fail)
              repeat' (first | (with_reducible first | refine stp ?_ | refine k_blk_o rfl ?_ | refine k_seq_n ?_) | ((try (conv => arg 1; simp [s1, s4, s5, s6, s8, s9, ints, b, hu2, hpu, qw.1, qw.2.1, qw.2.2, ltS, nm_ne, tk_ne])); with_reducible refine evp ?_) | fail)
              conv => arg 1; simp
              rw [appendA_snoc (s := 5) (l := es') (e := [w, .int .i64 0, .int .i64 g.Blocks[k].A, .int .i64 (placeI l u), .int .i64 g.Blocks[k].Else]) (by kernel_rfl) ?hr hel' ?hk rfl (by omega) ?hm]
              case hr =>
                simp [b, nm_ne, ltS]
                intro e
                have hkn := b.2.1
                rw [e] at hkn
                simp only at hkn
                omega
              case hk => simp [qw.1, qw.2.1, qw.2.2]
              case hm => simp [b, ltS]
              refine ev2_some ?_
              repeat' (first | (with_reducible first | refine stp ?_ | refine k_blk_o rfl ?_ | refine k_seq_n ?_) | ((try (conv => arg 1; simp [s1, s4, s5, s6, s9, hw])); with_reducible refine evp ?_) | fail)
              refine k_lp_n (i + 1) (by omega) ⟨by omega, by simp [s1], by simp [s4], by simp [s5], by simp [s6], by simp, kn, _, fin 0 g.Blocks[k].A ((placeI l u)) (g.Blocks[k].Else) (by simp [reB, hJ, hT]), by simp, ?_⟩
              exact Cx.to x
            · obtain ⟨u, hT, hu⟩ := aim_okR hgk hkN (t := g.Blocks[k].To) (by simp [nextL, hJ])
              obtain ⟨u', hT', hu'⟩ := aim_okR hgk hkN (t := g.Blocks[k].Else) (by simp [nextL, hJ])
              have hu2 : (u : Int) < l.length := by omega
              have hu2' : (u' : Int) < l.length := by omega
              have hpu := hpl u hu
              have hpu' := hpl u' hu'
              rw [hJ, hT, hT'] at hat
              repeat' (first | (with_reducible first | refine stp ?_ | refine k_blk_o rfl ?_ | refine k_seq_n ?_) | ((try (conv => arg 1; simp [s1, s4, s5, s6, s8, s9, ints, b, hlt, hlt2, ltS, nm_ne, tk_ne])); with_reducible refine evp ?_) | fail)
              repeat (with_reducible first | refine stp ?_ | refine k_seq_n ?_)
              refine st_lz (by kernel_rfl) ?_
              have hF := And.intro s1 (And.intro s4 (And.intro s5 (And.intro s6 (And.intro s8 (And.intro s9 (And.intro b (And.intro hlt (And.intro hlt2 (And.intro hx (And.intro hop (And.intro hkN2 (And.intro hat (And.intro qw.1 (And.intro qw.2.1 qw.2.2))))))))))))))
              repeat' (first | (with_reducible first | refine stp ?_ | refine k_blk_o rfl ?_) | ((try (conv => arg 1; simp [ints, ltS, nm_ne, tk_ne, hF])); with_reducible refine evp ?_) | ((with_reducible refine la_id ?_); refine la_end rfl ?_; (repeat (first | refine pl_nil ?_ | refine pl_cons ?_))) | ((with_reducible refine la_id ?_); refine la_pick ?_; (conv => arg 1; whnf); (repeat ((fail_if_success (first | ((refine la_q0 rfl ?_); (try (conv => arg 1; simp [ints, ltS, nm_ne, tk_ne, hF])); with_reducible refine evp ?_) | ((refine la_n rfl rfl ?_); (try (conv => arg 1; simp [ints, ltS, nm_ne, tk_ne, hF])); with_reducible refine evp ?_) | ((refine la_q2 rfl (by decide +kernel) ?_); (repeat (first | refine bk_nil ?_ | refine bk_t (by decide +kernel) ?_ | refine bk_f (by decide +kernel) ?_)); (try (conv => arg 1; simp [ints, ltS, nm_ne, tk_ne, hF])); with_reducible refine evp ?_) | ((refine la_q1 rfl (by decide +kernel) ?_); (try (conv => arg 1; simp [ints, ltS, nm_ne, tk_ne, hF])); with_reducible refine evp ?_) | ((refine la_g0 rfl ?_); (try (conv => arg 1; simp [ints, ltS, nm_ne, tk_ne, hF])); with_reducible refine evp ?_; (with_reducible refine evp ?_); try ((try (conv => arg 1; simp [ints, ltS, nm_ne, tk_ne, hF])); with_reducible refine evp ?_)))); (refine la_there ?_); (conv => arg 1; whnf))); first | ((refine la_q0 rfl ?_); (try (conv => arg 1; simp [ints, ltS, nm_ne, tk_ne, hF])); with_reducible refine evp ?_) | ((refine la_n rfl rfl ?_); (try (conv => arg 1; simp [ints, ltS, nm_ne, tk_ne, hF])); with_reducible refine evp ?_) | ((refine la_q2 rfl (by decide +kernel) ?_); (repeat (first | refine bk_nil ?_ | refine bk_t (by decide +kernel) ?_ | refine bk_f (by decide +kernel) ?_)); (try (conv => arg 1; simp [ints, ltS, nm_ne, tk_ne, hF])); with_reducible refine evp ?_) | ((refine la_q1 rfl (by decide +kernel) ?_); (try (conv => arg 1; simp [ints, ltS, nm_ne, tk_ne, hF])); with_reducible refine evp ?_) | ((refine la_g0 rfl ?_); (try (conv => arg 1; simp [ints, ltS, nm_ne, tk_ne, hF])); with_reducible refine evp ?_; (with_reducible refine evp ?_); try ((try (conv => arg 1; simp [ints, ltS, nm_ne, tk_ne, hF])); with_reducible refine evp ?_))) | ((with_reducible refine la_id ?_); refine la_all rfl ?_) | ((with_reducible refine all_id ?_); (conv => arg 1; whnf); first | exact all_nil | refine all_cons ?_ ?_) | (refine la_op rfl (by first | exact frm_s (by decide +kernel) | exact frm_a (by repeat' (first | exact fa_nil | refine fa_cons (by decide +kernel) ?_))) (by intro hq; first | exact trivial | (cases hq; done) | simp [appT, ints, ltS, nm_ne, tk_ne, hF]) ?_; (repeat (first | refine bk_nil ?_ | refine bk_t (by decide +kernel) ?_ | refine bk_f (by decide +kernel) ?_))) | fail)
              repeat' (first | (with_reducible first | refine stp ?_ | refine k_blk_o rfl ?_ | refine k_seq_n ?_) | ((try (conv => arg 1; simp [s1, s4, s5, s6, s8, s9, ints, b, hu2, hpu, hu2', hpu', qw.1, qw.2.1, qw.2.2, ltS, nm_ne, tk_ne])); with_reducible refine evp ?_) | fail)
              conv => arg 1; simp
              rw [appendA_snoc (s := 5) (l := es') (e := [w, .int .i64 1, .int .i64 g.Blocks[k].A, .int .i64 (placeI l u), .int .i64 (placeI l u')]) (by kernel_rfl) ?hr hel' ?hk rfl (by omega) ?hm]
              case hr =>
                simp [b, nm_ne, ltS]
                intro e
                have hkn := b.2.1
                rw [e] at hkn
                simp only at hkn
                omega
              case hk => simp [qw.1, qw.2.1, qw.2.2]
              case hm => simp [b, ltS]
              refine ev2_some ?_
              repeat' (first | (with_reducible first | refine stp ?_ | refine k_blk_o rfl ?_ | refine k_seq_n ?_) | ((try (conv => arg 1; simp [s1, s4, s5, s6, s9, hw])); with_reducible refine evp ?_) | fail)
              refine k_lp_n (i + 1) (by omega) ⟨by omega, by simp [s1], by simp [s4], by simp [s5], by simp [s6], by simp, kn, _, fin 1 g.Blocks[k].A ((placeI l u)) ((placeI l u')) (by simp [reB, hJ, hT, hT']), by simp, ?_⟩
              exact Cx.to x
            · rw [hJ] at hat
              repeat' (first | (with_reducible first | refine stp ?_ | refine k_blk_o rfl ?_ | refine k_seq_n ?_) | ((try (conv => arg 1; simp [s1, s4, s5, s6, s8, s9, ints, b, hlt, hlt2, ltS, nm_ne, tk_ne])); with_reducible refine evp ?_) | fail)
              repeat (with_reducible first | refine stp ?_ | refine k_seq_n ?_)
              refine st_lz (by kernel_rfl) ?_
              have hF := And.intro s1 (And.intro s4 (And.intro s5 (And.intro s6 (And.intro s8 (And.intro s9 (And.intro b (And.intro hlt (And.intro hlt2 (And.intro hx (And.intro hop (And.intro hkN2 (And.intro hat (And.intro qw.1 (And.intro qw.2.1 qw.2.2))))))))))))))
              repeat' (first | (with_reducible first | refine stp ?_ | refine k_blk_o rfl ?_) | ((try (conv => arg 1; simp [ints, ltS, nm_ne, tk_ne, hF])); with_reducible refine evp ?_) | ((with_reducible refine la_id ?_); refine la_end rfl ?_; (repeat (first | refine pl_nil ?_ | refine pl_cons ?_))) | ((with_reducible refine la_id ?_); refine la_pick ?_; (conv => arg 1; whnf); (repeat ((fail_if_success (first | ((refine la_q0 rfl ?_); (try (conv => arg 1; simp [ints, ltS, nm_ne, tk_ne, hF])); with_reducible refine evp ?_) | ((refine la_n rfl rfl ?_); (try (conv => arg 1; simp [ints, ltS, nm_ne, tk_ne, hF])); with_reducible refine evp ?_) | ((refine la_q2 rfl (by decide +kernel) ?_); (repeat (first | refine bk_nil ?_ | refine bk_t (by decide +kernel) ?_ | refine bk_f (by decide +kernel) ?_)); (try (conv => arg 1; simp [ints, ltS, nm_ne, tk_ne, hF])); with_reducible refine evp ?_) | ((refine la_q1 rfl (by decide +kernel) ?_); (try (conv => arg 1; simp [ints, ltS, nm_ne, tk_ne, hF])); with_reducible refine evp ?_) | ((refine la_g0 rfl ?_); (try (conv => arg 1; simp [ints, ltS, nm_ne, tk_ne, hF])); with_reducible refine evp ?_; (with_reducible refine evp ?_); try ((try (conv => arg 1; simp [ints, ltS, nm_ne, tk_ne, hF])); with_reducible refine evp ?_)))); (refine la_there ?_); (conv => arg 1; whnf))); first | ((refine la_q0 rfl ?_); (try (conv => arg 1; simp [ints, ltS, nm_ne, tk_ne, hF])); with_reducible refine evp ?_) | ((refine la_n rfl rfl ?_); (try (conv => arg 1; simp [ints, ltS, nm_ne, tk_ne, hF])); with_reducible refine evp ?_) | ((refine la_q2 rfl (by decide +kernel) ?_); (repeat (first | refine bk_nil ?_ | refine bk_t (by decide +kernel) ?_ | refine bk_f (by decide +kernel) ?_)); (try (conv => arg 1; simp [ints, ltS, nm_ne, tk_ne, hF])); with_reducible refine evp ?_) | ((refine la_q1 rfl (by decide +kernel) ?_); (try (conv => arg 1; simp [ints, ltS, nm_ne, tk_ne, hF])); with_reducible refine evp ?_) | ((refine la_g0 rfl ?_); (try (conv => arg 1; simp [ints, ltS, nm_ne, tk_ne, hF])); with_reducible refine evp ?_; (with_reducible refine evp ?_); try ((try (conv => arg 1; simp [ints, ltS, nm_ne, tk_ne, hF])); with_reducible refine evp ?_))) | ((with_reducible refine la_id ?_); refine la_all rfl ?_) | ((with_reducible refine all_id ?_); (conv => arg 1; whnf); first | exact all_nil | refine all_cons ?_ ?_) | (refine la_op rfl (by first | exact frm_s (by decide +kernel) | exact frm_a (by repeat' (first | exact fa_nil | refine fa_cons (by decide +kernel) ?_))) (by intro hq; first | exact trivial | (cases hq; done) | simp [appT, ints, ltS, nm_ne, tk_ne, hF]) ?_; (repeat (first | refine bk_nil ?_ | refine bk_t (by decide +kernel) ?_ | refine bk_f (by decide +kernel) ?_))) | fail)
              repeat' (first | (with_reducible first | refine stp ?_ | refine k_blk_o rfl ?_ | refine k_seq_n ?_) | ((try (conv => arg 1; simp [s1, s4, s5, s6, s8, s9, ints, b, qw.1, qw.2.1, qw.2.2, ltS, nm_ne, tk_ne])); with_reducible refine evp ?_) | fail)
              conv => arg 1; simp
              rw [appendA_snoc (s := 5) (l := es') (e := [w, .int .i64 2, .int .i64 g.Blocks[k].A, .int .i64 g.Blocks[k].To, .int .i64 g.Blocks[k].Else]) (by kernel_rfl) ?hr hel' ?hk rfl (by omega) ?hm]
              case hr =>
                simp [b, nm_ne, ltS]
                intro e
                have hkn := b.2.1
                rw [e] at hkn
                simp only at hkn
                omega
              case hk => simp [qw.1, qw.2.1, qw.2.2]
              case hm => simp [b, ltS]
              refine ev2_some ?_
              repeat' (first | (with_reducible first | refine stp ?_ | refine k_blk_o rfl ?_ | refine k_seq_n ?_) | ((try (conv => arg 1; simp [s1, s4, s5, s6, s9, hw])); with_reducible refine evp ?_) | fail)
              refine k_lp_n (i + 1) (by omega) ⟨by omega, by simp [s1], by simp [s4], by simp [s5], by simp [s6], by simp, kn, _, fin 2 g.Blocks[k].A (g.Blocks[k].To) (g.Blocks[k].Else) (by simp [reB, hJ]), by simp, ?_⟩
              exact Cx.to x
          · have hge : i = l.length := by omega
            have hlt2 : ¬ (i : Int) < l.length := by omega
            repeat' (first | (with_reducible first | refine stp ?_ | refine k_blk_o rfl ?_ | refine k_seq_n ?_) | ((try (conv => arg 1; simp [s1, s4, s5, s6, s8, s9, ints, b, hlt2, q1.1, q1.2.1, q1.2.2, ltS, nm_ne, tk_ne])); with_reducible refine evp ?_) | fail)
            rw [hge, List.take_length] at he'
            subst he'
            obtain ⟨ns, y5⟩ := Cx.reorder O eL x
            have z := Cx.close_row (sp := []) (ts := fun b => (l.map fun k => reB l (blkAt g k)).map (Block.cells b)) (by rw [List.append_nil]; exact y5) (fun e he => by simp at he; obtain ⟨a, _, rfl⟩ := he; rfl) (fun b => by simp) (fun b t ht => by simp at ht; obtain ⟨a, _, rfl⟩ := ht; rfl) (fun e he => by simp at he) (fun i e j x he => by simp at he)
            rw [List.length_map, ← hge] at z
            refine fin_own (os := []) (ns := n1 ++ (kn :: (ns ++ []))) (bs := ?bs) ?y
            case y => exact Cx.to (Cx.graph_join (g := { g with Blocks := l.map fun k => reB l (blkAt g k) }) (Cx.rot1 z))
end Go.Proofs.YtlmlkkkgcbpaoaaGreat.AM

namespace Go.Proofs.YtlmlkkkgcbpaoaaGreat.AM
open Go.RowKit

private def MG78 : FuncId → Mode := fun f => if f = 27 ∨ f = 28 then .fresh else .tree

/-- A new row behind a run. -/
theorem ev2_addC {h h' : Hp} {bs bs' : Bx} {os : Ox} (x : Cx h bs os) [e : CxE h bs os h' bs'] {n : Nm} {r : Row} {v : AV} {k : AV → Hp → Prop} (h1 : h.tick ≤ n.1) (h2 : n.1 < h'.tick) (hk : ∀ h2, Cx h2 ((n, r) :: bs') os → k v h2) : Ev2 (some (v, h'.put n r)) k := by
  refine hk _ ((e.cx x).box_add (fun hm => ?_) h2)
  have := x.lt n (by
    simp only [nms, List.mem_append] at hm ⊢
    rw [← e.nm]
    exact hm)
  omega

set_option maxHeartbeats 4000000 in
theorem implReorder0 (g : Graph) (d : g.Small) (l : List Int) (hll : l.length ≤ 2 ^ 20) : FreshW Tryz.prog 28 [.agg (g.cells true), ints true l] (fun b => .agg ((reorderR g l).cells b)) := by
  intro T
  have hln := d.len
  have hnil : True := trivial
  have G := isOrder g d l hll
  refine enter mixed MG78 Tryz.func28 rfl (by kernel_rfl) rfl ?_
  repeat' (first | (with_reducible first | refine stp ?_ | refine k_blk_o rfl ?_) | ((try (conv => arg 1; simp [Graph.cells])); with_reducible refine evp ?_) | fail)
  refine cx_k ((Cx.mt.next.box_one (T := T) (i := 0) Cx.mt.off (by simp)).box_add (n := (T, 1, 0)) (by simp [nms]) (by simp)) ?_
  intro h1 x1
  have b1 := x1.bxs
  simp only [Bxs] at b1
  repeat' (first | (with_reducible first | refine stp ?_ | refine k_blk_o rfl ?_ | refine k_seq_n ?_) | ((try (conv => arg 1; simp [b1, ltS, nm_ne, tk_ne])); with_reducible refine evp ?_) | fail)
  refine st_freshw rfl (copyGraph g d) (.cons (dr_agg (drs_graphL g fun h => h)) .nil) ?_
  intro v h2 n o e f p t
  have x2 := x1.next.fresh o e f p t
  have z2 : h1.tick < h2.tick := by simp only [hp_next_tick] at t; omega
  obtain ⟨w1, w2, _, _, rfl, _, q1, q2⟩ := ownV_graph (o true)
  have q1 := own_one q1
  have q2 := own_one' q2
  have b2 := x2.bxs
  simp only [Bxs] at b2
  repeat' (first | (with_reducible first | refine stp ?_ | refine k_blk_o rfl ?_) | ((try (conv => arg 1; simp [b2, z2, q1.1, q1.2.1, q1.2.2, q2.1, q2.2.1, q2.2.2, ltS, nm_ne, tk_ne])); with_reducible refine evp ?_) | fail)
  refine cx_k (x2.box_new (x1.off.fresh f (by simp [hp_next_tick])) z2) ?_
  intro h3 x3
  have b3 := x3.bxs
  simp only [Bxs] at b3
  cases hk : orderB g l with
  | false =>
    rw [hk] at G
    have hr : reorderR g l = g := by simp [reorderR, hk]
    rw [hr]
    repeat' (first | (with_reducible first | refine stp ?_ | refine k_blk_o rfl ?_ | refine k_seq_n ?_) | ((try (conv => arg 1; simp [b3, q1.1, q1.2.1, q1.2.2, q2.1, q2.2.1, q2.2.2, ltS, nm_ne, tk_ne])); with_reducible refine evp ?_) | ((with_reducible refine tcl ?_); first | ((apply tg (G)); (case e => rfl); (case d => (refine dq ?_); (repeat' (first | ((refine Da.mk ?_); first | exact dr_blocks (by simp) _ | assumption) | constructor))))) | fail)
    refine fin_own (os := []) (ns := n) (bs := ?bs1) ?y1
    case y1 => exact Cx.to x3
  | true =>
    rw [hk] at G
    have O := orderB_ord hk
    have hgk := O.ok
    have hle := O.len
    have hr : reorderR g l = { g with Blocks := l.map fun k => reB l (blkAt g k) } := by simp [reorderR, hk]
    rw [hr]
    have hnb := (ok_blocks hgk).1
    have hbne : (g.Blocks.map (Block.cells true)) ≠ [] := fun e => by have := List.map_eq_nil_iff.1 e; rw [this] at hnb; simp at hnb
    --LOOP
    obtain ⟨u1, u2, n1, n2, eu, rfl, x6⟩ := x3.graph_split
    simp only [List.cons.injEq, true_and, and_true] at eu
    obtain ⟨rfl, rfl⟩ := eu
    obtain ⟨kk, ver, es, sp, n3, rfl, rfl, hel, he5, c1, c2, y⟩ := x6.rot1.open_row (s := 5) (ts := fun b => g.Blocks.map (Block.cells b)) (by omega) (fun b t ht => by simp at ht; obtain ⟨a, _, rfl⟩ := ht; rfl) hbne
    have hel2 : es.length = g.Blocks.length := by simpa using hel
    rw [hel2] at q2 b3 y
    obtain ⟨L, eL, ec, qL, y2⟩ := Cx.split_blocks (by omega) he5 y
    repeat' (first | (with_reducible first | refine stp ?_ | refine k_blk_o rfl ?_ | refine k_seq_n ?_) | ((try (conv => arg 1; simp [b3, q1.1, q1.2.1, q1.2.2, q2.1, q2.2.1, q2.2.2, ints, ltS, nm_ne, tk_ne])); with_reducible refine evp ?_) | ((with_reducible refine tcl ?_); first | ((apply tg (G)); (case e => rfl); (case d => (refine dq ?_); (repeat' (first | ((refine Da.mk ?_); first | exact dr_blocks (by simp) _ | assumption) | constructor))))) | fail)
    refine st_loop (fun (i : Nat) σ h => i ≤ l.length ∧ σ 1 = ints true l ∧ σ 4 = .ptr (T, 1, 0) 0 0 0 ∧ σ 5 = .ptr (h1.tick, 2, 0) 0 0 0 ∧ σ 6 = .ptr (h3.tick + 1, 1, 0) 0 0 0 ∧ σ 19 = ints true l ∧ σ 20 = .int .i64 l.length ∧ σ 21 = .int .i64 i ∧
      ((i = 0 ∧ Cx h [((h3.tick + 1, 1, 0), ⟨0, 5, [[w1, .int .i64 g.Params, .int .i64 g.Vars, .int .i64 g.Slots, .nilsl]]⟩), (kk, ⟨ver, 5, es ++ sp⟩), ((h1.tick, 2, 0), ⟨0, 5, [[w1, .int .i64 g.Params, .int .i64 g.Vars, .int .i64 g.Slots, .sl kk ver 0 g.Blocks.length]]⟩), ((T, 1, 0), ⟨0, 5, [[.nilsl, .int .i64 0, .int .i64 0, .int .i64 0, .nilsl]]⟩), ((T, 0, 0), graphRow g)] (L.map OB.own ++ [(w1, (fun b => ints b g.Sizes), n1)])) ∨
      (0 < i ∧ ∃ kn es', es' = ((l.take i).map fun k => (rePick L l k).cells) ∧ Cx h [(kn, ⟨i - 1, 5, es'⟩), ((h3.tick + 1, 1, 0), ⟨0, 5, [[w1, .int .i64 g.Params, .int .i64 g.Vars, .int .i64 g.Slots, .sl kn (i - 1) 0 i]]⟩), (kk, ⟨ver, 5, es ++ sp⟩), ((h1.tick, 2, 0), ⟨0, 5, [[w1, .int .i64 g.Params, .int .i64 g.Vars, .int .i64 g.Slots, .sl kk ver 0 g.Blocks.length]]⟩), ((T, 1, 0), ⟨0, 5, [[.nilsl, .int .i64 0, .int .i64 0, .int .i64 0, .nilsl]]⟩), ((T, 0, 0), graphRow g)] (L.map OB.own ++ [(w1, (fun b => ints b g.Sizes), n1)])))) (fun i => l.length - i) 0 ?init1 ?step1
    case init1 =>
      have z1 := y2.next.next.box_one (T := h3.tick + 1) (i := 1) (r := ⟨0, 5, [[.nilsl, .int .i64 0, .int .i64 0, .int .i64 0, .nilsl]]⟩) y2.next.off (by simp)
      exact ⟨Nat.zero_le _, by simp [ints], by simp, by simp, by simp, by simp [ints], by simp, by simp, .inl ⟨rfl, Cx.to z1⟩⟩
    case step1 =>
      rintro i σ h ⟨hi, s1, s4, s5, s6, s19, s20, s21, hst⟩
      by_cases hlt : i < l.length
      · have hlt2 : (i : Int) < l.length := by omega
        have hw : IntKind.i64.wrap (i + 1) = i + 1 := wrap_id (by omega) (by omega)
        have hx : l[i]? = some l[i] := by simp
        obtain ⟨k, hk2, hkN⟩ := O.at hlt
        have hkN2 : (k : Int) < g.Blocks.length := by omega
        have hts := take_snoc hlt
        generalize hli : l[i] = li at *
        subst hk2
        have hop : ∀ hh, l[i]'hh = (k : Int) := fun _ => hli
        obtain ⟨pa, qw⟩ := pick_at eL ec qL hkN
        have hpb := pickI_blk eL (k : Int)
        rw [show blkAt g (k : Int) = g.Blocks[k] by simp [blkAt, hkN]] at hpb
        have hpl : ∀ t : Int, Pure Tryz.prog 57 [ints true l, .int .i64 t] (.int .i64 (placeI l t)) := fun t => indexI l t (by omega)
        have fin : ∀ J A To El : Int, reB l g.Blocks[k] = ⟨g.Blocks[k].Code, J, A, To, El⟩ → ((l.take i).map fun k => (rePick L l k).cells) ++ [[(pickI L k).1, .int .i64 J, .int .i64 A, .int .i64 To, .int .i64 El]] = (l.take (i + 1)).map fun k => (rePick L l k).cells := fun J A To El e => by
          rw [hts, List.map_append]
          simp only [List.map_cons, List.map_nil, OB.cells, rePick, hpb, e]
        have hat : (es ++ sp)[k]? = some [(pickI L k).1, .int .i64 g.Blocks[k].Jump, .int .i64 g.Blocks[k].A, .int .i64 g.Blocks[k].To, .int .i64 g.Blocks[k].Else] := by
          rw [List.getElem?_append_left (by omega), pa]
        generalize hE : es ++ sp = E at *
        generalize hwp : (pickI L k).1 = w at *
        rcases hst with ⟨hi0, x⟩ | ⟨hi0, kn, es', he', x⟩
        · have b := x.bxs
          simp only [Bxs, graphRow] at b
          subst hi0
          have hw1 : IntKind.i64.wrap 1 = 1 := wrap_id (by omega) (by omega)
          rcases blk_jumpR hgk hkN with hJ | hJ | hJ
          · rw [hJ] at hat
            repeat' (first | (with_reducible first | refine stp ?_ | refine k_blk_o rfl ?_ | refine k_seq_n ?_) | ((try (conv => arg 1; simp [s1, s4, s5, s6, s19, s20, s21, ints, b, hlt, hlt2, hx, hop, hkN2, hat, qw.1, qw.2.1, qw.2.2, ltS, nm_ne, tk_ne])); with_reducible refine evp ?_) | ((with_reducible refine tcl ?_); first | ((apply tg (hpl g.Blocks[k].To)); (case e => rfl); (case d => (refine dq ?_); (repeat' (first | ((refine Da.mk ?_); first | assumption) | constructor))))) | fail)
            conv => arg 1; simp
            rw [appendA_nil1 (s := 5) (e := [w, .int .i64 0, .int .i64 g.Blocks[k].A, .int .i64 (placeI l g.Blocks[k].To), .int .i64 g.Blocks[k].Else]) (by kernel_rfl) ?hk rfl]
            case hk => simp [qw.1, qw.2.1, qw.2.2]
            refine ev2_addC x (by omega) (by simp) fun hz z => ?_
            have bz := z.bxs
            simp only [Bxs, graphRow] at bz
            repeat' (first | (with_reducible first | refine stp ?_ | refine k_blk_o rfl ?_ | refine k_seq_n ?_) | ((try (conv => arg 1; simp [s1, s4, s5, s6, s19, s20, s21, ints, bz, q1.1, q1.2.1, q1.2.2, hw1, ltS, nm_ne, tk_ne])); with_reducible refine evp ?_) | fail)
            refine k_lp_n 1 (by omega) ⟨by omega, by simp [s1, ints], by simp [s4], by simp [s5], by simp [s6], by simp [s19, ints], by simp [s20], by simp, .inr ⟨by omega, _, _, fin 0 g.Blocks[k].A (placeI l g.Blocks[k].To) g.Blocks[k].Else (by simp [reB, hJ]), Cx.to z⟩⟩
          · rw [hJ] at hat
            repeat' (first | (with_reducible first | refine stp ?_ | refine k_blk_o rfl ?_ | refine k_seq_n ?_) | ((try (conv => arg 1; simp [s1, s4, s5, s6, s19, s20, s21, ints, b, hlt, hlt2, hx, hop, hkN2, hat, qw.1, qw.2.1, qw.2.2, ltS, nm_ne, tk_ne])); with_reducible refine evp ?_) | ((with_reducible refine tcl ?_); first | ((apply tg (hpl g.Blocks[k].To)); (case e => rfl); (case d => (refine dq ?_); (repeat' (first | ((refine Da.mk ?_); first | assumption) | constructor)))) | ((apply tg (hpl g.Blocks[k].Else)); (case e => rfl); (case d => (refine dq ?_); (repeat' (first | ((refine Da.mk ?_); first | assumption) | constructor))))) | fail)
            conv => arg 1; simp
            rw [appendA_nil1 (s := 5) (e := [w, .int .i64 1, .int .i64 g.Blocks[k].A, .int .i64 (placeI l g.Blocks[k].To), .int .i64 (placeI l g.Blocks[k].Else)]) (by kernel_rfl) ?hk rfl]
            case hk => simp [qw.1, qw.2.1, qw.2.2]
            refine ev2_addC x (by omega) (by simp) fun hz z => ?_
            have bz := z.bxs
            simp only [Bxs, graphRow] at bz
            repeat' (first | (with_reducible first | refine stp ?_ | refine k_blk_o rfl ?_ | refine k_seq_n ?_) | ((try (conv => arg 1; simp [s1, s4, s5, s6, s19, s20, s21, ints, bz, q1.1, q1.2.1, q1.2.2, hw1, ltS, nm_ne, tk_ne])); with_reducible refine evp ?_) | fail)
            refine k_lp_n 1 (by omega) ⟨by omega, by simp [s1, ints], by simp [s4], by simp [s5], by simp [s6], by simp [s19, ints], by simp [s20], by simp, .inr ⟨by omega, _, _, fin 1 g.Blocks[k].A (placeI l g.Blocks[k].To) (placeI l g.Blocks[k].Else) (by simp [reB, hJ]), Cx.to z⟩⟩
          · rw [hJ] at hat
            repeat' (first | (with_reducible first | refine stp ?_ | refine k_blk_o rfl ?_ | refine k_seq_n ?_) | ((try (conv => arg 1; simp [s1, s4, s5, s6, s19, s20, s21, ints, b, hlt, hlt2, hx, hop, hkN2, hat, qw.1, qw.2.1, qw.2.2, ltS, nm_ne, tk_ne])); with_reducible refine evp ?_) | fail)
            conv => arg 1; simp
            rw [appendA_nil1 (s := 5) (e := [w, .int .i64 2, .int .i64 g.Blocks[k].A, .int .i64 g.Blocks[k].To, .int .i64 g.Blocks[k].Else]) (by kernel_rfl) ?hk rfl]
            case hk => simp [qw.1, qw.2.1, qw.2.2]
            refine ev2_addC x (by omega) (by simp) fun hz z => ?_
            have bz := z.bxs
            simp only [Bxs, graphRow] at bz
            repeat' (first | (with_reducible first | refine stp ?_ | refine k_blk_o rfl ?_ | refine k_seq_n ?_) | ((try (conv => arg 1; simp [s1, s4, s5, s6, s19, s20, s21, ints, bz, q1.1, q1.2.1, q1.2.2, hw1, ltS, nm_ne, tk_ne])); with_reducible refine evp ?_) | fail)
            refine k_lp_n 1 (by omega) ⟨by omega, by simp [s1, ints], by simp [s4], by simp [s5], by simp [s6], by simp [s19, ints], by simp [s20], by simp, .inr ⟨by omega, _, _, fin 2 g.Blocks[k].A g.Blocks[k].To g.Blocks[k].Else (by simp [reB, hJ]), Cx.to z⟩⟩
        · have b := x.bxs
          simp only [Bxs, graphRow] at b
          have hkA : kn.1 < h.tick + 1 + 1 := by omega
          have hkB : kn.1 < h.tick + 1 + 1 + 1 + 1 + 1 + 1 := by omega
          have hkC : kn.1 < h.tick + 1 + 1 + 1 + 1 + 1 + 1 + 1 := by omega
          have hkD : kn.1 < h.tick + 1 + 1 + 1 + 1 + 1 := by omega
          have hel' : es'.length = i := by rw [he']; simp; omega
          have hkg : ¬ (h3.tick + 1, 1, 0) = kn := by have ap := x.aps; simp only [List.map_cons, List.map_nil, Aps] at ap; exact (ap.1 (h3.tick + 1, 1, 0) (by simp)).2
          have hkk1 : i - 1 + 1 = i := by omega
          have hkk2 : i + 1 - 1 = i := by omega
          rcases blk_jumpR hgk hkN with hJ | hJ | hJ
          · rw [hJ] at hat
            repeat' (first | (with_reducible first | refine stp ?_ | refine k_blk_o rfl ?_ | refine k_seq_n ?_) | ((try (conv => arg 1; simp [s1, s4, s5, s6, s19, s20, s21, ints, b, hlt, hlt2, hx, hop, hkN2, hat, qw.1, qw.2.1, qw.2.2, ltS, nm_ne, tk_ne])); with_reducible refine evp ?_) | ((with_reducible refine tcl ?_); first | ((apply tg (hpl g.Blocks[k].To)); (case e => rfl); (case d => (refine dq ?_); (repeat' (first | ((refine Da.mk ?_); first | assumption) | constructor))))) | fail)
            conv => arg 1; simp
            rw [appendA_snoc (s := 5) (l := es') (e := [w, .int .i64 0, .int .i64 g.Blocks[k].A, .int .i64 (placeI l g.Blocks[k].To), .int .i64 g.Blocks[k].Else]) (by kernel_rfl) ?hr hel' ?hk rfl (by omega) ?hm]
            case hr =>
              simp [b, nm_ne hkA, nm_ne hkB]
            case hk => simp [qw.1, qw.2.1, qw.2.2]
            case hm => simp [b, ltS]
            refine ev2_some ?_
            repeat' (first | (with_reducible first | refine stp ?_ | refine k_blk_o rfl ?_ | refine k_seq_n ?_) | ((try (conv => arg 1; simp [s1, s4, s5, s6, s19, s20, s21, ints, b, q1.1, q1.2.1, q1.2.2, hw, hkg, hkk1, ltS, nm_ne, tk_ne])); with_reducible refine evp ?_) | fail)
            refine k_lp_n (i + 1) (by omega) ⟨by omega, by simp [s1, ints], by simp [s4], by simp [s5], by simp [s6], by simp [s19, ints], by simp [s20], by simp, .inr ⟨by omega, kn, es' ++ [[w, .int .i64 0, .int .i64 g.Blocks[k].A, .int .i64 (placeI l g.Blocks[k].To), .int .i64 g.Blocks[k].Else]], by rw [he']; exact fin 0 g.Blocks[k].A (placeI l g.Blocks[k].To) g.Blocks[k].Else (by simp [reB, hJ]), ?_⟩⟩
            rw [hkk2]
            exact Cx.to x
          · rw [hJ] at hat
            repeat' (first | (with_reducible first | refine stp ?_ | refine k_blk_o rfl ?_ | refine k_seq_n ?_) | ((try (conv => arg 1; simp [s1, s4, s5, s6, s19, s20, s21, ints, b, hlt, hlt2, hx, hop, hkN2, hat, qw.1, qw.2.1, qw.2.2, ltS, nm_ne, tk_ne])); with_reducible refine evp ?_) | ((with_reducible refine tcl ?_); first | ((apply tg (hpl g.Blocks[k].To)); (case e => rfl); (case d => (refine dq ?_); (repeat' (first | ((refine Da.mk ?_); first | assumption) | constructor)))) | ((apply tg (hpl g.Blocks[k].Else)); (case e => rfl); (case d => (refine dq ?_); (repeat' (first | ((refine Da.mk ?_); first | assumption) | constructor))))) | fail)
            conv => arg 1; simp
            rw [appendA_snoc (s := 5) (l := es') (e := [w, .int .i64 1, .int .i64 g.Blocks[k].A, .int .i64 (placeI l g.Blocks[k].To), .int .i64 (placeI l g.Blocks[k].Else)]) (by kernel_rfl) ?hr hel' ?hk rfl (by omega) ?hm]
            case hr =>
              simp [b, nm_ne hkA, nm_ne hkC]
            case hk => simp [qw.1, qw.2.1, qw.2.2]
            case hm => simp [b, ltS]
            refine ev2_some ?_
            repeat' (first | (with_reducible first | refine stp ?_ | refine k_blk_o rfl ?_ | refine k_seq_n ?_) | ((try (conv => arg 1; simp [s1, s4, s5, s6, s19, s20, s21, ints, b, q1.1, q1.2.1, q1.2.2, hw, hkg, hkk1, ltS, nm_ne, tk_ne])); with_reducible refine evp ?_) | fail)
            refine k_lp_n (i + 1) (by omega) ⟨by omega, by simp [s1, ints], by simp [s4], by simp [s5], by simp [s6], by simp [s19, ints], by simp [s20], by simp, .inr ⟨by omega, kn, es' ++ [[w, .int .i64 1, .int .i64 g.Blocks[k].A, .int .i64 (placeI l g.Blocks[k].To), .int .i64 (placeI l g.Blocks[k].Else)]], by rw [he']; exact fin 1 g.Blocks[k].A (placeI l g.Blocks[k].To) (placeI l g.Blocks[k].Else) (by simp [reB, hJ]), ?_⟩⟩
            rw [hkk2]
            exact Cx.to x
          · rw [hJ] at hat
            repeat' (first | (with_reducible first | refine stp ?_ | refine k_blk_o rfl ?_ | refine k_seq_n ?_) | ((try (conv => arg 1; simp [s1, s4, s5, s6, s19, s20, s21, ints, b, hlt, hlt2, hx, hop, hkN2, hat, qw.1, qw.2.1, qw.2.2, ltS, nm_ne, tk_ne])); with_reducible refine evp ?_) | fail)
            conv => arg 1; simp
            rw [appendA_snoc (s := 5) (l := es') (e := [w, .int .i64 2, .int .i64 g.Blocks[k].A, .int .i64 g.Blocks[k].To, .int .i64 g.Blocks[k].Else]) (by kernel_rfl) ?hr hel' ?hk rfl (by omega) ?hm]
            case hr =>
              simp [b, nm_ne hkA, nm_ne hkD]
            case hk => simp [qw.1, qw.2.1, qw.2.2]
            case hm => simp [b, ltS]
            refine ev2_some ?_
            repeat' (first | (with_reducible first | refine stp ?_ | refine k_blk_o rfl ?_ | refine k_seq_n ?_) | ((try (conv => arg 1; simp [s1, s4, s5, s6, s19, s20, s21, ints, b, q1.1, q1.2.1, q1.2.2, hw, hkg, hkk1, ltS, nm_ne, tk_ne])); with_reducible refine evp ?_) | fail)
            refine k_lp_n (i + 1) (by omega) ⟨by omega, by simp [s1, ints], by simp [s4], by simp [s5], by simp [s6], by simp [s19, ints], by simp [s20], by simp, .inr ⟨by omega, kn, es' ++ [[w, .int .i64 2, .int .i64 g.Blocks[k].A, .int .i64 g.Blocks[k].To, .int .i64 g.Blocks[k].Else]], by rw [he']; exact fin 2 g.Blocks[k].A g.Blocks[k].To g.Blocks[k].Else (by simp [reB, hJ]), ?_⟩⟩
            rw [hkk2]
            exact Cx.to x
      · have hge : i = l.length := by omega
        have hlt2 : ¬ (i : Int) < l.length := by omega
        rcases hst with ⟨hi0, x⟩ | ⟨hi0, kn, es', he', x⟩
        · omega
        have b := x.bxs
        simp only [Bxs, graphRow] at b
        repeat' (first | (with_reducible first | refine stp ?_ | refine k_blk_o rfl ?_ | refine k_seq_n ?_) | ((try (conv => arg 1; simp [s1, s4, s5, s6, s19, s20, s21, ints, b, hlt2, q1.1, q1.2.1, q1.2.2, ltS, nm_ne, tk_ne])); with_reducible refine evp ?_) | fail)
        have hln2 : (l.take i).length = i := by simp; omega
        rw [hge, List.take_length] at he'
        subst he'
        have x := x.bperm (List.Perm.refl _)
        obtain ⟨ns, y5⟩ := Cx.reorder O eL x
        have z := Cx.close_row (sp := []) (ts := fun b => (l.map fun k => reB l (blkAt g k)).map (Block.cells b)) (by rw [List.append_nil]; exact y5) (fun e he => by simp at he; obtain ⟨a, _, rfl⟩ := he; rfl) (fun b => by simp) (fun b t ht => by simp at ht; obtain ⟨a, _, rfl⟩ := ht; rfl) (fun e he => by simp at he) (fun i e j x he => by simp at he)
        rw [List.length_map, ← hge] at z
        refine fin_own (os := []) (ns := n1 ++ (kn :: (ns ++ []))) (bs := ?bs) ?y
        case y => exact Cx.to (Cx.graph_join (g := { g with Blocks := l.map fun k => reB l (blkAt g k) }) (Cx.rot1 z))
end Go.Proofs.YtlmlkkkgcbpaoaaGreat.AM

namespace Go.Proofs.YtlmlkkkgcbpaoaaGreat.AM
open Go.RowKit

private def MG81 : FuncId → Mode := fun f => .tree

def w64 (a : Int) : Int := IntKind.i64.wrap a
def isT (op : ByteArray) (k : List UInt8) : Bool := op.toList == k
def binV (op : ByteArray) (a b : Int) : Int :=
  if isT op [43] then w64 (a + b) else if isT op [45] then w64 (a - b) else if isT op [42] then w64 (a * b)
  else if isT op [38] then w64 (BitVec.ofInt IntKind.i64.bits a &&& BitVec.ofInt IntKind.i64.bits b).toNat
  else if isT op [61, 61] then (if a = b then 1 else 0) else if isT op [60] then (if a < b then 1 else 0) else 0
theorem isT_t {op : ByteArray} {k : List UInt8} (h : isT op k = true) : op.toList = k := by simpa [isT] using h
theorem isT_f {op : ByteArray} {k : List UInt8} (h : ¬ isT op k = true) : (op.toList == k) = false := by simpa [isT] using h

theorem specBin (op : ByteArray) (a b : Int) : Pure Tryz.prog 102 [.str op, .int .i64 a, .int .i64 b] (.int .i64 (binV op a b)) := by
  intro T
  refine enter mixed MG81 Tryz.func102 rfl (by kernel_rfl) rfl ?_
  by_cases h1 : isT op [43] = true
  · have e1 := isT_t h1
    repeat' (first | (with_reducible first | refine stp ?_ | refine k_blk_o rfl ?_ | refine k_seq_n ?_) | ((try (conv => arg 1; simp [e1])); with_reducible refine evp ?_) | fail)
    exact dr_int (by simp [binV, h1, w64])
  have e1 := isT_f h1
  by_cases h2 : isT op [45] = true
  · have e2 := isT_t h2
    repeat' (first | (with_reducible first | refine stp ?_ | refine k_blk_o rfl ?_ | refine k_seq_n ?_) | ((try (conv => arg 1; simp [e1, e2])); with_reducible refine evp ?_) | fail)
    exact dr_int (by simp [binV, h1, h2, w64])
  have e2 := isT_f h2
  by_cases h3 : isT op [42] = true
  · have e3 := isT_t h3
    repeat' (first | (with_reducible first | refine stp ?_ | refine k_blk_o rfl ?_ | refine k_seq_n ?_) | ((try (conv => arg 1; simp [e1, e2, e3])); with_reducible refine evp ?_) | fail)
    exact dr_int (by simp [binV, h1, h2, h3, w64])
  have e3 := isT_f h3
  by_cases h4 : isT op [38] = true
  · have e4 := isT_t h4
    repeat' (first | (with_reducible first | refine stp ?_ | refine k_blk_o rfl ?_ | refine k_seq_n ?_) | ((try (conv => arg 1; simp [e1, e2, e3, e4])); with_reducible refine evp ?_) | fail)
    exact dr_int (by simp [binV, h1, h2, h3, h4, w64])
  have e4 := isT_f h4
  by_cases h5 : isT op [61, 61] = true
  · have e5 := isT_t h5
    by_cases hab : a = b
    · skip
      repeat' (first | (with_reducible first | refine stp ?_ | refine k_blk_o rfl ?_ | refine k_seq_n ?_) | ((try (conv => arg 1; simp [e1, e2, e3, e4, e5, hab])); with_reducible refine evp ?_) | fail)
      exact dr_int (by simp [binV, h1, h2, h3, h4, h5, hab])
    · skip
      repeat' (first | (with_reducible first | refine stp ?_ | refine k_blk_o rfl ?_ | refine k_seq_n ?_) | ((try (conv => arg 1; simp [e1, e2, e3, e4, e5, hab])); with_reducible refine evp ?_) | fail)
      exact dr_int (by simp [binV, h1, h2, h3, h4, h5, hab])
  have e5 := isT_f h5
  by_cases h6 : isT op [60] = true
  · have e6 := isT_t h6
    by_cases hab : a < b
    · skip
      repeat' (first | (with_reducible first | refine stp ?_ | refine k_blk_o rfl ?_ | refine k_seq_n ?_) | ((try (conv => arg 1; simp [e1, e2, e3, e4, e5, e6, hab])); with_reducible refine evp ?_) | fail)
      exact dr_int (by simp [binV, h1, h2, h3, h4, h5, h6, hab])
    · skip
      repeat' (first | (with_reducible first | refine stp ?_ | refine k_blk_o rfl ?_ | refine k_seq_n ?_) | ((try (conv => arg 1; simp [e1, e2, e3, e4, e5, e6, hab])); with_reducible refine evp ?_) | fail)
      exact dr_int (by simp [binV, h1, h2, h3, h4, h5, h6, hab])
  have e6 := isT_f h6
  repeat' (first | (with_reducible first | refine stp ?_ | refine k_blk_o rfl ?_ | refine k_seq_n ?_) | ((try (conv => arg 1; simp [e1, e2, e3, e4, e5, e6])); with_reducible refine evp ?_) | fail)
  exact dr_int (by simp [binV, h1, h2, h3, h4, h5, h6])
theorem implBin (op : ByteArray) (a b : Int) : Pure Tryz.prog 144 [.str op, .int .i64 a, .int .i64 b] (.int .i64 (binV op a b)) := by
  intro T
  refine enter mixed MG81 Tryz.func144 rfl (by kernel_rfl) rfl ?_
  by_cases h1 : isT op [43] = true
  · have e1 := isT_t h1
    repeat' (first | (with_reducible first | refine stp ?_ | refine k_blk_o rfl ?_ | refine k_seq_n ?_) | ((try (conv => arg 1; simp [e1])); with_reducible refine evp ?_) | fail)
    exact dr_int (by simp [binV, h1, w64])
  have e1 := isT_f h1
  by_cases h2 : isT op [45] = true
  · have e2 := isT_t h2
    repeat' (first | (with_reducible first | refine stp ?_ | refine k_blk_o rfl ?_ | refine k_seq_n ?_) | ((try (conv => arg 1; simp [e1, e2])); with_reducible refine evp ?_) | fail)
    exact dr_int (by simp [binV, h1, h2, w64])
  have e2 := isT_f h2
  by_cases h3 : isT op [42] = true
  · have e3 := isT_t h3
    repeat' (first | (with_reducible first | refine stp ?_ | refine k_blk_o rfl ?_ | refine k_seq_n ?_) | ((try (conv => arg 1; simp [e1, e2, e3])); with_reducible refine evp ?_) | fail)
    exact dr_int (by simp [binV, h1, h2, h3, w64])
  have e3 := isT_f h3
  by_cases h4 : isT op [38] = true
  · have e4 := isT_t h4
    repeat' (first | (with_reducible first | refine stp ?_ | refine k_blk_o rfl ?_ | refine k_seq_n ?_) | ((try (conv => arg 1; simp [e1, e2, e3, e4])); with_reducible refine evp ?_) | fail)
    exact dr_int (by simp [binV, h1, h2, h3, h4, w64])
  have e4 := isT_f h4
  by_cases h5 : isT op [61, 61] = true
  · have e5 := isT_t h5
    by_cases hab : a = b
    · skip
      repeat' (first | (with_reducible first | refine stp ?_ | refine k_blk_o rfl ?_ | refine k_seq_n ?_) | ((try (conv => arg 1; simp [e1, e2, e3, e4, e5, hab])); with_reducible refine evp ?_) | fail)
      exact dr_int (by simp [binV, h1, h2, h3, h4, h5, hab])
    · skip
      repeat' (first | (with_reducible first | refine stp ?_ | refine k_blk_o rfl ?_ | refine k_seq_n ?_) | ((try (conv => arg 1; simp [e1, e2, e3, e4, e5, hab])); with_reducible refine evp ?_) | fail)
      exact dr_int (by simp [binV, h1, h2, h3, h4, h5, hab])
  have e5 := isT_f h5
  by_cases h6 : isT op [60] = true
  · have e6 := isT_t h6
    by_cases hab : a < b
    · skip
      repeat' (first | (with_reducible first | refine stp ?_ | refine k_blk_o rfl ?_ | refine k_seq_n ?_) | ((try (conv => arg 1; simp [e1, e2, e3, e4, e5, e6, hab])); with_reducible refine evp ?_) | fail)
      exact dr_int (by simp [binV, h1, h2, h3, h4, h5, h6, hab])
    · skip
      repeat' (first | (with_reducible first | refine stp ?_ | refine k_blk_o rfl ?_ | refine k_seq_n ?_) | ((try (conv => arg 1; simp [e1, e2, e3, e4, e5, e6, hab])); with_reducible refine evp ?_) | fail)
      exact dr_int (by simp [binV, h1, h2, h3, h4, h5, h6, hab])
  have e6 := isT_f h6
  repeat' (first | (with_reducible first | refine stp ?_ | refine k_blk_o rfl ?_ | refine k_seq_n ?_) | ((try (conv => arg 1; simp [e1, e2, e3, e4, e5, e6])); with_reducible refine evp ?_) | fail)
  exact dr_int (by simp [binV, h1, h2, h3, h4, h5, h6])
theorem inB_slot {a : Int} {ns : Nat} (h : inB a 0 (ns - 1) = true) : ∃ k : Nat, a = k ∧ k < ns := by
  simp [inB] at h
  exact ⟨a.toNat, by omega, by omega⟩
end Go.Proofs.YtlmlkkkgcbpaoaaGreat.AM

namespace Go.Proofs.YtlmlkkkgcbpaoaaGreat.AM
open Go.RowKit

def rd (l : List Int) (i : Int) : Int := l.getD i.toNat 0
/-- A walk as it runs; st is how it has ended. -/
structure Rs where
  mem : List (List Int)
  vars : List Int
  inp : List Int
  fu : Nat
  st : Option Int
  val : Int
  out : List Int
def idxR (s : Rs) (x : Instr) : Int := if 0 ≤ x.A then w64 (rd s.vars x.B + rd s.vars x.A) else rd s.vars x.B
def memR (s : Rs) (x : Instr) : List Int := s.mem.getD x.N.toNat []
def stepR (s : Rs) (x : Instr) : Rs :=
  if x.Op = 0 then { s with vars := s.vars.set x.D.toNat x.N }
  else if x.Op = 1 then { s with vars := s.vars.set x.D.toNat (rd s.vars x.A) }
  else if x.Op = 2 then { s with vars := s.vars.set x.D.toNat (binV x.Text (rd s.vars x.A) (rd s.vars x.B)) }
  else if x.Op = 5 then { s with vars := s.vars.set x.D.toNat (s.inp.headD (-1)), inp := s.inp.tail }
  else if x.Op = 6 then { s with out := s.out ++ [rd s.vars x.A] }
  else if inB (idxR s x) 0 ((memR s x).length - 1) = false then { s with st := some 1 }
  else if x.Op = 3 then { s with vars := s.vars.set x.D.toNat (rd (memR s x) (idxR s x)) }
  else { s with mem := s.mem.set x.N.toNat ((memR s x).set (idxR s x).toNat (rd s.vars x.C)) }
def burnR (s : Rs) : Rs := if s.fu = 0 then { s with st := some 2 } else { s with fu := s.fu - 1 }
def insR (s : Rs) (x : Instr) : Rs := if (burnR s).st = none then stepR (burnR s) x else burnR s
def codeR : Rs → List Instr → Rs
  | s, [] => s
  | s, x :: l => if s.st = none then codeR (insR s x) l else s
def jumpR (s : Rs) (b : Block) : Rs × Int :=
  if s.st = none then
    (if b.Jump = 2 then ({ s with st := some 0, val := rd s.vars b.A }, b.To)
     else if b.Jump = 1 ∧ rd s.vars b.A = 0 then (s, b.Else) else (s, b.To))
  else (s, 0)
def blockR (s : Rs) (b : Block) : Rs × Int := if (codeR s b.Code).st = none then jumpR (burnR (codeR s b.Code)) b else (codeR s b.Code, 0)
/-- The blocks that a walk begins, so many at most. -/
def pathR (g : Graph) : Nat → Rs → Int → List Int
  | 0, _, _ => []
  | n + 1, s, a => if s.st = none then a :: pathR g n (blockR s (blkAt g a)).1 (blockR s (blkAt g a)).2 else []
def mem0 (xs : List Int) : List (List Int) := xs.map fun n => zeros n.toNat
def startR (g : Graph) (A I : List Int) (fu : Nat) : Rs := ⟨mem0 g.Sizes, A ++ zeros (g.Slots.toNat - A.length), I, fu, none, 0, []⟩
def argsG (g : Graph) (A I : List Int) : Bool := graphOk g && decide ((A.length : Int) = g.Params) && decide (I.length ≤ 100)
def tickR (l : List Int) (k : Int) : List Int := l.set k.toNat (w64 (rd l k + 1))
def pathG (g : Graph) (A I : List Int) : List Int := pathR g 1000 (startR g A I 100000) 0
def countsR (g : Graph) (A I : List Int) : List Int := if argsG g A I = true then (pathG g A I).foldl tickR (zeros g.Blocks.length) else []

theorem codeR_stop {s : Rs} (h : ¬ s.st = none) : ∀ l, codeR s l = s
  | [] => rfl
  | x :: l => by simp [codeR, h]
theorem codeR_go {s : Rs} (h : s.st = none) (x : Instr) (l : List Instr) : codeR s (x :: l) = codeR (insR s x) l := by simp [codeR, h]
theorem codeR_drop {s : Rs} (h : s.st = none) {l : List Instr} {i : Nat} (hi : i < l.length) : codeR s (l.drop i) = codeR (insR s l[i]) (l.drop (i + 1)) := by
  rw [List.drop_eq_getElem_cons hi, codeR_go h]
theorem pathR_stop {g : Graph} {s : Rs} (h : ¬ s.st = none) (n : Nat) (a : Int) : pathR g n s a = [] := by
  cases n with
  | zero => rfl
  | succ n => simp [pathR, h]
theorem pathR_go {g : Graph} {s : Rs} (h : s.st = none) (n : Nat) (a : Int) : pathR g (n + 1) s a = a :: pathR g n (blockR s (blkAt g a)).1 (blockR s (blkAt g a)).2 := by simp [pathR, h]
theorem pathR_len {g : Graph} : ∀ (n : Nat) (s : Rs) (a : Int), (pathR g n s a).length ≤ n
  | 0, s, a => Nat.le_refl _
  | n + 1, s, a => by
    unfold pathR
    split
    · have := pathR_len n (blockR s (blkAt g a)).1 (blockR s (blkAt g a)).2 (g := g)
      simp only [List.length_cons]
      omega
    · simp

/-- What no step changes. -/
structure Kp (s t : Rs) : Prop where
  vars : t.vars.length = s.vars.length
  mem : t.mem.map List.length = s.mem.map List.length
  inp : t.inp.length ≤ s.inp.length
  fu : t.fu ≤ s.fu
  out : t.out.length + t.fu ≤ s.out.length + s.fu
theorem Kp.refl (s : Rs) : Kp s s := ⟨rfl, rfl, Nat.le_refl _, Nat.le_refl _, Nat.le_refl _⟩
theorem Kp.trans {s t u : Rs} (a : Kp s t) (b : Kp t u) : Kp s u := ⟨b.vars.trans a.vars, b.mem.trans a.mem, Nat.le_trans b.inp a.inp, Nat.le_trans b.fu a.fu, Nat.le_trans b.out a.out⟩
theorem map_len_set {mem : List (List Int)} {q : Nat} {ys : List Int} (h : ys.length = (mem.getD q []).length) : (mem.set q ys).map List.length = mem.map List.length := by
  refine List.ext_getElem (by simp) fun i h1 h2 => ?_
  simp only [List.length_map, List.length_set] at h1 h2
  simp only [List.getElem_map, List.getElem_set]
  split
  · rename_i e
    subst e
    rw [h]
    simp [h2]
  · rfl
theorem stepR_keep (s : Rs) (x : Instr) : (stepR s x).vars.length = s.vars.length ∧ (stepR s x).mem.map List.length = s.mem.map List.length ∧ (stepR s x).inp.length ≤ s.inp.length ∧ (stepR s x).fu = s.fu ∧ (stepR s x).out.length ≤ s.out.length + 1 := by
  unfold stepR
  repeat' split
  all_goals first | (simp; done) | exact ⟨rfl, map_len_set (by simp [memR]), Nat.le_refl _, rfl, Nat.le_succ _⟩
theorem burnR_kp (s : Rs) : Kp s (burnR s) := by
  unfold burnR
  split
  · exact ⟨rfl, rfl, Nat.le_refl _, Nat.le_refl _, Nat.le_refl _⟩
  · exact ⟨rfl, rfl, Nat.le_refl _, by simp, by simp⟩
theorem burnR_run {s : Rs} (h : (burnR s).st = none) : 0 < s.fu ∧ burnR s = { s with fu := s.fu - 1 } ∧ s.st = none := by
  unfold burnR at h ⊢
  split at h
  · cases h
  · rename_i e
    exact ⟨by omega, by rw [if_neg e], h⟩
theorem insR_kp (s : Rs) (x : Instr) : Kp s (insR s x) := by
  unfold insR
  split
  · rename_i h
    obtain ⟨h1, h2, h3⟩ := burnR_run h
    obtain ⟨k1, k2, k3, k4, k5⟩ := stepR_keep (burnR s) x
    rw [h2] at k1 k2 k3 k4 k5 ⊢
    simp only at k1 k2 k3 k4 k5
    exact ⟨k1, k2, k3, by omega, by omega⟩
  · exact burnR_kp s
theorem codeR_kp : ∀ (l : List Instr) (s : Rs), Kp s (codeR s l)
  | [], s => .refl s
  | x :: l, s => by
    unfold codeR
    split
    · exact (insR_kp s x).trans (codeR_kp l _)
    · exact .refl s
theorem jumpR_kp (s : Rs) (b : Block) : Kp s (jumpR s b).1 := by
  unfold jumpR
  repeat' split
  all_goals exact ⟨rfl, rfl, Nat.le_refl _, Nat.le_refl _, Nat.le_refl _⟩
theorem blockR_kp (s : Rs) (b : Block) : Kp s (blockR s b).1 := by
  unfold blockR
  split
  · exact (codeR_kp _ s).trans ((burnR_kp _).trans (jumpR_kp _ b))
  · exact codeR_kp _ s
theorem jumpR_run {s : Rs} {b : Block} (h : (jumpR s b).1.st = none) : s.st = none ∧ (jumpR s b).1 = s ∧ ¬ b.Jump = 2 := by
  unfold jumpR at h ⊢
  by_cases h1 : s.st = none
  · rw [if_pos h1] at h ⊢
    by_cases h2 : b.Jump = 2
    · rw [if_pos h2] at h; cases h
    · refine ⟨h1, ?_, h2⟩
      rw [if_neg h2]
      split <;> rfl
  · rw [if_neg h1] at h; exact absurd h h1
theorem stepR_st (s : Rs) (x : Instr) : (stepR s x).st = s.st ∨ (stepR s x).st = some 1 := by
  unfold stepR
  repeat' split
  all_goals first | exact .inl rfl | exact .inr rfl
theorem insR_st {s : Rs} (h : s.st = none) (x : Instr) : ¬ (insR s x).st = some 0 := by
  unfold insR
  split
  · rename_i h1
    rcases stepR_st (burnR s) x with e | e <;> rw [e]
    · rw [h1]; simp
    · simp
  · unfold burnR
    split
    · simp
    · simp [h]
/-- How a walk can have ended. -/
def COk (s : Rs) : Prop := ∀ c, s.st = some c → 0 ≤ c ∧ c ≤ 2
theorem COk.of {s : Rs} (h : s.st = none ∨ s.st = some 0 ∨ s.st = some 1 ∨ s.st = some 2) : COk s := fun c hc => by
  rcases h with h | h | h | h <;> rw [h] at hc <;> cases hc <;> decide
theorem burnR_cok {s : Rs} (h : COk s) : COk (burnR s) := by
  unfold burnR
  split
  · exact .of (.inr (.inr (.inr rfl)))
  · exact h
theorem insR_cok {s : Rs} (h : COk s) (x : Instr) : COk (insR s x) := by
  unfold insR
  split
  · rename_i h1
    rcases stepR_st (burnR s) x with e | e
    · exact .of (.inl (by rw [e, h1]))
    · exact .of (.inr (.inr (.inl e)))
  · exact burnR_cok h
/-- How much is left to do. -/
def ms (s : Rs) : Nat := if s.st = none then s.fu + 1 else 0
theorem blockR_ms {s : Rs} (h : s.st = none) (b : Block) : ms (blockR s b).1 < ms s := by
  unfold ms
  rw [if_pos h]
  split
  · rename_i h1
    unfold blockR at h1 ⊢
    by_cases h2 : (codeR s b.Code).st = none
    · rw [if_pos h2] at h1 ⊢
      obtain ⟨h3, h4, _⟩ := jumpR_run h1
      obtain ⟨h5, h6, _⟩ := burnR_run h3
      rw [h4, h6]
      have := (codeR_kp b.Code s).fu
      simp only
      omega
    · rw [if_neg h2] at h1; exact absurd h1 h2
  · omega

/-- Without fuel a block is nothing. -/
theorem insR_zero {s : Rs} (hf : s.fu = 0) (x : Instr) : insR s x = { s with st := some 2 } := by simp [insR, burnR, hf]
theorem blockR_zero {s : Rs} (h : s.st = none) (hf : s.fu = 0) (b : Block) : (blockR s b).1 = { s with st := some 2 } := by
  obtain ⟨Code, J, A, T, E⟩ := b
  unfold blockR
  simp only
  cases Code with
  | nil => simp [codeR, h, burnR, hf, jumpR]
  | cons x l =>
    rw [codeR_go h, insR_zero hf, codeR_stop (by simp)]
    simp
/-- A walk within a graph. -/
structure RsOk (g : Graph) (s : Rs) : Prop where
  ok : graphOk g = true
  vars : (s.vars.length : Int) = g.Slots
  mem : s.mem.map List.length = g.Sizes.map Int.toNat
  inp : s.inp.length ≤ 100
  out : s.out.length + s.fu ≤ 100000
theorem RsOk.kp {g : Graph} {s t : Rs} (o : RsOk g s) (k : Kp s t) : RsOk g t := ⟨o.ok, by rw [k.vars]; exact o.vars, by rw [k.mem]; exact o.mem, Nat.le_trans k.inp o.inp, Nat.le_trans k.out o.out⟩
theorem graphOk_head {g : Graph} (h : graphOk g = true) : Head g := by
  simp only [graphOk, Bool.and_eq_true] at h
  exact headOk_head h.1.1
theorem RsOk.memlen {g : Graph} {s : Rs} (o : RsOk g s) : s.mem.length = g.Sizes.length := by
  have := congrArg List.length o.mem
  simpa using this
theorem RsOk.len {g : Graph} {s : Rs} (o : RsOk g s) {q : Nat} (hq : q < s.mem.length) : s.mem[q].length ≤ 16 := by
  have h := (graphOk_head o.ok).size
  have e : (s.mem.map List.length)[q]? = (g.Sizes.map Int.toNat)[q]? := by rw [o.mem]
  have hl := o.memlen
  simp only [List.getElem?_map, List.getElem?_eq_getElem hq, List.getElem?_eq_getElem (show q < g.Sizes.length by omega), Option.map_some, Option.some.injEq] at e
  have := h _ (List.getElem_mem (show q < g.Sizes.length by omega))
  omega
theorem startR_ok {g : Graph} {A I : List Int} (h : argsG g A I = true) {fu : Nat} (hf : fu ≤ 100000) : RsOk g (startR g A I fu) := by
  simp only [argsG, Bool.and_eq_true, decide_eq_true_eq] at h
  obtain ⟨⟨h1, h2⟩, h3⟩ := h
  have hd := graphOk_head h1
  have a1 := hd.params
  have a2 := hd.slots
  refine ⟨h1, ?_, ?_, h3, by simpa [startR] using hf⟩
  · simp [startR, zeros]; omega
  · simp only [startR, mem0, List.map_map]
    refine List.map_congr_left fun n hn => ?_
    simp [zeros]
/-- What a right step says of its numbers. -/
theorem in_cases {ns nr : Nat} {x : Instr} (h : instrOk ns nr x = true) :
    (x.Op = 0 ∧ ∃ d : Nat, x.D = d ∧ d < ns) ∨
    (x.Op = 1 ∧ ∃ d a : Nat, (x.D = d ∧ d < ns) ∧ (x.A = a ∧ a < ns)) ∨
    (x.Op = 2 ∧ ∃ d a b : Nat, (x.D = d ∧ d < ns) ∧ (x.A = a ∧ a < ns) ∧ (x.B = b ∧ b < ns)) ∨
    (x.Op = 5 ∧ ∃ d : Nat, x.D = d ∧ d < ns) ∨
    (x.Op = 6 ∧ ∃ a : Nat, x.A = a ∧ a < ns) ∨
    (x.Op = 3 ∧ ∃ d b q : Nat, (x.D = d ∧ d < ns) ∧ (x.B = b ∧ b < ns) ∧ (x.N = q ∧ q < nr) ∧ (x.A = -1 ∨ ∃ a : Nat, x.A = a ∧ a < ns)) ∨
    (x.Op = 4 ∧ ∃ c b q : Nat, (x.C = c ∧ c < ns) ∧ (x.B = b ∧ b < ns) ∧ (x.N = q ∧ q < nr) ∧ (x.A = -1 ∨ ∃ a : Nat, x.A = a ∧ a < ns)) := by
  unfold instrOk at h
  have slot : ∀ {a : Int} {n : Nat}, inB a 0 ((n : Int) - 1) = true → ∃ k : Nat, a = k ∧ k < n := fun h => inB_slot h
  split at h
  · rename_i e
    simp only [Bool.and_eq_true] at h
    exact .inl ⟨e, slot h.1.1.1.1⟩
  split at h
  · rename_i e
    simp only [Bool.and_eq_true] at h
    obtain ⟨d, hd⟩ := slot h.1.1.1.1.1
    obtain ⟨a, ha⟩ := slot h.1.1.1.1.2
    exact .inr (.inl ⟨e, d, a, hd, ha⟩)
  split at h
  · rename_i e
    simp only [Bool.and_eq_true] at h
    obtain ⟨d, hd⟩ := slot h.1.1.1.1.1
    obtain ⟨a, ha⟩ := slot h.1.1.1.1.2
    obtain ⟨b, hb⟩ := slot h.1.1.1.2
    exact .inr (.inr (.inl ⟨e, d, a, b, hd, ha, hb⟩))
  have base : ∀ {a : Int} {n : Nat}, inB a 0 ((n : Int) - 1) = true ∨ decide (a = -1) = true → a = -1 ∨ ∃ k : Nat, a = k ∧ k < n := fun h => h.elim (fun h => .inr (slot h)) fun h => .inl (by simpa using h)
  split at h
  · rename_i e
    simp only [Bool.and_eq_true, Bool.or_eq_true] at h
    obtain ⟨d, hd⟩ := slot h.1.1.1.1.1
    obtain ⟨b, hb⟩ := slot h.1.1.1.1.2
    obtain ⟨q, hq⟩ := slot h.1.1.2
    exact .inr (.inr (.inr (.inr (.inr (.inl ⟨e, d, b, q, hd, hb, hq, base h.1.1.1.2⟩)))))
  split at h
  · rename_i e
    simp only [Bool.and_eq_true, Bool.or_eq_true] at h
    obtain ⟨c, hc⟩ := slot h.1.2
    obtain ⟨b, hb⟩ := slot h.1.1.1.1.2
    obtain ⟨q, hq⟩ := slot h.1.1.2
    exact .inr (.inr (.inr (.inr (.inr (.inr ⟨e, c, b, q, hc, hb, hq, base h.1.1.1.2⟩)))))
  split at h
  · rename_i e
    simp only [Bool.and_eq_true] at h
    exact .inr (.inr (.inr (.inl ⟨e, slot h.1.1.1.1.1⟩)))
  split at h
  · rename_i e
    simp only [Bool.and_eq_true] at h
    exact .inr (.inr (.inr (.inr (.inl ⟨e, slot h.1.1.1.1.2⟩))))
  · cases h
theorem instrOk_x {g : Graph} {s : Rs} (o : RsOk g s) {x : Instr} (h : instrOk g.Slots g.Sizes.length x = true) : instrOk s.vars.length s.mem.length x = true := by
  rw [o.vars, o.memlen]; exact h

/-- A block of a right graph. -/
theorem blk_ok {g : Graph} (hg : graphOk g = true) {i : Nat} (hi : i < g.Blocks.length) : blkAt g i = g.Blocks[i] ∧ (∀ x ∈ g.Blocks[i].Code, instrOk g.Slots g.Sizes.length x = true) ∧
    ((g.Blocks[i].Jump = 0 ∧ ∃ t : Nat, g.Blocks[i].To = t ∧ t < g.Blocks.length) ∨
     (g.Blocks[i].Jump = 1 ∧ ∃ t e a : Nat, (g.Blocks[i].To = t ∧ t < g.Blocks.length) ∧ (g.Blocks[i].Else = e ∧ e < g.Blocks.length) ∧ (g.Blocks[i].A = a ∧ (a : Int) < g.Slots)) ∨
     (g.Blocks[i].Jump = 2 ∧ ∃ a : Nat, g.Blocks[i].A = a ∧ (a : Int) < g.Slots)) := by
  refine ⟨by simp [blkAt, hi], ?_⟩
  simp only [graphOk, Bool.and_eq_true, List.all_eq_true] at hg
  have hb := hg.2 _ (List.getElem_mem hi)
  have slot : ∀ {a n : Int}, inB a 0 (n - 1) = true → ∃ k : Nat, a = k ∧ (k : Int) < n := fun {a n} h => by
    simp [inB] at h
    exact ⟨a.toNat, by omega, by omega⟩
  unfold blockOk at hb
  simp only [Bool.and_eq_true, List.all_eq_true] at hb
  refine ⟨hb.1, ?_⟩
  have h := hb.2
  split at h
  · rename_i e
    simp only [Bool.and_eq_true] at h
    exact .inl ⟨e, inB_slot h.1.1⟩
  split at h
  · rename_i e
    simp only [Bool.and_eq_true] at h
    obtain ⟨t, ht⟩ := inB_slot h.1.1
    obtain ⟨u, hu⟩ := inB_slot h.1.2
    obtain ⟨a, ha⟩ := slot h.2
    exact .inr (.inl ⟨e, t, u, a, ht, hu, ha⟩)
  split at h
  · rename_i e
    simp only [Bool.and_eq_true] at h
    exact .inr (.inr ⟨e, slot h.1.1⟩)
  · cases h
theorem blockR_next {g : Graph} (hg : graphOk g = true) {i : Nat} (hi : i < g.Blocks.length) {s : Rs} (h : (blockR s (blkAt g i)).1.st = none) : ∃ k : Nat, (blockR s (blkAt g i)).2 = k ∧ k < g.Blocks.length := by
  obtain ⟨e, _, hj⟩ := blk_ok hg hi
  rw [e] at h ⊢
  unfold blockR at h ⊢
  by_cases h2 : (codeR s g.Blocks[i].Code).st = none
  · rw [if_pos h2] at h ⊢
    obtain ⟨h3, _, h4⟩ := jumpR_run h
    unfold jumpR
    rw [if_pos h3, if_neg h4]
    rcases hj with ⟨_, t, ht⟩ | ⟨hj, t, u, a, ht, hu, _⟩ | ⟨hj, _⟩
    · rename_i hj
      rw [if_neg (fun e => by rw [hj] at e; exact absurd e.1 (by decide))]
      exact ⟨t, ht⟩
    · split
      · exact ⟨u, hu⟩
      · exact ⟨t, ht⟩
    · exact absurd hj h4
  · rw [if_neg h2] at h; exact absurd h h2
theorem pathR_in {g : Graph} (hg : graphOk g = true) : ∀ (n : Nat) (s : Rs) (i : Nat), i < g.Blocks.length → ∀ k ∈ pathR g n s i, ∃ j : Nat, k = j ∧ j < g.Blocks.length
  | 0, s, i, hi, k, hk => by cases hk
  | n + 1, s, i, hi, k, hk => by
    unfold pathR at hk
    split at hk
    · rcases List.mem_cons.1 hk with rfl | hk
      · exact ⟨i, rfl, hi⟩
      · by_cases hs : (blockR s (blkAt g i)).1.st = none
        · obtain ⟨j, e, hj⟩ := blockR_next hg hi hs
          rw [e] at hk
          exact pathR_in hg n _ j hj k hk
        · rw [pathR_stop hs] at hk; cases hk
    · cases hk
theorem pathG_in {g : Graph} {A I : List Int} (h : argsG g A I = true) : ∀ k ∈ pathG g A I, ∃ j : Nat, k = j ∧ j < g.Blocks.length := by
  have hg : graphOk g = true := by
    simp only [argsG, Bool.and_eq_true] at h
    exact h.1.1
  exact pathR_in hg 1000 _ 0 (graphOk_head hg).blocks.1
theorem tickR_len (l : List Int) (k : Int) : (tickR l k).length = l.length := by simp [tickR]
theorem foldR_len : ∀ (p l : List Int), (p.foldl tickR l).length = l.length
  | [], l => rfl
  | k :: p, l => by rw [List.foldl_cons, foldR_len p, tickR_len]
theorem countsR_len {g : Graph} {A I : List Int} : (countsR g A I).length ≤ 300 := by
  unfold countsR
  split
  · rename_i h
    have hg : graphOk g = true := by
      simp only [argsG, Bool.and_eq_true] at h
      exact h.1.1
    have := (graphOk_head hg).blocks.2
    rw [foldR_len]
    simpa [zeros] using this
  · simp
end Go.Proofs.YtlmlkkkgcbpaoaaGreat.AM

namespace Go.Proofs.YtlmlkkkgcbpaoaaGreat.AM
open Go.RowKit

/-- Where a walk lies: its box, its variables, its regions. -/
structure RM where
  nr : Nm
  kv : Nm
  vv : Nat
  km : Nm
  vm : Nat
  ks : List (Nm × Nat × Nat)
def hdrK (ks : List (Nm × Nat × Nat)) : List (List AV) := ks.map fun k => [.sl k.1 k.2.1 0 k.2.2]
def RM.hdr (m : RM) : List (List AV) := hdrK m.ks
def rgs (ks : List (Nm × Nat × Nat)) (mem : List (List Int)) : Bx := List.zipWith (fun k xs => (k.1, (⟨k.2.1, 1, cl1 xs⟩ : Row))) ks mem
theorem rgs_split : ∀ (ks : List (Nm × Nat × Nat)) (mem : List (List Int)) (q : Nat) (h1 : q < ks.length) (h2 : q < mem.length), ∃ l1 l2, ∀ ys, rgs ks (mem.set q ys) = l1 ++ (ks[q].1, ⟨ks[q].2.1, 1, cl1 ys⟩) :: l2
  | k :: ks, m :: mem, 0, h1, h2 => ⟨[], rgs ks mem, fun ys => rfl⟩
  | k :: ks, m :: mem, q + 1, h1, h2 => by
    obtain ⟨l1, l2, h⟩ := rgs_split ks mem q (by simpa using h1) (by simpa using h2)
    refine ⟨(k.1, ⟨k.2.1, 1, cl1 m⟩) :: l1, l2, fun ys => ?_⟩
    have := h ys
    simp only [rgs] at this
    simp [rgs, this]
theorem rgs_snoc {ks : List (Nm × Nat × Nat)} {mem : List (List Int)} (h : ks.length = mem.length) (k : Nm × Nat × Nat) (xs : List Int) : rgs (ks ++ [k]) (mem ++ [xs]) = rgs ks mem ++ [(k.1, ⟨k.2.1, 1, cl1 xs⟩)] := by
  simp [rgs, List.zipWith_append h]
theorem cl1_set (l : List Int) (i : Nat) (v : Int) : cl1 (l.set i v) = (cl1 l).set i [.int .i64 v] := by simp [cl1, List.map_set]
theorem cl1_rd {l : List Int} {i : Nat} (h : i < l.length) : (cl1 l)[i]? = some [.int .i64 (rd l i)] := by simp [cl1, rd, h]
theorem cl1_len0 (l : List Int) : (cl1 l).length = l.length := by simp [cl1]
theorem cl1_get {l : List Int} {i : Nat} (h : i < (cl1 l).length) : (cl1 l)[i] = [.int .i64 (rd l i)] := by
  rw [cl1_len0] at h
  simp [cl1, rd, h]
theorem cl1_len (l : List Int) : (cl1 l).length = l.length := by simp [cl1]
theorem cl1_snoc (l : List Int) (v : Int) : cl1 (l ++ [v]) = cl1 l ++ [[.int .i64 v]] := by simp [cl1]

section
variable {h : Hp} {a b c : Nm × Row} {bo bs : Bx} {os : Ox} {ks : List (Nm × Nat × Nat)} {mem : List (List Int)} {q : Nat}
theorem Cx.rgs_put (x : Cx h (a :: b :: c :: (bo ++ (rgs ks mem ++ bs))) os) (h1 : q < ks.length) (h2 : q < mem.length) (ys : List Int) : Cx (h.put ks[q].1 ⟨ks[q].2.1, 1, cl1 ys⟩) (a :: b :: c :: (bo ++ (rgs ks (mem.set q ys) ++ bs))) os := by
  obtain ⟨l1, l2, e⟩ := rgs_split ks mem q h1 h2
  have e0 := e mem[q]
  rw [List.set_getElem_self] at e0
  rw [e0] at x
  rw [e ys]
  have p : ∀ r, List.Perm (a :: b :: c :: (bo ++ ((l1 ++ (ks[q].1, r) :: l2) ++ bs))) ((ks[q].1, r) :: (a :: b :: c :: (bo ++ ((l1 ++ l2) ++ bs)))) := fun r => by
    have := List.perm_middle (l₁ := a :: b :: c :: (bo ++ l1)) (l₂ := l2 ++ bs) (a := (ks[q].1, r))
    simpa using this
  exact ((x.bperm (p _)).box_set).bperm (p _).symm
theorem Cx.rgs_at (x : Cx h (a :: b :: c :: (bo ++ (rgs ks mem ++ bs))) os) (h1 : q < ks.length) (h2 : q < mem.length) : h.rows ks[q].1 = some ⟨ks[q].2.1, 1, cl1 mem[q]⟩ ∧ ks[q].1.1 < h.tick := by
  obtain ⟨l1, l2, e⟩ := rgs_split ks mem q h1 h2
  have e0 := e mem[q]
  rw [List.set_getElem_self] at e0
  have hm : ((ks[q].1, (⟨ks[q].2.1, 1, cl1 mem[q]⟩ : Row)) : Nm × Row) ∈ a :: b :: c :: (bo ++ (rgs ks mem ++ bs)) := by rw [e0]; simp
  exact ⟨x.box _ hm, x.lt _ (mem_box hm)⟩
end

theorem ev2_cx {h' : Hp} {bs : Bx} {os : Ox} {v : AV} {k : AV → Hp → Prop} (x : Cx h' bs os) (hk : ∀ h2, Cx h2 bs os → k v h2) : Ev2 (some (v, h')) k := hk _ x
theorem Cx.no_box {h : Hp} {bs : Bx} {os : Ox} {k : Nm} {r : Row} (x : Cx h bs os) {T : Nat} (hT : h.tick ≤ T) (hk : T < k.1) (j : Nat) : (T, j, 0) ∉ nms ((k, r) :: bs) os := by
  rw [nms_box]
  intro e
  rcases List.mem_cons.1 e with e | e
  · rw [← e] at hk
    exact Nat.lt_irrefl _ hk
  · have := x.lt _ e
    simp only at this
    omega
def codeS (s : Option Int) : Int := s.getD 0
def overS (s : Option Int) : Bool := decide (s = some 0)
/-- The reference's run. -/
def runB (m : RM) (s : Rs) (wo : AV) : Row := ⟨0, 8, [[.sl m.km m.vm 0 m.ks.length, .sl m.kv m.vv 0 s.vars.length, ints true s.inp, .int .i64 s.fu, .int .i64 (codeS s.st), .bool (overS s.st), .int .i64 s.val, wo]]⟩
/-- A walk in memory: its box, variables, regions, what it has put out. -/
structure GX (R : Rs → AV → Row) (m : RM) (s : Rs) (bs : Bx) (os : Ox) (h : Hp) : Prop where
  lens : m.ks.map (·.2.2) = s.mem.map List.length
  cx : ∃ wo bo, FL 1 (cl1 s.out) wo bo ∧ Cx h ((m.nr, R s wo) :: (m.kv, ⟨m.vv, 1, cl1 s.vars⟩) :: (m.km, ⟨m.vm, 1, m.hdr⟩) :: (bo ++ (rgs m.ks s.mem ++ bs))) os
abbrev RX (m : RM) := GX (runB m) m
theorem rx_perm {n r : Nm × Row} {a : Nm × Row} {bo R bs : Bx} {x : Nm × Row} : List.Perm (x :: n :: r :: a :: (bo ++ (R ++ bs))) (n :: r :: a :: (bo ++ (R ++ x :: bs))) := by
  have := (List.perm_middle (l₁ := n :: r :: a :: (bo ++ R)) (l₂ := bs) (a := x)).symm
  simpa using this
section
variable {h : Hp} {bs : Bx} {os : Ox} {m : RM} {s : Rs} {R : Rs → AV → Row}
theorem GX.new (X : GX R m s bs os h) (r : Row) : GX R m s (((h.tick, 0, 0), r) :: bs) os (h.next.put (h.tick, 0, 0) r) := by
  obtain ⟨ln, wo, bo, f, y⟩ := X
  exact ⟨ln, wo, bo, f, (y.next.box_one (i := 0) y.off (by simp)).bperm rx_perm⟩
theorem GX.drop {x : Nm × Row} (X : GX R m s (x :: bs) os h) : GX R m s bs os h := by
  obtain ⟨ln, wo, bo, f, y⟩ := X
  exact ⟨ln, wo, bo, f, (y.bperm rx_perm.symm).box_drop⟩
theorem GX.dropOf {x : Nm × Row} {s' : Rs} {h' : Hp} (X : GX R m s (x :: bs) os h) (Y : GX R m s' (x :: bs) os h') : GX R m s' bs os h' := Y.drop
theorem GX.top {n : Nm} {r : Row} (X : GX R m s ((n, r) :: bs) os h) : h.rows n = some r ∧ n.1 < h.tick := by
  obtain ⟨ln, wo, bo, f, y⟩ := X
  have z := y.bperm rx_perm.symm
  exact ⟨z.b0, z.bxs.2.1⟩
end
section
variable {h : Hp} {bs : Bx} {os : Ox} {m : RM} {s : Rs} {R : Rs → AV → Row} {n : Nm} {r : Row}
theorem GX.to {h' : Hp} (X : GX R m s bs os h) (t : ∀ {bs' : Bx}, Cx h bs' os → Cx h' bs' os) : GX R m s bs os h' := by
  obtain ⟨ln, wo, bo, f, y⟩ := X
  exact ⟨ln, wo, bo, f, t y⟩
theorem GX.next (X : GX R m s bs os h) : GX R m s bs os h.next := by
  obtain ⟨ln, wo, bo, f, y⟩ := X
  exact ⟨ln, wo, bo, f, y.next⟩
theorem GX.put1 (X : GX R m s ((n, r) :: bs) os h) (r' : Row) : GX R m s ((n, r') :: bs) os (h.put n r') := by
  obtain ⟨ln, wo, bo, f, y⟩ := X
  exact ⟨ln, wo, bo, f, ((y.bperm rx_perm.symm).box_set).bperm rx_perm⟩
theorem Cx.have_box (x : Cx h bs os) (hr : h.rows n = some r) (hn : n ∉ nms bs os) (ht : n.1 < h.tick) : Cx h ((n, r) :: bs) os := by
  refine ⟨fun y hy => ?_, x.own, by rw [nms_box]; exact List.nodup_cons.2 ⟨hn, x.nd⟩, fun k hk => ?_⟩
  · rcases List.mem_cons.1 hy with rfl | hy
    · exact hr
    · exact x.box y hy
  · rw [nms_box] at hk
    rcases List.mem_cons.1 hk with rfl | hk
    · exact ht
    · exact x.lt k hk
theorem Cx.have_new {T i : Nat} {h' : Hp} (x : Cx h bs os) (hT : h.tick ≤ T) (x' : Cx h' bs os) (hr : h'.rows (T, i, 0) = some r) (ht : T < h'.tick) : Cx h' (((T, i, 0), r) :: bs) os :=
  x'.have_box hr (fun e => by have := x.lt _ e; simp only at this; omega) ht
end
theorem GX.ne {R : Rs → AV → Row} {h : Hp} {bs : Bx} {os : Ox} {m : RM} {s : Rs} {n n2 : Nm} {r r2 : Row} (X : GX R m s ((n, r) :: (n2, r2) :: bs) os h) : ¬ n = n2 := by
  obtain ⟨ln, wo, bo, f, y⟩ := X
  have z := (y.bperm rx_perm.symm).bperm (.cons _ rx_perm.symm)
  have a := z.aps
  simp only [List.map_cons, Aps] at a
  exact (a.1 n2 (by simp)).1
theorem GX.nr_ne {R : Rs → AV → Row} {h : Hp} {bs : Bx} {os : Ox} {m : RM} {s : Rs} {n : Nm} {r : Row} (X : GX R m s ((n, r) :: bs) os h) : ¬ n = m.nr ∧ ¬ m.nr = n := by
  obtain ⟨ln, wo, bo, f, y⟩ := X
  have a := (y.bperm rx_perm.symm).aps
  simp only [List.map_cons, Aps] at a
  exact a.1 m.nr (by simp)
theorem ev2_gen {h' : Hp} {v : AV} {k : AV → Hp → Prop} (F : Hp → Prop) (f : F h') (hk : ∀ h2, F h2 → k v h2) : Ev2 (some (v, h')) k := hk _ f
theorem gen_k {P : Program} {M : FuncId → Mode} {C : CS} {D : Array Oper → (Nat → AV) → Hp → ((Nat → AV) → Hp → Prop) → Prop} {σ : Nat → AV} {K : Ex → (Nat → AV) → Hp → Prop} {h : Hp} {b : Code} (F : Hp → Prop) (f : F h) (k : ∀ h', F h' → wpC P M C D b σ h' K) : KSeq P M C D b K .normal σ h := k h f
def codeW (s : Option Int) : Int := s.getD (-1)
/-- The program's walker. -/
def wrkB (m : RM) (s : Rs) (wo wp : AV) : Row := ⟨0, 8, [[.sl m.kv m.vv 0 s.vars.length, .sl m.km m.vm 0 m.ks.length, ints true s.inp, .int .i64 s.fu, .int .i64 (codeW s.st), .int .i64 s.val, wo, wp]]⟩
abbrev WX (m : RM) (s : Rs) (wp : AV) := GX (fun s wo => wrkB m s wo wp) m s
theorem hdr_at {m : RM} {s : Rs} (hl : m.ks.map (·.2.2) = s.mem.map List.length) {q : Nat} (h1 : q < m.ks.length) (h2 : q < s.mem.length) : m.hdr[q]? = some [.sl m.ks[q].1 m.ks[q].2.1 0 s.mem[q].length] := by
  have e : (m.ks.map (·.2.2))[q]? = (s.mem.map List.length)[q]? := by rw [hl]
  simp only [List.getElem?_map, List.getElem?_eq_getElem h1, List.getElem?_eq_getElem h2, Option.map_some, Option.some.injEq] at e
  simp [RM.hdr, hdrK, h1, e]
theorem ks_len {m : RM} {s : Rs} (hl : m.ks.map (·.2.2) = s.mem.map List.length) : m.ks.length = s.mem.length := by simpa using congrArg List.length hl
end Go.Proofs.YtlmlkkkgcbpaoaaGreat.AM

namespace Go.Proofs.YtlmlkkkgcbpaoaaGreat.AM
open Go.RowKit

private def MG85 : FuncId → Mode := fun f => .tree

def burnT (s : Rs) : Rs := if s.st = none then burnR s else s
section
variable {h : Hp} {bs : Bx} {os : Ox} {m : RM} {s : Rs}
theorem l03Burn (X : RX m s bs os h) (hf : s.fu ≤ 100000) : Sound Tryz.prog 141 [.ptr m.nr 0 0 0] h fun v h' => v = .bool (burnT s).st.isNone ∧ RX m (burnT s) bs os h' := by
  obtain ⟨mem, vars, inp, fu, st, val, out⟩ := s
  obtain ⟨ln, wo, bo, f, x⟩ := X
  have b := x.bxs
  simp only [Bxs, runB] at b
  simp only at hf
  refine enter mixed MG85 Tryz.func141 rfl (by kernel_rfl) rfl ?_
  cases st with
  | some c =>
    have e : burnT ⟨mem, vars, inp, fu, some c, val, out⟩ = ⟨mem, vars, inp, fu, some c, val, out⟩ := by simp [burnT]
    rw [e]
    by_cases hc : c = 0
    · subst hc
      repeat' (first | (with_reducible first | refine stp ?_ | refine k_blk_o rfl ?_ | refine k_seq_n ?_) | ((try (conv => arg 1; simp [b, codeS, overS, ltS, nm_ne])); with_reducible refine evp ?_) | fail)
      exact ⟨rfl, ln, wo, bo, f, Cx.to x⟩
    · skip
      repeat' (first | (with_reducible first | refine stp ?_ | refine k_blk_o rfl ?_ | refine k_seq_n ?_) | ((try (conv => arg 1; simp [b, codeS, overS, hc, ltS, nm_ne])); with_reducible refine evp ?_) | fail)
      exact ⟨rfl, ln, wo, bo, f, Cx.to x⟩
  | none =>
    cases fu with
    | zero =>
      have e : burnT ⟨mem, vars, inp, 0, none, val, out⟩ = ⟨mem, vars, inp, 0, some 2, val, out⟩ := by simp [burnT, burnR]
      rw [e]
      repeat' (first | (with_reducible first | refine stp ?_ | refine k_blk_o rfl ?_ | refine k_seq_n ?_) | ((try (conv => arg 1; simp [b, codeS, overS, ltS, nm_ne])); with_reducible refine evp ?_) | fail)
      exact ⟨rfl, ln, wo, bo, f, Cx.to x⟩
    | succ n =>
      have e : burnT ⟨mem, vars, inp, n + 1, none, val, out⟩ = ⟨mem, vars, inp, n, none, val, out⟩ := by simp [burnT, burnR]
      rw [e]
      have hz : ¬ (n : Int) + 1 = 0 := by omega
      have hw : IntKind.i64.wrap (n : Int) = n := wrap_id (by omega) (by omega)
      repeat' (first | (with_reducible first | refine stp ?_ | refine k_blk_o rfl ?_ | refine k_seq_n ?_) | ((try (conv => arg 1; simp [b, codeS, overS, hz, hw, ltS, nm_ne])); with_reducible refine evp ?_) | fail)
      exact ⟨rfl, ln, wo, bo, f, Cx.to x⟩

theorem out_app {P : Program} {t : TypeId} {l : List Int} {w : AV} {fs b bs : Bx} {os : Ox} {h : Hp} {k n : Nm} {vk : Nat} {e : Int} {N : AV → Hp → Prop} (h0 : ((telem P t).bind fun e => (tsz P e).bind fun s => (tby P e).bind fun bb => (tzero P e).bind fun z => some (s, decide (0 < s ∧ bb ≤ 32768 ∧ z.length = s))) = some (1, true))
    (f : FL 1 (cl1 l) w b) (x : Cx h (fs ++ (b ++ bs)) os) (hk : h.rows k = some ⟨vk, 1, [[.int .i64 e]]⟩) (hl : l.length + 1 ≤ 4294967296) (hn : n ∉ nms (fs ++ (b ++ bs)) os) (ht : n.1 < h.tick)
    (kk : ∀ w' b' h', FL 1 (cl1 (l ++ [e])) w' b' → Cx h' (fs ++ (b' ++ bs)) os → h'.tick = h.tick → (w'.one = true ∧ w'.stored = true ∧ w'.cells = [w']) → N w' h') : Ev2 (appendA P t w (.sl k vk 0 1) h n) N :=
  ev2_app h0 f x hk rfl (by rw [cl1_len]; exact hl) hn ht fun w' b' h' f' => kk w' b' h' (by rw [cl1_snoc]; exact f')

theorem sliceA_tail {P : Program} {rows : Nm → Option Row} {t e : TypeId} {b : Bool} {z : Int} {zs : List Int} (hu : P.underlying t = some (.slice e)) (hs : tsz P e = some 1) : sliceA P rows t (.tr b ([.int .i64 z] :: zs.map fun n => [.int .i64 n])) (some (.int .i64 1)) none false = some (.tr b (zs.map fun n => [.int .i64 n])) := by
  unfold sliceA
  cases zs with
  | nil => simp [hu, hs, bnd]
  | cons z2 zs =>
    have ht : List.take zs.length (List.map (fun n => [AV.int .i64 n]) zs) = List.map (fun n => [AV.int .i64 n]) zs := by
      rw [List.take_of_length_le (by simp)]
    simp [hu, hs, bnd, ht]
theorem l03Get (X : RX m s bs os h) (hl : s.inp.length ≤ 100) : Sound Tryz.prog 175 [.ptr m.nr 0 0 0] h fun v h' => v = .int .i64 (s.inp.headD (-1)) ∧ RX m { s with inp := s.inp.tail } bs os h' := by
  obtain ⟨mem, vars, inp, fu, st, val, out⟩ := s
  obtain ⟨ln, wo, bo, f, x⟩ := X
  have b := x.bxs
  simp only [Bxs, runB] at b
  simp only at hl
  refine enter mixed MG85 Tryz.func175 rfl (by kernel_rfl) rfl ?_
  cases inp with
  | nil =>
    repeat' (first | (with_reducible first | refine stp ?_ | refine k_blk_o rfl ?_ | refine k_seq_n ?_) | ((try (conv => arg 1; simp [b, ltS, nm_ne])); with_reducible refine evp ?_) | fail)
    exact ⟨rfl, ln, wo, bo, f, Cx.to x⟩
  | cons z zs =>
    simp at hl
    have hz1 : (zs.length : Int) + 1 ≠ 0 := by omega
    have hz : decide ((zs.length : Int) + 1 = 0) = false := decide_eq_false hz1
    have h1 : (1 : Int) ≤ zs.length + 1 := by omega
    have hsl := fun rows => sliceA_tail (P := Tryz.prog) (rows := rows) (t := 22) (e := 3) (b := true) (z := z) (zs := zs) (by kernel_rfl) (by kernel_rfl)
    repeat' (first | (with_reducible first | refine stp ?_ | refine k_blk_o rfl ?_ | refine k_seq_n ?_) | ((try (conv => arg 1; simp [hsl, ints, b, hz, hz1, h1, ltS, nm_ne])); with_reducible refine evp ?_) | fail)
    exact ⟨rfl, ln, wo, bo, f, Cx.to x⟩
/-- Where a place is looked for. -/
def atR (s : Rs) (A I : Int) : Int := if 0 ≤ A then w64 (I + rd s.vars A) else I
theorem l03At (X : RX m s bs os h) (hst : s.st = none) {q : Nat} (hq : q < s.mem.length) (hql : s.mem[q].length ≤ 16) {A : Int} (hA : A = -1 ∨ ∃ a : Nat, A = a ∧ a < s.vars.length) (I : Int) :
    Sound Tryz.prog 176 [.ptr m.nr 0 0 0, .int .i64 q, .int .i64 A, .int .i64 I] h fun v h' =>
      (inB (atR s A I) 0 ((s.mem[q].length : Int) - 1) = true ∧ v = .int .i64 (atR s A I) ∧ RX m s bs os h') ∨
      (inB (atR s A I) 0 ((s.mem[q].length : Int) - 1) = false ∧ v = .int .i64 0 ∧ RX m { s with st := some 1 } bs os h') := by
  obtain ⟨mem, vars, inp, fu, st, val, out⟩ := s
  obtain ⟨ln, wo, bo, f, x⟩ := X
  simp only at hst hq hql hA
  subst hst
  have hkl := ks_len ln
  have hd := hdr_at ln (show q < m.ks.length by simp only at hkl; omega) hq
  have hqk : q < m.ks.length := by simp only at hkl; omega
  have b := x.bxs
  simp only [Bxs, runB] at b
  have hql2 : mem[q].length ≤ 4294967296 := by omega
  have hw : IntKind.i64.wrap ((mem[q].length : Int) - 1) = (mem[q].length : Int) - 1 := wrap_id (by omega) (by omega)
  have hqk2 : (q : Int) < m.ks.length := by omega
  simp only at hd
  generalize hml : mem[q].length = L at *
  refine enter mixed MG85 Tryz.func176 rfl (by kernel_rfl) rfl ?_
  rcases hA with rfl | ⟨a, rfl, ha⟩
  · have hm : ¬ (0 : Int) ≤ -1 := by omega
    have e : atR ⟨mem, vars, inp, fu, none, val, out⟩ (-1) I = I := by simp [atR]
    rw [e]
    cases hb : inB I 0 ((L : Int) - 1) with
    | true =>
      repeat' (first | (with_reducible first | refine stp ?_ | refine k_blk_o rfl ?_ | refine k_seq_n ?_) | ((try (conv => arg 1; simp [b, codeS, overS, hm, hd, hqk, hqk2, hw, hb, ltS, nm_ne])); with_reducible refine evp ?_) | ((with_reducible refine tcl ?_); first | ((apply tg (l01In _ _ _)); (case e => rfl); (case d => (refine dq ?_); (repeat' (first | ((refine Da.mk ?_); first | assumption) | constructor))))) | fail)
      exact .inl ⟨rfl, rfl, ln, wo, bo, f, Cx.to x⟩
    | false =>
      repeat' (first | (with_reducible first | refine stp ?_ | refine k_blk_o rfl ?_ | refine k_seq_n ?_) | ((try (conv => arg 1; simp [b, codeS, overS, hm, hd, hqk, hqk2, hw, hb, ltS, nm_ne])); with_reducible refine evp ?_) | ((with_reducible refine tcl ?_); first | ((apply tg (l01In _ _ _)); (case e => rfl); (case d => (refine dq ?_); (repeat' (first | ((refine Da.mk ?_); first | assumption) | constructor))))) | fail)
      exact .inr ⟨rfl, rfl, ln, wo, bo, f, Cx.to x⟩
  · have ha2 : (a : Int) < vars.length := by omega
    have hva := cl1_rd ha
    have e : atR ⟨mem, vars, inp, fu, none, val, out⟩ a I = w64 (I + rd vars a) := by simp [atR]
    rw [e]
    have hw2 : IntKind.i64.wrap (I + rd vars a) = w64 (I + rd vars a) := rfl
    cases hb : inB (w64 (I + rd vars a)) 0 ((L : Int) - 1) with
    | true =>
      repeat' (first | (with_reducible first | refine stp ?_ | refine k_blk_o rfl ?_ | refine k_seq_n ?_) | ((try (conv => arg 1; simp [b, codeS, overS, hva, ha, ha2, hd, hqk, hqk2, hw2, hw, hb, ltS, nm_ne])); with_reducible refine evp ?_) | ((with_reducible refine tcl ?_); first | ((apply tg (l01In _ _ _)); (case e => rfl); (case d => (refine dq ?_); (repeat' (first | ((refine Da.mk ?_); first | assumption) | constructor))))) | fail)
      exact .inl ⟨rfl, rfl, ln, wo, bo, f, Cx.to x⟩
    | false =>
      repeat' (first | (with_reducible first | refine stp ?_ | refine k_blk_o rfl ?_ | refine k_seq_n ?_) | ((try (conv => arg 1; simp [b, codeS, overS, hva, ha, ha2, hd, hqk, hqk2, hw2, hw, hb, ltS, nm_ne])); with_reducible refine evp ?_) | ((with_reducible refine tcl ?_); first | ((apply tg (l01In _ _ _)); (case e => rfl); (case d => (refine dq ?_); (repeat' (first | ((refine Da.mk ?_); first | assumption) | constructor))))) | fail)
      exact .inr ⟨rfl, rfl, ln, wo, bo, f, Cx.to x⟩
end
end Go.Proofs.YtlmlkkkgcbpaoaaGreat.AM

namespace Go.Proofs.YtlmlkkkgcbpaoaaGreat.AM
open Go.RowKit

private def MG90 : FuncId → Mode := fun f => .tree

section
variable {h : Hp} {bs : Bx} {os : Ox} {m : RM} {s : Rs} {wp : AV}
theorem burnW (X : WX m s wp bs os h) (hp : wp.one = true ∧ wp.stored = true ∧ wp.cells = [wp]) (hst : s.st = none) (hf : s.fu ≤ 100000) : Sound Tryz.prog 94 [.ptr m.nr 0 0 0] h fun v h' => v = .bool (burnR s).st.isNone ∧ WX m (burnR s) wp bs os h' := by
  obtain ⟨mem, vars, inp, fu, st, val, out⟩ := s
  obtain ⟨ln, wo, bo, f, x⟩ := X
  have b := x.bxs
  simp only [Bxs, wrkB] at b
  have q := f.one
  simp only at hf hst
  subst hst
  refine enter mixed MG90 Tryz.func94 rfl (by kernel_rfl) rfl ?_
  cases fu with
  | zero =>
    have e : burnR ⟨mem, vars, inp, 0, none, val, out⟩ = ⟨mem, vars, inp, 0, some 2, val, out⟩ := by simp [burnR]
    rw [e]
    repeat' (first | (with_reducible first | refine stp ?_ | refine k_blk_o rfl ?_ | refine k_seq_n ?_) | ((try (conv => arg 1; simp [b, codeW, q.1, q.2.1, q.2.2, hp.1, hp.2.1, hp.2.2, ltS, nm_ne])); with_reducible refine evp ?_) | fail)
    exact ⟨rfl, ln, wo, bo, f, Cx.to x⟩
  | succ n =>
    have e : burnR ⟨mem, vars, inp, n + 1, none, val, out⟩ = ⟨mem, vars, inp, n, none, val, out⟩ := by simp [burnR]
    rw [e]
    have hz : ¬ (n : Int) + 1 = 0 := by omega
    have hw : IntKind.i64.wrap (n : Int) = n := wrap_id (by omega) (by omega)
    repeat' (first | (with_reducible first | refine stp ?_ | refine k_blk_o rfl ?_ | refine k_seq_n ?_) | ((try (conv => arg 1; simp [b, codeW, hz, hw, q.1, q.2.1, q.2.2, hp.1, hp.2.1, hp.2.2, ltS, nm_ne])); with_reducible refine evp ?_) | fail)
    exact ⟨rfl, ln, wo, bo, f, Cx.to x⟩
theorem getW (X : WX m s wp bs os h) (hp : wp.one = true ∧ wp.stored = true ∧ wp.cells = [wp]) (hl : s.inp.length ≤ 100) : Sound Tryz.prog 145 [.ptr m.nr 0 0 0] h fun v h' => v = .int .i64 (s.inp.headD (-1)) ∧ WX m { s with inp := s.inp.tail } wp bs os h' := by
  obtain ⟨mem, vars, inp, fu, st, val, out⟩ := s
  obtain ⟨ln, wo, bo, f, x⟩ := X
  have b := x.bxs
  simp only [Bxs, wrkB] at b
  have q := f.one
  simp only at hl
  refine enter mixed MG90 Tryz.func145 rfl (by kernel_rfl) rfl ?_
  cases inp with
  | nil =>
    repeat' (first | (with_reducible first | refine stp ?_ | refine k_blk_o rfl ?_ | refine k_seq_n ?_) | ((try (conv => arg 1; simp [b, q.1, q.2.1, q.2.2, hp.1, hp.2.1, hp.2.2, ltS, nm_ne])); with_reducible refine evp ?_) | fail)
    exact ⟨rfl, ln, wo, bo, f, Cx.to x⟩
  | cons z zs =>
    simp at hl
    have hz1 : (zs.length : Int) + 1 ≠ 0 := by omega
    have hz : decide ((zs.length : Int) + 1 = 0) = false := decide_eq_false hz1
    have h1 : (1 : Int) ≤ zs.length + 1 := by omega
    have hsl := fun rows => sliceA_tail (P := Tryz.prog) (rows := rows) (t := 22) (e := 3) (b := true) (z := z) (zs := zs) (by kernel_rfl) (by kernel_rfl)
    repeat' (first | (with_reducible first | refine stp ?_ | refine k_blk_o rfl ?_ | refine k_seq_n ?_) | ((try (conv => arg 1; simp [hsl, ints, b, hz, hz1, h1, q.1, q.2.1, q.2.2, hp.1, hp.2.1, hp.2.2, ltS, nm_ne])); with_reducible refine evp ?_) | fail)
    exact ⟨rfl, ln, wo, bo, f, Cx.to x⟩
theorem placeW (X : WX m s wp bs os h) (hp : wp.one = true ∧ wp.stored = true ∧ wp.cells = [wp]) (hst : s.st = none) {q : Nat} (hq : q < s.mem.length) (hql : s.mem[q].length ≤ 16) {A : Int} (hA : A = -1 ∨ ∃ a : Nat, A = a ∧ a < s.vars.length) (I : Int) (hqk : q < m.ks.length) :
    Sound Tryz.prog 146 [.ptr m.nr 0 0 0, .int .i64 q, .int .i64 A, .int .i64 I] h fun v h' =>
      (∃ j : Nat, atR s A I = (j : Int) ∧ j < s.mem[q].length ∧ v = .ptr m.ks[q].1 m.ks[q].2.1 j 0 ∧ WX m s wp bs os h') ∨
      (inB (atR s A I) 0 ((s.mem[q].length : Int) - 1) = false ∧ v = .nilp ∧ WX m { s with st := some 1 } wp bs os h') := by
  obtain ⟨mem, vars, inp, fu, st, val, out⟩ := s
  obtain ⟨ln, wo, bo, f, x⟩ := X
  simp only at hst hq hql hA
  subst hst
  have hd := hdr_at (s := ⟨mem, vars, inp, fu, none, val, out⟩) ln hqk hq
  have rq := x.rgs_at hqk hq
  have b := x.bxs
  simp only [Bxs, wrkB] at b
  have q' := f.one
  have hql2 : mem[q].length ≤ 4294967296 := by omega
  have hw : IntKind.i64.wrap ((mem[q].length : Int) - 1) = (mem[q].length : Int) - 1 := wrap_id (by omega) (by omega)
  have hqk2 : (q : Int) < m.ks.length := by omega
  simp only at hd rq
  refine enter mixed MG90 Tryz.func146 rfl (by kernel_rfl) rfl ?_
  have fin : ∀ J : Int, inB J 0 ((mem[q].length : Int) - 1) = true → ∃ j : Nat, J = j ∧ j < mem[q].length := fun J h => inB_slot h
  rcases hA with rfl | ⟨a, rfl, ha⟩
  · have hm : ¬ (0 : Int) ≤ -1 := by omega
    have e : atR ⟨mem, vars, inp, fu, none, val, out⟩ (-1) I = I := by simp [atR]
    rw [e]
    cases hb : inB I 0 ((mem[q].length : Int) - 1) with
    | true =>
      obtain ⟨j, hj1, hj2⟩ := fin _ hb
      subst hj1
      have hj3 : (j : Int) < mem[q].length := by omega
      have hj4 : j < (cl1 mem[q]).length := by rw [cl1_len]; exact hj2
      repeat' (first | (with_reducible first | refine stp ?_ | refine k_blk_o rfl ?_ | refine k_seq_n ?_) | ((try (conv => arg 1; simp [b, rq, codeW, hm, hd, hqk, hqk2, hw, hb, hj2, hj3, hj4, q'.1, q'.2.1, q'.2.2, hp.1, hp.2.1, hp.2.2, ltS, nm_ne])); with_reducible refine evp ?_) | ((with_reducible refine tcl ?_); first | ((apply tg (in_ _ _ _)); (case e => rfl); (case d => (refine dq ?_); (repeat' (first | ((refine Da.mk ?_); first | assumption) | constructor))))) | fail)
      exact .inl ⟨j, rfl, hj2, rfl, ln, wo, bo, f, Cx.to x⟩
    | false =>
      repeat' (first | (with_reducible first | refine stp ?_ | refine k_blk_o rfl ?_ | refine k_seq_n ?_) | ((try (conv => arg 1; simp [b, rq, codeW, hm, hd, hqk, hqk2, hw, hb, q'.1, q'.2.1, q'.2.2, hp.1, hp.2.1, hp.2.2, ltS, nm_ne])); with_reducible refine evp ?_) | ((with_reducible refine tcl ?_); first | ((apply tg (in_ _ _ _)); (case e => rfl); (case d => (refine dq ?_); (repeat' (first | ((refine Da.mk ?_); first | assumption) | constructor))))) | fail)
      exact .inr ⟨rfl, rfl, ln, wo, bo, f, Cx.to x⟩
  · have ha2 : (a : Int) < vars.length := by omega
    have hva := cl1_rd ha
    have e : atR ⟨mem, vars, inp, fu, none, val, out⟩ a I = w64 (I + rd vars a) := by simp [atR]
    rw [e]
    have hw2 : IntKind.i64.wrap (I + rd vars a) = w64 (I + rd vars a) := rfl
    cases hb : inB (w64 (I + rd vars a)) 0 ((mem[q].length : Int) - 1) with
    | true =>
      obtain ⟨j, hj1, hj2⟩ := fin _ hb
      have hj3 : (j : Int) < mem[q].length := by omega
      have hj4 : j < (cl1 mem[q]).length := by rw [cl1_len]; exact hj2
      rw [hj1] at hw2 hb ⊢
      repeat' (first | (with_reducible first | refine stp ?_ | refine k_blk_o rfl ?_ | refine k_seq_n ?_) | ((try (conv => arg 1; simp [b, rq, codeW, hva, ha, ha2, hd, hqk, hqk2, hw2, hw, hb, hj2, hj3, hj4, q'.1, q'.2.1, q'.2.2, hp.1, hp.2.1, hp.2.2, ltS, nm_ne])); with_reducible refine evp ?_) | ((with_reducible refine tcl ?_); first | ((apply tg (in_ _ _ _)); (case e => rfl); (case d => (refine dq ?_); (repeat' (first | ((refine Da.mk ?_); first | assumption) | constructor))))) | fail)
      exact .inl ⟨j, rfl, hj2, rfl, ln, wo, bo, f, Cx.to x⟩
    | false =>
      repeat' (first | (with_reducible first | refine stp ?_ | refine k_blk_o rfl ?_ | refine k_seq_n ?_) | ((try (conv => arg 1; simp [b, rq, codeW, hva, ha, ha2, hd, hqk, hqk2, hw2, hw, hb, q'.1, q'.2.1, q'.2.2, hp.1, hp.2.1, hp.2.2, ltS, nm_ne])); with_reducible refine evp ?_) | ((with_reducible refine tcl ?_); first | ((apply tg (in_ _ _ _)); (case e => rfl); (case d => (refine dq ?_); (repeat' (first | ((refine Da.mk ?_); first | assumption) | constructor))))) | fail)
      exact .inr ⟨rfl, rfl, ln, wo, bo, f, Cx.to x⟩
end
end Go.Proofs.YtlmlkkkgcbpaoaaGreat.AM

namespace Go.Proofs.YtlmlkkkgcbpaoaaGreat.AM
open Go.RowKit

private def MG91 : FuncId → Mode := fun f => if f = 146 ∨ f = 145 then .heap else .tree

section
variable {h : Hp} {bs : Bx} {os : Ox} {m : RM} {s : Rs} {wp : AV}
set_option maxHeartbeats 4000000 in
theorem instrW (X : WX m s wp bs os h) (hp : wp.one = true ∧ wp.stored = true ∧ wp.cells = [wp]) (hst : s.st = none) {x : Instr} (hx : instrOk s.vars.length s.mem.length x = true) (hm : ∀ q (hq : q < s.mem.length), s.mem[q].length ≤ 16) (hi : s.inp.length ≤ 100) (ho : s.out.length ≤ 100000) :
    Sound Tryz.prog 95 [.ptr m.nr 0 0 0, .agg x.cells] h fun v h' => v = .bool (stepR s x).st.isNone ∧ WX m (stepR s x) wp bs os h' := by
  have X0 := X
  obtain ⟨mem, vars, inp, fu, st, val, out⟩ := s
  obtain ⟨ln, wo, bo, f, y⟩ := X
  obtain ⟨Op, D, A, B, C, N, Text⟩ := x
  simp only at hst hm hi ho ln f
  subst hst
  have b := y.bxs
  simp only [Bxs, wrkB, codeW] at b
  have q1 := f.one
  have kl : m.kv.1 < h.tick := b.2.2.2.1
  have t1 : m.kv.1 < h.tick + 1 + 1 ∧ m.kv.1 < h.tick + 1 + 1 + 1 ∧ m.kv.1 < h.tick + 1 + 1 + 1 + 1 ∧ m.kv.1 < h.tick + 1 + 1 + 1 + 1 + 1 ∧ m.kv.1 < h.tick + 1 + 1 + 1 + 1 + 1 + 1 ∧ m.kv.1 < h.tick + 1 + 1 + 1 + 1 + 1 + 1 + 1 ∧ m.kv.1 < h.tick + 1 + 1 + 1 + 1 + 1 + 1 + 1 + 1 := by omega
  have t2 : ¬ m.kv.1 = h.tick + 1 + 1 ∧ ¬ m.kv.1 = h.tick + 1 + 1 + 1 ∧ ¬ m.kv.1 = h.tick + 1 + 1 + 1 + 1 ∧ ¬ m.kv.1 = h.tick + 1 + 1 + 1 + 1 + 1 ∧ ¬ m.kv.1 = h.tick + 1 + 1 + 1 + 1 + 1 + 1 ∧ ¬ m.kv.1 = h.tick + 1 + 1 + 1 + 1 + 1 + 1 + 1 := by omega
  refine enter mixed MG91 Tryz.func95 rfl (by kernel_rfl) rfl ?_
  rcases in_cases hx with ⟨h0, d, hD, hd⟩ | ⟨h0, d, a, ⟨hD, hd⟩, hA, ha⟩ | ⟨h0, d, a, c, ⟨hD, hd⟩, ⟨hA, ha⟩, hB, hc⟩ | ⟨h0, d, hD, hd⟩ | ⟨h0, a, hA, ha⟩ | ⟨h0, d, c, q, ⟨hD, hd⟩, ⟨hB, hc⟩, ⟨hN, hq⟩, hA⟩ | ⟨h0, e, c, q, ⟨hC, he⟩, ⟨hB, hc⟩, ⟨hN, hq⟩, hA⟩
  · simp only at h0 hD
    subst h0 hD
    have hvd := cl1_rd hd
    simp only at hd hvd
    have e : stepR ⟨mem, vars, inp, fu, none, val, out⟩ ⟨0, d, A, B, C, N, Text⟩ = ⟨mem, vars.set d N, inp, fu, none, val, out⟩ := by simp [stepR]
    rw [e]
    have hd2 : (d : Int) < vars.length := by omega
    have hd3 : d < (cl1 vars).length := by rw [cl1_len]; exact hd
    repeat' (first | (with_reducible first | refine stp ?_ | refine k_blk_o rfl ?_ | refine k_seq_n ?_) | ((try (conv => arg 1; simp [Instr.cells, b, ltS, nm_ne, tk_ne])); with_reducible refine evp ?_) | fail)
    repeat (with_reducible first | refine stp ?_ | refine k_seq_n ?_)
    refine st_lz (by kernel_rfl) ?_
    have hF := And.intro b (And.intro hvd (And.intro hd (And.intro hd2 (And.intro hd3 (And.intro t1 t2)))))
    repeat' (first | (with_reducible first | refine stp ?_ | refine k_blk_o rfl ?_) | ((try (conv => arg 1; simp [Instr.cells, @cl1_get, ltS, nm_ne, tk_ne, hF])); with_reducible refine evp ?_) | ((with_reducible refine la_id ?_); refine la_end rfl ?_; (repeat (first | refine pl_nil ?_ | refine pl_cons ?_))) | ((with_reducible refine la_id ?_); refine la_pick ?_; (conv => arg 1; whnf); (repeat ((fail_if_success (first | ((refine la_q0 rfl ?_); (try (conv => arg 1; simp [Instr.cells, @cl1_get, ltS, nm_ne, tk_ne, hF])); with_reducible refine evp ?_) | ((refine la_n rfl rfl ?_); (try (conv => arg 1; simp [Instr.cells, @cl1_get, ltS, nm_ne, tk_ne, hF])); with_reducible refine evp ?_) | ((refine la_q2 rfl (by decide +kernel) ?_); (repeat (first | refine bk_nil ?_ | refine bk_t (by decide +kernel) ?_ | refine bk_f (by decide +kernel) ?_)); (try (conv => arg 1; simp [Instr.cells, @cl1_get, ltS, nm_ne, tk_ne, hF])); with_reducible refine evp ?_) | ((refine la_q1 rfl (by decide +kernel) ?_); (try (conv => arg 1; simp [Instr.cells, @cl1_get, ltS, nm_ne, tk_ne, hF])); with_reducible refine evp ?_) | ((refine la_g0 rfl ?_); (try (conv => arg 1; simp [Instr.cells, @cl1_get, ltS, nm_ne, tk_ne, hF])); with_reducible refine evp ?_; (with_reducible refine evp ?_); try ((try (conv => arg 1; simp [Instr.cells, @cl1_get, ltS, nm_ne, tk_ne, hF])); with_reducible refine evp ?_)))); (refine la_there ?_); (conv => arg 1; whnf))); first | ((refine la_q0 rfl ?_); (try (conv => arg 1; simp [Instr.cells, @cl1_get, ltS, nm_ne, tk_ne, hF])); with_reducible refine evp ?_) | ((refine la_n rfl rfl ?_); (try (conv => arg 1; simp [Instr.cells, @cl1_get, ltS, nm_ne, tk_ne, hF])); with_reducible refine evp ?_) | ((refine la_q2 rfl (by decide +kernel) ?_); (repeat (first | refine bk_nil ?_ | refine bk_t (by decide +kernel) ?_ | refine bk_f (by decide +kernel) ?_)); (try (conv => arg 1; simp [Instr.cells, @cl1_get, ltS, nm_ne, tk_ne, hF])); with_reducible refine evp ?_) | ((refine la_q1 rfl (by decide +kernel) ?_); (try (conv => arg 1; simp [Instr.cells, @cl1_get, ltS, nm_ne, tk_ne, hF])); with_reducible refine evp ?_) | ((refine la_g0 rfl ?_); (try (conv => arg 1; simp [Instr.cells, @cl1_get, ltS, nm_ne, tk_ne, hF])); with_reducible refine evp ?_; (with_reducible refine evp ?_); try ((try (conv => arg 1; simp [Instr.cells, @cl1_get, ltS, nm_ne, tk_ne, hF])); with_reducible refine evp ?_))) | ((with_reducible refine la_id ?_); refine la_all rfl ?_) | ((with_reducible refine all_id ?_); (conv => arg 1; whnf); first | exact all_nil | refine all_cons ?_ ?_) | (refine la_op rfl (by first | exact frm_s (by decide +kernel) | exact frm_a (by repeat' (first | exact fa_nil | refine fa_cons (by decide +kernel) ?_))) (by intro hq; first | exact trivial | (cases hq; done) | simp [appT, Instr.cells, @cl1_get, ltS, nm_ne, tk_ne, hF]) ?_; (repeat (first | refine bk_nil ?_ | refine bk_t (by decide +kernel) ?_ | refine bk_f (by decide +kernel) ?_))) | fail)
    refine ⟨rfl, ln, wo, bo, f, ?_⟩
    simp only [wrkB, List.length_set, cl1_set]
    exact Cx.to y
  · simp only at h0 hD hA
    subst h0 hD hA
    have hvd := cl1_rd hd
    have hva := cl1_rd ha
    simp only at hd hvd ha hva
    have e : stepR ⟨mem, vars, inp, fu, none, val, out⟩ ⟨1, d, a, B, C, N, Text⟩ = ⟨mem, vars.set d (rd vars a), inp, fu, none, val, out⟩ := by simp [stepR]
    rw [e]
    have hd2 : (d : Int) < vars.length := by omega
    have hd3 : d < (cl1 vars).length := by rw [cl1_len]; exact hd
    have ha2 : (a : Int) < vars.length := by omega
    repeat' (first | (with_reducible first | refine stp ?_ | refine k_blk_o rfl ?_ | refine k_seq_n ?_) | ((try (conv => arg 1; simp [Instr.cells, b, ltS, nm_ne, tk_ne])); with_reducible refine evp ?_) | fail)
    repeat (with_reducible first | refine stp ?_ | refine k_seq_n ?_)
    refine st_lz (by kernel_rfl) ?_
    have hF := And.intro b (And.intro hvd (And.intro hd (And.intro hd2 (And.intro hd3 (And.intro hva (And.intro ha (And.intro ha2 (And.intro t1 t2))))))))
    repeat' (first | (with_reducible first | refine stp ?_ | refine k_blk_o rfl ?_) | ((try (conv => arg 1; simp [Instr.cells, @cl1_get, ltS, nm_ne, tk_ne, hF])); with_reducible refine evp ?_) | ((with_reducible refine la_id ?_); refine la_end rfl ?_; (repeat (first | refine pl_nil ?_ | refine pl_cons ?_))) | ((with_reducible refine la_id ?_); refine la_pick ?_; (conv => arg 1; whnf); (repeat ((fail_if_success (first | ((refine la_q0 rfl ?_); (try (conv => arg 1; simp [Instr.cells, @cl1_get, ltS, nm_ne, tk_ne, hF])); with_reducible refine evp ?_) | ((refine la_n rfl rfl ?_); (try (conv => arg 1; simp [Instr.cells, @cl1_get, ltS, nm_ne, tk_ne, hF])); with_reducible refine evp ?_) | ((refine la_q2 rfl (by decide +kernel) ?_); (repeat (first | refine bk_nil ?_ | refine bk_t (by decide +kernel) ?_ | refine bk_f (by decide +kernel) ?_)); (try (conv => arg 1; simp [Instr.cells, @cl1_get, ltS, nm_ne, tk_ne, hF])); with_reducible refine evp ?_) | ((refine la_q1 rfl (by decide +kernel) ?_); (try (conv => arg 1; simp [Instr.cells, @cl1_get, ltS, nm_ne, tk_ne, hF])); with_reducible refine evp ?_) | ((refine la_g0 rfl ?_); (try (conv => arg 1; simp [Instr.cells, @cl1_get, ltS, nm_ne, tk_ne, hF])); with_reducible refine evp ?_; (with_reducible refine evp ?_); try ((try (conv => arg 1; simp [Instr.cells, @cl1_get, ltS, nm_ne, tk_ne, hF])); with_reducible refine evp ?_)))); (refine la_there ?_); (conv => arg 1; whnf))); first | ((refine la_q0 rfl ?_); (try (conv => arg 1; simp [Instr.cells, @cl1_get, ltS, nm_ne, tk_ne, hF])); with_reducible refine evp ?_) | ((refine la_n rfl rfl ?_); (try (conv => arg 1; simp [Instr.cells, @cl1_get, ltS, nm_ne, tk_ne, hF])); with_reducible refine evp ?_) | ((refine la_q2 rfl (by decide +kernel) ?_); (repeat (first | refine bk_nil ?_ | refine bk_t (by decide +kernel) ?_ | refine bk_f (by decide +kernel) ?_)); (try (conv => arg 1; simp [Instr.cells, @cl1_get, ltS, nm_ne, tk_ne, hF])); with_reducible refine evp ?_) | ((refine la_q1 rfl (by decide +kernel) ?_); (try (conv => arg 1; simp [Instr.cells, @cl1_get, ltS, nm_ne, tk_ne, hF])); with_reducible refine evp ?_) | ((refine la_g0 rfl ?_); (try (conv => arg 1; simp [Instr.cells, @cl1_get, ltS, nm_ne, tk_ne, hF])); with_reducible refine evp ?_; (with_reducible refine evp ?_); try ((try (conv => arg 1; simp [Instr.cells, @cl1_get, ltS, nm_ne, tk_ne, hF])); with_reducible refine evp ?_))) | ((with_reducible refine la_id ?_); refine la_all rfl ?_) | ((with_reducible refine all_id ?_); (conv => arg 1; whnf); first | exact all_nil | refine all_cons ?_ ?_) | (refine la_op rfl (by first | exact frm_s (by decide +kernel) | exact frm_a (by repeat' (first | exact fa_nil | refine fa_cons (by decide +kernel) ?_))) (by intro hq; first | exact trivial | (cases hq; done) | simp [appT, Instr.cells, @cl1_get, ltS, nm_ne, tk_ne, hF]) ?_; (repeat (first | refine bk_nil ?_ | refine bk_t (by decide +kernel) ?_ | refine bk_f (by decide +kernel) ?_))) | fail)
    refine ⟨rfl, ln, wo, bo, f, ?_⟩
    simp only [wrkB, List.length_set, cl1_set]
    exact Cx.to y
  · simp only at h0 hD hA hB
    subst h0 hD hA hB
    have hvd := cl1_rd hd
    have hva := cl1_rd ha
    have hvc := cl1_rd hc
    simp only at hd hvd ha hva hc hvc
    have e : stepR ⟨mem, vars, inp, fu, none, val, out⟩ ⟨2, d, a, c, C, N, Text⟩ = ⟨mem, vars.set d (binV Text (rd vars a) (rd vars c)), inp, fu, none, val, out⟩ := by simp [stepR]
    rw [e]
    have hd2 : (d : Int) < vars.length := by omega
    have hd3 : d < (cl1 vars).length := by rw [cl1_len]; exact hd
    have ha2 : (a : Int) < vars.length := by omega
    have hc2 : (c : Int) < vars.length := by omega
    have L := implBin Text (rd vars a) (rd vars c)
    repeat' (first | (with_reducible first | refine stp ?_ | refine k_blk_o rfl ?_ | refine k_seq_n ?_) | ((try (conv => arg 1; simp [Instr.cells, b, ltS, nm_ne, tk_ne])); with_reducible refine evp ?_) | fail)
    repeat (with_reducible first | refine stp ?_ | refine k_seq_n ?_)
    refine st_lz (by kernel_rfl) ?_
    have hF := And.intro b (And.intro hvd (And.intro hd (And.intro hd2 (And.intro hd3 (And.intro hva (And.intro ha (And.intro ha2 (And.intro hvc (And.intro hc (And.intro hc2 (And.intro t1 t2)))))))))))
    repeat' (first | (with_reducible first | refine stp ?_ | refine k_blk_o rfl ?_) | ((try (conv => arg 1; simp [Instr.cells, @cl1_get, ltS, nm_ne, tk_ne, hF])); with_reducible refine evp ?_) | ((with_reducible refine tcl ?_); first | ((apply tg (L)); (case e => rfl); (case d => (refine dq ?_); (repeat' (first | ((refine Da.mk ?_); first | assumption) | constructor))))) | ((with_reducible refine la_id ?_); refine la_end rfl ?_; (repeat (first | refine pl_nil ?_ | refine pl_cons ?_))) | ((with_reducible refine la_id ?_); refine la_pick ?_; (conv => arg 1; whnf); (repeat ((fail_if_success (first | ((refine la_q0 rfl ?_); (try (conv => arg 1; simp [Instr.cells, @cl1_get, ltS, nm_ne, tk_ne, hF])); with_reducible refine evp ?_) | ((refine la_n rfl rfl ?_); (try (conv => arg 1; simp [Instr.cells, @cl1_get, ltS, nm_ne, tk_ne, hF])); with_reducible refine evp ?_) | ((refine la_q2 rfl (by decide +kernel) ?_); (repeat (first | refine bk_nil ?_ | refine bk_t (by decide +kernel) ?_ | refine bk_f (by decide +kernel) ?_)); (try (conv => arg 1; simp [Instr.cells, @cl1_get, ltS, nm_ne, tk_ne, hF])); with_reducible refine evp ?_) | ((refine la_q1 rfl (by decide +kernel) ?_); (try (conv => arg 1; simp [Instr.cells, @cl1_get, ltS, nm_ne, tk_ne, hF])); with_reducible refine evp ?_) | ((refine la_g0 rfl ?_); (try (conv => arg 1; simp [Instr.cells, @cl1_get, ltS, nm_ne, tk_ne, hF])); with_reducible refine evp ?_; (with_reducible refine evp ?_); try ((try (conv => arg 1; simp [Instr.cells, @cl1_get, ltS, nm_ne, tk_ne, hF])); with_reducible refine evp ?_)))); (refine la_there ?_); (conv => arg 1; whnf))); first | ((refine la_q0 rfl ?_); (try (conv => arg 1; simp [Instr.cells, @cl1_get, ltS, nm_ne, tk_ne, hF])); with_reducible refine evp ?_) | ((refine la_n rfl rfl ?_); (try (conv => arg 1; simp [Instr.cells, @cl1_get, ltS, nm_ne, tk_ne, hF])); with_reducible refine evp ?_) | ((refine la_q2 rfl (by decide +kernel) ?_); (repeat (first | refine bk_nil ?_ | refine bk_t (by decide +kernel) ?_ | refine bk_f (by decide +kernel) ?_)); (try (conv => arg 1; simp [Instr.cells, @cl1_get, ltS, nm_ne, tk_ne, hF])); with_reducible refine evp ?_) | ((refine la_q1 rfl (by decide +kernel) ?_); (try (conv => arg 1; simp [Instr.cells, @cl1_get, ltS, nm_ne, tk_ne, hF])); with_reducible refine evp ?_) | ((refine la_g0 rfl ?_); (try (conv => arg 1; simp [Instr.cells, @cl1_get, ltS, nm_ne, tk_ne, hF])); with_reducible refine evp ?_; (with_reducible refine evp ?_); try ((try (conv => arg 1; simp [Instr.cells, @cl1_get, ltS, nm_ne, tk_ne, hF])); with_reducible refine evp ?_))) | ((with_reducible refine la_id ?_); refine la_all rfl ?_) | ((with_reducible refine all_id ?_); (conv => arg 1; whnf); first | exact all_nil | refine all_cons ?_ ?_) | (refine la_op rfl (by first | exact frm_s (by decide +kernel) | exact frm_a (by repeat' (first | exact fa_nil | refine fa_cons (by decide +kernel) ?_))) (by intro hq; first | exact trivial | (cases hq; done) | simp [appT, Instr.cells, @cl1_get, ltS, nm_ne, tk_ne, hF]) ?_; (repeat (first | refine bk_nil ?_ | refine bk_t (by decide +kernel) ?_ | refine bk_f (by decide +kernel) ?_))) | fail)
    refine ⟨rfl, ln, wo, bo, f, ?_⟩
    simp only [wrkB, List.length_set, cl1_set]
    exact Cx.to y
  · simp only at h0 hD
    subst h0 hD
    have hvd := cl1_rd hd
    simp only at hd hvd
    have e : stepR ⟨mem, vars, inp, fu, none, val, out⟩ ⟨5, d, A, B, C, N, Text⟩ = ⟨mem, vars.set d (inp.head?.getD (-1)), inp.tail, fu, none, val, out⟩ := by simp [stepR]
    rw [e]
    have hd2 : (d : Int) < vars.length := by omega
    have hd3 : d < (cl1 vars).length := by rw [cl1_len]; exact hd
    repeat' (first | (with_reducible first | refine stp ?_ | refine k_blk_o rfl ?_) | ((try (conv => arg 1; simp [Instr.cells])); with_reducible refine evp ?_) | fail)
    refine gen_k (fun h' => WX m ⟨mem, vars, inp, fu, none, val, out⟩ wp (((h.tick, 0, 0), ⟨0, 7, [[.int .i64 5, .int .i64 d, .int .i64 A, .int .i64 B, .int .i64 C, .int .i64 N, .str Text]]⟩) :: bs) os h') (X0.new _) ?_
    intro h1 X1
    have bx := X1.top
    obtain ⟨ln1, wo1, bo1, f1, y1⟩ := X1
    have b1 := y1.bxs
    simp only [Bxs, wrkB, codeW] at b1
    repeat' (first | (with_reducible first | refine stp ?_ | refine k_blk_o rfl ?_ | refine k_seq_n ?_) | ((try (conv => arg 1; simp [b1, bx, ltS, nm_ne, tk_ne])); with_reducible refine evp ?_) | fail)
    repeat (with_reducible first | refine stp ?_ | refine k_seq_n ?_)
    refine st_lz (by kernel_rfl) ?_
    have hF := And.intro b1 (And.intro bx (And.intro hvd (And.intro hd (And.intro hd2 hd3))))
    repeat' (first | (with_reducible first | refine stp ?_ | refine k_blk_o rfl ?_) | ((try (conv => arg 1; simp [@cl1_get, ltS, nm_ne, tk_ne, hF])); with_reducible refine evp ?_) | ((with_reducible refine la_id ?_); refine la_end rfl ?_; (repeat (first | refine pl_nil ?_ | refine pl_cons ?_))) | ((with_reducible refine la_id ?_); refine la_pick ?_; (conv => arg 1; whnf); (repeat ((fail_if_success (first | ((refine la_q0 rfl ?_); (try (conv => arg 1; simp [@cl1_get, ltS, nm_ne, tk_ne, hF])); with_reducible refine evp ?_) | ((refine la_n rfl rfl ?_); (try (conv => arg 1; simp [@cl1_get, ltS, nm_ne, tk_ne, hF])); with_reducible refine evp ?_) | ((refine la_q2 rfl (by decide +kernel) ?_); (repeat (first | refine bk_nil ?_ | refine bk_t (by decide +kernel) ?_ | refine bk_f (by decide +kernel) ?_)); (try (conv => arg 1; simp [@cl1_get, ltS, nm_ne, tk_ne, hF])); with_reducible refine evp ?_) | ((refine la_q1 rfl (by decide +kernel) ?_); (try (conv => arg 1; simp [@cl1_get, ltS, nm_ne, tk_ne, hF])); with_reducible refine evp ?_) | ((refine la_g0 rfl ?_); (try (conv => arg 1; simp [@cl1_get, ltS, nm_ne, tk_ne, hF])); with_reducible refine evp ?_; (with_reducible refine evp ?_); try ((try (conv => arg 1; simp [@cl1_get, ltS, nm_ne, tk_ne, hF])); with_reducible refine evp ?_)))); (refine la_there ?_); (conv => arg 1; whnf))); first | ((refine la_q0 rfl ?_); (try (conv => arg 1; simp [@cl1_get, ltS, nm_ne, tk_ne, hF])); with_reducible refine evp ?_) | ((refine la_n rfl rfl ?_); (try (conv => arg 1; simp [@cl1_get, ltS, nm_ne, tk_ne, hF])); with_reducible refine evp ?_) | ((refine la_q2 rfl (by decide +kernel) ?_); (repeat (first | refine bk_nil ?_ | refine bk_t (by decide +kernel) ?_ | refine bk_f (by decide +kernel) ?_)); (try (conv => arg 1; simp [@cl1_get, ltS, nm_ne, tk_ne, hF])); with_reducible refine evp ?_) | ((refine la_q1 rfl (by decide +kernel) ?_); (try (conv => arg 1; simp [@cl1_get, ltS, nm_ne, tk_ne, hF])); with_reducible refine evp ?_) | ((refine la_g0 rfl ?_); (try (conv => arg 1; simp [@cl1_get, ltS, nm_ne, tk_ne, hF])); with_reducible refine evp ?_; (with_reducible refine evp ?_); try ((try (conv => arg 1; simp [@cl1_get, ltS, nm_ne, tk_ne, hF])); with_reducible refine evp ?_))) | ((with_reducible refine la_id ?_); refine la_all rfl ?_) | ((with_reducible refine all_id ?_); (conv => arg 1; whnf); first | exact all_nil | refine all_cons ?_ ?_) | (refine la_op rfl (by first | exact frm_s (by decide +kernel) | exact frm_a (by repeat' (first | exact fa_nil | refine fa_cons (by decide +kernel) ?_))) (by intro hq; first | exact trivial | (cases hq; done) | simp [appT, @cl1_get, ltS, nm_ne, tk_ne, hF]) ?_; (repeat (first | refine bk_nil ?_ | refine bk_t (by decide +kernel) ?_ | refine bk_f (by decide +kernel) ?_))) | fail)
    all_goals
      refine st_heap rfl (getW ⟨ln1, wo1, bo1, f1, Cx.to y1⟩ hp hi) ?_
      rintro v h2 ⟨rfl, X2⟩
      have X3 := X2
      have bx2 := X2.top
      obtain ⟨ln2, wo2, bo2, f2, y2⟩ := X2
      have b2 := y2.bxs
      simp only [Bxs, wrkB, codeW] at b2
      have hF := And.intro b2 (And.intro bx2 (And.intro hvd (And.intro hd (And.intro hd2 hd3))))
      repeat' (first | (with_reducible first | refine stp ?_ | refine k_blk_o rfl ?_) | ((try (conv => arg 1; simp [@cl1_get, ltS, nm_ne, tk_ne, hF])); with_reducible refine evp ?_) | ((with_reducible refine la_id ?_); refine la_end rfl ?_; (repeat (first | refine pl_nil ?_ | refine pl_cons ?_))) | ((with_reducible refine la_id ?_); refine la_pick ?_; (conv => arg 1; whnf); (repeat ((fail_if_success (first | ((refine la_q0 rfl ?_); (try (conv => arg 1; simp [@cl1_get, ltS, nm_ne, tk_ne, hF])); with_reducible refine evp ?_) | ((refine la_n rfl rfl ?_); (try (conv => arg 1; simp [@cl1_get, ltS, nm_ne, tk_ne, hF])); with_reducible refine evp ?_) | ((refine la_q2 rfl (by decide +kernel) ?_); (repeat (first | refine bk_nil ?_ | refine bk_t (by decide +kernel) ?_ | refine bk_f (by decide +kernel) ?_)); (try (conv => arg 1; simp [@cl1_get, ltS, nm_ne, tk_ne, hF])); with_reducible refine evp ?_) | ((refine la_q1 rfl (by decide +kernel) ?_); (try (conv => arg 1; simp [@cl1_get, ltS, nm_ne, tk_ne, hF])); with_reducible refine evp ?_) | ((refine la_g0 rfl ?_); (try (conv => arg 1; simp [@cl1_get, ltS, nm_ne, tk_ne, hF])); with_reducible refine evp ?_; (with_reducible refine evp ?_); try ((try (conv => arg 1; simp [@cl1_get, ltS, nm_ne, tk_ne, hF])); with_reducible refine evp ?_)))); (refine la_there ?_); (conv => arg 1; whnf))); first | ((refine la_q0 rfl ?_); (try (conv => arg 1; simp [@cl1_get, ltS, nm_ne, tk_ne, hF])); with_reducible refine evp ?_) | ((refine la_n rfl rfl ?_); (try (conv => arg 1; simp [@cl1_get, ltS, nm_ne, tk_ne, hF])); with_reducible refine evp ?_) | ((refine la_q2 rfl (by decide +kernel) ?_); (repeat (first | refine bk_nil ?_ | refine bk_t (by decide +kernel) ?_ | refine bk_f (by decide +kernel) ?_)); (try (conv => arg 1; simp [@cl1_get, ltS, nm_ne, tk_ne, hF])); with_reducible refine evp ?_) | ((refine la_q1 rfl (by decide +kernel) ?_); (try (conv => arg 1; simp [@cl1_get, ltS, nm_ne, tk_ne, hF])); with_reducible refine evp ?_) | ((refine la_g0 rfl ?_); (try (conv => arg 1; simp [@cl1_get, ltS, nm_ne, tk_ne, hF])); with_reducible refine evp ?_; (with_reducible refine evp ?_); try ((try (conv => arg 1; simp [@cl1_get, ltS, nm_ne, tk_ne, hF])); with_reducible refine evp ?_))) | ((with_reducible refine la_id ?_); refine la_all rfl ?_) | ((with_reducible refine all_id ?_); (conv => arg 1; whnf); first | exact all_nil | refine all_cons ?_ ?_) | (refine la_op rfl (by first | exact frm_s (by decide +kernel) | exact frm_a (by repeat' (first | exact fa_nil | refine fa_cons (by decide +kernel) ?_))) (by intro hq; first | exact trivial | (cases hq; done) | simp [appT, @cl1_get, ltS, nm_ne, tk_ne, hF]) ?_; (repeat (first | refine bk_nil ?_ | refine bk_t (by decide +kernel) ?_ | refine bk_f (by decide +kernel) ?_))) | fail)
      refine ⟨rfl, X3.dropOf ⟨ln2, wo2, bo2, f2, ?_⟩⟩
      simp only [wrkB, List.length_set, cl1_set]
      exact Cx.to y2
  · simp only at h0 hA
    subst h0 hA
    have hva := cl1_rd ha
    simp only at ha hva
    have e : stepR ⟨mem, vars, inp, fu, none, val, out⟩ ⟨6, D, a, B, C, N, Text⟩ = ⟨mem, vars, inp, fu, none, val, out ++ [rd vars a]⟩ := by simp [stepR]
    rw [e]
    have ha2 : (a : Int) < vars.length := by omega
    repeat' (first | (with_reducible first | refine stp ?_ | refine k_blk_o rfl ?_) | ((try (conv => arg 1; simp [Instr.cells])); with_reducible refine evp ?_) | fail)
    refine gen_k (fun h' => WX m ⟨mem, vars, inp, fu, none, val, out⟩ wp (((h.tick, 0, 0), ⟨0, 7, [[.int .i64 6, .int .i64 D, .int .i64 a, .int .i64 B, .int .i64 C, .int .i64 N, .str Text]]⟩) :: bs) os h') (X0.new _) ?_
    intro h1 X1
    have bx := X1.top
    obtain ⟨ln1, wo1, bo1, f1, y1⟩ := X1
    have b1 := y1.bxs
    simp only [Bxs, wrkB, codeW] at b1
    have q2 := f1.one
    repeat' (first | (with_reducible first | refine stp ?_ | refine k_blk_o rfl ?_ | refine k_seq_n ?_) | ((try (conv => arg 1; simp [b1, bx, q2.1, q2.2.1, q2.2.2, hp.1, hp.2.1, hp.2.2, ltS, nm_ne, tk_ne])); with_reducible refine evp ?_) | fail)
    repeat (with_reducible first | refine stp ?_ | refine k_seq_n ?_)
    refine st_lz (by kernel_rfl) ?_
    have hF := And.intro b1 (And.intro bx (And.intro hva (And.intro ha (And.intro ha2 (And.intro q2.1 (And.intro q2.2.1 (And.intro q2.2.2 (And.intro hp.1 (And.intro hp.2.1 hp.2.2)))))))))
    repeat' (first | (with_reducible first | refine stp ?_ | refine k_blk_o rfl ?_) | ((try (conv => arg 1; simp [@cl1_get, ltS, nm_ne, tk_ne, hF])); with_reducible refine evp ?_) | ((with_reducible refine la_id ?_); refine la_end rfl ?_; (repeat (first | refine pl_nil ?_ | refine pl_cons ?_))) | ((with_reducible refine la_id ?_); refine la_pick ?_; (conv => arg 1; whnf); (repeat ((fail_if_success (first | ((refine la_q0 rfl ?_); (try (conv => arg 1; simp [@cl1_get, ltS, nm_ne, tk_ne, hF])); with_reducible refine evp ?_) | ((refine la_n rfl rfl ?_); (try (conv => arg 1; simp [@cl1_get, ltS, nm_ne, tk_ne, hF])); with_reducible refine evp ?_) | ((refine la_q2 rfl (by decide +kernel) ?_); (repeat (first | refine bk_nil ?_ | refine bk_t (by decide +kernel) ?_ | refine bk_f (by decide +kernel) ?_)); (try (conv => arg 1; simp [@cl1_get, ltS, nm_ne, tk_ne, hF])); with_reducible refine evp ?_) | ((refine la_q1 rfl (by decide +kernel) ?_); (try (conv => arg 1; simp [@cl1_get, ltS, nm_ne, tk_ne, hF])); with_reducible refine evp ?_) | ((refine la_g0 rfl ?_); (try (conv => arg 1; simp [@cl1_get, ltS, nm_ne, tk_ne, hF])); with_reducible refine evp ?_; (with_reducible refine evp ?_); try ((try (conv => arg 1; simp [@cl1_get, ltS, nm_ne, tk_ne, hF])); with_reducible refine evp ?_)))); (refine la_there ?_); (conv => arg 1; whnf))); first | ((refine la_q0 rfl ?_); (try (conv => arg 1; simp [@cl1_get, ltS, nm_ne, tk_ne, hF])); with_reducible refine evp ?_) | ((refine la_n rfl rfl ?_); (try (conv => arg 1; simp [@cl1_get, ltS, nm_ne, tk_ne, hF])); with_reducible refine evp ?_) | ((refine la_q2 rfl (by decide +kernel) ?_); (repeat (first | refine bk_nil ?_ | refine bk_t (by decide +kernel) ?_ | refine bk_f (by decide +kernel) ?_)); (try (conv => arg 1; simp [@cl1_get, ltS, nm_ne, tk_ne, hF])); with_reducible refine evp ?_) | ((refine la_q1 rfl (by decide +kernel) ?_); (try (conv => arg 1; simp [@cl1_get, ltS, nm_ne, tk_ne, hF])); with_reducible refine evp ?_) | ((refine la_g0 rfl ?_); (try (conv => arg 1; simp [@cl1_get, ltS, nm_ne, tk_ne, hF])); with_reducible refine evp ?_; (with_reducible refine evp ?_); try ((try (conv => arg 1; simp [@cl1_get, ltS, nm_ne, tk_ne, hF])); with_reducible refine evp ?_))) | ((with_reducible refine la_id ?_); refine la_all rfl ?_) | ((with_reducible refine all_id ?_); (conv => arg 1; whnf); first | exact all_nil | refine all_cons ?_ ?_) | (refine la_op rfl (by first | exact frm_s (by decide +kernel) | exact frm_a (by repeat' (first | exact fa_nil | refine fa_cons (by decide +kernel) ?_))) (by intro hq; first | exact trivial | (cases hq; done) | simp [appT, @cl1_get, ltS, nm_ne, tk_ne, hF]) ?_; (repeat (first | refine bk_nil ?_ | refine bk_t (by decide +kernel) ?_ | refine bk_f (by decide +kernel) ?_))) | fail)
    conv => arg 1; simp
    refine out_app (l := out) (e := rd vars a) (fs := [(m.nr, wrkB m ⟨mem, vars, inp, fu, none, val, out⟩ wo1 wp), (m.kv, ⟨m.vv, 1, cl1 vars⟩), (m.km, ⟨m.vm, 1, m.hdr⟩)]) (by kernel_rfl) f1 (Cx.to y1) ?hk ?hl ?hn ?ht ?kk
    case hk => simp
    case hl => omega
    case hn => refine Cx.new_nin y1 ?_; first | (simp; done) | (simp; omega) | omega
    case ht => simp
    intro w' b' h2 fl' y2 tk q'
    have X3 : WX m ⟨mem, vars, inp, fu, none, val, out⟩ wp (((h.tick, 0, 0), ⟨0, 7, [[.int .i64 6, .int .i64 D, .int .i64 a, .int .i64 B, .int .i64 C, .int .i64 N, .str Text]]⟩) :: bs) os h1 := ⟨ln1, wo1, bo1, f1, y1⟩
    simp only [List.cons_append, List.nil_append] at y2
    have b2 := y2.bxs
    simp only [Bxs, wrkB, codeW] at b2
    have hF := And.intro b2 (And.intro q'.1 (And.intro q'.2.1 (And.intro q'.2.2 (And.intro hp.1 (And.intro hp.2.1 hp.2.2)))))
    repeat' (first | (with_reducible first | refine stp ?_ | refine k_blk_o rfl ?_) | ((try (conv => arg 1; simp [ltS, nm_ne, tk_ne, hF])); with_reducible refine evp ?_) | ((with_reducible refine la_id ?_); refine la_end rfl ?_; (repeat (first | refine pl_nil ?_ | refine pl_cons ?_))) | ((with_reducible refine la_id ?_); refine la_pick ?_; (conv => arg 1; whnf); (repeat ((fail_if_success (first | ((refine la_q0 rfl ?_); (try (conv => arg 1; simp [ltS, nm_ne, tk_ne, hF])); with_reducible refine evp ?_) | ((refine la_n rfl rfl ?_); (try (conv => arg 1; simp [ltS, nm_ne, tk_ne, hF])); with_reducible refine evp ?_) | ((refine la_q2 rfl (by decide +kernel) ?_); (repeat (first | refine bk_nil ?_ | refine bk_t (by decide +kernel) ?_ | refine bk_f (by decide +kernel) ?_)); (try (conv => arg 1; simp [ltS, nm_ne, tk_ne, hF])); with_reducible refine evp ?_) | ((refine la_q1 rfl (by decide +kernel) ?_); (try (conv => arg 1; simp [ltS, nm_ne, tk_ne, hF])); with_reducible refine evp ?_) | ((refine la_g0 rfl ?_); (try (conv => arg 1; simp [ltS, nm_ne, tk_ne, hF])); with_reducible refine evp ?_; (with_reducible refine evp ?_); try ((try (conv => arg 1; simp [ltS, nm_ne, tk_ne, hF])); with_reducible refine evp ?_)))); (refine la_there ?_); (conv => arg 1; whnf))); first | ((refine la_q0 rfl ?_); (try (conv => arg 1; simp [ltS, nm_ne, tk_ne, hF])); with_reducible refine evp ?_) | ((refine la_n rfl rfl ?_); (try (conv => arg 1; simp [ltS, nm_ne, tk_ne, hF])); with_reducible refine evp ?_) | ((refine la_q2 rfl (by decide +kernel) ?_); (repeat (first | refine bk_nil ?_ | refine bk_t (by decide +kernel) ?_ | refine bk_f (by decide +kernel) ?_)); (try (conv => arg 1; simp [ltS, nm_ne, tk_ne, hF])); with_reducible refine evp ?_) | ((refine la_q1 rfl (by decide +kernel) ?_); (try (conv => arg 1; simp [ltS, nm_ne, tk_ne, hF])); with_reducible refine evp ?_) | ((refine la_g0 rfl ?_); (try (conv => arg 1; simp [ltS, nm_ne, tk_ne, hF])); with_reducible refine evp ?_; (with_reducible refine evp ?_); try ((try (conv => arg 1; simp [ltS, nm_ne, tk_ne, hF])); with_reducible refine evp ?_))) | ((with_reducible refine la_id ?_); refine la_all rfl ?_) | ((with_reducible refine all_id ?_); (conv => arg 1; whnf); first | exact all_nil | refine all_cons ?_ ?_) | (refine la_op rfl (by first | exact frm_s (by decide +kernel) | exact frm_a (by repeat' (first | exact fa_nil | refine fa_cons (by decide +kernel) ?_))) (by intro hq; first | exact trivial | (cases hq; done) | simp [appT, ltS, nm_ne, tk_ne, hF]) ?_; (repeat (first | refine bk_nil ?_ | refine bk_t (by decide +kernel) ?_ | refine bk_f (by decide +kernel) ?_))) | fail)
    exact ⟨rfl, X3.dropOf ⟨ln1, w', b', fl', Cx.to y2⟩⟩
  · simp only at h0 hD hB hN
    subst h0 hD hB hN
    have hvd := cl1_rd hd
    have hvc := cl1_rd hc
    simp only at hd hvd hc hvc hq hA
    have hkl := ks_len (s := ⟨mem, vars, inp, fu, none, val, out⟩) ln
    simp only at hkl
    have hqk : q < m.ks.length := by omega
    have hqk2 : (q : Int) < m.ks.length := by omega
    have hdr := hdr_at (s := ⟨mem, vars, inp, fu, none, val, out⟩) ln hqk hq
    simp only at hdr
    have hgq : mem.getD q [] = mem[q] := by simp [hq]
    have hix : idxR ⟨mem, vars, inp, fu, none, val, out⟩ ⟨3, d, A, c, C, q, Text⟩ = atR ⟨mem, vars, inp, fu, none, val, out⟩ A (rd vars c) := rfl
    have hd2 : (d : Int) < vars.length := by omega
    have hd3 : d < (cl1 vars).length := by rw [cl1_len]; exact hd
    have hc2 : (c : Int) < vars.length := by omega
    repeat' (first | (with_reducible first | refine stp ?_ | refine k_blk_o rfl ?_) | ((try (conv => arg 1; simp [Instr.cells])); with_reducible refine evp ?_) | fail)
    refine gen_k (fun h' => WX m ⟨mem, vars, inp, fu, none, val, out⟩ wp (((h.tick, 0, 0), ⟨0, 7, [[.int .i64 3, .int .i64 d, .int .i64 A, .int .i64 c, .int .i64 C, .int .i64 q, .str Text]]⟩) :: bs) os h') (X0.new _) ?_
    intro h1 X1
    have bx := X1.top
    obtain ⟨ln1, wo1, bo1, f1, y1⟩ := X1
    have b1 := y1.bxs
    simp only [Bxs, wrkB, codeW] at b1
    repeat' (first | (with_reducible first | refine stp ?_ | refine k_blk_o rfl ?_ | refine k_seq_n ?_) | ((try (conv => arg 1; simp [b1, bx, ltS, nm_ne, tk_ne])); with_reducible refine evp ?_) | fail)
    repeat (with_reducible first | refine stp ?_ | refine k_seq_n ?_)
    refine st_lz (by kernel_rfl) ?_
    have hF := And.intro b1 (And.intro bx (And.intro hvc (And.intro hc hc2)))
    repeat' (first | (with_reducible first | refine stp ?_ | refine k_blk_o rfl ?_) | ((try (conv => arg 1; simp [@cl1_get, ltS, nm_ne, tk_ne, hF])); with_reducible refine evp ?_) | ((with_reducible refine la_id ?_); refine la_end rfl ?_; (repeat (first | refine pl_nil ?_ | refine pl_cons ?_))) | ((with_reducible refine la_id ?_); refine la_pick ?_; (conv => arg 1; whnf); (repeat ((fail_if_success (first | ((refine la_q0 rfl ?_); (try (conv => arg 1; simp [@cl1_get, ltS, nm_ne, tk_ne, hF])); with_reducible refine evp ?_) | ((refine la_n rfl rfl ?_); (try (conv => arg 1; simp [@cl1_get, ltS, nm_ne, tk_ne, hF])); with_reducible refine evp ?_) | ((refine la_q2 rfl (by decide +kernel) ?_); (repeat (first | refine bk_nil ?_ | refine bk_t (by decide +kernel) ?_ | refine bk_f (by decide +kernel) ?_)); (try (conv => arg 1; simp [@cl1_get, ltS, nm_ne, tk_ne, hF])); with_reducible refine evp ?_) | ((refine la_q1 rfl (by decide +kernel) ?_); (try (conv => arg 1; simp [@cl1_get, ltS, nm_ne, tk_ne, hF])); with_reducible refine evp ?_) | ((refine la_g0 rfl ?_); (try (conv => arg 1; simp [@cl1_get, ltS, nm_ne, tk_ne, hF])); with_reducible refine evp ?_; (with_reducible refine evp ?_); try ((try (conv => arg 1; simp [@cl1_get, ltS, nm_ne, tk_ne, hF])); with_reducible refine evp ?_)))); (refine la_there ?_); (conv => arg 1; whnf))); first | ((refine la_q0 rfl ?_); (try (conv => arg 1; simp [@cl1_get, ltS, nm_ne, tk_ne, hF])); with_reducible refine evp ?_) | ((refine la_n rfl rfl ?_); (try (conv => arg 1; simp [@cl1_get, ltS, nm_ne, tk_ne, hF])); with_reducible refine evp ?_) | ((refine la_q2 rfl (by decide +kernel) ?_); (repeat (first | refine bk_nil ?_ | refine bk_t (by decide +kernel) ?_ | refine bk_f (by decide +kernel) ?_)); (try (conv => arg 1; simp [@cl1_get, ltS, nm_ne, tk_ne, hF])); with_reducible refine evp ?_) | ((refine la_q1 rfl (by decide +kernel) ?_); (try (conv => arg 1; simp [@cl1_get, ltS, nm_ne, tk_ne, hF])); with_reducible refine evp ?_) | ((refine la_g0 rfl ?_); (try (conv => arg 1; simp [@cl1_get, ltS, nm_ne, tk_ne, hF])); with_reducible refine evp ?_; (with_reducible refine evp ?_); try ((try (conv => arg 1; simp [@cl1_get, ltS, nm_ne, tk_ne, hF])); with_reducible refine evp ?_))) | ((with_reducible refine la_id ?_); refine la_all rfl ?_) | ((with_reducible refine all_id ?_); (conv => arg 1; whnf); first | exact all_nil | refine all_cons ?_ ?_) | (refine la_op rfl (by first | exact frm_s (by decide +kernel) | exact frm_a (by repeat' (first | exact fa_nil | refine fa_cons (by decide +kernel) ?_))) (by intro hq; first | exact trivial | (cases hq; done) | simp [appT, @cl1_get, ltS, nm_ne, tk_ne, hF]) ?_; (repeat (first | refine bk_nil ?_ | refine bk_t (by decide +kernel) ?_ | refine bk_f (by decide +kernel) ?_))) | fail)
    all_goals
      refine st_heap rfl (placeW ⟨ln1, wo1, bo1, f1, Cx.to y1⟩ hp rfl hq (hm q hq) hA (rd vars c) hqk) ?_
      rintro v h2 (⟨j, hj1, hj2, rfl, X2⟩ | ⟨hj, rfl, X2⟩)
      · skip
        have hj2 : j < mem[q].length := hj2
        have hj : inB (atR ⟨mem, vars, inp, fu, none, val, out⟩ A (rd vars c)) 0 ((mem[q].length : Int) - 1) = true := by rw [hj1]; simp [inB]; omega
        have e : stepR ⟨mem, vars, inp, fu, none, val, out⟩ ⟨3, d, A, c, C, q, Text⟩ = ⟨mem, vars.set d (rd mem[q] (atR ⟨mem, vars, inp, fu, none, val, out⟩ A (rd vars c))), inp, fu, none, val, out⟩ := by simp [stepR, hix, memR, hq, hj]
        rw [e]
        rw [hj1]
        have hj3 : (j : Int) < mem[q].length := by omega
        have hj4 : j < (cl1 mem[q]).length := by rw [cl1_len]; exact hj2
        have X3 := X2
        have bx2 := X2.top
        obtain ⟨ln2, wo2, bo2, f2, y2⟩ := X2
        have b2 := y2.bxs
        simp only [Bxs, wrkB, codeW] at b2
        have rq := y2.rgs_at hqk hq
        simp only at rq
        repeat' (first | (with_reducible first | refine stp ?_ | refine k_blk_o rfl ?_) | ((try (conv => arg 1; simp [b2, bx2, ltS, nm_ne, tk_ne])); with_reducible refine evp ?_) | ((with_reducible refine la_id ?_); refine la_end rfl ?_; (repeat (first | refine pl_nil ?_ | refine pl_cons ?_))) | ((with_reducible refine la_id ?_); refine la_pick ?_; (conv => arg 1; whnf); (repeat ((fail_if_success (first | ((refine la_q0 rfl ?_); (try (conv => arg 1; simp [b2, bx2, ltS, nm_ne, tk_ne])); with_reducible refine evp ?_) | ((refine la_n rfl rfl ?_); (try (conv => arg 1; simp [b2, bx2, ltS, nm_ne, tk_ne])); with_reducible refine evp ?_) | ((refine la_q2 rfl (by decide +kernel) ?_); (repeat (first | refine bk_nil ?_ | refine bk_t (by decide +kernel) ?_ | refine bk_f (by decide +kernel) ?_)); (try (conv => arg 1; simp [b2, bx2, ltS, nm_ne, tk_ne])); with_reducible refine evp ?_) | ((refine la_q1 rfl (by decide +kernel) ?_); (try (conv => arg 1; simp [b2, bx2, ltS, nm_ne, tk_ne])); with_reducible refine evp ?_) | ((refine la_g0 rfl ?_); (try (conv => arg 1; simp [b2, bx2, ltS, nm_ne, tk_ne])); with_reducible refine evp ?_; (with_reducible refine evp ?_); try ((try (conv => arg 1; simp [b2, bx2, ltS, nm_ne, tk_ne])); with_reducible refine evp ?_)))); (refine la_there ?_); (conv => arg 1; whnf))); first | ((refine la_q0 rfl ?_); (try (conv => arg 1; simp [b2, bx2, ltS, nm_ne, tk_ne])); with_reducible refine evp ?_) | ((refine la_n rfl rfl ?_); (try (conv => arg 1; simp [b2, bx2, ltS, nm_ne, tk_ne])); with_reducible refine evp ?_) | ((refine la_q2 rfl (by decide +kernel) ?_); (repeat (first | refine bk_nil ?_ | refine bk_t (by decide +kernel) ?_ | refine bk_f (by decide +kernel) ?_)); (try (conv => arg 1; simp [b2, bx2, ltS, nm_ne, tk_ne])); with_reducible refine evp ?_) | ((refine la_q1 rfl (by decide +kernel) ?_); (try (conv => arg 1; simp [b2, bx2, ltS, nm_ne, tk_ne])); with_reducible refine evp ?_) | ((refine la_g0 rfl ?_); (try (conv => arg 1; simp [b2, bx2, ltS, nm_ne, tk_ne])); with_reducible refine evp ?_; (with_reducible refine evp ?_); try ((try (conv => arg 1; simp [b2, bx2, ltS, nm_ne, tk_ne])); with_reducible refine evp ?_))) | ((with_reducible refine la_id ?_); refine la_all rfl ?_) | ((with_reducible refine all_id ?_); (conv => arg 1; whnf); first | exact all_nil | refine all_cons ?_ ?_) | (refine la_op rfl (by first | exact frm_s (by decide +kernel) | exact frm_a (by repeat' (first | exact fa_nil | refine fa_cons (by decide +kernel) ?_))) (by intro hq; first | exact trivial | (cases hq; done) | simp [appT, b2, bx2, ltS, nm_ne, tk_ne]) ?_; (repeat (first | refine bk_nil ?_ | refine bk_t (by decide +kernel) ?_ | refine bk_f (by decide +kernel) ?_))) | fail)
        repeat' (first | (with_reducible first | refine stp ?_ | refine k_blk_o rfl ?_ | refine k_seq_n ?_) | ((try (conv => arg 1; simp [b2, bx2, hj1, ltS, nm_ne, tk_ne])); with_reducible refine evp ?_) | fail)
        repeat (with_reducible first | refine stp ?_ | refine k_seq_n ?_)
        refine st_lz (by kernel_rfl) ?_
        have hF := And.intro b2 (And.intro bx2 (And.intro rq (And.intro hdr (And.intro hqk (And.intro hqk2 (And.intro hj2 (And.intro hj3 (And.intro hj4 (And.intro hvd (And.intro hd (And.intro hd2 hd3)))))))))))
        repeat' (first | (with_reducible first | refine stp ?_ | refine k_blk_o rfl ?_) | ((try (conv => arg 1; simp [@cl1_get, ltS, nm_ne, tk_ne, hF])); with_reducible refine evp ?_) | ((with_reducible refine la_id ?_); refine la_end rfl ?_; (repeat (first | refine pl_nil ?_ | refine pl_cons ?_))) | ((with_reducible refine la_id ?_); refine la_pick ?_; (conv => arg 1; whnf); (repeat ((fail_if_success (first | ((refine la_q0 rfl ?_); (try (conv => arg 1; simp [@cl1_get, ltS, nm_ne, tk_ne, hF])); with_reducible refine evp ?_) | ((refine la_n rfl rfl ?_); (try (conv => arg 1; simp [@cl1_get, ltS, nm_ne, tk_ne, hF])); with_reducible refine evp ?_) | ((refine la_q2 rfl (by decide +kernel) ?_); (repeat (first | refine bk_nil ?_ | refine bk_t (by decide +kernel) ?_ | refine bk_f (by decide +kernel) ?_)); (try (conv => arg 1; simp [@cl1_get, ltS, nm_ne, tk_ne, hF])); with_reducible refine evp ?_) | ((refine la_q1 rfl (by decide +kernel) ?_); (try (conv => arg 1; simp [@cl1_get, ltS, nm_ne, tk_ne, hF])); with_reducible refine evp ?_) | ((refine la_g0 rfl ?_); (try (conv => arg 1; simp [@cl1_get, ltS, nm_ne, tk_ne, hF])); with_reducible refine evp ?_; (with_reducible refine evp ?_); try ((try (conv => arg 1; simp [@cl1_get, ltS, nm_ne, tk_ne, hF])); with_reducible refine evp ?_)))); (refine la_there ?_); (conv => arg 1; whnf))); first | ((refine la_q0 rfl ?_); (try (conv => arg 1; simp [@cl1_get, ltS, nm_ne, tk_ne, hF])); with_reducible refine evp ?_) | ((refine la_n rfl rfl ?_); (try (conv => arg 1; simp [@cl1_get, ltS, nm_ne, tk_ne, hF])); with_reducible refine evp ?_) | ((refine la_q2 rfl (by decide +kernel) ?_); (repeat (first | refine bk_nil ?_ | refine bk_t (by decide +kernel) ?_ | refine bk_f (by decide +kernel) ?_)); (try (conv => arg 1; simp [@cl1_get, ltS, nm_ne, tk_ne, hF])); with_reducible refine evp ?_) | ((refine la_q1 rfl (by decide +kernel) ?_); (try (conv => arg 1; simp [@cl1_get, ltS, nm_ne, tk_ne, hF])); with_reducible refine evp ?_) | ((refine la_g0 rfl ?_); (try (conv => arg 1; simp [@cl1_get, ltS, nm_ne, tk_ne, hF])); with_reducible refine evp ?_; (with_reducible refine evp ?_); try ((try (conv => arg 1; simp [@cl1_get, ltS, nm_ne, tk_ne, hF])); with_reducible refine evp ?_))) | ((with_reducible refine la_id ?_); refine la_all rfl ?_) | ((with_reducible refine all_id ?_); (conv => arg 1; whnf); first | exact all_nil | refine all_cons ?_ ?_) | (refine la_op rfl (by first | exact frm_s (by decide +kernel) | exact frm_a (by repeat' (first | exact fa_nil | refine fa_cons (by decide +kernel) ?_))) (by intro hq; first | exact trivial | (cases hq; done) | simp [appT, @cl1_get, ltS, nm_ne, tk_ne, hF]) ?_; (repeat (first | refine bk_nil ?_ | refine bk_t (by decide +kernel) ?_ | refine bk_f (by decide +kernel) ?_))) | fail)
        refine ⟨rfl, X3.dropOf ⟨ln2, wo2, bo2, f2, ?_⟩⟩
        simp only [wrkB, List.length_set, cl1_set]
        exact Cx.to y2
      · have e : stepR ⟨mem, vars, inp, fu, none, val, out⟩ ⟨3, d, A, c, C, q, Text⟩ = ⟨mem, vars, inp, fu, some 1, val, out⟩ := by simp [stepR, hix, memR, hq, hj]
        rw [e]
        have X3 := X2
        have bx2 := X2.top
        obtain ⟨ln2, wo2, bo2, f2, y2⟩ := X2
        have b2 := y2.bxs
        simp only [Bxs, wrkB, codeW] at b2
        repeat' (first | (with_reducible first | refine stp ?_ | refine k_blk_o rfl ?_) | ((try (conv => arg 1; simp [b2, bx2, ltS, nm_ne, tk_ne])); with_reducible refine evp ?_) | ((with_reducible refine la_id ?_); refine la_end rfl ?_; (repeat (first | refine pl_nil ?_ | refine pl_cons ?_))) | ((with_reducible refine la_id ?_); refine la_pick ?_; (conv => arg 1; whnf); (repeat ((fail_if_success (first | ((refine la_q0 rfl ?_); (try (conv => arg 1; simp [b2, bx2, ltS, nm_ne, tk_ne])); with_reducible refine evp ?_) | ((refine la_n rfl rfl ?_); (try (conv => arg 1; simp [b2, bx2, ltS, nm_ne, tk_ne])); with_reducible refine evp ?_) | ((refine la_q2 rfl (by decide +kernel) ?_); (repeat (first | refine bk_nil ?_ | refine bk_t (by decide +kernel) ?_ | refine bk_f (by decide +kernel) ?_)); (try (conv => arg 1; simp [b2, bx2, ltS, nm_ne, tk_ne])); with_reducible refine evp ?_) | ((refine la_q1 rfl (by decide +kernel) ?_); (try (conv => arg 1; simp [b2, bx2, ltS, nm_ne, tk_ne])); with_reducible refine evp ?_) | ((refine la_g0 rfl ?_); (try (conv => arg 1; simp [b2, bx2, ltS, nm_ne, tk_ne])); with_reducible refine evp ?_; (with_reducible refine evp ?_); try ((try (conv => arg 1; simp [b2, bx2, ltS, nm_ne, tk_ne])); with_reducible refine evp ?_)))); (refine la_there ?_); (conv => arg 1; whnf))); first | ((refine la_q0 rfl ?_); (try (conv => arg 1; simp [b2, bx2, ltS, nm_ne, tk_ne])); with_reducible refine evp ?_) | ((refine la_n rfl rfl ?_); (try (conv => arg 1; simp [b2, bx2, ltS, nm_ne, tk_ne])); with_reducible refine evp ?_) | ((refine la_q2 rfl (by decide +kernel) ?_); (repeat (first | refine bk_nil ?_ | refine bk_t (by decide +kernel) ?_ | refine bk_f (by decide +kernel) ?_)); (try (conv => arg 1; simp [b2, bx2, ltS, nm_ne, tk_ne])); with_reducible refine evp ?_) | ((refine la_q1 rfl (by decide +kernel) ?_); (try (conv => arg 1; simp [b2, bx2, ltS, nm_ne, tk_ne])); with_reducible refine evp ?_) | ((refine la_g0 rfl ?_); (try (conv => arg 1; simp [b2, bx2, ltS, nm_ne, tk_ne])); with_reducible refine evp ?_; (with_reducible refine evp ?_); try ((try (conv => arg 1; simp [b2, bx2, ltS, nm_ne, tk_ne])); with_reducible refine evp ?_))) | ((with_reducible refine la_id ?_); refine la_all rfl ?_) | ((with_reducible refine all_id ?_); (conv => arg 1; whnf); first | exact all_nil | refine all_cons ?_ ?_) | (refine la_op rfl (by first | exact frm_s (by decide +kernel) | exact frm_a (by repeat' (first | exact fa_nil | refine fa_cons (by decide +kernel) ?_))) (by intro hq; first | exact trivial | (cases hq; done) | simp [appT, b2, bx2, ltS, nm_ne, tk_ne]) ?_; (repeat (first | refine bk_nil ?_ | refine bk_t (by decide +kernel) ?_ | refine bk_f (by decide +kernel) ?_))) | fail)
        repeat' (first | (with_reducible first | refine stp ?_ | refine k_blk_o rfl ?_ | refine k_seq_n ?_) | ((try (conv => arg 1; simp [b2, bx2, ltS, nm_ne, tk_ne])); with_reducible refine evp ?_) | fail)
        exact ⟨rfl, X3.dropOf ⟨ln2, wo2, bo2, f2, Cx.to y2⟩⟩
  · simp only at h0 hC hB hN
    subst h0 hC hB hN
    have hve := cl1_rd he
    have hvc := cl1_rd hc
    simp only at he hve hc hvc hq hA
    have hkl := ks_len (s := ⟨mem, vars, inp, fu, none, val, out⟩) ln
    simp only at hkl
    have hqk : q < m.ks.length := by omega
    have hqk2 : (q : Int) < m.ks.length := by omega
    have hdr := hdr_at (s := ⟨mem, vars, inp, fu, none, val, out⟩) ln hqk hq
    simp only at hdr
    have hgq : mem.getD q [] = mem[q] := by simp [hq]
    have hix : idxR ⟨mem, vars, inp, fu, none, val, out⟩ ⟨4, D, A, c, e, q, Text⟩ = atR ⟨mem, vars, inp, fu, none, val, out⟩ A (rd vars c) := rfl
    have he2 : (e : Int) < vars.length := by omega
    have hc2 : (c : Int) < vars.length := by omega
    repeat' (first | (with_reducible first | refine stp ?_ | refine k_blk_o rfl ?_) | ((try (conv => arg 1; simp [Instr.cells])); with_reducible refine evp ?_) | fail)
    refine gen_k (fun h' => WX m ⟨mem, vars, inp, fu, none, val, out⟩ wp (((h.tick, 0, 0), ⟨0, 7, [[.int .i64 4, .int .i64 D, .int .i64 A, .int .i64 c, .int .i64 e, .int .i64 q, .str Text]]⟩) :: bs) os h') (X0.new _) ?_
    intro h1 X1
    have bx := X1.top
    obtain ⟨ln1, wo1, bo1, f1, y1⟩ := X1
    have b1 := y1.bxs
    simp only [Bxs, wrkB, codeW] at b1
    repeat' (first | (with_reducible first | refine stp ?_ | refine k_blk_o rfl ?_ | refine k_seq_n ?_) | ((try (conv => arg 1; simp [b1, bx, ltS, nm_ne, tk_ne])); with_reducible refine evp ?_) | fail)
    repeat (with_reducible first | refine stp ?_ | refine k_seq_n ?_)
    refine st_lz (by kernel_rfl) ?_
    have hF := And.intro b1 (And.intro bx (And.intro hvc (And.intro hc hc2)))
    repeat' (first | (with_reducible first | refine stp ?_ | refine k_blk_o rfl ?_) | ((try (conv => arg 1; simp [@cl1_get, ltS, nm_ne, tk_ne, hF])); with_reducible refine evp ?_) | ((with_reducible refine la_id ?_); refine la_end rfl ?_; (repeat (first | refine pl_nil ?_ | refine pl_cons ?_))) | ((with_reducible refine la_id ?_); refine la_pick ?_; (conv => arg 1; whnf); (repeat ((fail_if_success (first | ((refine la_q0 rfl ?_); (try (conv => arg 1; simp [@cl1_get, ltS, nm_ne, tk_ne, hF])); with_reducible refine evp ?_) | ((refine la_n rfl rfl ?_); (try (conv => arg 1; simp [@cl1_get, ltS, nm_ne, tk_ne, hF])); with_reducible refine evp ?_) | ((refine la_q2 rfl (by decide +kernel) ?_); (repeat (first | refine bk_nil ?_ | refine bk_t (by decide +kernel) ?_ | refine bk_f (by decide +kernel) ?_)); (try (conv => arg 1; simp [@cl1_get, ltS, nm_ne, tk_ne, hF])); with_reducible refine evp ?_) | ((refine la_q1 rfl (by decide +kernel) ?_); (try (conv => arg 1; simp [@cl1_get, ltS, nm_ne, tk_ne, hF])); with_reducible refine evp ?_) | ((refine la_g0 rfl ?_); (try (conv => arg 1; simp [@cl1_get, ltS, nm_ne, tk_ne, hF])); with_reducible refine evp ?_; (with_reducible refine evp ?_); try ((try (conv => arg 1; simp [@cl1_get, ltS, nm_ne, tk_ne, hF])); with_reducible refine evp ?_)))); (refine la_there ?_); (conv => arg 1; whnf))); first | ((refine la_q0 rfl ?_); (try (conv => arg 1; simp [@cl1_get, ltS, nm_ne, tk_ne, hF])); with_reducible refine evp ?_) | ((refine la_n rfl rfl ?_); (try (conv => arg 1; simp [@cl1_get, ltS, nm_ne, tk_ne, hF])); with_reducible refine evp ?_) | ((refine la_q2 rfl (by decide +kernel) ?_); (repeat (first | refine bk_nil ?_ | refine bk_t (by decide +kernel) ?_ | refine bk_f (by decide +kernel) ?_)); (try (conv => arg 1; simp [@cl1_get, ltS, nm_ne, tk_ne, hF])); with_reducible refine evp ?_) | ((refine la_q1 rfl (by decide +kernel) ?_); (try (conv => arg 1; simp [@cl1_get, ltS, nm_ne, tk_ne, hF])); with_reducible refine evp ?_) | ((refine la_g0 rfl ?_); (try (conv => arg 1; simp [@cl1_get, ltS, nm_ne, tk_ne, hF])); with_reducible refine evp ?_; (with_reducible refine evp ?_); try ((try (conv => arg 1; simp [@cl1_get, ltS, nm_ne, tk_ne, hF])); with_reducible refine evp ?_))) | ((with_reducible refine la_id ?_); refine la_all rfl ?_) | ((with_reducible refine all_id ?_); (conv => arg 1; whnf); first | exact all_nil | refine all_cons ?_ ?_) | (refine la_op rfl (by first | exact frm_s (by decide +kernel) | exact frm_a (by repeat' (first | exact fa_nil | refine fa_cons (by decide +kernel) ?_))) (by intro hq; first | exact trivial | (cases hq; done) | simp [appT, @cl1_get, ltS, nm_ne, tk_ne, hF]) ?_; (repeat (first | refine bk_nil ?_ | refine bk_t (by decide +kernel) ?_ | refine bk_f (by decide +kernel) ?_))) | fail)
    all_goals
      refine st_heap rfl (placeW ⟨ln1, wo1, bo1, f1, Cx.to y1⟩ hp rfl hq (hm q hq) hA (rd vars c) hqk) ?_
      rintro v h2 (⟨j, hj1, hj2, rfl, X2⟩ | ⟨hj, rfl, X2⟩)
      · skip
        have hj2 : j < mem[q].length := hj2
        have hj : inB (atR ⟨mem, vars, inp, fu, none, val, out⟩ A (rd vars c)) 0 ((mem[q].length : Int) - 1) = true := by rw [hj1]; simp [inB]; omega
        have es : stepR ⟨mem, vars, inp, fu, none, val, out⟩ ⟨4, D, A, c, e, q, Text⟩ = ⟨mem.set q (mem[q].set (atR ⟨mem, vars, inp, fu, none, val, out⟩ A (rd vars c)).toNat (rd vars e)), vars, inp, fu, none, val, out⟩ := by simp [stepR, hix, memR, hq, hj]
        rw [es]
        rw [hj1, Int.toNat_natCast]
        have hj3 : (j : Int) < mem[q].length := by omega
        have hj4 : j < (cl1 mem[q]).length := by rw [cl1_len]; exact hj2
        have X3 := X2
        have bx2 := X2.top
        obtain ⟨ln2, wo2, bo2, f2, y2⟩ := X2
        have b2 := y2.bxs
        simp only [Bxs, wrkB, codeW] at b2
        have rq := y2.rgs_at hqk hq
        simp only at rq
        repeat' (first | (with_reducible first | refine stp ?_ | refine k_blk_o rfl ?_) | ((try (conv => arg 1; simp [b2, bx2, ltS, nm_ne, tk_ne])); with_reducible refine evp ?_) | ((with_reducible refine la_id ?_); refine la_end rfl ?_; (repeat (first | refine pl_nil ?_ | refine pl_cons ?_))) | ((with_reducible refine la_id ?_); refine la_pick ?_; (conv => arg 1; whnf); (repeat ((fail_if_success (first | ((refine la_q0 rfl ?_); (try (conv => arg 1; simp [b2, bx2, ltS, nm_ne, tk_ne])); with_reducible refine evp ?_) | ((refine la_n rfl rfl ?_); (try (conv => arg 1; simp [b2, bx2, ltS, nm_ne, tk_ne])); with_reducible refine evp ?_) | ((refine la_q2 rfl (by decide +kernel) ?_); (repeat (first | refine bk_nil ?_ | refine bk_t (by decide +kernel) ?_ | refine bk_f (by decide +kernel) ?_)); (try (conv => arg 1; simp [b2, bx2, ltS, nm_ne, tk_ne])); with_reducible refine evp ?_) | ((refine la_q1 rfl (by decide +kernel) ?_); (try (conv => arg 1; simp [b2, bx2, ltS, nm_ne, tk_ne])); with_reducible refine evp ?_) | ((refine la_g0 rfl ?_); (try (conv => arg 1; simp [b2, bx2, ltS, nm_ne, tk_ne])); with_reducible refine evp ?_; (with_reducible refine evp ?_); try ((try (conv => arg 1; simp [b2, bx2, ltS, nm_ne, tk_ne])); with_reducible refine evp ?_)))); (refine la_there ?_); (conv => arg 1; whnf))); first | ((refine la_q0 rfl ?_); (try (conv => arg 1; simp [b2, bx2, ltS, nm_ne, tk_ne])); with_reducible refine evp ?_) | ((refine la_n rfl rfl ?_); (try (conv => arg 1; simp [b2, bx2, ltS, nm_ne, tk_ne])); with_reducible refine evp ?_) | ((refine la_q2 rfl (by decide +kernel) ?_); (repeat (first | refine bk_nil ?_ | refine bk_t (by decide +kernel) ?_ | refine bk_f (by decide +kernel) ?_)); (try (conv => arg 1; simp [b2, bx2, ltS, nm_ne, tk_ne])); with_reducible refine evp ?_) | ((refine la_q1 rfl (by decide +kernel) ?_); (try (conv => arg 1; simp [b2, bx2, ltS, nm_ne, tk_ne])); with_reducible refine evp ?_) | ((refine la_g0 rfl ?_); (try (conv => arg 1; simp [b2, bx2, ltS, nm_ne, tk_ne])); with_reducible refine evp ?_; (with_reducible refine evp ?_); try ((try (conv => arg 1; simp [b2, bx2, ltS, nm_ne, tk_ne])); with_reducible refine evp ?_))) | ((with_reducible refine la_id ?_); refine la_all rfl ?_) | ((with_reducible refine all_id ?_); (conv => arg 1; whnf); first | exact all_nil | refine all_cons ?_ ?_) | (refine la_op rfl (by first | exact frm_s (by decide +kernel) | exact frm_a (by repeat' (first | exact fa_nil | refine fa_cons (by decide +kernel) ?_))) (by intro hq; first | exact trivial | (cases hq; done) | simp [appT, b2, bx2, ltS, nm_ne, tk_ne]) ?_; (repeat (first | refine bk_nil ?_ | refine bk_t (by decide +kernel) ?_ | refine bk_f (by decide +kernel) ?_))) | fail)
        repeat' (first | (with_reducible first | refine stp ?_ | refine k_blk_o rfl ?_ | refine k_seq_n ?_) | ((try (conv => arg 1; simp [b2, bx2, hj1, ltS, nm_ne, tk_ne])); with_reducible refine evp ?_) | fail)
        repeat (with_reducible first | refine stp ?_ | refine k_seq_n ?_)
        refine st_lz (by kernel_rfl) ?_
        have hF := And.intro b2 (And.intro bx2 (And.intro rq (And.intro hdr (And.intro hqk (And.intro hqk2 (And.intro hj2 (And.intro hj3 (And.intro hj4 (And.intro hve (And.intro he he2))))))))))
        repeat' (first | (with_reducible first | refine stp ?_ | refine k_blk_o rfl ?_) | ((try (conv => arg 1; simp [@cl1_get, ltS, nm_ne, tk_ne, hF])); with_reducible refine evp ?_) | ((with_reducible refine la_id ?_); refine la_end rfl ?_; (repeat (first | refine pl_nil ?_ | refine pl_cons ?_))) | ((with_reducible refine la_id ?_); refine la_pick ?_; (conv => arg 1; whnf); (repeat ((fail_if_success (first | ((refine la_q0 rfl ?_); (try (conv => arg 1; simp [@cl1_get, ltS, nm_ne, tk_ne, hF])); with_reducible refine evp ?_) | ((refine la_n rfl rfl ?_); (try (conv => arg 1; simp [@cl1_get, ltS, nm_ne, tk_ne, hF])); with_reducible refine evp ?_) | ((refine la_q2 rfl (by decide +kernel) ?_); (repeat (first | refine bk_nil ?_ | refine bk_t (by decide +kernel) ?_ | refine bk_f (by decide +kernel) ?_)); (try (conv => arg 1; simp [@cl1_get, ltS, nm_ne, tk_ne, hF])); with_reducible refine evp ?_) | ((refine la_q1 rfl (by decide +kernel) ?_); (try (conv => arg 1; simp [@cl1_get, ltS, nm_ne, tk_ne, hF])); with_reducible refine evp ?_) | ((refine la_g0 rfl ?_); (try (conv => arg 1; simp [@cl1_get, ltS, nm_ne, tk_ne, hF])); with_reducible refine evp ?_; (with_reducible refine evp ?_); try ((try (conv => arg 1; simp [@cl1_get, ltS, nm_ne, tk_ne, hF])); with_reducible refine evp ?_)))); (refine la_there ?_); (conv => arg 1; whnf))); first | ((refine la_q0 rfl ?_); (try (conv => arg 1; simp [@cl1_get, ltS, nm_ne, tk_ne, hF])); with_reducible refine evp ?_) | ((refine la_n rfl rfl ?_); (try (conv => arg 1; simp [@cl1_get, ltS, nm_ne, tk_ne, hF])); with_reducible refine evp ?_) | ((refine la_q2 rfl (by decide +kernel) ?_); (repeat (first | refine bk_nil ?_ | refine bk_t (by decide +kernel) ?_ | refine bk_f (by decide +kernel) ?_)); (try (conv => arg 1; simp [@cl1_get, ltS, nm_ne, tk_ne, hF])); with_reducible refine evp ?_) | ((refine la_q1 rfl (by decide +kernel) ?_); (try (conv => arg 1; simp [@cl1_get, ltS, nm_ne, tk_ne, hF])); with_reducible refine evp ?_) | ((refine la_g0 rfl ?_); (try (conv => arg 1; simp [@cl1_get, ltS, nm_ne, tk_ne, hF])); with_reducible refine evp ?_; (with_reducible refine evp ?_); try ((try (conv => arg 1; simp [@cl1_get, ltS, nm_ne, tk_ne, hF])); with_reducible refine evp ?_))) | ((with_reducible refine la_id ?_); refine la_all rfl ?_) | ((with_reducible refine all_id ?_); (conv => arg 1; whnf); first | exact all_nil | refine all_cons ?_ ?_) | (refine la_op rfl (by first | exact frm_s (by decide +kernel) | exact frm_a (by repeat' (first | exact fa_nil | refine fa_cons (by decide +kernel) ?_))) (by intro hq; first | exact trivial | (cases hq; done) | simp [appT, @cl1_get, ltS, nm_ne, tk_ne, hF]) ?_; (repeat (first | refine bk_nil ?_ | refine bk_t (by decide +kernel) ?_ | refine bk_f (by decide +kernel) ?_))) | fail)
        refine ⟨rfl, X3.dropOf ⟨?_, wo2, bo2, f2, ?_⟩⟩
        · rw [map_len_set (by simp [hq])]; exact ln2
        · rw [← cl1_set]
          exact (Cx.rgs_put (Cx.to y2) hqk hq (mem[q].set j (rd vars e))).next
      · have es : stepR ⟨mem, vars, inp, fu, none, val, out⟩ ⟨4, D, A, c, e, q, Text⟩ = ⟨mem, vars, inp, fu, some 1, val, out⟩ := by simp [stepR, hix, memR, hq, hj]
        rw [es]
        have X3 := X2
        have bx2 := X2.top
        obtain ⟨ln2, wo2, bo2, f2, y2⟩ := X2
        have b2 := y2.bxs
        simp only [Bxs, wrkB, codeW] at b2
        repeat' (first | (with_reducible first | refine stp ?_ | refine k_blk_o rfl ?_) | ((try (conv => arg 1; simp [b2, bx2, ltS, nm_ne, tk_ne])); with_reducible refine evp ?_) | ((with_reducible refine la_id ?_); refine la_end rfl ?_; (repeat (first | refine pl_nil ?_ | refine pl_cons ?_))) | ((with_reducible refine la_id ?_); refine la_pick ?_; (conv => arg 1; whnf); (repeat ((fail_if_success (first | ((refine la_q0 rfl ?_); (try (conv => arg 1; simp [b2, bx2, ltS, nm_ne, tk_ne])); with_reducible refine evp ?_) | ((refine la_n rfl rfl ?_); (try (conv => arg 1; simp [b2, bx2, ltS, nm_ne, tk_ne])); with_reducible refine evp ?_) | ((refine la_q2 rfl (by decide +kernel) ?_); (repeat (first | refine bk_nil ?_ | refine bk_t (by decide +kernel) ?_ | refine bk_f (by decide +kernel) ?_)); (try (conv => arg 1; simp [b2, bx2, ltS, nm_ne, tk_ne])); with_reducible refine evp ?_) | ((refine la_q1 rfl (by decide +kernel) ?_); (try (conv => arg 1; simp [b2, bx2, ltS, nm_ne, tk_ne])); with_reducible refine evp ?_) | ((refine la_g0 rfl ?_); (try (conv => arg 1; simp [b2, bx2, ltS, nm_ne, tk_ne])); with_reducible refine evp ?_; (with_reducible refine evp ?_); try ((try (conv => arg 1; simp [b2, bx2, ltS, nm_ne, tk_ne])); with_reducible refine evp ?_)))); (refine la_there ?_); (conv => arg 1; whnf))); first | ((refine la_q0 rfl ?_); (try (conv => arg 1; simp [b2, bx2, ltS, nm_ne, tk_ne])); with_reducible refine evp ?_) | ((refine la_n rfl rfl ?_); (try (conv => arg 1; simp [b2, bx2, ltS, nm_ne, tk_ne])); with_reducible refine evp ?_) | ((refine la_q2 rfl (by decide +kernel) ?_); (repeat (first | refine bk_nil ?_ | refine bk_t (by decide +kernel) ?_ | refine bk_f (by decide +kernel) ?_)); (try (conv => arg 1; simp [b2, bx2, ltS, nm_ne, tk_ne])); with_reducible refine evp ?_) | ((refine la_q1 rfl (by decide +kernel) ?_); (try (conv => arg 1; simp [b2, bx2, ltS, nm_ne, tk_ne])); with_reducible refine evp ?_) | ((refine la_g0 rfl ?_); (try (conv => arg 1; simp [b2, bx2, ltS, nm_ne, tk_ne])); with_reducible refine evp ?_; (with_reducible refine evp ?_); try ((try (conv => arg 1; simp [b2, bx2, ltS, nm_ne, tk_ne])); with_reducible refine evp ?_))) | ((with_reducible refine la_id ?_); refine la_all rfl ?_) | ((with_reducible refine all_id ?_); (conv => arg 1; whnf); first | exact all_nil | refine all_cons ?_ ?_) | (refine la_op rfl (by first | exact frm_s (by decide +kernel) | exact frm_a (by repeat' (first | exact fa_nil | refine fa_cons (by decide +kernel) ?_))) (by intro hq; first | exact trivial | (cases hq; done) | simp [appT, b2, bx2, ltS, nm_ne, tk_ne]) ?_; (repeat (first | refine bk_nil ?_ | refine bk_t (by decide +kernel) ?_ | refine bk_f (by decide +kernel) ?_))) | fail)
        repeat' (first | (with_reducible first | refine stp ?_ | refine k_blk_o rfl ?_ | refine k_seq_n ?_) | ((try (conv => arg 1; simp [b2, bx2, ltS, nm_ne, tk_ne])); with_reducible refine evp ?_) | fail)
        exact ⟨rfl, X3.dropOf ⟨ln2, wo2, bo2, f2, Cx.to y2⟩⟩
end
end Go.Proofs.YtlmlkkkgcbpaoaaGreat.AM

namespace Go.Proofs.YtlmlkkkgcbpaoaaGreat.AM
open Go.RowKit

private def MG86 : FuncId → Mode := fun f => if f = 50 then .heap else .tree

section
variable {h : Hp} {bs : Bx} {os : Ox} {m : RM} {s : Rs}
theorem l03ZerosH (n : Nat) (hn : n ≤ 2 ^ 20) (x : Cx h bs os) : Sound Tryz.prog 50 [.int .i64 n] h fun v h' => ∃ k : Nm, v = .sl k n 0 n ∧ h.tick ≤ k.1 ∧ Cx h' ((k, ⟨n, 1, cl1 (zeros n)⟩) :: bs) os := by
  have hnil : True := trivial
  refine enter mixed MG86 Tryz.func50 rfl (by kernel_rfl) rfl ?_
  repeat' (first | (with_reducible first | refine stp ?_ | refine k_blk_o rfl ?_ | refine k_seq_n ?_) | ((try (conv => arg 1; simp [hnil])); with_reducible refine evp ?_) | fail)
  refine st_loop (fun (i : Nat) σ h' => i ≤ n ∧ σ 0 = .int .i64 n ∧ σ 3 = .sl (h.tick + 1, 0, 0) i 0 i ∧ σ 4 = .int .i64 i ∧ Cx h' (((h.tick + 1, 0, 0), ⟨i, 1, cl1 (zeros i)⟩) :: bs) os) (fun i => n - i) 0 ?init ?step
  case init =>
    have x0 := x.next.next.box_one (T := h.tick + 1) (i := 0) (r := ⟨0, 1, []⟩) (fun n hn e => by have := x.lt n hn; omega) (by simp)
    exact ⟨Nat.zero_le _, by simp, by simp, by simp, Cx.to x0⟩
  case step =>
    rintro i σ h' ⟨hi, s0, s3, s4, y⟩
    have b := y.bxs
    simp only [Bxs] at b
    have hw : IntKind.i64.wrap (i + 1) = i + 1 := wrap_id (by omega) (by omega)
    by_cases hlt : i < n
    · have hlt2 : (i : Int) < n := by omega
      repeat' (first | (with_reducible first | refine stp ?_ | refine k_blk_o rfl ?_ | refine k_seq_n ?_) | ((try (conv => arg 1; simp [s0, s3, s4, b, hlt2, ltS, nm_ne])); with_reducible refine evp ?_) | fail)
      conv => arg 1; simp
      rw [appendA_snoc (s := 1) (l := cl1 (zeros i)) (e := [.int .i64 0]) (by kernel_rfl) ?hr (by simp [cl1, zeros]) ?hk rfl (by omega) ?hm]
      case hr => simp [b, nm_ne, ltS]
      case hk => simp
      case hm => simp [b, ltS]
      refine ev2_some ?_
      repeat' (first | (with_reducible first | refine stp ?_ | refine k_blk_o rfl ?_ | refine k_seq_n ?_) | ((try (conv => arg 1; simp [s0, s3, s4, hw])); with_reducible refine evp ?_) | fail)
      refine k_lp_n (i + 1) (by omega) ⟨by omega, by simp [s0], by simp, by simp, ?_⟩
      rw [zeros_succ, cl1_snoc]
      exact Cx.to y
    · have hge : i = n := by omega
      have hlt2 : ¬ (i : Int) < n := by omega
      subst hge
      repeat' (first | (with_reducible first | refine stp ?_ | refine k_blk_o rfl ?_ | refine k_seq_n ?_) | ((try (conv => arg 1; simp [s0, s3, s4, hlt2])); with_reducible refine evp ?_) | fail)
      exact ⟨(h.tick + 1, 0, 0), rfl, by simp only; omega, Cx.to y⟩

theorem mem0_take {S : List Int} {k : Nat} (hk : k < S.length) : (mem0 S).take (k + 1) = (mem0 S).take k ++ [zeros S[k].toNat] := by
  have hm : (mem0 S)[k]? = some (zeros S[k].toNat) := by simp [mem0, hk]
  rw [List.take_add_one, hm, Option.toList_some]
theorem hdrK_snoc (ks : List (Nm × Nat × Nat)) (k : Nm × Nat × Nat) : hdrK (ks ++ [k]) = hdrK ks ++ [[.sl k.1 k.2.1 0 k.2.2]] := by simp [hdrK]
theorem Cx.rgs_in {a b c : Nm × Row} {ks : List (Nm × Nat × Nat)} {mem : List (List Int)} {k : Nm × Nat × Nat} {xs : List Int} (hl : ks.length = mem.length) (x : Cx h ((k.1, ⟨k.2.1, 1, cl1 xs⟩) :: a :: b :: c :: (rgs ks mem ++ bs)) os) : Cx h (a :: b :: c :: (rgs (ks ++ [k]) (mem ++ [xs]) ++ bs)) os := by
  rw [rgs_snoc hl]
  refine x.bperm ?_
  have := (List.perm_middle (l₁ := a :: b :: c :: rgs ks mem) (l₂ := bs) (a := (k.1, (⟨k.2.1, 1, cl1 xs⟩ : Row)))).symm
  simpa using this

set_option maxHeartbeats 4000000 in
theorem l03Start (x : Cx h bs os) (S A I : List Int) (vars : Nat) (fu : Nat) (ha : A.length ≤ vars) (hv : vars ≤ 1000) (hl : S.length ≤ 4) (hl1 : 1 ≤ S.length) (hS : ∀ n ∈ S, 0 ≤ n ∧ n ≤ 1000) :
    Sound Tryz.prog 89 [ints true S, .int .i64 vars, ints true A, ints true I, .int .i64 fu] h fun v h' => ∃ m : RM, v = .ptr m.nr 0 0 0 ∧ RX m ⟨mem0 S, A ++ zeros (vars - A.length), I, fu, none, 0, []⟩ bs os h' := by
  have hw : IntKind.i64.wrap ((vars : Int) - A.length) = ((vars - A.length : Nat) : Int) := by rw [wrap_id (by omega) (by omega)]; omega
  have hA : A.length ≤ 4294967296 := by omega
  refine enter mixed MG86 Tryz.func89 rfl (by kernel_rfl) rfl ?_
  repeat' (first | (with_reducible first | refine stp ?_ | refine k_blk_o rfl ?_ | refine k_seq_n ?_) | ((try (conv => arg 1; simp [hw, hA])); with_reducible refine evp ?_) | fail)
  have x1 := (x.next.next.box_one (T := h.tick + 1) (i := 0) (r := ⟨0, 1, []⟩) (fun n hn e => by have := x.lt n hn; omega) (by simp)).box_set (r' := ⟨if A = [] then 0 else 1, 1, A.map fun n => [.int .i64 n]⟩)
  refine st_heap rfl (l03ZerosH (vars - A.length) (by omega) x1) ?_
  rintro v1 h1 ⟨kz, rfl, hkz, y⟩
  have hzl : (zeros (vars - A.length)).length = vars - A.length := by simp [zeros]
  have b1 := y.bxs
  simp only [Bxs] at b1
  have hsrc : srcElems h1.rows (.sl kz (vars - A.length) 0 (vars - A.length)) = some (cl1 (zeros (vars - A.length))) := by
    simp [srcElems, b1, cl1, zeros]
  repeat' (first | (with_reducible first | refine stp ?_ | refine k_blk_o rfl ?_ | refine k_seq_n ?_) | ((try (conv => arg 1; simp [hw])); with_reducible refine evp ?_) | fail)
  conv => arg 1; simp
  rw [appendA_ext (s := 1) (l := A.map fun n => [.int .i64 n]) _ (by kernel_rfl) ?hr (by simp) ?hx ?he ?hl ?hm]
  case hx => exact hsrc
  case hr => simp [b1]
  case he => simp [cl1]
  case hl => simp [cl1, zeros]; omega
  case hm => simp [b1]
  refine ev2_some ?_
  repeat' (first | (with_reducible first | refine stp ?_ | refine k_blk_o rfl ?_ | refine k_seq_n ?_) | ((try (conv => arg 1; simp [hw])); with_reducible refine evp ?_) | fail)
  generalize hvv : (if A = [] then 0 else 1) + (if cl1 (zeros (vars - A.length)) = [] then 0 else 1) = vv at *
  have eA : A.length + (cl1 (zeros (vars - A.length))).length = (A ++ zeros (vars - A.length)).length := by simp [cl1_len]
  rw [eA]
  have eC : (A.map fun n => [AV.int .i64 n]) ++ cl1 (zeros (vars - A.length)) = cl1 (A ++ zeros (vars - A.length)) := by simp [cl1]
  rw [eC]
  generalize hV : A ++ zeros (vars - A.length) = V at *
  have x2 := (y.box_drop.box_set (r' := ⟨vv, 1, cl1 V⟩)).box_add (n := (h.tick + 1, 12, 0)) (r := ⟨0, 8, [[.nilsl, .sl (h.tick + 1, 0, 0) vv 0 V.length, ints true I, .int .i64 fu, .int .i64 0, .bool false, .int .i64 0, .nilsl]]⟩) (fun e => by
    rcases (show ((h.tick + 1, 12, 0) : Nm) = (h.tick + 1, 0, 0) ∨ ((h.tick + 1, 12, 0) : Nm) ∈ nms bs os by simpa [nms] using e) with e | e
    · simp at e
    · have := x.lt _ e; simp at this; omega) (by have := b1.2.2.2.1; simp only [hp_put_tick]; exact this)
  refine st_loop (fun (k : Nat) σ h' => k ≤ S.length ∧ σ 0 = ints true S ∧ σ 12 = .int .i64 k ∧ σ 11 = .ptr (h.tick + 1, 12, 0) 0 0 0 ∧ ((k = 0 ∧ Cx h' (((h.tick + 1, 12, 0), ⟨0, 8, [[.nilsl, .sl (h.tick + 1, 0, 0) vv 0 V.length, ints true I, .int .i64 fu, .int .i64 0, .bool false, .int .i64 0, .nilsl]]⟩) :: ((h.tick + 1, 0, 0), ⟨vv, 1, cl1 V⟩) :: bs) os) ∨
    (0 < k ∧ ∃ km vm ks, ks.map (·.2.2) = ((mem0 S).take k).map List.length ∧ Cx h' (((h.tick + 1, 12, 0), ⟨0, 8, [[.sl km vm 0 k, .sl (h.tick + 1, 0, 0) vv 0 V.length, ints true I, .int .i64 fu, .int .i64 0, .bool false, .int .i64 0, .nilsl]]⟩) :: ((h.tick + 1, 0, 0), ⟨vv, 1, cl1 V⟩) :: (km, ⟨vm, 1, hdrK ks⟩) :: (rgs ks ((mem0 S).take k) ++ bs)) os))) (fun k => S.length - k) 0 ?init ?step
  case init =>
    exact ⟨Nat.zero_le _, by simp, by simp, by simp, .inl ⟨rfl, Cx.to x2⟩⟩
  case step =>
    rintro k σ h' ⟨hk, s0, s12, s11, hx⟩
    have hkw : IntKind.i64.wrap (k + 1) = k + 1 := wrap_id (by omega) (by omega)
    by_cases hkn : k < S.length
    · have hkn2 : (k : Int) < S.length := by omega
      have hxk : S[k]? = some S[k] := by simp
      have hx2 := hS S[k] (List.getElem_mem hkn)
      have hts := mem0_take hkn
      obtain ⟨n, hn⟩ : ∃ n : Nat, S[k] = (n : Int) := ⟨S[k].toNat, by omega⟩
      have hop : ∀ hh, S[k]'hh = (n : Int) := fun _ => hn
      rw [hn] at hxk hx2 hts
      rw [Int.toNat_natCast] at hts
      have hzn : (zeros n).length = n := by simp [zeros]
      rcases hx with ⟨rfl, x⟩ | ⟨hk0, km, vm, ks, hks, x⟩
      · have b := x.bxs
        simp only [Bxs] at b
        repeat' (first | (with_reducible first | refine stp ?_ | refine k_blk_o rfl ?_ | refine k_seq_n ?_) | ((try (conv => arg 1; simp [s0, s12, s11, hkn2, hkn])); with_reducible refine evp ?_) | fail)
        repeat (with_reducible first | refine stp ?_ | refine k_seq_n ?_)
        refine st_lz (by kernel_rfl) ?_
        have hF := And.intro s0 (And.intro s12 (And.intro s11 (And.intro hxk (And.intro hop (And.intro b hkn)))))
        repeat' (first | (with_reducible first | refine stp ?_ | refine k_blk_o rfl ?_) | ((try (conv => arg 1; simp [ints, ltS, nm_ne, hF])); with_reducible refine evp ?_) | ((with_reducible refine la_id ?_); refine la_end rfl ?_; (repeat (first | refine pl_nil ?_ | refine pl_cons ?_))) | ((with_reducible refine la_id ?_); refine la_pick ?_; (conv => arg 1; whnf); (repeat ((fail_if_success (first | ((refine la_q0 rfl ?_); (try (conv => arg 1; simp [ints, ltS, nm_ne, hF])); with_reducible refine evp ?_) | ((refine la_n rfl rfl ?_); (try (conv => arg 1; simp [ints, ltS, nm_ne, hF])); with_reducible refine evp ?_) | ((refine la_q2 rfl (by decide +kernel) ?_); (repeat (first | refine bk_nil ?_ | refine bk_t (by decide +kernel) ?_ | refine bk_f (by decide +kernel) ?_)); (try (conv => arg 1; simp [ints, ltS, nm_ne, hF])); with_reducible refine evp ?_) | ((refine la_q1 rfl (by decide +kernel) ?_); (try (conv => arg 1; simp [ints, ltS, nm_ne, hF])); with_reducible refine evp ?_) | ((refine la_g0 rfl ?_); (try (conv => arg 1; simp [ints, ltS, nm_ne, hF])); with_reducible refine evp ?_; (with_reducible refine evp ?_); try ((try (conv => arg 1; simp [ints, ltS, nm_ne, hF])); with_reducible refine evp ?_)))); (refine la_there ?_); (conv => arg 1; whnf))); first | ((refine la_q0 rfl ?_); (try (conv => arg 1; simp [ints, ltS, nm_ne, hF])); with_reducible refine evp ?_) | ((refine la_n rfl rfl ?_); (try (conv => arg 1; simp [ints, ltS, nm_ne, hF])); with_reducible refine evp ?_) | ((refine la_q2 rfl (by decide +kernel) ?_); (repeat (first | refine bk_nil ?_ | refine bk_t (by decide +kernel) ?_ | refine bk_f (by decide +kernel) ?_)); (try (conv => arg 1; simp [ints, ltS, nm_ne, hF])); with_reducible refine evp ?_) | ((refine la_q1 rfl (by decide +kernel) ?_); (try (conv => arg 1; simp [ints, ltS, nm_ne, hF])); with_reducible refine evp ?_) | ((refine la_g0 rfl ?_); (try (conv => arg 1; simp [ints, ltS, nm_ne, hF])); with_reducible refine evp ?_; (with_reducible refine evp ?_); try ((try (conv => arg 1; simp [ints, ltS, nm_ne, hF])); with_reducible refine evp ?_))) | ((with_reducible refine la_id ?_); refine la_all rfl ?_) | ((with_reducible refine all_id ?_); (conv => arg 1; whnf); first | exact all_nil | refine all_cons ?_ ?_) | (refine la_op rfl (by first | exact frm_s (by decide +kernel) | exact frm_a (by repeat' (first | exact fa_nil | refine fa_cons (by decide +kernel) ?_))) (by intro hq; first | exact trivial | (cases hq; done) | simp [appT, ints, ltS, nm_ne, hF]) ?_; (repeat (first | refine bk_nil ?_ | refine bk_t (by decide +kernel) ?_ | refine bk_f (by decide +kernel) ?_))) | fail)
        all_goals
          refine st_heap rfl (l03ZerosH n (by omega) (Cx.to x)) ?_
          rintro v2 h2 ⟨kz, rfl, hkz, y⟩
          have b2 := y.bxs
          simp only [Bxs] at b2
          have hF := And.intro s0 (And.intro s12 (And.intro s11 b2))
          repeat' (first | (with_reducible first | refine stp ?_ | refine k_blk_o rfl ?_) | ((try (conv => arg 1; simp [ltS, nm_ne, hF])); with_reducible refine evp ?_) | ((with_reducible refine la_id ?_); refine la_end rfl ?_; (repeat (first | refine pl_nil ?_ | refine pl_cons ?_))) | ((with_reducible refine la_id ?_); refine la_pick ?_; (conv => arg 1; whnf); (repeat ((fail_if_success (first | ((refine la_q0 rfl ?_); (try (conv => arg 1; simp [ltS, nm_ne, hF])); with_reducible refine evp ?_) | ((refine la_n rfl rfl ?_); (try (conv => arg 1; simp [ltS, nm_ne, hF])); with_reducible refine evp ?_) | ((refine la_q2 rfl (by decide +kernel) ?_); (repeat (first | refine bk_nil ?_ | refine bk_t (by decide +kernel) ?_ | refine bk_f (by decide +kernel) ?_)); (try (conv => arg 1; simp [ltS, nm_ne, hF])); with_reducible refine evp ?_) | ((refine la_q1 rfl (by decide +kernel) ?_); (try (conv => arg 1; simp [ltS, nm_ne, hF])); with_reducible refine evp ?_) | ((refine la_g0 rfl ?_); (try (conv => arg 1; simp [ltS, nm_ne, hF])); with_reducible refine evp ?_; (with_reducible refine evp ?_); try ((try (conv => arg 1; simp [ltS, nm_ne, hF])); with_reducible refine evp ?_)))); (refine la_there ?_); (conv => arg 1; whnf))); first | ((refine la_q0 rfl ?_); (try (conv => arg 1; simp [ltS, nm_ne, hF])); with_reducible refine evp ?_) | ((refine la_n rfl rfl ?_); (try (conv => arg 1; simp [ltS, nm_ne, hF])); with_reducible refine evp ?_) | ((refine la_q2 rfl (by decide +kernel) ?_); (repeat (first | refine bk_nil ?_ | refine bk_t (by decide +kernel) ?_ | refine bk_f (by decide +kernel) ?_)); (try (conv => arg 1; simp [ltS, nm_ne, hF])); with_reducible refine evp ?_) | ((refine la_q1 rfl (by decide +kernel) ?_); (try (conv => arg 1; simp [ltS, nm_ne, hF])); with_reducible refine evp ?_) | ((refine la_g0 rfl ?_); (try (conv => arg 1; simp [ltS, nm_ne, hF])); with_reducible refine evp ?_; (with_reducible refine evp ?_); try ((try (conv => arg 1; simp [ltS, nm_ne, hF])); with_reducible refine evp ?_))) | ((with_reducible refine la_id ?_); refine la_all rfl ?_) | ((with_reducible refine all_id ?_); (conv => arg 1; whnf); first | exact all_nil | refine all_cons ?_ ?_) | (refine la_op rfl (by first | exact frm_s (by decide +kernel) | exact frm_a (by repeat' (first | exact fa_nil | refine fa_cons (by decide +kernel) ?_))) (by intro hq; first | exact trivial | (cases hq; done) | simp [appT, ltS, nm_ne, hF]) ?_; (repeat (first | refine bk_nil ?_ | refine bk_t (by decide +kernel) ?_ | refine bk_f (by decide +kernel) ?_))) | fail)
          conv => arg 1; simp
          rw [appendA_nil1 (s := 1) (e := [.sl kz n 0 n]) (by kernel_rfl) ?hk rfl]
          case hk => simp
          simp only [hp_next_tick] at hkz
          have no := fun r => x.no_box (r := r) (k := kz) (T := h'.tick + 1) (by omega) (by omega)
          refine ev2_cx ((y.put_junk (no _ 10)).box_add (n := (h'.tick + 1, 11, 0)) (no _ 11) (by simp; omega)) fun hz z => ?_
          have bz := z.bxs
          simp only [Bxs] at bz
          have hF := And.intro s0 (And.intro s12 (And.intro s11 bz))
          repeat' (first | (with_reducible first | refine stp ?_ | refine k_blk_o rfl ?_) | ((try (conv => arg 1; simp [ltS, nm_ne, hF])); with_reducible refine evp ?_) | ((with_reducible refine la_id ?_); refine la_end rfl ?_; (repeat (first | refine pl_nil ?_ | refine pl_cons ?_))) | ((with_reducible refine la_id ?_); refine la_pick ?_; (conv => arg 1; whnf); (repeat ((fail_if_success (first | ((refine la_q0 rfl ?_); (try (conv => arg 1; simp [ltS, nm_ne, hF])); with_reducible refine evp ?_) | ((refine la_n rfl rfl ?_); (try (conv => arg 1; simp [ltS, nm_ne, hF])); with_reducible refine evp ?_) | ((refine la_q2 rfl (by decide +kernel) ?_); (repeat (first | refine bk_nil ?_ | refine bk_t (by decide +kernel) ?_ | refine bk_f (by decide +kernel) ?_)); (try (conv => arg 1; simp [ltS, nm_ne, hF])); with_reducible refine evp ?_) | ((refine la_q1 rfl (by decide +kernel) ?_); (try (conv => arg 1; simp [ltS, nm_ne, hF])); with_reducible refine evp ?_) | ((refine la_g0 rfl ?_); (try (conv => arg 1; simp [ltS, nm_ne, hF])); with_reducible refine evp ?_; (with_reducible refine evp ?_); try ((try (conv => arg 1; simp [ltS, nm_ne, hF])); with_reducible refine evp ?_)))); (refine la_there ?_); (conv => arg 1; whnf))); first | ((refine la_q0 rfl ?_); (try (conv => arg 1; simp [ltS, nm_ne, hF])); with_reducible refine evp ?_) | ((refine la_n rfl rfl ?_); (try (conv => arg 1; simp [ltS, nm_ne, hF])); with_reducible refine evp ?_) | ((refine la_q2 rfl (by decide +kernel) ?_); (repeat (first | refine bk_nil ?_ | refine bk_t (by decide +kernel) ?_ | refine bk_f (by decide +kernel) ?_)); (try (conv => arg 1; simp [ltS, nm_ne, hF])); with_reducible refine evp ?_) | ((refine la_q1 rfl (by decide +kernel) ?_); (try (conv => arg 1; simp [ltS, nm_ne, hF])); with_reducible refine evp ?_) | ((refine la_g0 rfl ?_); (try (conv => arg 1; simp [ltS, nm_ne, hF])); with_reducible refine evp ?_; (with_reducible refine evp ?_); try ((try (conv => arg 1; simp [ltS, nm_ne, hF])); with_reducible refine evp ?_))) | ((with_reducible refine la_id ?_); refine la_all rfl ?_) | ((with_reducible refine all_id ?_); (conv => arg 1; whnf); first | exact all_nil | refine all_cons ?_ ?_) | (refine la_op rfl (by first | exact frm_s (by decide +kernel) | exact frm_a (by repeat' (first | exact fa_nil | refine fa_cons (by decide +kernel) ?_))) (by intro hq; first | exact trivial | (cases hq; done) | simp [appT, ltS, nm_ne, hF]) ?_; (repeat (first | refine bk_nil ?_ | refine bk_t (by decide +kernel) ?_ | refine bk_f (by decide +kernel) ?_))) | fail)
          have hkw0 : IntKind.i64.wrap 1 = 1 := by decide
          repeat' (first | (with_reducible first | refine stp ?_ | refine k_blk_o rfl ?_ | refine k_seq_n ?_) | ((try (conv => arg 1; simp [s0, s12, s11, hkw0])); with_reducible refine evp ?_) | fail)
          refine k_lp_n 1 (by omega) ⟨by omega, by simp [s0], by simp, by simp [s11], .inr ⟨by omega, (h'.tick + 1, 11, 0), 0, [(kz, n, n)], ?_, ?_⟩⟩
          · rw [hts]; simp [hzn]
          · rw [hts]
            have z2 := z.bperm (List.perm_middle (l₁ := [_, _, _])).symm
            simp only [List.cons_append, List.nil_append] at z2
            exact Cx.rgs_in (k := (kz, n, n)) (ks := []) (mem := []) rfl (Cx.to z2)
      · have b := x.bxs
        simp only [Bxs] at b
        have hkl : ks.length = k := by have := congrArg List.length hks; simp [mem0] at this; omega
        have lm : ¬ km = (h'.tick + 1, 10, 0) := fun e => by rw [e] at b; have := b.2.2.2.2.2.1; simp only at this; omega
        repeat' (first | (with_reducible first | refine stp ?_ | refine k_blk_o rfl ?_ | refine k_seq_n ?_) | ((try (conv => arg 1; simp [s0, s12, s11, hkn2, hkn])); with_reducible refine evp ?_) | fail)
        repeat (with_reducible first | refine stp ?_ | refine k_seq_n ?_)
        refine st_lz (by kernel_rfl) ?_
        have hF := And.intro s0 (And.intro s12 (And.intro s11 (And.intro hxk (And.intro hop (And.intro b hkn)))))
        repeat' (first | (with_reducible first | refine stp ?_ | refine k_blk_o rfl ?_) | ((try (conv => arg 1; simp [ints, ltS, nm_ne, hF])); with_reducible refine evp ?_) | ((with_reducible refine la_id ?_); refine la_end rfl ?_; (repeat (first | refine pl_nil ?_ | refine pl_cons ?_))) | ((with_reducible refine la_id ?_); refine la_pick ?_; (conv => arg 1; whnf); (repeat ((fail_if_success (first | ((refine la_q0 rfl ?_); (try (conv => arg 1; simp [ints, ltS, nm_ne, hF])); with_reducible refine evp ?_) | ((refine la_n rfl rfl ?_); (try (conv => arg 1; simp [ints, ltS, nm_ne, hF])); with_reducible refine evp ?_) | ((refine la_q2 rfl (by decide +kernel) ?_); (repeat (first | refine bk_nil ?_ | refine bk_t (by decide +kernel) ?_ | refine bk_f (by decide +kernel) ?_)); (try (conv => arg 1; simp [ints, ltS, nm_ne, hF])); with_reducible refine evp ?_) | ((refine la_q1 rfl (by decide +kernel) ?_); (try (conv => arg 1; simp [ints, ltS, nm_ne, hF])); with_reducible refine evp ?_) | ((refine la_g0 rfl ?_); (try (conv => arg 1; simp [ints, ltS, nm_ne, hF])); with_reducible refine evp ?_; (with_reducible refine evp ?_); try ((try (conv => arg 1; simp [ints, ltS, nm_ne, hF])); with_reducible refine evp ?_)))); (refine la_there ?_); (conv => arg 1; whnf))); first | ((refine la_q0 rfl ?_); (try (conv => arg 1; simp [ints, ltS, nm_ne, hF])); with_reducible refine evp ?_) | ((refine la_n rfl rfl ?_); (try (conv => arg 1; simp [ints, ltS, nm_ne, hF])); with_reducible refine evp ?_) | ((refine la_q2 rfl (by decide +kernel) ?_); (repeat (first | refine bk_nil ?_ | refine bk_t (by decide +kernel) ?_ | refine bk_f (by decide +kernel) ?_)); (try (conv => arg 1; simp [ints, ltS, nm_ne, hF])); with_reducible refine evp ?_) | ((refine la_q1 rfl (by decide +kernel) ?_); (try (conv => arg 1; simp [ints, ltS, nm_ne, hF])); with_reducible refine evp ?_) | ((refine la_g0 rfl ?_); (try (conv => arg 1; simp [ints, ltS, nm_ne, hF])); with_reducible refine evp ?_; (with_reducible refine evp ?_); try ((try (conv => arg 1; simp [ints, ltS, nm_ne, hF])); with_reducible refine evp ?_))) | ((with_reducible refine la_id ?_); refine la_all rfl ?_) | ((with_reducible refine all_id ?_); (conv => arg 1; whnf); first | exact all_nil | refine all_cons ?_ ?_) | (refine la_op rfl (by first | exact frm_s (by decide +kernel) | exact frm_a (by repeat' (first | exact fa_nil | refine fa_cons (by decide +kernel) ?_))) (by intro hq; first | exact trivial | (cases hq; done) | simp [appT, ints, ltS, nm_ne, hF]) ?_; (repeat (first | refine bk_nil ?_ | refine bk_t (by decide +kernel) ?_ | refine bk_f (by decide +kernel) ?_))) | fail)
        all_goals
          refine st_heap rfl (l03ZerosH n (by omega) (Cx.to x)) ?_
          rintro v2 h2 ⟨kz, rfl, hkz, y⟩
          have b2 := y.bxs
          simp only [Bxs] at b2
          have hF := And.intro s0 (And.intro s12 (And.intro s11 b2))
          repeat' (first | (with_reducible first | refine stp ?_ | refine k_blk_o rfl ?_) | ((try (conv => arg 1; simp [ltS, nm_ne, hF])); with_reducible refine evp ?_) | ((with_reducible refine la_id ?_); refine la_end rfl ?_; (repeat (first | refine pl_nil ?_ | refine pl_cons ?_))) | ((with_reducible refine la_id ?_); refine la_pick ?_; (conv => arg 1; whnf); (repeat ((fail_if_success (first | ((refine la_q0 rfl ?_); (try (conv => arg 1; simp [ltS, nm_ne, hF])); with_reducible refine evp ?_) | ((refine la_n rfl rfl ?_); (try (conv => arg 1; simp [ltS, nm_ne, hF])); with_reducible refine evp ?_) | ((refine la_q2 rfl (by decide +kernel) ?_); (repeat (first | refine bk_nil ?_ | refine bk_t (by decide +kernel) ?_ | refine bk_f (by decide +kernel) ?_)); (try (conv => arg 1; simp [ltS, nm_ne, hF])); with_reducible refine evp ?_) | ((refine la_q1 rfl (by decide +kernel) ?_); (try (conv => arg 1; simp [ltS, nm_ne, hF])); with_reducible refine evp ?_) | ((refine la_g0 rfl ?_); (try (conv => arg 1; simp [ltS, nm_ne, hF])); with_reducible refine evp ?_; (with_reducible refine evp ?_); try ((try (conv => arg 1; simp [ltS, nm_ne, hF])); with_reducible refine evp ?_)))); (refine la_there ?_); (conv => arg 1; whnf))); first | ((refine la_q0 rfl ?_); (try (conv => arg 1; simp [ltS, nm_ne, hF])); with_reducible refine evp ?_) | ((refine la_n rfl rfl ?_); (try (conv => arg 1; simp [ltS, nm_ne, hF])); with_reducible refine evp ?_) | ((refine la_q2 rfl (by decide +kernel) ?_); (repeat (first | refine bk_nil ?_ | refine bk_t (by decide +kernel) ?_ | refine bk_f (by decide +kernel) ?_)); (try (conv => arg 1; simp [ltS, nm_ne, hF])); with_reducible refine evp ?_) | ((refine la_q1 rfl (by decide +kernel) ?_); (try (conv => arg 1; simp [ltS, nm_ne, hF])); with_reducible refine evp ?_) | ((refine la_g0 rfl ?_); (try (conv => arg 1; simp [ltS, nm_ne, hF])); with_reducible refine evp ?_; (with_reducible refine evp ?_); try ((try (conv => arg 1; simp [ltS, nm_ne, hF])); with_reducible refine evp ?_))) | ((with_reducible refine la_id ?_); refine la_all rfl ?_) | ((with_reducible refine all_id ?_); (conv => arg 1; whnf); first | exact all_nil | refine all_cons ?_ ?_) | (refine la_op rfl (by first | exact frm_s (by decide +kernel) | exact frm_a (by repeat' (first | exact fa_nil | refine fa_cons (by decide +kernel) ?_))) (by intro hq; first | exact trivial | (cases hq; done) | simp [appT, ltS, nm_ne, hF]) ?_; (repeat (first | refine bk_nil ?_ | refine bk_t (by decide +kernel) ?_ | refine bk_f (by decide +kernel) ?_))) | fail)
          conv => arg 1; simp
          rw [appendA_snoc (s := 1) (l := hdrK ks) (e := [.sl kz n 0 n]) (by kernel_rfl) ?hr (by simp [hdrK, hkl]) ?hk rfl (by omega) ?hm]
          case hr => simp [b2, lm]
          case hk => simp
          case hm => simp [b2]
          simp only [hp_next_tick] at hkz
          have no := fun r => x.no_box (r := r) (k := kz) (T := h'.tick + 1) (by omega) (by omega)
          refine ev2_cx ((y.put_junk (no _ 10)).box_set3 (r2 := ⟨vm + 1, 1, hdrK ks ++ [[.sl kz n 0 n]]⟩)) fun hz z => ?_
          have bz := z.bxs
          simp only [Bxs] at bz
          have hF := And.intro s0 (And.intro s12 (And.intro s11 bz))
          repeat' (first | (with_reducible first | refine stp ?_ | refine k_blk_o rfl ?_) | ((try (conv => arg 1; simp [ltS, nm_ne, hF])); with_reducible refine evp ?_) | ((with_reducible refine la_id ?_); refine la_end rfl ?_; (repeat (first | refine pl_nil ?_ | refine pl_cons ?_))) | ((with_reducible refine la_id ?_); refine la_pick ?_; (conv => arg 1; whnf); (repeat ((fail_if_success (first | ((refine la_q0 rfl ?_); (try (conv => arg 1; simp [ltS, nm_ne, hF])); with_reducible refine evp ?_) | ((refine la_n rfl rfl ?_); (try (conv => arg 1; simp [ltS, nm_ne, hF])); with_reducible refine evp ?_) | ((refine la_q2 rfl (by decide +kernel) ?_); (repeat (first | refine bk_nil ?_ | refine bk_t (by decide +kernel) ?_ | refine bk_f (by decide +kernel) ?_)); (try (conv => arg 1; simp [ltS, nm_ne, hF])); with_reducible refine evp ?_) | ((refine la_q1 rfl (by decide +kernel) ?_); (try (conv => arg 1; simp [ltS, nm_ne, hF])); with_reducible refine evp ?_) | ((refine la_g0 rfl ?_); (try (conv => arg 1; simp [ltS, nm_ne, hF])); with_reducible refine evp ?_; (with_reducible refine evp ?_); try ((try (conv => arg 1; simp [ltS, nm_ne, hF])); with_reducible refine evp ?_)))); (refine la_there ?_); (conv => arg 1; whnf))); first | ((refine la_q0 rfl ?_); (try (conv => arg 1; simp [ltS, nm_ne, hF])); with_reducible refine evp ?_) | ((refine la_n rfl rfl ?_); (try (conv => arg 1; simp [ltS, nm_ne, hF])); with_reducible refine evp ?_) | ((refine la_q2 rfl (by decide +kernel) ?_); (repeat (first | refine bk_nil ?_ | refine bk_t (by decide +kernel) ?_ | refine bk_f (by decide +kernel) ?_)); (try (conv => arg 1; simp [ltS, nm_ne, hF])); with_reducible refine evp ?_) | ((refine la_q1 rfl (by decide +kernel) ?_); (try (conv => arg 1; simp [ltS, nm_ne, hF])); with_reducible refine evp ?_) | ((refine la_g0 rfl ?_); (try (conv => arg 1; simp [ltS, nm_ne, hF])); with_reducible refine evp ?_; (with_reducible refine evp ?_); try ((try (conv => arg 1; simp [ltS, nm_ne, hF])); with_reducible refine evp ?_))) | ((with_reducible refine la_id ?_); refine la_all rfl ?_) | ((with_reducible refine all_id ?_); (conv => arg 1; whnf); first | exact all_nil | refine all_cons ?_ ?_) | (refine la_op rfl (by first | exact frm_s (by decide +kernel) | exact frm_a (by repeat' (first | exact fa_nil | refine fa_cons (by decide +kernel) ?_))) (by intro hq; first | exact trivial | (cases hq; done) | simp [appT, ltS, nm_ne, hF]) ?_; (repeat (first | refine bk_nil ?_ | refine bk_t (by decide +kernel) ?_ | refine bk_f (by decide +kernel) ?_))) | fail)
          repeat' (first | (with_reducible first | refine stp ?_ | refine k_blk_o rfl ?_ | refine k_seq_n ?_) | ((try (conv => arg 1; simp [s0, s12, s11, hkw])); with_reducible refine evp ?_) | fail)
          refine k_lp_n (k + 1) (by omega) ⟨by omega, by simp [s0], by simp, by simp [s11], .inr ⟨by omega, km, vm + 1, ks ++ [(kz, n, n)], ?_, ?_⟩⟩
          · rw [hts]; simp [hzn, hks]
          · rw [hts, hdrK_snoc]
            exact Cx.rgs_in (k := (kz, n, n)) (by rw [hkl]; simp [mem0]; omega) (Cx.to z)
    · have hke : k = S.length := by omega
      have hkn2 : ¬ (k : Int) < S.length := by omega
      subst hke
      rcases hx with ⟨h0, x⟩ | ⟨hk0, km, vm, ks, hks, x⟩
      · omega
      have e1 : (mem0 S).take S.length = mem0 S := by rw [List.take_of_length_le (by simp [mem0])]
      rw [e1] at x hks
      have hkl : ks.length = S.length := by have := congrArg List.length hks; simpa [mem0] using this
      repeat' (first | (with_reducible first | refine stp ?_ | refine k_blk_o rfl ?_ | refine k_seq_n ?_) | ((try (conv => arg 1; simp [s0, s12, s11, hkn2])); with_reducible refine evp ?_) | fail)
      rw [← hkl] at x
      exact ⟨⟨(h.tick + 1, 12, 0), (h.tick + 1, 0, 0), vv, km, vm, ks⟩, rfl, hks, .nilsl, [], .nil, Cx.to x⟩
end
end Go.Proofs.YtlmlkkkgcbpaoaaGreat.AM

namespace Go.Proofs.YtlmlkkkgcbpaoaaGreat.AM
open Go.RowKit

private def MG92 : FuncId → Mode := fun f => if f = 94 ∨ f = 95 ∨ f = 55 then .heap else if f = 93 then .fresh else .tree

section
variable {h : Hp} {bs : Bx} {os : Ox} {m : RM} {s : Rs}
theorem FL.lenA {P : Program} {t : TypeId} {s : Nat} {l : List (List AV)} {w : AV} {b : Bx} (f : FL s l w b) (ht : (telem P t).isSome = true) : lenA P t w = some (.int .i64 l.length) := by
  rcases f with ⟨rfl, rfl, _⟩ | ⟨k, ver, sp, rfl, _, _⟩
  · simp [lenA_nilsl, ht]
  · simp [lenA_sl, ht]
theorem GX.have_new {R : Rs → AV → Row} {T i : Nat} {h' : Hp} {r : Row} (X : GX R m s bs os h) (hT : h.tick ≤ T) (t : ∀ {bs' : Bx}, Cx h bs' os → Cx h' bs' os) (hr : h'.rows (T, i, 0) = some r) (ht : T < h'.tick) : GX R m s (((T, i, 0), r) :: bs) os h' := by
  obtain ⟨ln, wo, bo, f, y⟩ := X
  exact ⟨ln, wo, bo, f, (Cx.have_new y hT (t y) hr ht).bperm rx_perm⟩
theorem GX.drop2 {R : Rs → AV → Row} {bp : Bx} {x : Nm × Row} (X : GX R m s (bp ++ (x :: bs)) os h) : GX R m s (bp ++ bs) os h := by
  obtain ⟨ln, wo, bo, f, y⟩ := X
  refine ⟨ln, wo, bo, f, ?_⟩
  refine (y.bperm ?_).box_drop (x := x)
  have := List.perm_middle (l₁ := (m.nr, R s wo) :: (m.kv, (⟨m.vv, 1, cl1 s.vars⟩ : Row)) :: (m.km, (⟨m.vm, 1, m.hdr⟩ : Row)) :: (bo ++ (rgs m.ks s.mem ++ bp))) (l₂ := bs) (a := x)
  simpa using this
theorem WX.b {wp : AV} (X : WX m s wp bs os h) : ∃ wo : AV, h.rows m.nr = some (wrkB m s wo wp) ∧ (wo.one = true ∧ wo.stored = true ∧ wo.cells = [wo]) ∧ m.nr.1 < h.tick ∧ h.rows m.kv = some ⟨m.vv, 1, cl1 s.vars⟩ ∧ m.kv.1 < h.tick := by
  obtain ⟨ln, wo, bo, f, y⟩ := X
  have b := y.bxs
  simp only [Bxs] at b
  exact ⟨wo, b.1, f.one, b.2.1, b.2.2.1, b.2.2.2.1⟩
theorem Cx.rgs_in1 {a : Nm × Row} {ks : List (Nm × Nat × Nat)} {mem : List (List Int)} {k : Nm × Nat × Nat} {xs : List Int} (hl : ks.length = mem.length) (x : Cx h ((k.1, ⟨k.2.1, 1, cl1 xs⟩) :: a :: (rgs ks mem ++ bs)) os) : Cx h (a :: (rgs (ks ++ [k]) (mem ++ [xs]) ++ bs)) os := by
  rw [rgs_snoc hl]
  refine x.bperm ?_
  have := (List.perm_middle (l₁ := a :: rgs ks mem) (l₂ := bs) (a := (k.1, (⟨k.2.1, 1, cl1 xs⟩ : Row)))).symm
  simpa using this
set_option maxHeartbeats 1000000 in
theorem newMemH (S : List Int) (x : Cx h bs os) (hl : S.length ≤ 4) (hS : ∀ n ∈ S, 0 ≤ n ∧ n ≤ 1000) :
    Sound Tryz.prog 93 [ints true S] h fun v h' => ∃ km vm ks, v = .sl km vm 0 S.length ∧ h.tick ≤ km.1 ∧ (∀ k ∈ ks, h.tick ≤ k.1.1) ∧ ks.map (·.2.2) = (mem0 S).map List.length ∧ Cx h' ((km, ⟨vm, 1, hdrK ks⟩) :: (rgs ks (mem0 S) ++ bs)) os := by
  have hnil : True := trivial
  refine enter mixed MG92 Tryz.func93 rfl (by kernel_rfl) rfl ?_
  repeat' (first | (with_reducible first | refine stp ?_ | refine k_blk_o rfl ?_ | refine k_seq_n ?_) | ((try (conv => arg 1; simp [hnil])); with_reducible refine evp ?_) | fail)
  refine st_loop (fun (k : Nat) σ h' => k ≤ S.length ∧ σ 7 = ints true S ∧ σ 8 = .int .i64 S.length ∧ σ 9 = .int .i64 k ∧ σ 3 = .sl (h.tick + 1, 0, 0) k 0 k ∧ ∃ ks : List (Nm × Nat × Nat), (∀ k ∈ ks, h.tick ≤ k.1.1) ∧ ks.map (·.2.2) = ((mem0 S).take k).map List.length ∧
    Cx h' (((h.tick + 1, 0, 0), ⟨k, 1, hdrK ks⟩) :: (rgs ks ((mem0 S).take k) ++ bs)) os ∧ h.tick ≤ h'.tick) (fun k => S.length - k) 0 ?init ?step
  case init =>
    have x0 := x.next.next.box_one (T := h.tick + 1) (i := 0) (r := ⟨0, 1, []⟩) (fun n hn e => by have := x.lt n hn; omega) (by simp)
    exact ⟨Nat.zero_le _, by simp, by simp, by simp, by simp, [], by simp, rfl, Cx.to x0, by simp; omega⟩
  case step =>
    rintro k σ h' ⟨hk, s7, s8, s9, s3, ks, hkt, hks, y, ht⟩
    have b := y.bxs
    simp only [Bxs] at b
    have hkw : IntKind.i64.wrap (k + 1) = k + 1 := wrap_id (by omega) (by omega)
    by_cases hkn : k < S.length
    · have hkn2 : (k : Int) < S.length := by omega
      have hxk : S[k]? = some S[k] := by simp
      have hx2 := hS S[k] (List.getElem_mem hkn)
      have hts := mem0_take hkn
      obtain ⟨n, hn⟩ : ∃ n : Nat, S[k] = (n : Int) := ⟨S[k].toNat, by omega⟩
      have hop : ∀ hh, S[k]'hh = (n : Int) := fun _ => hn
      rw [hn] at hxk hx2 hts
      rw [Int.toNat_natCast] at hts
      have hx3 : (n : Int) ≤ 4294967296 := by omega
      have hx4 : n ≤ 4294967296 := by omega
      have hzn : (zeros n).length = n := by simp [zeros]
      have hkl : ks.length = k := by have := congrArg List.length hks; simp [mem0] at this; omega
      have ez : List.replicate n [AV.int IntKind.i64 0] = cl1 (zeros n) := by simp [cl1, zeros]
      repeat' (first | (with_reducible first | refine stp ?_ | refine k_blk_o rfl ?_ | refine k_seq_n ?_) | ((try (conv => arg 1; simp [s7, s8, s9, s3, hkn, hkn2, hxk, hop, ints, hx2.1, hx3, hx4])); with_reducible refine evp ?_) | fail)
      conv => arg 1; simp [s3]
      have ne : ¬ h.tick + 1 = h'.tick + 1 + 1 := by omega
      rw [appendA_snoc (s := 1) (l := hdrK ks) (e := [.sl (h'.tick + 1 + 1, 2, 0) 0 0 n]) (by kernel_rfl) ?hr (by simp [hdrK, hkl]) ?hk rfl (by omega) ?hm]
      case hr => simp [b.1, ne]
      case hk => simp
      case hm => simp; omega
      have y1 := (y.next.next.next.box_one (T := h'.tick + 1 + 1) (i := 2) (r := ⟨0, 1, List.replicate n [AV.int IntKind.i64 0]⟩) (fun n hn e => by have := y.lt n hn; omega) (by simp)).put_junk (n := (h'.tick + 1 + 1, 3, 0)) (r := ⟨0, 1, [[.sl (h'.tick + 1 + 1, 2, 0) 0 0 n]]⟩) (fun e => by
        rw [nms_box] at e
        rcases List.mem_cons.1 e with e | e
        · simp at e
        · have := y.lt _ e; simp at this; omega)
      refine ev2_cx (y1.box_set1 (r' := ⟨k + 1, 1, hdrK ks ++ [[.sl (h'.tick + 1 + 1, 2, 0) 0 0 n]]⟩)) fun hz z => ?_
      rw [ez] at z
      have bz := z.bxs
      simp only [Bxs] at bz
      repeat' (first | (with_reducible first | refine stp ?_ | refine k_blk_o rfl ?_ | refine k_seq_n ?_) | ((try (conv => arg 1; simp [s9, hkw])); with_reducible refine evp ?_) | fail)
      refine k_lp_n (k + 1) (by omega) ⟨by omega, by simp [s7], by simp [s8], by simp, by simp, ks ++ [((h'.tick + 1 + 1, 2, 0), 0, n)], ?_, ?_, ?_, ?_⟩
      · intro k hk
        rcases List.mem_append.1 hk with hk | hk
        · exact hkt k hk
        · simp at hk; rw [hk]; simp only; omega
      · rw [hts]; simp [hzn, hks]
      · rw [hts, hdrK_snoc]
        exact Cx.rgs_in1 (k := ((h'.tick + 1 + 1, 2, 0), 0, n)) (by rw [hkl]; simp [mem0]; omega) (Cx.to z)
      · have := bz.2.1
        simp only [hp_next_tick] at this ⊢
        omega
    · have hke : k = S.length := by omega
      have hkn2 : ¬ (k : Int) < S.length := by omega
      subst hke
      have e1 : (mem0 S).take S.length = mem0 S := by rw [List.take_of_length_le (by simp [mem0])]
      rw [e1] at y hks
      repeat' (first | (with_reducible first | refine stp ?_ | refine k_blk_o rfl ?_ | refine k_seq_n ?_) | ((try (conv => arg 1; simp [s7, s8, s9, s3, hkn2])); with_reducible refine evp ?_) | fail)
      exact ⟨(h.tick + 1, 0, 0), S.length, ks, rfl, by simp only; omega, hkt, hks, Cx.to y⟩

/-- A call whose result lies in rows of its own: they are known. -/
theorem st_freshB {P : Program} {M : FuncId → Mode} {g : FuncId} {args targs : List AV} {N : AV → Hp → Prop} (hm : M g = .fresh) {E : AV → Bx → Prop} (hp : ∀ T, Sound P g targs (.mt T) fun v h' => ∃ bx, E v bx ∧ Cx h' bx [])
    (hcl : ∀ v bx, E v bx → Cl v ∧ ∀ y ∈ bx, ClRow y.2) (ha : DRs true h.rows args targs)
    (hk : ∀ v h' bx, E v bx → (∀ bs os, Cx h bs os → Cx h' (bx ++ bs) os) → (∀ y ∈ bx, h.tick ≤ y.1.1) → h.tick ≤ h'.tick → N v h') : callW M (Sound P) g args h N := by
  unfold callW
  rw [hm]
  refine .inl ⟨targs, ha, (hp h.tick).mono ?_⟩
  rintro v h' ⟨bx, e, x⟩ low ht
  have hlow : ∀ y ∈ bx, h.tick ≤ y.1.1 := fun y hy => low _ _ (x.box y hy)
  have hj : ∀ y ∈ bx, (h.join (fun n => if n ∈ bx.map (·.1) then h'.rows n else none) h'.tick).rows y.1 = some y.2 := fun y hy => by
    have := hlow y hy
    simp only [Hp.join]
    rw [if_neg (by omega), if_pos (List.mem_map_of_mem hy)]
    exact x.box y hy
  have hj2 : ∀ n : Nm, n.1 < h.tick → (h.join (fun n => if n ∈ bx.map (·.1) then h'.rows n else none) h'.tick).rows n = h.rows n := fun n hn => by
    simp only [Hp.join]
    rw [if_pos hn]
  refine ⟨fun n => if n ∈ bx.map (·.1) then h'.rows n else none, fun n r hn => ?_, (hcl v bx e).1, hk v _ bx e (fun bs os c => ?_) hlow ht⟩
  · by_cases hm : n ∈ bx.map (·.1)
    · simp only [if_pos hm] at hn
      obtain ⟨y, hy, rfl⟩ := List.mem_map.1 hm
      have := x.box y hy
      rw [this] at hn
      cases hn
      exact ⟨this, (hcl v bx e).2 y hy⟩
    · simp [if_neg hm] at hn
  · refine ⟨fun y hy => ?_, fun y hy b => (c.own y hy b).congr fun m hm => hj2 m (c.lt _ (mem_own hy hm)), ?_, fun m hm => ?_⟩
    · rcases List.mem_append.1 hy with hy | hy
      · exact hj y hy
      · rw [hj2 _ (c.lt _ (mem_box hy))]; exact c.box y hy
    · have d1 := x.nd
      simp only [nms, List.map_nil, List.flatten_nil, List.append_nil] at d1
      have d2 := c.nd
      simp only [nms, List.map_append, List.append_assoc] at d2 ⊢
      refine List.nodup_append.2 ⟨d1, d2, fun a ha b hb e => ?_⟩
      obtain ⟨y, hy, rfl⟩ := List.mem_map.1 ha
      have h1 := hlow y hy
      have h2 := c.lt b hb
      rw [← e] at h2
      omega
    · simp only [nms, List.map_append, List.append_assoc] at hm
      show m.1 < h'.tick
      rcases List.mem_append.1 hm with hm | hm
      · obtain ⟨y, hy, rfl⟩ := List.mem_map.1 hm
        exact x.lt _ (mem_box hy)
      · have := c.lt m hm
        omega
def MemE (S : List Int) (v : AV) (bx : Bx) : Prop := ∃ km vm ks, v = .sl km vm 0 S.length ∧ ks.map (·.2.2) = (mem0 S).map List.length ∧ bx = (km, ⟨vm, 1, hdrK ks⟩) :: rgs ks (mem0 S)
theorem rgs_cl : ∀ (ks : List (Nm × Nat × Nat)) (mem : List (List Int)), ∀ y ∈ rgs ks mem, ClRow y.2
  | [], _, y, hy => by simp [rgs] at hy
  | k :: ks, [], y, hy => by simp [rgs] at hy
  | k :: ks, m :: mem, y, hy => by
    rcases List.mem_cons.1 (show y ∈ (k.1, (⟨k.2.1, 1, cl1 m⟩ : Row)) :: rgs ks mem from hy) with rfl | hy
    · intro i e j x he hx
      simp only [cl1, List.getElem?_map] at he
      cases hm : m[i]? with
      | none => rw [hm] at he; cases he
      | some n =>
        rw [hm] at he
        simp only [Option.map_some, Option.some.injEq] at he
        subst he
        cases j with
        | zero => simp at hx; subst hx; exact .int _ _
        | succ j => simp at hx
    · exact rgs_cl ks mem y hy
theorem MemE.cl {S : List Int} {v : AV} {bx : Bx} (h : MemE S v bx) : Cl v ∧ ∀ y ∈ bx, ClRow y.2 := by
  obtain ⟨km, vm, ks, rfl, _, rfl⟩ := h
  refine ⟨.sl _ _ _ _, fun y hy => ?_⟩
  rcases List.mem_cons.1 hy with rfl | hy
  · intro i e j x he hx
    simp only [hdrK, List.getElem?_map] at he
    cases hm : ks[i]? with
    | none => rw [hm] at he; cases he
    | some n =>
      rw [hm] at he
      simp only [Option.map_some, Option.some.injEq] at he
      subst he
      cases j with
      | zero => simp at hx; subst hx; exact .sl _ _ _ _
      | succ j => simp at hx
  · exact rgs_cl _ _ y hy
theorem newMemE (S : List Int) (hl : S.length ≤ 4) (hS : ∀ n ∈ S, 0 ≤ n ∧ n ≤ 1000) (T : Nat) : Sound Tryz.prog 93 [ints true S] (.mt T) fun v h' => ∃ bx, MemE S v bx ∧ Cx h' bx [] :=
  (newMemH S (Cx.mt (T := T)) hl hS).mono fun v h' ⟨km, vm, ks, e, _, _, e2, x⟩ => ⟨_, ⟨km, vm, ks, e, e2, rfl⟩, by rw [List.append_nil] at x; exact x⟩

theorem walkN (g : Graph) (d : g.Small) (A I : List Int) (ha : argsG g A I = false) (x : Cx h bs os) :
    Sound Tryz.prog 55 [.agg (g.cells true), ints true A, ints true I, .int .i64 100000] h fun v h' => ∃ nr : Nm, v = .ptr nr 0 0 0 ∧ Cx h' ((nr, ⟨0, 8, [[.nilsl, .nilsl, .nilsl, .int .i64 0, .int .i64 3, .int .i64 0, .nilsl, .nilsl]]⟩) :: bs) os := by
  have hln := d.len
  have G := isGraph g d
  refine enter mixed MG92 Tryz.func55 rfl (by kernel_rfl) rfl ?_
  repeat' (first | (with_reducible first | refine stp ?_ | refine k_blk_o rfl ?_) | ((try (conv => arg 1; simp [Graph.cells])); with_reducible refine evp ?_) | fail)
  refine cx_k (x.next.box_one (i := 0) x.off (by simp)) ?_
  intro h1 x1
  have b1 := x1.bxs
  simp only [Bxs] at b1
  repeat' (first | (with_reducible first | refine stp ?_ | refine k_blk_o rfl ?_) | ((try (conv => arg 1; simp [b1])); with_reducible refine evp ?_) | fail)
  refine cx_k (x1.next.box_one (i := 3) x1.off (by simp)) ?_
  intro h2 x2
  have b2 := x2.bxs
  simp only [Bxs] at b2
  have fin : ∀ h', Cx h' (((h1.tick, 3, 0), ⟨0, 8, [[.nilsl, .nilsl, .nilsl, .int .i64 0, .int .i64 3, .int .i64 0, .nilsl, .nilsl]]⟩) :: ((h.tick, 0, 0), graphRow g) :: bs) os → Cx h' (((h1.tick, 3, 0), ⟨0, 8, [[.nilsl, .nilsl, .nilsl, .int .i64 0, .int .i64 3, .int .i64 0, .nilsl, .nilsl]]⟩) :: bs) os := fun h' z => (z.bperm (List.Perm.swap _ _ _)).box_drop
  rw [show argsG g A I = (graphOk g && decide ((A.length : Int) = g.Params) && decide (I.length ≤ 100)) from rfl] at ha
  cases g1 : graphOk g with
  | false =>
    rw [g1] at G
    repeat' (first | (with_reducible first | refine stp ?_ | refine k_blk_o rfl ?_ | refine k_seq_n ?_) | ((try (conv => arg 1; simp [b2, ltS, nm_ne, tk_ne])); with_reducible refine evp ?_) | ((with_reducible refine tcl ?_); first | ((apply tg (G)); (case e => rfl); (case d => (refine dq ?_); (repeat' (first | ((refine Da.mk ?_); first | exact dr_blocks (by simp) _ | assumption) | constructor))))) | fail)
    exact ⟨_, rfl, fin _ (Cx.to x2)⟩
  | true =>
    rw [g1] at G ha
    by_cases g2 : (A.length : Int) = g.Params
    · have g3 : (100 : Int) < I.length := by simp [g2] at ha; omega
      repeat' (first | (with_reducible first | refine stp ?_ | refine k_blk_o rfl ?_ | refine k_seq_n ?_) | ((try (conv => arg 1; simp [b2, g2, g3, ltS, nm_ne, tk_ne])); with_reducible refine evp ?_) | ((with_reducible refine tcl ?_); first | ((apply tg (G)); (case e => rfl); (case d => (refine dq ?_); (repeat' (first | ((refine Da.mk ?_); first | exact dr_blocks (by simp) _ | assumption) | constructor))))) | fail)
      exact ⟨_, rfl, fin _ (Cx.to x2)⟩
    · skip
      repeat' (first | (with_reducible first | refine stp ?_ | refine k_blk_o rfl ?_ | refine k_seq_n ?_) | ((try (conv => arg 1; simp [b2, g2, ltS, nm_ne, tk_ne])); with_reducible refine evp ?_) | ((with_reducible refine tcl ?_); first | ((apply tg (G)); (case e => rfl); (case d => (refine dq ?_); (repeat' (first | ((refine Da.mk ?_); first | exact dr_blocks (by simp) _ | assumption) | constructor))))) | fail)
      exact ⟨_, rfl, fin _ (Cx.to x2)⟩

set_option maxRecDepth 20000 in
set_option maxHeartbeats 16000000 in
theorem walkW (g : Graph) (d : g.Small) (A I : List Int) (ha : argsG g A I = true) (x : Cx h bs os) :
    Sound Tryz.prog 55 [.agg (g.cells true), ints true A, ints true I, .int .i64 100000] h fun v h' => ∃ (m : RM) (s : Rs) (wp : AV) (bp : Bx), v = .ptr m.nr 0 0 0 ∧ COk s ∧ ¬ s.st = none ∧ FL 1 (cl1 (pathG g A I)) wp bp ∧ WX m s wp (bp ++ bs) os h' := by
  have hln := d.len
  have G := isGraph g d
  have hz : inB 100000 0 100000 = true := by decide
  have hs0 := startR_ok ha (fu := 100000) (by omega)
  have ha' := ha
  rw [show argsG g A I = (graphOk g && decide ((A.length : Int) = g.Params) && decide (I.length ≤ 100)) from rfl] at ha'
  simp only [Bool.and_eq_true, decide_eq_true_eq] at ha'
  obtain ⟨⟨g1, g2⟩, g3⟩ := ha'
  have hd := graphOk_head g1
  have hp := hd.params
  have hsl := hd.slots
  rw [g1] at G
  have g3' : ¬ (100 : Int) < I.length := by omega
  obtain ⟨sl, hsl2⟩ : ∃ n : Nat, g.Slots = (n : Int) := ⟨g.Slots.toNat, by omega⟩
  have hb0 := hd.blocks
  have hsz := hd.sizes
  have hsl3 : (sl : Int) ≤ 4294967296 := by omega
  refine enter mixed MG92 Tryz.func55 rfl (by kernel_rfl) rfl ?_
  repeat' (first | (with_reducible first | refine stp ?_ | refine k_blk_o rfl ?_) | ((try (conv => arg 1; simp [Graph.cells])); with_reducible refine evp ?_) | fail)
  refine cx_k (x.next.box_one (i := 0) x.off (by simp)) ?_
  intro h1 x1
  have b1 := x1.bxs
  simp only [Bxs] at b1
  repeat' (first | (with_reducible first | refine stp ?_ | refine k_blk_o rfl ?_) | ((try (conv => arg 1; simp [b1])); with_reducible refine evp ?_) | fail)
  refine cx_k (x1.next.box_one (i := 3) x1.off (by simp)) ?_
  intro h2 x2
  have b2 := x2.bxs
  simp only [Bxs] at b2
  repeat' (first | (with_reducible first | refine stp ?_ | refine k_blk_o rfl ?_ | refine k_seq_n ?_) | ((try (conv => arg 1; simp [b2, g2, g3', hz, ltS, nm_ne, tk_ne])); with_reducible refine evp ?_) | ((with_reducible refine tcl ?_); first | ((apply tg (G)); (case e => rfl); (case d => (refine dq ?_); (repeat' (first | ((refine Da.mk ?_); first | exact dr_blocks (by simp) _ | assumption) | constructor)))) | ((apply tg (in_ _ _ _)); (case e => rfl); (case d => (refine dq ?_); (repeat' (first | ((refine Da.mk ?_); first | exact dr_blocks (by simp) _ | assumption) | constructor))))) | fail)
  repeat (with_reducible first | refine stp ?_ | refine k_seq_n ?_)
  refine st_lz (by kernel_rfl) ?_
  repeat' (first | (with_reducible first | refine stp ?_ | refine k_blk_o rfl ?_) | ((try (conv => arg 1; simp [b2, hsl2, hsl3, ltS, nm_ne, tk_ne])); with_reducible refine evp ?_) | ((with_reducible refine la_id ?_); refine la_end rfl ?_; (repeat (first | refine pl_nil ?_ | refine pl_cons ?_))) | ((with_reducible refine la_id ?_); refine la_pick ?_; (conv => arg 1; whnf); (repeat ((fail_if_success (first | ((refine la_q0 rfl ?_); (try (conv => arg 1; simp [b2, hsl2, hsl3, ltS, nm_ne, tk_ne])); with_reducible refine evp ?_) | ((refine la_n rfl rfl ?_); (try (conv => arg 1; simp [b2, hsl2, hsl3, ltS, nm_ne, tk_ne])); with_reducible refine evp ?_) | ((refine la_q2 rfl (by decide +kernel) ?_); (repeat (first | refine bk_nil ?_ | refine bk_t (by decide +kernel) ?_ | refine bk_f (by decide +kernel) ?_)); (try (conv => arg 1; simp [b2, hsl2, hsl3, ltS, nm_ne, tk_ne])); with_reducible refine evp ?_) | ((refine la_q1 rfl (by decide +kernel) ?_); (try (conv => arg 1; simp [b2, hsl2, hsl3, ltS, nm_ne, tk_ne])); with_reducible refine evp ?_) | ((refine la_g0 rfl ?_); (try (conv => arg 1; simp [b2, hsl2, hsl3, ltS, nm_ne, tk_ne])); with_reducible refine evp ?_; (with_reducible refine evp ?_); try ((try (conv => arg 1; simp [b2, hsl2, hsl3, ltS, nm_ne, tk_ne])); with_reducible refine evp ?_)))); (refine la_there ?_); (conv => arg 1; whnf))); first | ((refine la_q0 rfl ?_); (try (conv => arg 1; simp [b2, hsl2, hsl3, ltS, nm_ne, tk_ne])); with_reducible refine evp ?_) | ((refine la_n rfl rfl ?_); (try (conv => arg 1; simp [b2, hsl2, hsl3, ltS, nm_ne, tk_ne])); with_reducible refine evp ?_) | ((refine la_q2 rfl (by decide +kernel) ?_); (repeat (first | refine bk_nil ?_ | refine bk_t (by decide +kernel) ?_ | refine bk_f (by decide +kernel) ?_)); (try (conv => arg 1; simp [b2, hsl2, hsl3, ltS, nm_ne, tk_ne])); with_reducible refine evp ?_) | ((refine la_q1 rfl (by decide +kernel) ?_); (try (conv => arg 1; simp [b2, hsl2, hsl3, ltS, nm_ne, tk_ne])); with_reducible refine evp ?_) | ((refine la_g0 rfl ?_); (try (conv => arg 1; simp [b2, hsl2, hsl3, ltS, nm_ne, tk_ne])); with_reducible refine evp ?_; (with_reducible refine evp ?_); try ((try (conv => arg 1; simp [b2, hsl2, hsl3, ltS, nm_ne, tk_ne])); with_reducible refine evp ?_))) | ((with_reducible refine la_id ?_); refine la_all rfl ?_) | ((with_reducible refine all_id ?_); (conv => arg 1; whnf); first | exact all_nil | refine all_cons ?_ ?_) | (refine la_op rfl (by first | exact frm_s (by decide +kernel) | exact frm_a (by repeat' (first | exact fa_nil | refine fa_cons (by decide +kernel) ?_))) (by intro hq; first | exact trivial | (cases hq; done) | simp [appT, b2, hsl2, hsl3, ltS, nm_ne, tk_ne]) ?_; (repeat (first | refine bk_nil ?_ | refine bk_t (by decide +kernel) ?_ | refine bk_f (by decide +kernel) ?_))) | fail)
  refine st_freshB rfl (newMemE g.Sizes hsz.2 (fun n hn => by have := hd.size n hn; omega)) (fun v bx => MemE.cl) (.cons (dr_ints (fun h => h) _) .nil) ?_
  rintro v h3 bx ⟨km, vm, ks, rfl, hks, rfl⟩ cx tk ht
  have x3 := cx _ _ x2.next.next
  have b3 := (x3.bperm (List.perm_middle (l₁ := (km, _) :: rgs ks (mem0 g.Sizes)))).bxs
  simp only [Bxs, List.cons_append] at b3
  have hT1 : ¬ h1.tick = h2.tick + 1 := by have := b2.2.1; omega
  have hT2 : ¬ h2.tick + 1 = h1.tick := fun e => hT1 e.symm
  have hF := And.intro b3 (And.intro hsl2 (And.intro hsl3 (And.intro hT1 hT2)))
  repeat' (first | (with_reducible first | refine stp ?_ | refine k_blk_o rfl ?_) | ((try (conv => arg 1; simp [ltS, nm_ne, tk_ne, hF])); with_reducible refine evp ?_) | ((with_reducible refine la_id ?_); refine la_end rfl ?_; (repeat (first | refine pl_nil ?_ | refine pl_cons ?_))) | ((with_reducible refine la_id ?_); refine la_pick ?_; (conv => arg 1; whnf); (repeat ((fail_if_success (first | ((refine la_q0 rfl ?_); (try (conv => arg 1; simp [ltS, nm_ne, tk_ne, hF])); with_reducible refine evp ?_) | ((refine la_n rfl rfl ?_); (try (conv => arg 1; simp [ltS, nm_ne, tk_ne, hF])); with_reducible refine evp ?_) | ((refine la_q2 rfl (by decide +kernel) ?_); (repeat (first | refine bk_nil ?_ | refine bk_t (by decide +kernel) ?_ | refine bk_f (by decide +kernel) ?_)); (try (conv => arg 1; simp [ltS, nm_ne, tk_ne, hF])); with_reducible refine evp ?_) | ((refine la_q1 rfl (by decide +kernel) ?_); (try (conv => arg 1; simp [ltS, nm_ne, tk_ne, hF])); with_reducible refine evp ?_) | ((refine la_g0 rfl ?_); (try (conv => arg 1; simp [ltS, nm_ne, tk_ne, hF])); with_reducible refine evp ?_; (with_reducible refine evp ?_); try ((try (conv => arg 1; simp [ltS, nm_ne, tk_ne, hF])); with_reducible refine evp ?_)))); (refine la_there ?_); (conv => arg 1; whnf))); first | ((refine la_q0 rfl ?_); (try (conv => arg 1; simp [ltS, nm_ne, tk_ne, hF])); with_reducible refine evp ?_) | ((refine la_n rfl rfl ?_); (try (conv => arg 1; simp [ltS, nm_ne, tk_ne, hF])); with_reducible refine evp ?_) | ((refine la_q2 rfl (by decide +kernel) ?_); (repeat (first | refine bk_nil ?_ | refine bk_t (by decide +kernel) ?_ | refine bk_f (by decide +kernel) ?_)); (try (conv => arg 1; simp [ltS, nm_ne, tk_ne, hF])); with_reducible refine evp ?_) | ((refine la_q1 rfl (by decide +kernel) ?_); (try (conv => arg 1; simp [ltS, nm_ne, tk_ne, hF])); with_reducible refine evp ?_) | ((refine la_g0 rfl ?_); (try (conv => arg 1; simp [ltS, nm_ne, tk_ne, hF])); with_reducible refine evp ?_; (with_reducible refine evp ?_); try ((try (conv => arg 1; simp [ltS, nm_ne, tk_ne, hF])); with_reducible refine evp ?_))) | ((with_reducible refine la_id ?_); refine la_all rfl ?_) | ((with_reducible refine all_id ?_); (conv => arg 1; whnf); first | exact all_nil | refine all_cons ?_ ?_) | (refine la_op rfl (by first | exact frm_s (by decide +kernel) | exact frm_a (by repeat' (first | exact fa_nil | refine fa_cons (by decide +kernel) ?_))) (by intro hq; first | exact trivial | (cases hq; done) | simp [appT, ltS, nm_ne, tk_ne, hF]) ?_; (repeat (first | refine bk_nil ?_ | refine bk_t (by decide +kernel) ?_ | refine bk_f (by decide +kernel) ?_))) | fail)
  have hT3 : ∀ j, (h2.tick + 1, j, 0) ∉ nms ((km, ⟨vm, 1, hdrK ks⟩) :: (rgs ks (mem0 g.Sizes) ++ (((h1.tick, 3, 0), ⟨0, 8, [[.nilsl, .nilsl, .nilsl, .int .i64 0, .int .i64 3, .int .i64 0, .nilsl, .nilsl]]⟩) :: ((h.tick, 0, 0), graphRow g) :: bs))) os := fun j e => by
    simp only [nms, List.map_cons, List.map_append, List.cons_append, List.append_assoc] at e
    simp only [hp_next_tick] at tk
    rw [← List.cons_append] at e
    rcases List.mem_append.1 e with e | e
    · have e' : (h2.tick + 1, j, 0) ∈ ((km, (⟨vm, 1, hdrK ks⟩ : Row)) :: rgs ks (mem0 g.Sizes)).map (·.1) := by simpa using e
      obtain ⟨y, hy, ey⟩ := List.mem_map.1 e'
      have := tk y hy
      rw [ey] at this
      simp only at this
      omega
    · have := x2.lt (h2.tick + 1, j, 0) (by simpa [nms] using e)
      simp only at this
      omega
  have y1 := (Cx.box_add (r := ⟨0, 1, List.replicate sl [.int .i64 0]⟩) x3 (hT3 3) (by simp only [hp_next_tick] at ht; simp only; omega)).bperm (List.perm_middle (l₁ := ((h2.tick + 1, 3, 0), _) :: (km, _) :: rgs ks (mem0 g.Sizes)))
  simp only [List.cons_append] at y1
  refine cx_k (y1.box_set (r' := ⟨0, 8, [[.sl (h2.tick + 1, 3, 0) 0 0 sl, .sl km vm 0 g.Sizes.length, ints true I, .int .i64 100000, .int .i64 (-1), .int .i64 0, .nilsl, .nilsl]]⟩)) ?_
  intro h4 x4
  have ez : List.replicate sl [AV.int IntKind.i64 0] = cl1 (zeros sl) := by simp [cl1, zeros]
  rw [ez] at x4
  have b4 := x4.bxs
  simp only [Bxs] at b4
  repeat' (first | (with_reducible first | refine stp ?_ | refine k_blk_o rfl ?_ | refine k_seq_n ?_) | ((try (conv => arg 1; simp [b4, ltS, nm_ne])); with_reducible refine evp ?_) | fail)
  conv => arg 1; simp
  rw [copyA_zeros (P := Tryz.prog) (by kernel_rfl) ?hr (by omega) ?hm]
  case hr => simp [b4]
  case hm => simp [b4]
  have hkl : ks.length = g.Sizes.length := by have := congrArg List.length hks; simpa [mem0] using this
  have hvl : (A ++ zeros (sl - A.length)).length = sl := by simp [zeros]; omega
  have e0 : startR g A I 100000 = ⟨mem0 g.Sizes, A ++ zeros (sl - A.length), I, 100000, none, 0, []⟩ := by simp [startR, hsl2]
  refine ev2_gen (fun h' => WX ⟨(h1.tick, 3, 0), (h2.tick + 1, 3, 0), 0, km, vm, ks⟩ (startR g A I 100000) .nilsl ([] ++ (((h.tick, 0, 0), graphRow g) :: bs)) os h') ?_ ?_
  · rw [e0]
    refine ⟨hks, .nilsl, [], .nil, ?_⟩
    simp only [wrkB, hvl, hkl]
    exact Cx.to x4
  intro h5 X5
  have en : (h1.tick, 3, 0) = (⟨(h1.tick, 3, 0), (h2.tick + 1, 3, 0), 0, km, vm, ks⟩ : RM).nr := rfl
  generalize hmm : (⟨(h1.tick, 3, 0), (h2.tick + 1, 3, 0), 0, km, vm, ks⟩ : RM) = m at *
  repeat' (first | (with_reducible first | refine stp ?_ | refine k_blk_o rfl ?_ | refine k_seq_n ?_) | ((try (conv => arg 1; simp [b4])); with_reducible refine evp ?_) | fail)
  refine st_loop (fun (j : Nat) σ h' => σ 4 = .ptr (h.tick, 0, 0) 0 0 0 ∧ σ 9 = .ptr m.nr 0 0 0 ∧ ∃ (at_ : Int) (t : Rs) (path : List Int) (wp : AV) (bp : Bx), σ 10 = .int .i64 at_ ∧ j = ms t ∧ RsOk g t ∧ COk t ∧ (t.st = none → ∃ i : Nat, at_ = i ∧ i < g.Blocks.length) ∧ path.length ≤ 1000 ∧ path ++ pathR g (1000 - path.length) t at_ = pathG g A I ∧ FL 1 (cl1 path) wp bp ∧
    WX m t wp (bp ++ (((h.tick, 0, 0), graphRow g) :: bs)) os h') (fun j => j) (ms (startR g A I 100000)) ?init ?step
  case init => exact ⟨by simp, by simp [en], 0, startR g A I 100000, [], .nilsl, [], by simp, rfl, hs0, .of (.inl rfl), fun _ => ⟨0, rfl, by omega⟩, by simp, rfl, .nil, X5.next⟩
  case step =>
    rintro j σ h' ⟨s4, s9, at_, t, path, wp, bp, s10, rfl, ot, ct, hat, hpl, ep, fp, X⟩
    obtain ⟨wo, br, qo, bl, bv, bw⟩ := X.b
    have qp := fp.one
    simp only [wrkB, codeW] at br
    cases hts : t.st with
    | some c =>
      have hc := ct c hts
      have hc0 : ¬ c < 0 := by omega
      rw [hts] at br
      simp only [Option.getD_some] at br
      rw [pathR_stop (by rw [hts]; simp), List.append_nil] at ep
      rw [ep] at fp
      repeat' (first | (with_reducible first | refine stp ?_ | refine k_blk_o rfl ?_ | refine k_seq_n ?_) | ((try (conv => arg 1; simp [s9, br, bl, hc0, qo.1, qo.2.1, qo.2.2, qp.1, qp.2.1, qp.2.2, ltS, nm_ne])); with_reducible refine evp ?_) | fail)
      exact ⟨m, t, wp, bp, rfl, ct, by rw [hts]; simp, fp, (X.to fun y => Cx.to y).drop2⟩
    | none =>
      rw [hts] at br
      simp only [Option.getD_none] at br
      obtain ⟨i, rfl, hi⟩ := hat hts
      have hi2 : (i : Int) < g.Blocks.length := by omega
      have hx : g.Blocks[i]? = some g.Blocks[i] := by simp
      have hba := (blk_ok g1 hi).1
      obtain ⟨_, hin, hj⟩ := blk_ok g1 hi
      have hcl := d.code _ (List.getElem_mem hi)
      have hnx := fun hs => blockR_next g1 hi (s := t) hs
      have bg : h'.rows (h.tick, 0, 0) = some (graphRow g) ∧ h.tick < h'.tick := by
        obtain ⟨_, _, _, _, y⟩ := X
        have hm : (((h.tick, 0, 0), graphRow g) : Nm × Row) ∈ (m.nr, wrkB m t ‹_› wp) :: (m.kv, (⟨m.vv, 1, cl1 t.vars⟩ : Row)) :: (m.km, (⟨m.vm, 1, m.hdr⟩ : Row)) :: (‹Bx› ++ (rgs m.ks t.mem ++ (bp ++ (((h.tick, 0, 0), graphRow g) :: bs)))) := by simp
        exact ⟨y.box _ hm, y.lt _ (mem_box hm)⟩
      simp only [graphRow] at bg
      rw [hba] at hnx
      have hpR : ∀ n, pathR g (n + 1) t i = (i : Int) :: pathR g n (blockR t (blkAt g i)).1 (blockR t (blkAt g i)).2 := fun n => pathR_go hts n i
      rw [hba] at hpR
      generalize hB : g.Blocks[i] = B at hx hba hin hj hcl hnx hpR
      obtain ⟨Code, Jump, Aa, To, El⟩ := B
      have hop : ∀ hh, g.Blocks[i]'hh = ⟨Code, Jump, Aa, To, El⟩ := fun _ => hB
      simp only at hin hj hcl
      have hlen : ∀ b : Bool, (Block.cells b ⟨Code, Jump, Aa, To, El⟩).length = 5 := fun _ => rfl
      repeat' (first | (with_reducible first | refine stp ?_ | refine k_blk_o rfl ?_) | ((try (conv => arg 1; simp [s9, br, bl, qo.1, qo.2.1, qo.2.2, qp.1, qp.2.1, qp.2.2, ltS, nm_ne])); with_reducible refine evp ?_) | fail)
      refine k_seq_n ?_
      repeat' (first | (with_reducible first | refine stp ?_ | refine k_blk_o rfl ?_) | ((try (conv => arg 1; simp [s9, br, bl, qo.1, qo.2.1, qo.2.2, qp.1, qp.2.1, qp.2.2, ltS, nm_ne])); with_reducible refine evp ?_) | fail)
      refine k_seq_n ?_
      repeat' (first | (with_reducible first | refine stp ?_ | refine k_blk_o rfl ?_) | ((try (conv => arg 1; simp [s4, s9, s10, bg, blocks, hi, hi2, hx, hop, hlen, Block.cells, ltS, nm_ne])); with_reducible refine evp ?_) | fail)
      refine gen_k (fun h'' => WX m t wp (((h'.tick + 1, 5, 0), ⟨0, 5, [[instrs true Code, .int .i64 Jump, .int .i64 Aa, .int .i64 To, .int .i64 El]]⟩) :: (bp ++ (((h.tick, 0, 0), graphRow g) :: bs))) os h'') ?_ ?_
      · exact X.have_new (by omega) (fun y => Cx.to y) (by simp) (by simp)
      intro h6 X6
      obtain ⟨wo6, br6, qo6, bl6, _, _⟩ := X6.b
      simp only [wrkB, codeW, hts, Option.getD_none] at br6
      have lp := fp.lenA (P := Tryz.prog) (t := 22) (by kernel_rfl)
      rw [cl1_len] at lp
      repeat' (first | (with_reducible first | refine stp ?_ | refine k_blk_o rfl ?_) | ((try (conv => arg 1; simp [s9, br6, bl6, lp, qo6.1, qo6.2.1, qo6.2.2, qp.1, qp.2.1, qp.2.2, ltS, nm_ne])); with_reducible refine evp ?_) | fail)
      with_reducible refine k_seq_n ?_
      refine st_cut (fun σ2 h7 => σ2 4 = .ptr (h.tick, 0, 0) 0 0 0 ∧ σ2 9 = .ptr m.nr 0 0 0 ∧ σ2 10 = .int .i64 i ∧ σ2 11 = .ptr (h'.tick + 1, 5, 0) 0 0 0 ∧ ∃ (path2 : List Int) (wp2 : AV) (bp2 : Bx), path2.length ≤ 1000 ∧ path2 ++ pathR g (1000 - path2.length) (blockR t ⟨Code, Jump, Aa, To, El⟩).1 (blockR t ⟨Code, Jump, Aa, To, El⟩).2 = pathG g A I ∧ FL 1 (cl1 path2) wp2 bp2 ∧
        WX m t wp2 (((h'.tick + 1, 5, 0), ⟨0, 5, [[instrs true Code, .int .i64 Jump, .int .i64 Aa, .int .i64 To, .int .i64 El]]⟩) :: (bp2 ++ (((h.tick, 0, 0), graphRow g) :: bs))) os h7) ?cw ?ck
      case cw =>
        by_cases hlt : path.length < 1000
        · have hlt2 : (path.length : Int) < 1000 := by omega
          rw [show 1000 - path.length = (1000 - (path.length + 1)) + 1 by omega, hpR] at ep
          obtain ⟨ln7, wo7, bo7, f7, y7⟩ := X6
          have b7 := y7.bxs
          have q7 := f7.one
          simp only [Bxs, wrkB, codeW, hts, Option.getD_none] at b7
          repeat' (first | (with_reducible first | refine stp ?_ | refine k_blk_o rfl ?_ | refine k_seq_n ?_) | ((try (conv => arg 1; simp [s9, s10, b7, hlt2, q7.1, q7.2.1, q7.2.2, qp.1, qp.2.1, qp.2.2, ltS, nm_ne])); with_reducible refine evp ?_) | fail)
          conv => arg 1; simp [s9, s10]
          refine ev2_app (s := 1) (bs := ((h.tick, 0, 0), graphRow g) :: bs) (os := os) (l := cl1 path) (e := [.int .i64 i]) (fs := (m.nr, wrkB m t wo7 wp) :: (m.kv, ⟨m.vv, 1, cl1 t.vars⟩) :: (m.km, ⟨m.vm, 1, m.hdr⟩) :: (bo7 ++ (rgs m.ks t.mem ++ [((h'.tick + 1, 5, 0), ⟨0, 5, [[instrs true Code, .int .i64 Jump, .int .i64 Aa, .int .i64 To, .int .i64 El]]⟩)]))) (by kernel_rfl) fp ?hx ?hk rfl ?hl ?hn ?ht ?kk
          case hx => exact (show Cx _ (_ :: _ :: _ :: (_ ++ (_ ++ (_ :: (_ ++ _))))) os → _ from fun z => by simpa using z) (Cx.to y7)
          case hk => simp
          case hl => rw [cl1_len]; omega
          case hn =>
            intro e
            have lt := fun (l : Bx) (z : Cx h6 l os) (hm : (h6.tick + 1, 7, 0) ∈ nms l os) => z.lt _ hm
            have := lt _ (by simpa using y7) e
            simp only at this
            omega
          case ht => simp
          intro w' b' h8 f8 y8 tk q8
          simp only [List.cons_append, List.nil_append, List.append_assoc] at y8
          have b8 := y8.bxs
          simp only [Bxs, wrkB, codeW, hts, Option.getD_none] at b8
          repeat' (first | (with_reducible first | refine stp ?_ | refine k_blk_o rfl ?_ | refine k_seq_n ?_) | ((try (conv => arg 1; simp [s9, s10, b8, q7.1, q7.2.1, q7.2.2, q8.1, q8.2.1, q8.2.2, qp.1, qp.2.1, qp.2.2, ltS, nm_ne])); with_reducible refine evp ?_) | fail)
          refine ⟨rfl, by simp [s4], by simp [s9], by simp [s10], by simp, path ++ [(i : Int)], w', b', by simp; omega, ?_, by rw [cl1_snoc]; exact f8, ⟨ln7, wo7, bo7, f7, ?_⟩⟩
          · rw [List.append_assoc, List.length_append]
            exact ep
          · simp only [wrkB, codeW, hts, Option.getD_none]
            exact Cx.to y8
        · have hlt2 : ¬ (path.length : Int) < 1000 := by omega
          have hpe : path.length = 1000 := by omega
          rw [hpe, Nat.sub_self, show pathR g 0 t i = [] from rfl] at ep
          repeat' (first | (with_reducible first | refine stp ?_ | refine k_blk_o rfl ?_ | refine k_seq_n ?_) | ((try (conv => arg 1; simp [hlt2])); with_reducible refine evp ?_) | fail)
          refine ⟨rfl, by simp [s4], by simp [s9], by simp [s10], by simp, path, wp, bp, hpl, ?_, fp, X6.to fun y => Cx.to y⟩
          rw [hpe, Nat.sub_self]
          exact ep
      case ck =>
        rintro σ2 h7 ⟨u4, u9, u10, u11, path2, wp2, bp2, hp2, ep2, fp2, X7⟩
        have q2 := fp2.one
        have bb := X7.top
        clear hpR ep fp X6 X br br6
        repeat' (first | (with_reducible first | refine stp ?_ | refine k_blk_o rfl ?_ | refine k_seq_n ?_) | ((try (conv => arg 1; simp [u11, bb, instrs, ltS, nm_ne])); with_reducible refine evp ?_) | fail)
        refine st_loop (fun (k : Nat) σ3 h8 => k ≤ Code.length ∧ σ3 4 = .ptr (h.tick, 0, 0) 0 0 0 ∧ σ3 9 = .ptr m.nr 0 0 0 ∧ σ3 11 = .ptr (h'.tick + 1, 5, 0) 0 0 0 ∧ σ3 88 = instrs true Code ∧ σ3 89 = .int .i64 Code.length ∧ σ3 90 = .int .i64 k ∧ ∃ u, RsOk g u ∧ COk u ∧ u.st = none ∧ codeR u (Code.drop k) = codeR t Code ∧
          WX m u wp2 (((h'.tick + 1, 5, 0), ⟨0, 5, [[instrs true Code, .int .i64 Jump, .int .i64 Aa, .int .i64 To, .int .i64 El]]⟩) :: (bp2 ++ (((h.tick, 0, 0), graphRow g) :: bs))) os h8) (fun k => Code.length - k) 0 ?init2 ?step2
        case init2 => exact ⟨Nat.zero_le _, by simp [u4], by simp [u9], by simp [u11], by simp [instrs], by simp, by simp, t, ot, ct, hts, rfl, X7.to fun y => Cx.to y⟩
        case step2 =>
          rintro k σ3 h8 ⟨hk, w4, w9, w11, w88, w89, w90, u, ou, cu, hu, ek, X8⟩
          have hkw : IntKind.i64.wrap (k + 1) = k + 1 := wrap_id (by omega) (by omega)
          by_cases hlt : k < Code.length
          · have hlt2 : (k : Int) < Code.length := by omega
            have hxk : Code[k]? = some Code[k] := by simp
            have hok := hin _ (List.getElem_mem hlt)
            rw [codeR_drop hu hlt] at ek
            generalize hI : Code[k] = ins at hxk hok ek
            obtain ⟨I1, I2, I3, I4, I5, I6, I7⟩ := ins
            have hopk : ∀ hh, Code[k]'hh = ⟨I1, I2, I3, I4, I5, I6, I7⟩ := fun _ => hI
            repeat' (first | (with_reducible first | refine stp ?_ | refine k_blk_o rfl ?_) | ((try (conv => arg 1; simp [w89, w90, hlt2])); with_reducible refine evp ?_) | fail)
            with_reducible refine k_seq_n ?_
            repeat' (first | (with_reducible first | refine stp ?_ | refine k_blk_o rfl ?_) | ((try (conv => arg 1; simp [w89])); with_reducible refine evp ?_) | fail)
            with_reducible refine k_seq_n ?_
            repeat' (first | (with_reducible first | refine stp ?_ | refine k_blk_o rfl ?_) | ((try (conv => arg 1; simp [w88, w90, instrs, hlt, hlt2, hxk, hopk, Instr.cells, ltS, nm_ne])); with_reducible refine evp ?_) | fail)
            refine gen_k (fun h9 => WX m u wp2 (((h8.tick + 1, 2, 0), ⟨0, 7, [[.int .i64 I1, .int .i64 I2, .int .i64 I3, .int .i64 I4, .int .i64 I5, .int .i64 I6, .str I7]]⟩) :: ((h'.tick + 1, 5, 0), ⟨0, 5, [[instrs true Code, .int .i64 Jump, .int .i64 Aa, .int .i64 To, .int .i64 El]]⟩) :: (bp2 ++ (((h.tick, 0, 0), graphRow g) :: bs))) os h9) ?_ ?_
            · exact X8.have_new (by omega) (fun y => Cx.to y) (by simp) (by simp)
            intro h9 X9
            have xb := X9.top
            repeat' (first | (with_reducible first | refine stp ?_ | refine k_blk_o rfl ?_ | refine k_seq_n ?_) | ((try (conv => arg 1; simp [w9, xb, ltS, nm_ne])); with_reducible refine evp ?_) | fail)
            refine st_heap rfl (burnW X9.next q2 hu (by have := ou.out; omega)) ?_
            rintro v h10 ⟨rfl, X10⟩
            have xb2 := X10.top
            have ob := ou.kp (burnR_kp u)
            have fin : ∀ h12, ¬ (insR u ⟨I1, I2, I3, I4, I5, I6, I7⟩).st = none → WX m (insR u ⟨I1, I2, I3, I4, I5, I6, I7⟩) wp2 (((h8.tick + 1, 2, 0), ⟨0, 7, [[.int .i64 I1, .int .i64 I2, .int .i64 I3, .int .i64 I4, .int .i64 I5, .int .i64 I6, .str I7]]⟩) :: ((h'.tick + 1, 5, 0), ⟨0, 5, [[instrs true Code, .int .i64 Jump, .int .i64 Aa, .int .i64 To, .int .i64 El]]⟩) :: (bp2 ++ (((h.tick, 0, 0), graphRow g) :: bs))) os h12 → ∃ (m' : RM) (s : Rs) (wp : AV) (bp : Bx), AV.ptr m.nr 0 0 0 = .ptr m'.nr 0 0 0 ∧ COk s ∧ ¬ s.st = none ∧ FL 1 (cl1 (pathG g A I)) wp bp ∧ WX m' s wp (bp ++ bs) os h12 := fun h12 hs X => by
              rw [codeR_stop hs] at ek
              have eb : (blockR t ⟨Code, Jump, Aa, To, El⟩).1 = insR u ⟨I1, I2, I3, I4, I5, I6, I7⟩ := by
                unfold blockR
                simp only [← ek]
                rw [if_neg hs]
              rw [pathR_stop (by rw [eb]; exact hs), List.append_nil] at ep2
              rw [ep2] at fp2
              exact ⟨m, _, wp2, bp2, rfl, insR_cok cu _, hs, fp2, X.drop.drop.drop2⟩
            cases hb : (burnR u).st with
            | none =>
              have ei : insR u ⟨I1, I2, I3, I4, I5, I6, I7⟩ = stepR (burnR u) ⟨I1, I2, I3, I4, I5, I6, I7⟩ := by simp [insR, hb]
              repeat' (first | (with_reducible first | refine stp ?_ | refine k_blk_o rfl ?_ | refine k_seq_n ?_) | ((try (conv => arg 1; simp [w9, hb, xb2, ltS, nm_ne])); with_reducible refine evp ?_) | fail)
              refine st_heap rfl (instrW (X10.to fun y => Cx.to y) q2 hb (instrOk_x ob hok) (fun q hq => ob.len hq) ob.inp (by have := ob.out; omega)) ?_
              rintro v h11 ⟨rfl, X11⟩
              rw [← ei] at X11 ⊢
              cases hu2 : (insR u ⟨I1, I2, I3, I4, I5, I6, I7⟩).st with
              | none =>
                repeat' (first | (with_reducible first | refine stp ?_ | refine k_blk_o rfl ?_ | refine k_seq_n ?_) | ((try (conv => arg 1; simp [w90, hu2, hkw])); with_reducible refine evp ?_) | fail)
                refine k_lp_n (k + 1) (by omega) ⟨by omega, by simp [w4], by simp [w9], by simp [w11], by simp [w88], by simp [w89], by simp, insR u ⟨I1, I2, I3, I4, I5, I6, I7⟩, ou.kp (insR_kp u _), insR_cok cu _, hu2, ek, (X11.to fun y => Cx.to y).drop⟩
              | some c =>
                repeat' (first | (with_reducible first | refine stp ?_ | refine k_blk_o rfl ?_ | refine k_seq_n ?_) | ((try (conv => arg 1; simp [w9, hu2])); with_reducible refine evp ?_) | fail)
                exact fin _ (by rw [hu2]; simp) (X11.to fun y => Cx.to y)
            | some c =>
              have ei : insR u ⟨I1, I2, I3, I4, I5, I6, I7⟩ = burnR u := by simp [insR, hb]
              rw [← ei] at X10 hb
              repeat' (first | (with_reducible first | refine stp ?_ | refine k_blk_o rfl ?_ | refine k_seq_n ?_) | ((try (conv => arg 1; simp [w9, hb])); with_reducible refine evp ?_) | fail)
              exact fin _ (by rw [hb]; simp) (X10.to fun y => Cx.to y)
          · have et : codeR t Code = u := by
              rw [← ek, List.drop_of_length_le (by omega)]
              rfl
            have hlt2 : ¬ (k : Int) < Code.length := by omega
            have eb : blockR t ⟨Code, Jump, Aa, To, El⟩ = jumpR (burnR u) ⟨Code, Jump, Aa, To, El⟩ := by
              unfold blockR
              simp only [et]
              rw [if_pos hu]
            repeat' (first | (with_reducible first | refine stp ?_ | refine k_blk_o rfl ?_ | refine k_seq_n ?_) | ((try (conv => arg 1; simp [w9, w89, w90, hlt2])); with_reducible refine evp ?_) | fail)
            refine st_heap rfl (burnW (X8.to fun y => Cx.to y) q2 hu (by have := ou.out; omega)) ?_
            rintro v h10 ⟨rfl, X10⟩
            have ou2 := ou.kp (burnR_kp u)
            have cu2 := burnR_cok cu
            have hml := blockR_ms hts ⟨Code, Jump, Aa, To, El⟩
            rw [eb] at ep2 hnx hml
            clear eb et ek
            generalize burnR u = u2 at *
            cases hus : u2.st with
            | some c =>
              have ej : jumpR u2 ⟨Code, Jump, Aa, To, El⟩ = (u2, 0) := by simp [jumpR, hus]
              rw [ej, pathR_stop (by rw [hus]; simp), List.append_nil] at ep2
              rw [ep2] at fp2
              repeat' (first | (with_reducible first | refine stp ?_ | refine k_blk_o rfl ?_ | refine k_seq_n ?_) | ((try (conv => arg 1; simp [w9, hus])); with_reducible refine evp ?_) | fail)
              exact ⟨m, u2, wp2, bp2, rfl, cu2, by rw [hus]; simp, fp2, (X10.to fun y => Cx.to y).drop.drop2⟩
            | none =>
              have bb3 := X10.top
              have X11 := X10
              obtain ⟨ln3, wo3, bo3, f3, y3⟩ := X10
              have b3 := y3.bxs
              simp only [Bxs, wrkB, codeW, hus, Option.getD_none] at b3
              have q3 := f3.one
              have hvl2 := ou2.vars
              have nrl : m.nr.1 < h'.tick + 1 := by omega
              have hzT : (¬ h'.tick = h10.tick) ∧ (¬ h'.tick = h10.tick + 1) ∧ (¬ h'.tick = h10.tick + 1 + 1) ∧ (¬ h'.tick = h10.tick + 1 + 1 + 1) ∧ (¬ h'.tick + 1 = h10.tick) := by have := bb3.2; simp only at this; omega
              have hmT : (¬ m.nr.1 = h10.tick + 1 + 1) ∧ (¬ m.kv.1 = h10.tick + 1 + 1) := by have := b3.2.1; have := b3.2.2.2.1; omega
              have apn := y3.aps
              simp only [List.map_cons, Aps] at apn
              have hkn : ¬ m.kv = m.nr := (apn.1 m.kv (by simp)).2
              clear apn
              have fin2 : ∀ (σ4 : Nat → AV) (h12 : Hp) (s : Rs) (a : Int), jumpR u2 ⟨Code, Jump, Aa, To, El⟩ = (s, a) → COk s → σ4 4 = .ptr (h.tick, 0, 0) 0 0 0 → σ4 9 = .ptr m.nr 0 0 0 → σ4 10 = .int .i64 a → WX m s wp2 (((h'.tick + 1, 5, 0), ⟨0, 5, [[instrs true Code, .int .i64 Jump, .int .i64 Aa, .int .i64 To, .int .i64 El]]⟩) :: (bp2 ++ (((h.tick, 0, 0), graphRow g) :: bs))) os h12 →
                  σ4 4 = .ptr (h.tick, 0, 0) 0 0 0 ∧ σ4 9 = .ptr m.nr 0 0 0 ∧ ∃ (at_ : Int) (t : Rs) (path : List Int) (wp : AV) (bp : Bx), σ4 10 = .int .i64 at_ ∧ ms s = ms t ∧ RsOk g t ∧ COk t ∧ (t.st = none → ∃ i : Nat, at_ = i ∧ i < g.Blocks.length) ∧ path.length ≤ 1000 ∧ path ++ pathR g (1000 - path.length) t at_ = pathG g A I ∧ FL 1 (cl1 path) wp bp ∧
                    WX m t wp (bp ++ (((h.tick, 0, 0), graphRow g) :: bs)) os h12 := fun σ4 h12 s a ej cs e4 e9 e10 X => by
                have kp := ou2.kp (jumpR_kp u2 ⟨Code, Jump, Aa, To, El⟩)
                rw [ej] at ep2 hnx hml kp
                exact ⟨e4, e9, a, s, path2, wp2, bp2, e10, rfl, kp, cs, hnx, hp2, ep2, fp2, X.drop⟩
              rcases hj with ⟨hJ, t', hT, ht'⟩ | ⟨hJ, t', e', a, ⟨hT, ht'⟩, ⟨hE, he'⟩, hA, haa⟩ | ⟨hJ, a, hA, haa⟩
              · subst hJ
                have ej : jumpR u2 ⟨Code, 0, Aa, To, El⟩ = (u2, To) := by simp [jumpR, hus]
                repeat' (first | (with_reducible first | refine stp ?_ | refine k_blk_o rfl ?_ | refine k_seq_n ?_) | ((try (conv => arg 1; simp [w9, w11, hus, bb3, b3, q3.1, q3.2.1, q3.2.2, q2.1, q2.2.1, q2.2.2, ltS, nm_ne])); with_reducible refine evp ?_) | fail)
                repeat (with_reducible first | refine stp ?_ | refine k_seq_n ?_)
                refine st_lz (by kernel_rfl) ?_
                have hF := And.intro w9 (And.intro w11 (And.intro bb3 (And.intro b3 (And.intro q3.1 (And.intro q3.2.1 (And.intro q3.2.2 (And.intro q2.1 (And.intro q2.2.1 q2.2.2))))))))
                repeat' (first | (with_reducible first | refine stp ?_ | refine k_blk_o rfl ?_) | ((try (conv => arg 1; simp [ltS, nm_ne, hF])); with_reducible refine evp ?_) | ((with_reducible refine la_id ?_); refine la_end rfl ?_; (repeat (first | refine pl_nil ?_ | refine pl_cons ?_))) | ((with_reducible refine la_id ?_); refine la_pick ?_; (conv => arg 1; whnf); (repeat ((fail_if_success (first | ((refine la_q0 rfl ?_); (try (conv => arg 1; simp [ltS, nm_ne, hF])); with_reducible refine evp ?_) | ((refine la_n rfl rfl ?_); (try (conv => arg 1; simp [ltS, nm_ne, hF])); with_reducible refine evp ?_) | ((refine la_q2 rfl (by decide +kernel) ?_); (repeat (first | refine bk_nil ?_ | refine bk_t (by decide +kernel) ?_ | refine bk_f (by decide +kernel) ?_)); (try (conv => arg 1; simp [ltS, nm_ne, hF])); with_reducible refine evp ?_) | ((refine la_q1 rfl (by decide +kernel) ?_); (try (conv => arg 1; simp [ltS, nm_ne, hF])); with_reducible refine evp ?_) | ((refine la_g0 rfl ?_); (try (conv => arg 1; simp [ltS, nm_ne, hF])); with_reducible refine evp ?_; (with_reducible refine evp ?_); try ((try (conv => arg 1; simp [ltS, nm_ne, hF])); with_reducible refine evp ?_)))); (refine la_there ?_); (conv => arg 1; whnf))); first | ((refine la_q0 rfl ?_); (try (conv => arg 1; simp [ltS, nm_ne, hF])); with_reducible refine evp ?_) | ((refine la_n rfl rfl ?_); (try (conv => arg 1; simp [ltS, nm_ne, hF])); with_reducible refine evp ?_) | ((refine la_q2 rfl (by decide +kernel) ?_); (repeat (first | refine bk_nil ?_ | refine bk_t (by decide +kernel) ?_ | refine bk_f (by decide +kernel) ?_)); (try (conv => arg 1; simp [ltS, nm_ne, hF])); with_reducible refine evp ?_) | ((refine la_q1 rfl (by decide +kernel) ?_); (try (conv => arg 1; simp [ltS, nm_ne, hF])); with_reducible refine evp ?_) | ((refine la_g0 rfl ?_); (try (conv => arg 1; simp [ltS, nm_ne, hF])); with_reducible refine evp ?_; (with_reducible refine evp ?_); try ((try (conv => arg 1; simp [ltS, nm_ne, hF])); with_reducible refine evp ?_))) | ((with_reducible refine la_id ?_); refine la_all rfl ?_) | ((with_reducible refine all_id ?_); (conv => arg 1; whnf); first | exact all_nil | refine all_cons ?_ ?_) | (refine la_op rfl (by first | exact frm_s (by decide +kernel) | exact frm_a (by repeat' (first | exact fa_nil | refine fa_cons (by decide +kernel) ?_))) (by intro hq; first | exact trivial | (cases hq; done) | simp [appT, ltS, nm_ne, hF]) ?_; (repeat (first | refine bk_nil ?_ | refine bk_t (by decide +kernel) ?_ | refine bk_f (by decide +kernel) ?_))) | fail)
                repeat' (first | (with_reducible first | refine stp ?_ | refine k_blk_o rfl ?_ | refine k_seq_n ?_) | ((try (conv => arg 1; simp [w9, w11, bb3, b3, ltS, nm_ne])); with_reducible refine evp ?_) | fail)
                exact k_lp_n (ms u2) (by rw [ej] at hml; exact hml) (fin2 _ _ _ _ ej cu2 (by simp [w4]) (by simp [w9]) (by simp) (X11.to fun y => Cx.to y))
              · subst hJ hA
                have hal : a < u2.vars.length := by omega
                have hal2 : (a : Int) < u2.vars.length := by omega
                have hva := cl1_rd hal
                by_cases hzz : rd u2.vars a = 0
                · have ej : jumpR u2 ⟨Code, 1, a, To, El⟩ = (u2, El) := by simp [jumpR, hus, hzz]
                  repeat' (first | (with_reducible first | refine stp ?_ | refine k_blk_o rfl ?_ | refine k_seq_n ?_) | ((try (conv => arg 1; simp [w9, w11, hus, bb3, b3, q3.1, q3.2.1, q3.2.2, q2.1, q2.2.1, q2.2.2, ltS, nm_ne])); with_reducible refine evp ?_) | fail)
                  repeat (with_reducible first | refine stp ?_ | refine k_seq_n ?_)
                  refine st_draw 16 (fun _ => false) (by kernel_rfl) ?_
                  simp only [List.take_succ_cons, List.take_zero, List.drop_succ_cons, List.drop_zero, List.take_nil, List.drop_nil]
                  repeat' (first | (with_reducible first | refine stp ?_ | refine k_blk_o rfl ?_ | refine k_seq_n ?_) | ((try (conv => arg 1; simp [w9, w11, bb3, b3, q3.1, q3.2.1, q3.2.2, q2.1, q2.2.1, q2.2.2, hva, hal, hal2, hzz, hzT, hmT, @cl1_get, maskR, ltS, nm_ne, tk_ne])); with_reducible refine evp ?_) | ((with_reducible refine apn ?na ?_); (case na => simp [appNames, ints, intss] <;> first | kernel_rfl | (refine ⟨?_, ?_⟩ <;> kernel_rfl))) | fail)
                  exact k_lp_n (ms u2) (by rw [ej] at hml; exact hml) (fin2 _ _ _ _ ej cu2 (by simp [w4]) (by simp [w9]) (by simp) (X11.to fun y => Cx.to y))
                · have ej : jumpR u2 ⟨Code, 1, a, To, El⟩ = (u2, To) := by simp [jumpR, hus, hzz]
                  repeat' (first | (with_reducible first | refine stp ?_ | refine k_blk_o rfl ?_ | refine k_seq_n ?_) | ((try (conv => arg 1; simp [w9, w11, hus, bb3, b3, q3.1, q3.2.1, q3.2.2, q2.1, q2.2.1, q2.2.2, ltS, nm_ne])); with_reducible refine evp ?_) | ((with_reducible refine apn ?na ?_); (case na => simp [appNames, ints, intss] <;> first | kernel_rfl | (refine ⟨?_, ?_⟩ <;> kernel_rfl))) | fail)
                  repeat (with_reducible first | refine stp ?_ | refine k_seq_n ?_)
                  refine st_draw 16 (fun _ => false) (by kernel_rfl) ?_
                  simp only [List.take_succ_cons, List.take_zero, List.drop_succ_cons, List.drop_zero, List.take_nil, List.drop_nil]
                  repeat' (first | (with_reducible first | refine stp ?_ | refine k_blk_o rfl ?_ | refine k_seq_n ?_) | ((try (conv => arg 1; simp [w9, w11, bb3, b3, q3.1, q3.2.1, q3.2.2, q2.1, q2.2.1, q2.2.2, hva, hal, hal2, hzz, hzT, hmT, @cl1_get, maskR, ltS, nm_ne, tk_ne])); with_reducible refine evp ?_) | ((with_reducible refine apn ?na ?_); (case na => simp [appNames, ints, intss] <;> first | kernel_rfl | (refine ⟨?_, ?_⟩ <;> kernel_rfl))) | fail)
                  exact k_lp_n (ms u2) (by rw [ej] at hml; exact hml) (fin2 _ _ _ _ ej cu2 (by simp [w4]) (by simp [w9]) (by simp) (X11.to fun y => Cx.to y))
              · subst hJ hA
                have hal : a < u2.vars.length := by omega
                have hal2 : (a : Int) < u2.vars.length := by omega
                have hva := cl1_rd hal
                have ej : jumpR u2 ⟨Code, 2, a, To, El⟩ = ({ u2 with st := some 0, val := rd u2.vars a }, To) := by simp [jumpR, hus]
                repeat' (first | (with_reducible first | refine stp ?_ | refine k_blk_o rfl ?_ | refine k_seq_n ?_) | ((try (conv => arg 1; simp [w9, w11, hus, bb3, b3, q3.1, q3.2.1, q3.2.2, q2.1, q2.2.1, q2.2.2, nrl, nm_ne', ltS, nm_ne])); with_reducible refine evp ?_) | ((with_reducible refine apn ?na ?_); (case na => simp [appNames, ints, intss] <;> first | kernel_rfl | (refine ⟨?_, ?_⟩ <;> kernel_rfl))) | fail)
                repeat (with_reducible first | refine stp ?_ | refine k_seq_n ?_)
                refine st_lz (by kernel_rfl) ?_
                have hF := And.intro w9 (And.intro w11 (And.intro bb3 (And.intro b3 (And.intro q3.1 (And.intro q3.2.1 (And.intro q3.2.2 (And.intro q2.1 (And.intro q2.2.1 (And.intro q2.2.2 (And.intro hva (And.intro hal (And.intro hal2 (And.intro nrl hkn)))))))))))))
                repeat' (first | (with_reducible first | refine stp ?_ | refine k_blk_o rfl ?_) | ((try (conv => arg 1; simp [@nm_ne', @cl1_get, ltS, nm_ne, hF])); with_reducible refine evp ?_) | ((with_reducible refine apn ?na ?_); (case na => simp [appNames, ints, intss] <;> first | kernel_rfl | (refine ⟨?_, ?_⟩ <;> kernel_rfl))) | ((with_reducible refine la_id ?_); refine la_end rfl ?_; (repeat (first | refine pl_nil ?_ | refine pl_cons ?_))) | ((with_reducible refine la_id ?_); refine la_pick ?_; (conv => arg 1; whnf); (repeat ((fail_if_success (first | ((refine la_q0 rfl ?_); (try (conv => arg 1; simp [@nm_ne', @cl1_get, ltS, nm_ne, hF])); with_reducible refine evp ?_) | ((refine la_n rfl rfl ?_); (try (conv => arg 1; simp [@nm_ne', @cl1_get, ltS, nm_ne, hF])); with_reducible refine evp ?_) | ((refine la_q2 rfl (by decide +kernel) ?_); (repeat (first | refine bk_nil ?_ | refine bk_t (by decide +kernel) ?_ | refine bk_f (by decide +kernel) ?_)); (try (conv => arg 1; simp [@nm_ne', @cl1_get, ltS, nm_ne, hF])); with_reducible refine evp ?_) | ((refine la_q1 rfl (by decide +kernel) ?_); (try (conv => arg 1; simp [@nm_ne', @cl1_get, ltS, nm_ne, hF])); with_reducible refine evp ?_) | ((refine la_g0 rfl ?_); (try (conv => arg 1; simp [@nm_ne', @cl1_get, ltS, nm_ne, hF])); with_reducible refine evp ?_; (with_reducible refine evp ?_); try ((try (conv => arg 1; simp [@nm_ne', @cl1_get, ltS, nm_ne, hF])); with_reducible refine evp ?_)))); (refine la_there ?_); (conv => arg 1; whnf))); first | ((refine la_q0 rfl ?_); (try (conv => arg 1; simp [@nm_ne', @cl1_get, ltS, nm_ne, hF])); with_reducible refine evp ?_) | ((refine la_n rfl rfl ?_); (try (conv => arg 1; simp [@nm_ne', @cl1_get, ltS, nm_ne, hF])); with_reducible refine evp ?_) | ((refine la_q2 rfl (by decide +kernel) ?_); (repeat (first | refine bk_nil ?_ | refine bk_t (by decide +kernel) ?_ | refine bk_f (by decide +kernel) ?_)); (try (conv => arg 1; simp [@nm_ne', @cl1_get, ltS, nm_ne, hF])); with_reducible refine evp ?_) | ((refine la_q1 rfl (by decide +kernel) ?_); (try (conv => arg 1; simp [@nm_ne', @cl1_get, ltS, nm_ne, hF])); with_reducible refine evp ?_) | ((refine la_g0 rfl ?_); (try (conv => arg 1; simp [@nm_ne', @cl1_get, ltS, nm_ne, hF])); with_reducible refine evp ?_; (with_reducible refine evp ?_); try ((try (conv => arg 1; simp [@nm_ne', @cl1_get, ltS, nm_ne, hF])); with_reducible refine evp ?_))) | ((with_reducible refine la_id ?_); refine la_all rfl ?_) | ((with_reducible refine all_id ?_); (conv => arg 1; whnf); first | exact all_nil | refine all_cons ?_ ?_) | (refine la_op rfl (by first | exact frm_s (by decide +kernel) | exact frm_a (by repeat' (first | exact fa_nil | refine fa_cons (by decide +kernel) ?_))) (by intro hq; first | exact trivial | (cases hq; done) | simp [appT, @nm_ne', @cl1_get, ltS, nm_ne, hF]) ?_; (repeat (first | refine bk_nil ?_ | refine bk_t (by decide +kernel) ?_ | refine bk_f (by decide +kernel) ?_))) | fail)
                repeat' (first | (with_reducible first | refine stp ?_ | refine k_blk_o rfl ?_ | refine k_seq_n ?_) | ((try (conv => arg 1; simp [w9, w11, bb3, b3, nrl, nm_ne', ltS, nm_ne])); with_reducible refine evp ?_) | ((with_reducible refine apn ?na ?_); (case na => simp [appNames, ints, intss] <;> first | kernel_rfl | (refine ⟨?_, ?_⟩ <;> kernel_rfl))) | fail)
                exact k_lp_n (ms { u2 with st := some 0, val := rd u2.vars a }) (by rw [ej] at hml; exact hml) (fin2 _ _ _ _ ej (.of (.inr (.inl rfl))) (by simp [w4]) (by simp [w9]) (by simp) ⟨ln3, wo3, bo3, f3, Cx.to y3⟩)
end
end Go.Proofs.YtlmlkkkgcbpaoaaGreat.AM
