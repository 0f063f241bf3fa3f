/-
  Slices of slices of whole numbers: marks.
-/
import Derived.Test.YtfgaoojogididaaU2
set_option linter.unusedVariables false
set_option linter.unusedSimpArgs false
set_option maxRecDepth 4000
namespace Go.Proofs.Ytfgaoojogididaa.AM
open Go.RowKit

private def M : FuncId → Mode := fun f => if f = 33 then .heap else .tree

def marksSS : Int → List (List Int) → List (List Int)
  | _, [] => []
  | k, x :: xs => marks k x.length :: marksSS (k + x.length) xs
theorem marksSS_length : ∀ (k : Int) (xs : List (List Int)), (marksSS k xs).length = xs.length
  | _, [] => rfl
  | k, x :: xs => by simp [marksSS, marksSS_length]
theorem psum_cons (x : List Int) (xs : List (List Int)) (i : Nat) : psum (x :: xs) (i + 1) = x.length + psum xs i := by simp [psum]
theorem marksSS_get : ∀ (k : Int) (xs : List (List Int)) (i : Nat) (h : i < xs.length), (marksSS k xs)[i]? = some (marks (k + psum xs i) xs[i].length)
  | k, x :: xs, 0, h => by simp [marksSS, psum_zero]
  | k, x :: xs, i + 1, h => by
    simp only [marksSS, List.getElem?_cons_succ, List.getElem_cons_succ]
    rw [marksSS_get _ xs i (by simpa using h), psum_cons]
    congr 2
    simp
    omega

theorem own_intss_inv {rows : Nm → Option Row} {a : AV} {xs : List (List Int)} {ns : List Nm} (h : Own rows true [a] [intss true xs] ns) :
    (xs = [] ∧ (∀ c, Own rows c [a] [intss c []] ns) ∧ ((a = .nilsl ∧ ns = []) ∨ ∃ n ver, a = .sl n ver 0 0 ∧ ns = [n])) ∨
    (∃ n ver vs sp ns1, a = .sl n ver 0 xs.length ∧ ns = n :: ns1 ∧ rows n = some ⟨ver, 1, vs.map (fun v => [v]) ++ sp⟩ ∧ vs.length = xs.length ∧ (∀ e ∈ sp, e.length = 1) ∧ ClRow ⟨ver, 1, sp⟩ ∧ Own rows true vs (xs.map (ints true)) ns1) := by
  unfold intss at h
  generalize hm : (xs.map fun x => [ints true x]) = tm at h
  cases h with
  | nilsl h =>
    cases h
    exact .inl ⟨by simpa using hm, fun c => .nilsl .nil, .inl ⟨rfl, rfl⟩⟩
  | @sl _ _ ns1 ns2 n ver len s r _ h1 h2 h3 h4 h5 h6 h7 h8 h9 h10 =>
    cases h10
    subst hm
    have hlen : xs.length = len := by simpa using h7
    cases xs with
    | nil =>
      left
      simp at hlen
      subst hlen
      have h9' : Own rows true [] [] ns1 := by simpa using h9
      cases h9'
      exact ⟨rfl, fun c => .sl n ver 0 s r [] h1 h2 h3 h4 h5 h6 rfl (by simp) (by simpa using Own.nil) .nil, .inr ⟨n, ver, rfl, by simp⟩⟩
    | cons x xs =>
      right
      have hs : s = 1 := by
        have := h8 [ints true x] (by simp)
        simpa using this.symm
      subst hs
      have key : ∀ (l : List (List AV)), (∀ e ∈ l, e.length = 1) → l = l.flatten.map fun v => [v] := by
        intro l
        induction l with
        | nil => intro _; rfl
        | cons e l ih =>
          intro hl
          have h1 := hl e (by simp)
          match e, h1 with
          | [v], _ =>
            simp only [List.flatten_cons, List.cons_append, List.nil_append, List.map_cons]
            rw [← ih fun e he => hl e (by simp [he])]
      obtain ⟨ver', esz', elems⟩ := r
      simp only at h2 h3 h6 h4 h5 h9
      subst h2 h3
      have e3 := key (elems.take len) (fun e he => h6 e (List.mem_of_mem_take he))
      have h9' : Own rows true (elems.take len).flatten ((x :: xs).map (ints true)) ns1 := by
        rw [← flat1 ((x :: xs).map (ints true)), List.map_map]
        exact h9
      refine ⟨n, ver', (elems.take len).flatten, elems.drop len, ns1, by rw [hlen], by simp, ?_, ?_, fun e he => h6 e (List.mem_of_mem_drop he), fun i e j x he hx => ?_, h9'⟩
      · rw [← e3, List.take_append_drop]
        exact h1
      · have := h9'.length
        simpa using this.symm
      · refine h4 (len + i) e j x ?_ hx
        simpa [List.getElem?_drop] using he

theorem own_intss_mk {rows : Nm → Option Row} {n : Nm} {ver : Nat} {xs : List (List Int)} {vs : List AV} {sp : List (List AV)} {ns : List Nm} {c : Bool} (h : rows n = some ⟨ver, 1, vs.map (fun v => [v]) ++ sp⟩) (h1 : ∀ e ∈ sp, e.length = 1) (h2 : ClRow ⟨ver, 1, sp⟩)
    (ho : Own rows c vs (xs.map (ints c)) ns) : Own rows c [.sl n ver 0 xs.length] [intss c xs] (n :: ns) := by
  have hl : vs.length = xs.length := by have := ho.length; simpa using this.symm
  have := @Own.sl rows c [] [] ns [] n ver xs.length 1 _ (xs.map fun x => [ints c x]) h rfl rfl (fun i e j x he hx => by
      simp only at he
      by_cases hi : i < vs.length
      · rw [List.getElem?_append_left (by simpa using hi)] at he
        simp at he
        obtain ⟨y, h3, rfl⟩ := he
        match j, hx with
        | 0, hx => simp at hx; subst hx; exact ho.cl i y h3
      · rw [List.getElem?_append_right (by simpa using hi)] at he
        exact h2 _ e j x he hx) (by simp [hl]) (fun e he => by
      simp only [List.mem_append] at he
      rcases he with he | he
      · simp at he; obtain ⟨a, _, rfl⟩ := he; rfl
      · exact h1 e he) (by simp) (fun e he => by simp at he; obtain ⟨a, _, rfl⟩ := he; rfl)
    (by
      rw [List.take_append_of_le_length (by simp [hl]), List.take_of_length_le (by simp [hl]), flat1, show (xs.map fun x => [ints c x]) = (xs.map (ints c)).map fun v => [v] by simp, flat1]
      exact ho) .nil
  simpa [intss] using this

theorem markIntSS {h : Hp} {a : AV} {xs : List (List Int)} {ns : List Nm} (ho : Own h.rows true [a] [intss true xs] ns) (hnd : ns.Nodup) (hns : ∀ n ∈ ns, n.1 < h.tick) (k : Int) (hk : 0 ≤ k) (hl : k + wtSS xs ≤ 2 ^ 62) :
    Sound Try.prog 52 [a, .int .i64 k] h fun v h' => v = .int .i64 (k + psum xs xs.length) ∧ (∀ c, Own h'.rows c [a] [intss c (marksSS k xs)] ns) ∧ (∀ n, n ∉ ns → h'.rows n = h.rows n) ∧ h.tick ≤ h'.tick := by
  rcases own_intss_inv ho with ⟨rfl, hc, hx⟩ | ⟨n, ver, vs, sp, ns1, rfl, rfl, hr, hvl, hsp, hcl, hov⟩
  · rcases hx with ⟨rfl, rfl⟩ | ⟨n, ver, rfl, rfl⟩
    all_goals
      refine enter mixed M Try.func52 rfl (by kernel_rfl) rfl ?_
      repeat' (first
        | (with_reducible first | refine st_seq ?_ | refine st_reg ?_ | refine st_block ?_ | refine st_nil ?_ | refine st_skip ?_ | refine st_ret ?_ | refine st_exit ?_ | refine fr_nil ?_ | refine k_seq_n ?_ | refine k_seq_r ?_ | refine k_seq_e ?_ | refine k_blk_n ?_ | refine k_blk_r ?_ | refine k_blk_s ?_ | refine k_blk_o rfl ?_ | refine k_fn_r ?_ | refine k_fn_n ?_ | refine k_lp_r ?_ | refine k_lp_e ?_)
        | ((with_reducible first | refine st_move ?_ | refine st_asg ?_ | refine st_c ?_ | refine fr_c ?_); (try (conv => arg 1; simp [intss])); (with_reducible refine at_mk ?_))
        | ((with_reducible first | refine st_g ?_ | refine fr_g ?_); (try (conv => arg 1; simp [intss])); (with_reducible refine at_mk ?_); with_reducible first | refine gd_tt ?_ | refine gd_ff ?_ | refine gd_tf ?_ | refine gd_ft ?_ | refine gd_no ?_)
        | ((with_reducible refine st_m rfl ?_); (try (conv => arg 1; simp [intss])); (with_reducible refine ev2_some ?_))
        | ((with_reducible refine fr_n rfl ?_); (try (conv => arg 1; simp [intss])); (with_reducible refine evn_some ?_))
        | ((with_reducible refine fr_a ?_); (try (conv => arg 1; simp [intss])); (with_reducible refine at_mk ?_); (try (conv => arg 1; simp [intss])); (with_reducible refine at_mk ?_); refine ⟨?names, ?_⟩; (case names => (simp [appNames, ints, intss] <;> first | kernel_rfl | (refine ⟨?_, ?_⟩ <;> kernel_rfl))); (try (conv => arg 1; simp [intss])); (with_reducible refine ev2_some ?_))
        | ((with_reducible first | refine st_q ?_ | refine fr_q ?_ | refine st_res ?_); (try (conv => arg 1; simp [intss])); (with_reducible refine ev_some ?_))
        | ((with_reducible refine st_if ?_); (try (conv => arg 1; simp [intss])); (with_reducible refine at_mk ?_); with_reducible first | refine br_t ?_ | refine br_f ?_))
      refine st_loop (fun (i : Nat) σ h' => (∃ a, (a = .nilsl ∨ ∃ n ver, a = .sl n ver 0 0) ∧ σ 0 = a) ∧ σ 1 = .int .i64 k ∧ σ 5 = .int .i64 0 ∧ h'.rows = h.rows ∧ h.tick ≤ h'.tick) (fun i => 0) 0 ?init ?step
      case init =>
        refine ⟨⟨_, ?_, rfl⟩, by simp [putA_get, envOf_1], by simp [putA_get, opd, avc, avc1], by simp [hp_next_rows], by simp [hp_next_tick] <;> omega⟩
        simp [putA_get, envOf_0]
      case step =>
        rintro i σ h' ⟨⟨a, ha, h0⟩, h1, h5, h6, h7⟩
        rcases ha with rfl | ⟨n, ver, rfl⟩
        all_goals
          repeat' (first
            | (with_reducible first | refine st_seq ?_ | refine st_reg ?_ | refine st_block ?_ | refine st_nil ?_ | refine st_skip ?_ | refine st_ret ?_ | refine st_exit ?_ | refine fr_nil ?_ | refine k_seq_n ?_ | refine k_seq_r ?_ | refine k_seq_e ?_ | refine k_blk_n ?_ | refine k_blk_r ?_ | refine k_blk_s ?_ | refine k_blk_o rfl ?_ | refine k_fn_r ?_ | refine k_fn_n ?_ | refine k_lp_r ?_ | refine k_lp_e ?_)
            | ((with_reducible first | refine st_move ?_ | refine st_asg ?_ | refine st_c ?_ | refine fr_c ?_); (try (conv => arg 1; simp [h0, h1, h5])); (with_reducible refine at_mk ?_))
            | ((with_reducible first | refine st_g ?_ | refine fr_g ?_); (try (conv => arg 1; simp [h0, h1, h5])); (with_reducible refine at_mk ?_); with_reducible first | refine gd_tt ?_ | refine gd_ff ?_ | refine gd_tf ?_ | refine gd_ft ?_ | refine gd_no ?_)
            | ((with_reducible refine st_m rfl ?_); (try (conv => arg 1; simp [h0, h1, h5])); (with_reducible refine ev2_some ?_))
            | ((with_reducible refine fr_n rfl ?_); (try (conv => arg 1; simp [h0, h1, h5])); (with_reducible refine evn_some ?_))
            | ((with_reducible refine fr_a ?_); (try (conv => arg 1; simp [h0, h1, h5])); (with_reducible refine at_mk ?_); (try (conv => arg 1; simp [h0, h1, h5])); (with_reducible refine at_mk ?_); refine ⟨?names, ?_⟩; (case names => (simp [appNames, ints, intss] <;> first | kernel_rfl | (refine ⟨?_, ?_⟩ <;> kernel_rfl))); (try (conv => arg 1; simp [h0, h1, h5])); (with_reducible refine ev2_some ?_))
            | ((with_reducible first | refine st_q ?_ | refine fr_q ?_ | refine st_res ?_); (try (conv => arg 1; simp [h0, h1, h5])); (with_reducible refine ev_some ?_))
            | ((with_reducible refine st_if ?_); (try (conv => arg 1; simp [h0, h1, h5])); (with_reducible refine at_mk ?_); with_reducible first | refine br_t ?_ | refine br_f ?_))
          repeat' (first
            | (with_reducible first | refine st_seq ?_ | refine st_reg ?_ | refine st_block ?_ | refine st_nil ?_ | refine st_skip ?_ | refine st_ret ?_ | refine st_exit ?_ | refine fr_nil ?_ | refine k_seq_n ?_ | refine k_seq_r ?_ | refine k_seq_e ?_ | refine k_blk_n ?_ | refine k_blk_r ?_ | refine k_blk_s ?_ | refine k_blk_o rfl ?_ | refine k_fn_r ?_ | refine k_fn_n ?_ | refine k_lp_r ?_ | refine k_lp_e ?_)
            | ((with_reducible first | refine st_move ?_ | refine st_asg ?_ | refine st_c ?_ | refine fr_c ?_); (try (conv => arg 1; simp [h0, h1, h5])); (with_reducible refine at_mk ?_))
            | ((with_reducible first | refine st_g ?_ | refine fr_g ?_); (try (conv => arg 1; simp [h0, h1, h5])); (with_reducible refine at_mk ?_); with_reducible first | refine gd_tt ?_ | refine gd_ff ?_ | refine gd_tf ?_ | refine gd_ft ?_ | refine gd_no ?_)
            | ((with_reducible refine st_m rfl ?_); (try (conv => arg 1; simp [h0, h1, h5])); (with_reducible refine ev2_some ?_))
            | ((with_reducible refine fr_n rfl ?_); (try (conv => arg 1; simp [h0, h1, h5])); (with_reducible refine evn_some ?_))
            | ((with_reducible refine fr_a ?_); (try (conv => arg 1; simp [h0, h1, h5])); (with_reducible refine at_mk ?_); (try (conv => arg 1; simp [h0, h1, h5])); (with_reducible refine at_mk ?_); refine ⟨?names, ?_⟩; (case names => (simp [appNames, ints, intss] <;> first | kernel_rfl | (refine ⟨?_, ?_⟩ <;> kernel_rfl))); (try (conv => arg 1; simp [h0, h1, h5])); (with_reducible refine ev2_some ?_))
            | ((with_reducible first | refine st_q ?_ | refine fr_q ?_ | refine st_res ?_); (try (conv => arg 1; simp [h0, h1, h5])); (with_reducible refine ev_some ?_))
            | ((with_reducible refine st_if ?_); (try (conv => arg 1; simp [h0, h1, h5])); (with_reducible refine at_mk ?_); with_reducible first | refine br_t ?_ | refine br_f ?_))
          refine ⟨by simp [resV, psum], fun c => ?_, fun n _ => by simp [hp_next_rows, h6], by simp [hp_next_tick]; omega⟩
          exact (hc c).congr fun n _ => by simp [hp_next_rows, h6]
  · have hn : n.1 < h.tick := hns n (by simp)
    have hn1 : n ∉ ns1 := (List.nodup_cons.1 hnd).1
    refine enter mixed M Try.func52 rfl (by kernel_rfl) rfl ?_
    repeat' (first
      | (with_reducible first | refine st_seq ?_ | refine st_reg ?_ | refine st_block ?_ | refine st_nil ?_ | refine st_skip ?_ | refine st_ret ?_ | refine st_exit ?_ | refine fr_nil ?_ | refine k_seq_n ?_ | refine k_seq_r ?_ | refine k_seq_e ?_ | refine k_blk_n ?_ | refine k_blk_r ?_ | refine k_blk_s ?_ | refine k_blk_o rfl ?_ | refine k_fn_r ?_ | refine k_fn_n ?_ | refine k_lp_r ?_ | refine k_lp_e ?_)
      | ((with_reducible first | refine st_move ?_ | refine st_asg ?_ | refine st_c ?_ | refine fr_c ?_); (try (conv => arg 1; simp [intss])); (with_reducible refine at_mk ?_))
      | ((with_reducible first | refine st_g ?_ | refine fr_g ?_); (try (conv => arg 1; simp [intss])); (with_reducible refine at_mk ?_); with_reducible first | refine gd_tt ?_ | refine gd_ff ?_ | refine gd_tf ?_ | refine gd_ft ?_ | refine gd_no ?_)
      | ((with_reducible refine st_m rfl ?_); (try (conv => arg 1; simp [intss])); (with_reducible refine ev2_some ?_))
      | ((with_reducible refine fr_n rfl ?_); (try (conv => arg 1; simp [intss])); (with_reducible refine evn_some ?_))
      | ((with_reducible refine fr_a ?_); (try (conv => arg 1; simp [intss])); (with_reducible refine at_mk ?_); (try (conv => arg 1; simp [intss])); (with_reducible refine at_mk ?_); refine ⟨?names, ?_⟩; (case names => (simp [appNames, ints, intss] <;> first | kernel_rfl | (refine ⟨?_, ?_⟩ <;> kernel_rfl))); (try (conv => arg 1; simp [intss])); (with_reducible refine ev2_some ?_))
      | ((with_reducible first | refine st_q ?_ | refine fr_q ?_ | refine st_res ?_); (try (conv => arg 1; simp [intss])); (with_reducible refine ev_some ?_))
      | ((with_reducible refine st_if ?_); (try (conv => arg 1; simp [intss])); (with_reducible refine at_mk ?_); with_reducible first | refine br_t ?_ | refine br_f ?_))
    refine st_loop (fun (i : Nat) σ h' => i ≤ xs.length ∧ σ 0 = .sl n ver 0 xs.length ∧ σ 1 = .int .i64 (k + psum xs i) ∧ σ 5 = .int .i64 i ∧ h.tick ≤ h'.tick ∧ (∀ m, m ∉ ns1 → h'.rows m = h.rows m) ∧
      ∃ (m1 m2 : List Nm), ns1 = m1 ++ m2 ∧ (∀ c, Own h'.rows c (vs.take i) (((marksSS k xs).take i).map (ints c)) m1) ∧ Own h'.rows true (vs.drop i) ((xs.drop i).map (ints true)) m2) (fun i => xs.length - i) 0 ?init ?step
    case init =>
      exact ⟨Nat.zero_le _, by simp [putA_get, envOf_0], by simp [putA_get, envOf_1, psum_zero], by simp [putA_get, opd, avc, avc1], by simp [hp_next_tick]; omega, fun m _ => by simp [hp_next_rows], [], ns1, rfl, fun c => .nil, hov.congr fun m _ => by simp [hp_next_rows]⟩
    case step =>
      rintro i σ h' ⟨hi, h0, h1, h5, ht, hoth, m1, m2, e12, o1, o2⟩
      repeat' (first
        | (with_reducible first | refine st_seq ?_ | refine st_reg ?_ | refine st_block ?_ | refine st_nil ?_ | refine st_skip ?_ | refine st_ret ?_ | refine st_exit ?_ | refine fr_nil ?_ | refine k_seq_n ?_ | refine k_seq_r ?_ | refine k_seq_e ?_ | refine k_blk_n ?_ | refine k_blk_r ?_ | refine k_blk_s ?_ | refine k_blk_o rfl ?_ | refine k_fn_r ?_ | refine k_fn_n ?_ | refine k_lp_r ?_ | refine k_lp_e ?_)
        | ((with_reducible first | refine st_move ?_ | refine st_asg ?_ | refine st_c ?_ | refine fr_c ?_); (try (conv => arg 1; simp [h0, h1, h5])); (with_reducible refine at_mk ?_))
        | ((with_reducible first | refine st_g ?_ | refine fr_g ?_); (try (conv => arg 1; simp [h0, h1, h5])); (with_reducible refine at_mk ?_); with_reducible first | refine gd_tt ?_ | refine gd_ff ?_ | refine gd_tf ?_ | refine gd_ft ?_ | refine gd_no ?_)
        | ((with_reducible refine st_m rfl ?_); (try (conv => arg 1; simp [h0, h1, h5])); (with_reducible refine ev2_some ?_))
        | ((with_reducible refine fr_n rfl ?_); (try (conv => arg 1; simp [h0, h1, h5])); (with_reducible refine evn_some ?_))
        | ((with_reducible refine fr_a ?_); (try (conv => arg 1; simp [h0, h1, h5])); (with_reducible refine at_mk ?_); (try (conv => arg 1; simp [h0, h1, h5])); (with_reducible refine at_mk ?_); refine ⟨?names, ?_⟩; (case names => (simp [appNames, ints, intss] <;> first | kernel_rfl | (refine ⟨?_, ?_⟩ <;> kernel_rfl))); (try (conv => arg 1; simp [h0, h1, h5])); (with_reducible refine ev2_some ?_))
        | ((with_reducible first | refine st_q ?_ | refine fr_q ?_ | refine st_res ?_); (try (conv => arg 1; simp [h0, h1, h5])); (with_reducible refine ev_some ?_))
        | ((with_reducible refine st_if ?_); (try (conv => arg 1; simp [h0, h1, h5])); (with_reducible refine at_mk ?_); with_reducible first | refine br_t ?_ | refine br_f ?_))
      (with_reducible refine st_if ?_)
      (try (conv => arg 1; simp [h0]))
      (with_reducible refine at_mk ?_)
      refine ⟨fun hb => ?_, fun hb => ?_⟩
      · have hlt : i < xs.length := by simpa using hb
        have hvi : vs.drop i = vs[i]'(by omega) :: vs.drop (i + 1) := List.drop_eq_getElem_cons (by omega)
        have hxi : xs.drop i = xs[i] :: xs.drop (i + 1) := List.drop_eq_getElem_cons hlt
        rw [hvi, hxi, List.map_cons] at o2
        obtain ⟨m3, m4, e34, o3, o4⟩ := Own.split (as1 := [vs[i]'(by omega)]) (ts1 := [ints true xs[i]]) o2 rfl
        subst e12
        subst e34
        have hr' : h'.rows n = some ⟨ver, 1, vs.map (fun v => [v]) ++ sp⟩ := by rw [hoth n hn1]; exact hr
        have hel : (vs.map (fun v => [v]) ++ sp)[i]? = some [vs[i]'(by omega)] := by
          rw [List.getElem?_append_left (by simp; omega)]
          simp
        have hnd1 := (List.nodup_cons.1 hnd).2
        have hps : psum xs i + xs[i].length ≤ psum xs xs.length := by rw [← psum_succ xs i hlt]; exact psum_le xs (i + 1)
        have hw : IntKind.i64.wrap (i + 1) = i + 1 := wrap_id (by omega) (by simp only [wtSS] at hl; omega)
        repeat' (first
          | (with_reducible first | refine st_seq ?_ | refine st_reg ?_ | refine st_block ?_ | refine st_nil ?_ | refine st_skip ?_ | refine st_ret ?_ | refine st_exit ?_ | refine fr_nil ?_ | refine k_seq_n ?_ | refine k_seq_r ?_ | refine k_seq_e ?_ | refine k_blk_n ?_ | refine k_blk_r ?_ | refine k_blk_s ?_ | refine k_blk_o rfl ?_ | refine k_fn_r ?_ | refine k_fn_n ?_ | refine k_lp_r ?_ | refine k_lp_e ?_)
          | ((with_reducible first | refine st_move ?_ | refine st_asg ?_ | refine st_c ?_ | refine fr_c ?_); (try (conv => arg 1; simp [h0, h1, h5, hr', hlt, hel])); (with_reducible refine at_mk ?_))
          | ((with_reducible first | refine st_g ?_ | refine fr_g ?_); (try (conv => arg 1; simp [h0, h1, h5, hr', hlt, hel])); (with_reducible refine at_mk ?_); with_reducible first | refine gd_tt ?_ | refine gd_ff ?_ | refine gd_tf ?_ | refine gd_ft ?_ | refine gd_no ?_)
          | ((with_reducible refine st_m rfl ?_); (try (conv => arg 1; simp [h0, h1, h5, hr', hlt, hel])); (with_reducible refine ev2_some ?_))
          | ((with_reducible refine fr_n rfl ?_); (try (conv => arg 1; simp [h0, h1, h5, hr', hlt, hel])); (with_reducible refine evn_some ?_))
          | ((with_reducible refine fr_a ?_); (try (conv => arg 1; simp [h0, h1, h5, hr', hlt, hel])); (with_reducible refine at_mk ?_); (try (conv => arg 1; simp [h0, h1, h5, hr', hlt, hel])); (with_reducible refine at_mk ?_); refine ⟨?names, ?_⟩; (case names => (simp [appNames, ints, intss] <;> first | kernel_rfl | (refine ⟨?_, ?_⟩ <;> kernel_rfl))); (try (conv => arg 1; simp [h0, h1, h5, hr', hlt, hel])); (with_reducible refine ev2_some ?_))
          | ((with_reducible first | refine st_q ?_ | refine fr_q ?_ | refine st_res ?_); (try (conv => arg 1; simp [h0, h1, h5, hr', hlt, hel])); (with_reducible refine ev_some ?_))
          | ((with_reducible refine st_if ?_); (try (conv => arg 1; simp [h0, h1, h5, hr', hlt, hel])); (with_reducible refine at_mk ?_); with_reducible first | refine br_t ?_ | refine br_f ?_))
        refine st_heap rfl (markIntS (h := h'.next.next) o3 (fun m hm => by
          have := hns m (by simp [hm])
          simp [hp_next_tick]; omega) (k + psum xs i) (by omega) (by simp only [wtSS] at hl; omega)) ?_
        rintro v h2 ⟨rfl, p1, p2, p3⟩
        simp only [hp_next_tick, hp_next_rows] at p2 p3
        repeat' (first
          | (with_reducible first | refine st_seq ?_ | refine st_reg ?_ | refine st_block ?_ | refine st_nil ?_ | refine st_skip ?_ | refine st_ret ?_ | refine st_exit ?_ | refine fr_nil ?_ | refine k_seq_n ?_ | refine k_seq_r ?_ | refine k_seq_e ?_ | refine k_blk_n ?_ | refine k_blk_r ?_ | refine k_blk_s ?_ | refine k_blk_o rfl ?_ | refine k_fn_r ?_ | refine k_fn_n ?_ | refine k_lp_r ?_ | refine k_lp_e ?_)
          | ((with_reducible first | refine st_move ?_ | refine st_asg ?_ | refine st_c ?_ | refine fr_c ?_); (try (conv => arg 1; simp [h0, h1, h5, hw])); (with_reducible refine at_mk ?_))
          | ((with_reducible first | refine st_g ?_ | refine fr_g ?_); (try (conv => arg 1; simp [h0, h1, h5, hw])); (with_reducible refine at_mk ?_); with_reducible first | refine gd_tt ?_ | refine gd_ff ?_ | refine gd_tf ?_ | refine gd_ft ?_ | refine gd_no ?_)
          | ((with_reducible refine st_m rfl ?_); (try (conv => arg 1; simp [h0, h1, h5, hw])); (with_reducible refine ev2_some ?_))
          | ((with_reducible refine fr_n rfl ?_); (try (conv => arg 1; simp [h0, h1, h5, hw])); (with_reducible refine evn_some ?_))
          | ((with_reducible refine fr_a ?_); (try (conv => arg 1; simp [h0, h1, h5, hw])); (with_reducible refine at_mk ?_); (try (conv => arg 1; simp [h0, h1, h5, hw])); (with_reducible refine at_mk ?_); refine ⟨?names, ?_⟩; (case names => (simp [appNames, ints, intss] <;> first | kernel_rfl | (refine ⟨?_, ?_⟩ <;> kernel_rfl))); (try (conv => arg 1; simp [h0, h1, h5, hw])); (with_reducible refine ev2_some ?_))
          | ((with_reducible first | refine st_q ?_ | refine fr_q ?_ | refine st_res ?_); (try (conv => arg 1; simp [h0, h1, h5, hw])); (with_reducible refine ev_some ?_))
          | ((with_reducible refine st_if ?_); (try (conv => arg 1; simp [h0, h1, h5, hw])); (with_reducible refine at_mk ?_); with_reducible first | refine br_t ?_ | refine br_f ?_))
        refine k_lp_n (i + 1) (by omega) ⟨by omega, by simp [putA_get, putA_none, h0], by simp [putA_get, putA_none, psum_succ xs i hlt]; omega, by simp [putA_get, putA_none], by simp [hp_next_tick]; omega, fun m hm => ?_, m1 ++ m3, m4, by simp, fun c => ?_, ?_⟩
        · simp only [hp_next_rows]
          rw [p2 m (fun hm3 => hm (by simp [hm3])), hoth m hm]
        · rw [List.take_add_one, List.take_add_one, marksSS_get k xs i hlt, List.getElem?_eq_getElem (show i < vs.length by omega)]
          simp only [Option.toList_some, List.map_append, List.map_cons, List.map_nil]
          refine Own.append ((o1 c).congr fun m hm => ?_) ((p1 c).congr fun m _ => by simp [hp_next_rows])
          simp only [hp_next_rows]
          refine p2 m fun hm3 => ?_
          have := (List.nodup_append.1 hnd1).2.2 m hm m (by simp [hm3])
          exact this rfl
        · refine o4.congr fun m hm => ?_
          simp only [hp_next_rows]
          refine p2 m fun hm3 => ?_
          have := (List.nodup_append.1 ((List.nodup_append.1 hnd1).2.1)).2.2 m hm3 m hm
          exact this rfl
      · have hge : i = xs.length := by simp at hb; omega
        repeat' (first
          | (with_reducible first | refine st_seq ?_ | refine st_reg ?_ | refine st_block ?_ | refine st_nil ?_ | refine st_skip ?_ | refine st_ret ?_ | refine st_exit ?_ | refine fr_nil ?_ | refine k_seq_n ?_ | refine k_seq_r ?_ | refine k_seq_e ?_ | refine k_blk_n ?_ | refine k_blk_r ?_ | refine k_blk_s ?_ | refine k_blk_o rfl ?_ | refine k_fn_r ?_ | refine k_fn_n ?_ | refine k_lp_r ?_ | refine k_lp_e ?_)
          | ((with_reducible first | refine st_move ?_ | refine st_asg ?_ | refine st_c ?_ | refine fr_c ?_); (try (conv => arg 1; simp [h0, h1, h5])); (with_reducible refine at_mk ?_))
          | ((with_reducible first | refine st_g ?_ | refine fr_g ?_); (try (conv => arg 1; simp [h0, h1, h5])); (with_reducible refine at_mk ?_); with_reducible first | refine gd_tt ?_ | refine gd_ff ?_ | refine gd_tf ?_ | refine gd_ft ?_ | refine gd_no ?_)
          | ((with_reducible refine st_m rfl ?_); (try (conv => arg 1; simp [h0, h1, h5])); (with_reducible refine ev2_some ?_))
          | ((with_reducible refine fr_n rfl ?_); (try (conv => arg 1; simp [h0, h1, h5])); (with_reducible refine evn_some ?_))
          | ((with_reducible refine fr_a ?_); (try (conv => arg 1; simp [h0, h1, h5])); (with_reducible refine at_mk ?_); (try (conv => arg 1; simp [h0, h1, h5])); (with_reducible refine at_mk ?_); refine ⟨?names, ?_⟩; (case names => (simp [appNames, ints, intss] <;> first | kernel_rfl | (refine ⟨?_, ?_⟩ <;> kernel_rfl))); (try (conv => arg 1; simp [h0, h1, h5])); (with_reducible refine ev2_some ?_))
          | ((with_reducible first | refine st_q ?_ | refine fr_q ?_ | refine st_res ?_); (try (conv => arg 1; simp [h0, h1, h5])); (with_reducible refine ev_some ?_))
          | ((with_reducible refine st_if ?_); (try (conv => arg 1; simp [h0, h1, h5])); (with_reducible refine at_mk ?_); with_reducible first | refine br_t ?_ | refine br_f ?_))
        subst hge
        have hm2 : m2 = [] := by
          rw [List.drop_eq_nil_of_le (by omega), List.drop_eq_nil_of_le (by omega)] at o2
          cases o2
          rfl
        subst hm2
        refine ⟨by simp [resV], fun c => ?_, fun m hm => by
          simp only [hp_next_rows]
          exact hoth m (fun h => hm (by simp [h])), by simp [hp_next_tick]; omega⟩
        have q := o1 c
        rw [List.take_of_length_le (by omega), List.take_of_length_le (by simp [marksSS_length])] at q
        have := own_intss_mk (rows := h'.rows) (n := n) (ver := ver) (xs := marksSS k xs) (vs := vs) (sp := sp) (c := c) (by rw [hoth n hn1]; exact hr) hsp hcl q
        rw [marksSS_length] at this
        rw [e12, List.append_nil]
        exact this.congr fun m _ => by simp [hp_next_rows]
end Go.Proofs.Ytfgaoojogididaa.AM
