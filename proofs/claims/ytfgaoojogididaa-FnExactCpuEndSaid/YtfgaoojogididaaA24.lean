/-
  The A-machine, part 24: what a law holds while it runs: boxes and values of its own, all apart.
-/
import Derived.Test.YtfgaoojogididaaA23
set_option linter.unusedVariables false
set_option linter.unusedSimpArgs false
namespace Go.Proofs.Ytfgaoojogididaa.AM
open Go.RowKit

abbrev Bx := List (Nm × Row)
abbrev Ox := List (AV × (Bool → AV) × List Nm)
def nms (bs : Bx) (os : Ox) : List Nm := bs.map (·.1) ++ (os.map (·.2.2)).flatten

structure Cx (h : Hp) (bs : Bx) (os : Ox) : Prop where
  box : ∀ x ∈ bs, h.rows x.1 = some x.2
  own : ∀ x ∈ os, ∀ c, OwnV h.rows c x.1 (x.2.1 c) x.2.2
  nd : (nms bs os).Nodup
  lt : ∀ n ∈ nms bs os, n.1 < h.tick

def Off (T : Nat) (bs : Bx) (os : Ox) : Prop := ∀ n ∈ nms bs os, n.1 ≠ T

section
variable {h h' : Hp} {bs : Bx} {os : Ox} {n : Nm} {r r' : Row} {T : Nat} {v : AV} {t t' : Bool → AV} {ns : List Nm}

theorem Cx.mt {T : Nat} : Cx (.mt T) [] [] := ⟨fun x hx => by simp at hx, fun x hx => by simp at hx, by simp [nms], fun n hn => by simp [nms] at hn⟩
theorem Cx.off (c : Cx h bs os) : Off h.tick bs os := fun n hn e => by have := c.lt n hn; omega
theorem Cx.next (c : Cx h bs os) : Cx h.next bs os :=
  ⟨fun x hx => by rw [hp_next_rows]; exact c.box x hx, fun x hx => by rw [hp_next_rows]; exact c.own x hx, c.nd, fun n hn => by rw [hp_next_tick]; have := c.lt n hn; omega⟩
theorem nms_box (n : Nm) (r : Row) (bs : Bx) (os : Ox) : nms ((n, r) :: bs) os = n :: nms bs os := rfl
theorem mem_own {x : AV × (Bool → AV) × List Nm} {n : Nm} (hx : x ∈ os) (hn : n ∈ x.2.2) : n ∈ nms bs os := by
  simp only [nms, List.mem_append, List.mem_flatten, List.mem_map]
  exact .inr ⟨x.2.2, ⟨x, hx, rfl⟩, hn⟩
theorem mem_box {x : Nm × Row} (hx : x ∈ bs) : x.1 ∈ nms bs os := by
  simp only [nms, List.mem_append, List.mem_map]
  exact .inl ⟨x, hx, rfl⟩
theorem Cx.box_add (c : Cx h bs os) (hn : n ∉ nms bs os) (ht : n.1 < h.tick) : Cx (h.put n r) ((n, r) :: bs) os := by
  refine ⟨fun x hx => ?_, fun x hx b => (c.own x hx b).congr fun m hm => ?_, by rw [nms_box]; exact List.nodup_cons.2 ⟨hn, c.nd⟩, fun m hm => ?_⟩
  · rw [hp_rows_put]
    simp only [List.mem_cons] at hx
    rcases hx with rfl | hx
    · simp
    · rw [if_neg (fun e => hn (by rw [← e]; exact mem_box hx))]; exact c.box x hx
  · rw [hp_rows_put, if_neg (fun e => hn (by rw [← e]; exact mem_own hx hm))]
  · rw [hp_put_tick]
    rw [nms_box] at hm
    simp only [List.mem_cons] at hm
    rcases hm with rfl | hm
    · exact ht
    · exact c.lt m hm
theorem Cx.box_set (c : Cx h ((n, r) :: bs) os) : Cx (h.put n r') ((n, r') :: bs) os := by
  have hn := (List.nodup_cons.1 (by have := c.nd; rwa [nms_box] at this)).1
  refine ⟨fun x hx => ?_, fun x hx b => (c.own x hx b).congr fun m hm => ?_, c.nd, fun m hm => by rw [hp_put_tick]; exact c.lt m hm⟩
  · rw [hp_rows_put]
    simp only [List.mem_cons] at hx
    rcases hx with rfl | hx
    · simp
    · rw [if_neg (fun e => hn (by rw [← e]; exact mem_box hx))]; exact c.box x (by simp [hx])
  · rw [hp_rows_put, if_neg (fun e => hn (by rw [← e]; exact mem_own hx hm))]
/-- A new box, filled behind it. -/
theorem Cx.box_new (c : Cx h bs os) (z : Off T bs os) {i : Nat} (ht : T < h.tick) : Cx ((h.put (T, i, 0) r).put (T, i, 0) r') (((T, i, 0), r') :: bs) os :=
  (c.box_add (n := (T, i, 0)) (r := r) (fun e => z _ e rfl) ht).box_set
theorem Cx.box_one (c : Cx h bs os) (z : Off T bs os) {i : Nat} (ht : T < h.tick) : Cx (h.put (T, i, 0) r) (((T, i, 0), r) :: bs) os := c.box_add (n := (T, i, 0)) (fun e => z _ e rfl) ht

theorem nodup_mid {α : Type} {a b c : List α} (h : (a ++ c).Nodup) (hb : b.Nodup) (hd : ∀ x ∈ b, x ∉ a ∧ x ∉ c) : (a ++ (b ++ c)).Nodup := by
  rw [List.nodup_append] at h ⊢
  refine ⟨h.1, List.nodup_append.2 ⟨hb, h.2.1, fun x hx y hy e => by subst e; exact (hd x hx).2 hy⟩, fun x hx y hy e => ?_⟩
  subst e
  simp only [List.mem_append] at hy
  rcases hy with hy | hy
  · exact (hd x hy).1 hx
  · exact h.2.2 x hx x hy rfl

/-- A call that yields something of its own. -/
theorem Cx.fresh (c : Cx h bs os) (o : ∀ b, OwnV h'.rows b v (t b) ns) (d : ns.Nodup) (f : ∀ n ∈ ns, h.tick ≤ n.1 ∧ n.1 < h'.tick) (p : ∀ n, n.1 < h.tick → h'.rows n = h.rows n) (q : h.tick ≤ h'.tick) : Cx h' bs ((v, t, ns) :: os) := by
  refine ⟨fun x hx => by rw [p _ (c.lt _ (mem_box hx))]; exact c.box x hx, fun x hx b => ?_, ?_, fun m hm => ?_⟩
  · simp only [List.mem_cons] at hx
    rcases hx with rfl | hx
    · exact o b
    · exact (c.own x hx b).congr fun m hm => p m (c.lt _ (mem_own hx hm))
  · simp only [nms, List.map_cons, List.flatten_cons]
    exact nodup_mid c.nd d fun x hx => ⟨fun e => by have := c.lt x (by simp only [nms, List.mem_append]; exact .inl e); have := (f x hx).1; omega, fun e => by have := c.lt x (by simp only [nms, List.mem_append]; exact .inr e); have := (f x hx).1; omega⟩
  · simp only [nms, List.map_cons, List.flatten_cons, List.mem_append] at hm
    rcases hm with hm | hm | hm
    · have := c.lt m (by simp only [nms, List.mem_append]; exact .inl hm); omega
    · exact (f m hm).2
    · have := c.lt m (by simp only [nms, List.mem_append]; exact .inr hm); omega
theorem Off.fresh (z : Off T bs os) (f : ∀ n ∈ ns, h.tick ≤ n.1 ∧ n.1 < h'.tick) (ht : T < h.tick) : Off T bs ((v, t, ns) :: os) := by
  intro m hm
  simp only [nms, List.map_cons, List.flatten_cons, List.mem_append] at hm
  rcases hm with hm | hm | hm
  · exact z m (by simp only [nms, List.mem_append]; exact .inl hm)
  · have := (f m hm).1; omega
  · exact z m (by simp only [nms, List.mem_append]; exact .inr hm)

/-- A call that writes into what is its own. -/
theorem Cx.mark (c : Cx h bs ((v, t, ns) :: os)) (o : ∀ b, OwnV h'.rows b v (t' b) ns) (p : ∀ n, n ∉ ns → n.1 < h.tick → h'.rows n = h.rows n) (q : h.tick ≤ h'.tick) : Cx h' bs ((v, t', ns) :: os) := by
  have nd := c.nd
  simp only [nms, List.map_cons, List.flatten_cons] at nd
  rw [List.nodup_append] at nd
  obtain ⟨n1, n2, n3⟩ := nd
  rw [List.nodup_append] at n2
  refine ⟨fun x hx => ?_, fun x hx b => ?_, c.nd, fun m hm => by have := c.lt m hm; omega⟩
  · rw [p x.1 (fun e => n3 x.1 (List.mem_map_of_mem hx) x.1 (by simp [e]) rfl) (c.lt _ (mem_box hx))]
    exact c.box x hx
  · simp only [List.mem_cons] at hx
    rcases hx with rfl | hx
    · exact o b
    · refine (c.own x (by simp [hx]) b).congr fun m hm => p m (fun e => n2.2.2 m e m ?_ rfl) (c.lt _ (mem_own (x := x) (by simp [hx]) hm))
      simp only [List.mem_flatten, List.mem_map]
      exact ⟨x.2.2, ⟨x, hx, rfl⟩, hm⟩
/-- What was written is forgotten. -/
theorem Cx.drop (c : Cx h bs ((v, t, ns) :: os)) : Cx h bs os := by
  refine ⟨c.box, fun x hx => c.own x (by simp [hx]), ?_, fun m hm => c.lt m ?_⟩
  · have nd := c.nd
    simp only [nms, List.map_cons, List.flatten_cons] at nd ⊢
    rw [List.nodup_append] at nd ⊢
    obtain ⟨n1, n2, n3⟩ := nd
    rw [List.nodup_append] at n2
    exact ⟨n1, n2.2.1, fun x hx y hy => n3 x hx y (by simp [hy])⟩
  · simp only [nms, List.map_cons, List.flatten_cons, List.mem_append] at hm ⊢
    rcases hm with hm | hm
    · exact .inl hm
    · exact .inr (.inr hm)
theorem Cx.forget (c : Cx h bs ((v, t, ns) :: os)) (p : ∀ n, n ∉ ns → n.1 < h.tick → h'.rows n = h.rows n) (q : h.tick ≤ h'.tick) : Cx h' bs os := by
  have nd := c.nd
  simp only [nms, List.map_cons, List.flatten_cons] at nd
  rw [List.nodup_append] at nd
  obtain ⟨n1, n2, n3⟩ := nd
  rw [List.nodup_append] at n2
  have c' := c.drop
  refine ⟨fun x hx => ?_, fun x hx b => ?_, c'.nd, fun m hm => by have := c'.lt m hm; omega⟩
  · rw [p x.1 (fun e => n3 x.1 (List.mem_map_of_mem hx) x.1 (by simp [e]) rfl) (c'.lt _ (mem_box hx))]
    exact c'.box x hx
  · refine (c'.own x hx b).congr fun m hm => p m (fun e => n2.2.2 m e m ?_ rfl) (c'.lt _ (mem_own (x := x) hx hm))
    simp only [List.mem_flatten, List.mem_map]
    exact ⟨x.2.2, ⟨x, hx, rfl⟩, hm⟩
/-- In another order. -/
theorem Cx.perm {os' : Ox} (c : Cx h bs os) (hp : os.Perm os') : Cx h bs os' := by
  have hp2 : (nms bs os).Perm (nms bs os') := List.Perm.append_left _ (hp.map _).flatten
  exact ⟨c.box, fun x hx => c.own x (hp.mem_iff.2 hx), hp2.nodup_iff.1 c.nd, fun m hm => c.lt m (hp2.mem_iff.2 hm)⟩
theorem Cx.lts (c : Cx h bs ((v, t, ns) :: os)) : ∀ n ∈ ns, n.1 < h.tick := fun n hn => c.lt n (mem_own (x := (v, t, ns)) (by simp) hn)
theorem Cx.nodup (c : Cx h bs ((v, t, ns) :: os)) : ns.Nodup := by
  have nd := c.nd
  simp only [nms, List.map_cons, List.flatten_cons] at nd
  rw [List.nodup_append] at nd
  exact (List.nodup_append.1 nd.2.1).1
theorem Cx.own0 (c : Cx h bs ((v, t, ns) :: os)) : ∀ b, OwnV h.rows b v (t b) ns := c.own (v, t, ns) (by simp)

theorem Cx.b0 (c : Cx h ((n, r) :: bs) os) : h.rows n = some r := c.box (n, r) (by simp)
theorem Cx.l0 {i j : Nat} (c : Cx h (((T, i, j), r) :: bs) os) : ¬ T = h.tick := Nat.ne_of_lt (c.lt (T, i, j) (mem_box (x := ((T, i, j), r)) (by simp)))
theorem Cx.b1 {x0 : Nm × Row} (c : Cx h (x0 :: (n, r) :: bs) os) : h.rows n = some r := c.box (n, r) (by simp)
theorem Cx.l1 {x0 : Nm × Row} {i j : Nat} (c : Cx h (x0 :: ((T, i, j), r) :: bs) os) : ¬ T = h.tick := Nat.ne_of_lt (c.lt (T, i, j) (mem_box (x := ((T, i, j), r)) (by simp)))
theorem Cx.b2 {x0 : Nm × Row} {x1 : Nm × Row} (c : Cx h (x0 :: x1 :: (n, r) :: bs) os) : h.rows n = some r := c.box (n, r) (by simp)
theorem Cx.l2 {x0 : Nm × Row} {x1 : Nm × Row} {i j : Nat} (c : Cx h (x0 :: x1 :: ((T, i, j), r) :: bs) os) : ¬ T = h.tick := Nat.ne_of_lt (c.lt (T, i, j) (mem_box (x := ((T, i, j), r)) (by simp)))
theorem Cx.b3 {x0 : Nm × Row} {x1 : Nm × Row} {x2 : Nm × Row} (c : Cx h (x0 :: x1 :: x2 :: (n, r) :: bs) os) : h.rows n = some r := c.box (n, r) (by simp)
theorem Cx.l3 {x0 : Nm × Row} {x1 : Nm × Row} {x2 : Nm × Row} {i j : Nat} (c : Cx h (x0 :: x1 :: x2 :: ((T, i, j), r) :: bs) os) : ¬ T = h.tick := Nat.ne_of_lt (c.lt (T, i, j) (mem_box (x := ((T, i, j), r)) (by simp)))
theorem Cx.b4 {x0 : Nm × Row} {x1 : Nm × Row} {x2 : Nm × Row} {x3 : Nm × Row} (c : Cx h (x0 :: x1 :: x2 :: x3 :: (n, r) :: bs) os) : h.rows n = some r := c.box (n, r) (by simp)
theorem Cx.l4 {x0 : Nm × Row} {x1 : Nm × Row} {x2 : Nm × Row} {x3 : Nm × Row} {i j : Nat} (c : Cx h (x0 :: x1 :: x2 :: x3 :: ((T, i, j), r) :: bs) os) : ¬ T = h.tick := Nat.ne_of_lt (c.lt (T, i, j) (mem_box (x := ((T, i, j), r)) (by simp)))
theorem Cx.b5 {x0 : Nm × Row} {x1 : Nm × Row} {x2 : Nm × Row} {x3 : Nm × Row} {x4 : Nm × Row} (c : Cx h (x0 :: x1 :: x2 :: x3 :: x4 :: (n, r) :: bs) os) : h.rows n = some r := c.box (n, r) (by simp)
theorem Cx.l5 {x0 : Nm × Row} {x1 : Nm × Row} {x2 : Nm × Row} {x3 : Nm × Row} {x4 : Nm × Row} {i j : Nat} (c : Cx h (x0 :: x1 :: x2 :: x3 :: x4 :: ((T, i, j), r) :: bs) os) : ¬ T = h.tick := Nat.ne_of_lt (c.lt (T, i, j) (mem_box (x := ((T, i, j), r)) (by simp)))
theorem Cx.b6 {x0 : Nm × Row} {x1 : Nm × Row} {x2 : Nm × Row} {x3 : Nm × Row} {x4 : Nm × Row} {x5 : Nm × Row} (c : Cx h (x0 :: x1 :: x2 :: x3 :: x4 :: x5 :: (n, r) :: bs) os) : h.rows n = some r := c.box (n, r) (by simp)
theorem Cx.l6 {x0 : Nm × Row} {x1 : Nm × Row} {x2 : Nm × Row} {x3 : Nm × Row} {x4 : Nm × Row} {x5 : Nm × Row} {i j : Nat} (c : Cx h (x0 :: x1 :: x2 :: x3 :: x4 :: x5 :: ((T, i, j), r) :: bs) os) : ¬ T = h.tick := Nat.ne_of_lt (c.lt (T, i, j) (mem_box (x := ((T, i, j), r)) (by simp)))
theorem Cx.b7 {x0 : Nm × Row} {x1 : Nm × Row} {x2 : Nm × Row} {x3 : Nm × Row} {x4 : Nm × Row} {x5 : Nm × Row} {x6 : Nm × Row} (c : Cx h (x0 :: x1 :: x2 :: x3 :: x4 :: x5 :: x6 :: (n, r) :: bs) os) : h.rows n = some r := c.box (n, r) (by simp)
theorem Cx.l7 {x0 : Nm × Row} {x1 : Nm × Row} {x2 : Nm × Row} {x3 : Nm × Row} {x4 : Nm × Row} {x5 : Nm × Row} {x6 : Nm × Row} {i j : Nat} (c : Cx h (x0 :: x1 :: x2 :: x3 :: x4 :: x5 :: x6 :: ((T, i, j), r) :: bs) os) : ¬ T = h.tick := Nat.ne_of_lt (c.lt (T, i, j) (mem_box (x := ((T, i, j), r)) (by simp)))
theorem Cx.b8 {x0 : Nm × Row} {x1 : Nm × Row} {x2 : Nm × Row} {x3 : Nm × Row} {x4 : Nm × Row} {x5 : Nm × Row} {x6 : Nm × Row} {x7 : Nm × Row} (c : Cx h (x0 :: x1 :: x2 :: x3 :: x4 :: x5 :: x6 :: x7 :: (n, r) :: bs) os) : h.rows n = some r := c.box (n, r) (by simp)
theorem Cx.l8 {x0 : Nm × Row} {x1 : Nm × Row} {x2 : Nm × Row} {x3 : Nm × Row} {x4 : Nm × Row} {x5 : Nm × Row} {x6 : Nm × Row} {x7 : Nm × Row} {i j : Nat} (c : Cx h (x0 :: x1 :: x2 :: x3 :: x4 :: x5 :: x6 :: x7 :: ((T, i, j), r) :: bs) os) : ¬ T = h.tick := Nat.ne_of_lt (c.lt (T, i, j) (mem_box (x := ((T, i, j), r)) (by simp)))
theorem Cx.o0 (c : Cx h bs ((v, t, ns) :: os)) : ∀ b, OwnV h.rows b v (t b) ns := c.own (v, t, ns) (by simp)
theorem Cx.m0 (c : Cx h bs ((v, t, ns) :: os)) : ∀ b, OwnV (maskR h.tick (fun _ => false) h.rows) b v (t b) ns := fun b => (c.o0 b).congr fun n hn => (by have := c.lt n (mem_own (x := (v, t, ns)) (by simp) hn); exact if_neg (fun e => by rcases e with e | e; omega; cases e))
theorem Cx.o1 {y0 : AV × (Bool → AV) × List Nm} (c : Cx h bs (y0 :: (v, t, ns) :: os)) : ∀ b, OwnV h.rows b v (t b) ns := c.own (v, t, ns) (by simp)
theorem Cx.m1 {y0 : AV × (Bool → AV) × List Nm} (c : Cx h bs (y0 :: (v, t, ns) :: os)) : ∀ b, OwnV (maskR h.tick (fun _ => false) h.rows) b v (t b) ns := fun b => (c.o1 b).congr fun n hn => (by have := c.lt n (mem_own (x := (v, t, ns)) (by simp) hn); exact if_neg (fun e => by rcases e with e | e; omega; cases e))
theorem Cx.rot1 {y0 : AV × (Bool → AV) × List Nm} (c : Cx h bs (y0 :: (v, t, ns) :: os)) : Cx h bs ((v, t, ns) :: y0 :: os) := c.perm (List.perm_middle (l₁ := [y0]))
theorem Cx.o2 {y0 : AV × (Bool → AV) × List Nm} {y1 : AV × (Bool → AV) × List Nm} (c : Cx h bs (y0 :: y1 :: (v, t, ns) :: os)) : ∀ b, OwnV h.rows b v (t b) ns := c.own (v, t, ns) (by simp)
theorem Cx.m2 {y0 : AV × (Bool → AV) × List Nm} {y1 : AV × (Bool → AV) × List Nm} (c : Cx h bs (y0 :: y1 :: (v, t, ns) :: os)) : ∀ b, OwnV (maskR h.tick (fun _ => false) h.rows) b v (t b) ns := fun b => (c.o2 b).congr fun n hn => (by have := c.lt n (mem_own (x := (v, t, ns)) (by simp) hn); exact if_neg (fun e => by rcases e with e | e; omega; cases e))
theorem Cx.rot2 {y0 : AV × (Bool → AV) × List Nm} {y1 : AV × (Bool → AV) × List Nm} (c : Cx h bs (y0 :: y1 :: (v, t, ns) :: os)) : Cx h bs ((v, t, ns) :: y0 :: y1 :: os) := c.perm (List.perm_middle (l₁ := [y0, y1]))
theorem Cx.o3 {y0 : AV × (Bool → AV) × List Nm} {y1 : AV × (Bool → AV) × List Nm} {y2 : AV × (Bool → AV) × List Nm} (c : Cx h bs (y0 :: y1 :: y2 :: (v, t, ns) :: os)) : ∀ b, OwnV h.rows b v (t b) ns := c.own (v, t, ns) (by simp)
theorem Cx.m3 {y0 : AV × (Bool → AV) × List Nm} {y1 : AV × (Bool → AV) × List Nm} {y2 : AV × (Bool → AV) × List Nm} (c : Cx h bs (y0 :: y1 :: y2 :: (v, t, ns) :: os)) : ∀ b, OwnV (maskR h.tick (fun _ => false) h.rows) b v (t b) ns := fun b => (c.o3 b).congr fun n hn => (by have := c.lt n (mem_own (x := (v, t, ns)) (by simp) hn); exact if_neg (fun e => by rcases e with e | e; omega; cases e))
theorem Cx.rot3 {y0 : AV × (Bool → AV) × List Nm} {y1 : AV × (Bool → AV) × List Nm} {y2 : AV × (Bool → AV) × List Nm} (c : Cx h bs (y0 :: y1 :: y2 :: (v, t, ns) :: os)) : Cx h bs ((v, t, ns) :: y0 :: y1 :: y2 :: os) := c.perm (List.perm_middle (l₁ := [y0, y1, y2]))
theorem Cx.o4 {y0 : AV × (Bool → AV) × List Nm} {y1 : AV × (Bool → AV) × List Nm} {y2 : AV × (Bool → AV) × List Nm} {y3 : AV × (Bool → AV) × List Nm} (c : Cx h bs (y0 :: y1 :: y2 :: y3 :: (v, t, ns) :: os)) : ∀ b, OwnV h.rows b v (t b) ns := c.own (v, t, ns) (by simp)
theorem Cx.m4 {y0 : AV × (Bool → AV) × List Nm} {y1 : AV × (Bool → AV) × List Nm} {y2 : AV × (Bool → AV) × List Nm} {y3 : AV × (Bool → AV) × List Nm} (c : Cx h bs (y0 :: y1 :: y2 :: y3 :: (v, t, ns) :: os)) : ∀ b, OwnV (maskR h.tick (fun _ => false) h.rows) b v (t b) ns := fun b => (c.o4 b).congr fun n hn => (by have := c.lt n (mem_own (x := (v, t, ns)) (by simp) hn); exact if_neg (fun e => by rcases e with e | e; omega; cases e))
theorem Cx.rot4 {y0 : AV × (Bool → AV) × List Nm} {y1 : AV × (Bool → AV) × List Nm} {y2 : AV × (Bool → AV) × List Nm} {y3 : AV × (Bool → AV) × List Nm} (c : Cx h bs (y0 :: y1 :: y2 :: y3 :: (v, t, ns) :: os)) : Cx h bs ((v, t, ns) :: y0 :: y1 :: y2 :: y3 :: os) := c.perm (List.perm_middle (l₁ := [y0, y1, y2, y3]))
theorem Cx.mt_box : Cx ((Hp.mt 0).next.put (0, 0, 0) r) [((0, 0, 0), r)] [] := Cx.mt.next.box_one (T := 0) Cx.mt.off (Nat.zero_lt_one)

variable {P : Program} {M : FuncId → Mode} {C : CS} {D : Array Oper → (Nat → AV) → Hp → ((Nat → AV) → Hp → Prop) → Prop} {σ : Nat → AV} {K : Ex → (Nat → AV) → Hp → Prop} {code : Code} {g : FuncId} {as : List AV} {N : AV → Hp → Prop}
theorem cx_wp (c : Cx h bs os) (k : ∀ h', Cx h' bs os → wpC P M C D code σ h' K) : wpC P M C D code σ h K := k h c
theorem cx_k {b : Code} (c : Cx h bs os) (k : ∀ h', Cx h' bs os → wpC P M C D b σ h' K) : KSeq P M C D b K .normal σ h := k h c
theorem cx_call (c : Cx h bs os) (k : ∀ h', Cx h' bs os → h'.tick = h.tick → callW M C g as h' N) : callW M C g as h N := k h c rfl
end
end Go.Proofs.Ytfgaoojogididaa.AM
