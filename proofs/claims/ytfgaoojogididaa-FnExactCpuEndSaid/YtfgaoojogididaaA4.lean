/-
  The A-machine, part 4: all quiet operations together ('evQ'): values told from the temporaries and the rows, nothing written.
-/
import Derived.Test.YtfgaoojogididaaA3
set_option linter.unusedVariables false
set_option linter.unusedSimpArgs false
namespace Go.Proofs.Ytfgaoojogididaa.AM
open Go.RowKit

/-- A value's cells. -/
def AV.cells : AV → List AV
  | .agg cs => cs
  | v => [v]
def AV.stored : AV → Bool
  | .agg cs => ones cs
  | v => v.one

section
variable {P : Program} {mu : Nm → Nat → Option Loc} {pr : Bool → Nat → Prop} {hp : Array Obj}

theorem cells_ok {a : AV} {v : Value} (h : VR mu pr hp a v) (hs : a.stored = true) : VRs mu pr hp a.cells v.cells.toList ∧ ones a.cells = true ∧ v.cells.toList.all (·.oneCell') = true := by
  have key : ∀ (cs : List AV) (vs : List Value), VRs mu pr hp cs vs → ones cs = true → vs.all (·.oneCell') = true := by
    intro cs vs hv ho
    refine List.all_eq_true.2 fun u hu => ?_
    obtain ⟨i, hi⟩ := List.mem_iff_getElem?.1 hu
    have hlt : i < cs.length := by rw [← hv.1]; exact (List.getElem?_eq_some_iff.1 hi).1
    obtain ⟨u', hu', r⟩ := hv.2 i cs[i] (by simp [hlt])
    rw [hi] at hu'
    cases hu'
    exact r.oneCell (ones_get ho (i := i) (by simp [hlt]))
  cases a <;> try (simp [AV.stored, AV.one] at hs; done)
  case agg cs =>
    obtain ⟨arr, rfl, h1, h2⟩ := h.agg_inv
    exact ⟨h1, h2, key _ _ h1 h2⟩
  all_goals
    have ho := hs
    simp only [AV.stored] at ho
    have hc := h.oneCell ho
    have hv : v.cells = #[v] := by cases v <;> first | rfl | simp [Value.oneCell'] at hc
    refine ⟨by rw [hv]; exact .cons h .nil, by simp [AV.cells, ones, ho], by rw [hv]; simpa using hc⟩

/-! ### Putting cells into cells -/
def setCs (cells : List AV) (off : Nat) (vs : List AV) : List AV := cells.take off ++ vs ++ cells.drop (off + vs.length)

theorem fold_set : ∀ (cs : List Value) (k : Nat) (cells : Array Value) (off : Nat), off + k + cs.length ≤ cells.size →
    ((cs.zipIdx k).foldl (fun a (x : Value × Nat) => a.setIfInBounds (off + x.2) x.1) cells).toList = cells.toList.take (off + k) ++ cs ++ cells.toList.drop (off + k + cs.length)
  | [], k, cells, off, _ => by simp
  | c :: cs, k, cells, off, h => by
    simp only [List.length_cons] at h
    simp only [List.zipIdx_cons, List.foldl_cons]
    rw [fold_set cs (k + 1) _ off (by simp; omega)]
    simp only [Array.toList_setIfInBounds]
    apply List.ext_getElem?
    intro j
    have e1 : (cells.toList.set (off + k) c).length = cells.toList.length := by simp
    by_cases hj : j < off + k
    · rw [List.append_assoc, List.append_assoc, List.getElem?_append_left (by simp; omega), List.getElem?_append_left (by simp; omega), List.getElem?_take, List.getElem?_take, if_pos (by omega), if_pos hj, List.getElem?_set_ne (by omega)]
    · by_cases hj2 : j = off + k
      · subst hj2
        rw [List.append_assoc, List.append_assoc, List.getElem?_append_left (by simp; omega), List.getElem?_take, if_pos (by omega), List.getElem?_set_self (by simp; omega), List.getElem?_append_right (by simp; omega)]
        simp
        have : off + k - min (off + k) cells.size = 0 := by omega
        simp [this]
      · have ea : (List.take (off + (k + 1)) (cells.toList.set (off + k) c)).length = off + k + 1 := by simp; omega
        have eb : (List.take (off + k) cells.toList).length = off + k := by simp; omega
        rw [List.append_assoc, List.append_assoc, List.getElem?_append_right (show (List.take (off + (k + 1)) (cells.toList.set (off + k) c)).length ≤ j by rw [ea]; omega),
          List.getElem?_append_right (show (List.take (off + k) cells.toList).length ≤ j by rw [eb]; omega)]
        rw [ea, eb, show j - (off + k) = (j - (off + k + 1)) + 1 by omega, List.cons_append, List.getElem?_cons_succ]
        by_cases hj3 : j - (off + k + 1) < cs.length
        · rw [List.getElem?_append_left hj3, List.getElem?_append_left hj3]
        · rw [List.getElem?_append_right (Nat.le_of_not_lt hj3), List.getElem?_append_right (Nat.le_of_not_lt hj3), List.getElem?_drop, List.getElem?_drop, List.getElem?_set_ne (by omega)]
          congr 1
          simp only [List.length_cons]
          omega

theorem fill_step (cells cs : Array Value) (off : Nat) (h : off + cs.size ≤ cells.size) :
    (cs.zipIdx.foldl (fun a (x : Value × Nat) => a.setIfInBounds (off + x.2) x.1) cells) = (cells.toList.take off ++ cs.toList ++ cells.toList.drop (off + cs.size)).toArray := by
  have h1 := fold_set cs.toList 0 cells off (by simpa using h)
  simp only [Nat.add_zero] at h1
  apply Array.ext'
  rw [← Array.foldl_toList, Array.toList_zipIdx, h1]
  simp

theorem setCs_ok {cells vs : List AV} {us ws : List Value} (off : Nat) (h : VRs mu pr hp cells us) (k : VRs mu pr hp vs ws) : VRs mu pr hp (setCs cells off vs) (us.take off ++ ws ++ us.drop (off + ws.length)) := by
  unfold setCs
  rw [← k.1]
  exact ((h.take off).append k).append (h.drop _)

theorem setCs_ones {cells vs : List AV} (off : Nat) (h : ones cells = true) (k : ones vs = true) : ones (setCs cells off vs) = true := by
  simp only [ones, List.all_eq_true] at *
  intro x hx
  simp only [setCs, List.mem_append] at hx
  rcases hx with (hx | hx) | hx
  · exact h x (List.mem_of_mem_take hx)
  · exact k x hx
  · exact h x (List.mem_of_mem_drop hx)

def fillA (place : Nat → Option (Nat × Nat)) (cells : List AV) : List (Nat × AV) → Option (List AV)
  | [] => some cells
  | (i, v) :: rest => match place i with
    | some (off, size) => if v.stored = true ∧ v.cells.length = size ∧ off + size ≤ cells.length then fillA place (setCs cells off v.cells) rest else none
    | none => none

theorem fillA_ok {place : Nat → Option (Nat × Nat)} {ρ : Operand → AV} {σ : Operand → Value} (hρ : ∀ x, VR mu pr hp (ρ x) (σ x)) : ∀ (parts : List (Nat × Operand)) (cells r : List AV) (us : Array Value),
    VRs mu pr hp cells us.toList → ones cells = true → fillA place cells (parts.map fun p => (p.1, ρ p.2)) = some r →
    ∃ ws, Instr.fill place us (parts.map fun p => (p.1, σ p.2)) = some ws ∧ VRs mu pr hp r ws.toList ∧ ones r = true
  | [], cells, r, us, hv, ho, h => by
    simp [fillA] at h
    subst h
    exact ⟨us, rfl, hv, ho⟩
  | (i, x) :: rest, cells, r, us, hv, ho, h => by
    simp only [List.map_cons, fillA] at h
    split at h
    case h_2 => simp at h
    case h_1 off size hpl =>
      split at h
      case isFalse => simp at h
      case isTrue hc =>
        obtain ⟨c1, c2, c3⟩ := hc
        obtain ⟨k1, k2, k3⟩ := cells_ok (hρ x) c1
        have hsz : (σ x).cells.size = size := by have := k1.1; simp at this; omega
        have husz : us.size = cells.length := by have := hv.1; simpa using this
        obtain ⟨ws, hw, hw2⟩ := fillA_ok hρ rest _ r (us.toList.take off ++ (σ x).cells.toList ++ us.toList.drop (off + (σ x).cells.size)).toArray
          (by have := setCs_ok off hv k1; simpa using this) (setCs_ones off ho k2) h
        refine ⟨ws, ?_, hw2⟩
        simp only [List.map_cons, Instr.fill, hpl]
        rw [if_neg (by simp [hsz, husz]; omega), fill_step us (σ x).cells off (by rw [hsz, husz]; exact c3)]
        exact hw

/-! ### The pure ones -/
def fieldA (P : Program) (t : TypeId) (x : AV) (f : Nat) : Option AV :=
  match tfld P t f, x with
  | some (o, s, ft), .agg cs => match tk P ft with
    | some (n, true) => some (.agg ((cs.drop o).take n))
    | some (_, false) => cs[o]?
    | none => none
  | _, _ => none

theorem fieldA_ok (w : World) {t : TypeId} {x r : AV} {u : Value} {f : Nat} (hu : VR mu pr hp x u) (h : fieldA P t x f = some r) : ∃ z, (Instr.field t u f).run P w = .ok z w ∧ VR mu pr hp r z := by
  unfold fieldA at h
  split at h
  case h_2 => simp at h
  case h_1 o s ft cs hf =>
    obtain ⟨fs, fd, hd, hfi, rfl, rfl, hs⟩ := tfld_inv hf
    obtain ⟨arr, rfl, hcs, ho⟩ := hu.agg_inv
    split at h
    case h_3 => simp at h
    case h_1 n hn =>
      simp only [Option.some.injEq] at h
      subst h
      refine ⟨.agg (arr.extract fd.offset (fd.offset + n)), by simp [Instr.field, run_underlying hd, hfi, part, asAgg, (run_tk hn w).1, (run_tk hn w).2], ?_⟩
      have h1 := VR.agg_mk ((hcs.drop fd.offset).take n) (by
        refine ones_of fun i c hc => ?_
        rw [List.getElem?_take] at hc
        split at hc
        · rw [List.getElem?_drop] at hc; exact ones_get ho hc
        · simp at hc)
      have h2 : arr.extract fd.offset (fd.offset + n) = ((arr.toList.drop fd.offset).take n).toArray := by
        apply Array.ext'
        simp [List.take_drop, Nat.add_comm]
      rw [h2]
      exact h1
    case h_2 n hn =>
      obtain ⟨z, hz, hr⟩ := hcs.2 _ _ h
      refine ⟨z, ?_, hr⟩
      have hz' : arr[fd.offset]? = some z := by simpa using hz
      simp [Instr.field, run_underlying hd, hfi, part, asAgg, (run_tk hn w).2, hz']

/-- A struct type's zero cells, and where each field lies. -/
def tbuild (P : Program) (t : TypeId) : Option (List AV × List (Nat × Nat)) :=
  match P.underlying t with
  | some (.struct fs) => match tzero P t, fs.toList.mapM (fun f => (tsz P f.type).map fun s => (f.offset, s)) with
    | some z, some pl => if ones z then some (z, pl) else none
    | _, _ => none
  | _ => none

def buildA (P : Program) (t : TypeId) (parts : List (Nat × AV)) : Option AV :=
  match tbuild P t with
  | some (z, pl) => (fillA (fun i => pl[i]?) z parts).map .agg
  | none => none

theorem tzero_run {t : TypeId} {z : List AV} (h : tzero P t = some z) (w : World) : ∃ v, (zeroValue t).run P w = .ok v w ∧ VRs mu pr hp z v.cells.toList ∧ ∀ i, P.info? t = some i → i.zero = some v := by
  unfold tzero at h
  split at h
  case h_2 => simp at h
  case h_1 i hi =>
    split at h
    case h_2 => simp at h
    case h_1 v hv =>
      simp only [Option.some.injEq] at h
      subst h
      refine ⟨v, by simp [zeroValue, typeInfo, hi, hv], avc1s_ok _, fun i' hi' => ?_⟩
      rw [hi] at hi'
      cases hi'
      exact hv

theorem run_mapM_sizes (w : World) : ∀ (fs : List Field) (l : List (Nat × Nat)), fs.mapM (fun f => (tsz P f.type).map fun s => (f.offset, s)) = some l →
    (fs.mapM fun f => (do pure (f.offset, ← sizeOf f.type) : Sem (Nat × Nat))).run P w = .ok l w
  | [], l, h => by
    simp at h
    subst h
    simp
  | f :: fs, l, h => by
    simp only [List.mapM_cons, Option.bind_eq_bind, Option.pure_def] at h
    obtain ⟨x, hx, h⟩ := Option.bind_eq_some_iff.1 h
    obtain ⟨l', hl, h⟩ := Option.bind_eq_some_iff.1 h
    simp only [Option.map_eq_some_iff] at hx
    obtain ⟨s, hs, rfl⟩ := hx
    cases h
    simp only [List.mapM_cons, Sem.run_bind, run_sizeOf' hs, Result.andThen_ok, Sem.run_pure, run_mapM_sizes w fs l' hl]

theorem buildA_ok (w : World) {ρ : Operand → AV} {σ : Operand → Value} (hρ : ∀ x, VR mu pr hp (ρ x) (σ x)) {t : TypeId} {parts : Array (Nat × Operand)} {r : AV} (h : buildA P t (parts.toList.map fun p => (p.1, ρ p.2)) = some r) :
    ∃ z, (Instr.build t (parts.map fun (i, x) => (i, σ x))).run P w = .ok z w ∧ VR mu pr hp r z := by
  unfold buildA at h
  split at h
  case h_2 => simp at h
  case h_1 z pl hb =>
    simp only [Option.map_eq_some_iff] at h
    obtain ⟨cs, hcs, rfl⟩ := h
    unfold tbuild at hb
    split at hb
    case h_2 => simp at hb
    case h_1 fs hd =>
      split at hb
      case h_2 => simp at hb
      case h_1 z' pl' hz hpl =>
        split at hb
        case isFalse => simp at hb
        case isTrue ho =>
          simp only [Option.some.injEq, Prod.mk.injEq] at hb
          obtain ⟨rfl, rfl⟩ := hb
          obtain ⟨v, hv1, hv2, _⟩ := tzero_run (mu := mu) (pr := pr) (hp := hp) hz w
          obtain ⟨ws, hw1, hw2, hw3⟩ := fillA_ok hρ parts.toList _ cs v.cells hv2 ho hcs
          have hm := run_mapM_sizes w fs.toList _ hpl
          have ha : (fs.mapM fun f => (do pure (f.offset, ← sizeOf f.type) : Sem (Nat × Nat))).run P w = .ok pl'.toArray w := by
            rw [Array.mapM_eq_mapM_toList, Sem.run_map, hm]
            rfl
          refine ⟨.agg ws, ?_, by simpa using VR.agg_mk hw2 hw3⟩
          have hw1' : Instr.fill (fun x => pl'[x]?) v.cells (List.map (fun p => (p.1, σ p.2)) parts.toList) = some ws := hw1
          simp only [Instr.build, Sem.run_bind, hv1, Result.andThen_ok, run_underlying hd, ha, Array.toList_map]
          simp [hw1']

def lenA (P : Program) (t : TypeId) (x : AV) : Option AV :=
  match P.underlying t, x with
  | some .string, .str s => some (.int .i64 s.size)
  | some (.slice _), .tr _ es => some (.int .i64 es.length)
  | some (.slice _), .sl _ _ _ n => some (.int .i64 n)
  | some (.slice _), .nilsl => some (.int .i64 0)
  | _, _ => none

theorem lenA_ok (w : World) {t ty : TypeId} {x r : AV} {u : Value} (hu : VR mu pr hp x u) (h : lenA P t x = some r) : ∃ z, (Builtin.len_ #[t] ty #[u]).run P w = .ok z w ∧ VR mu pr hp r z := by
  unfold lenA at h
  split at h
  case h_5 => simp at h
  all_goals
    rename_i hd
    simp only [Option.some.injEq] at h
    subst h
    cases hu <;> exact ⟨_, by simp [Builtin.len_, run_underlying hd]; rfl, by constructor⟩

def unA (op : UnOp) : AV → Option AV
  | .int k n => match op with
    | .neg => some (.int k (k.wrap (-n)))
    | _ => none
  | .bool b => match op with
    | .not => some (.bool !b)
    | _ => none
  | _ => none

theorem unA_ok (w : World) {op : UnOp} {x r : AV} {u : Value} (hu : VR mu pr hp x u) (h : unA op x = some r) : ∃ z, (Op.unary op u).run P w = .ok z w ∧ VR mu pr hp r z := by
  unfold unA at h
  split at h
  case h_3 => simp at h
  all_goals
    cases hu
    split at h
    case h_2 => simp at h
    case h_1 =>
      simp only [Option.some.injEq] at h
      subst h
      exact ⟨_, by simp [Op.unary, Op.intArith]; rfl, by constructor⟩

def convA (P : Program) (s d : TypeId) (x : AV) : Option AV :=
  match P.underlying s, P.underlying d, x with
  | some _, some (.int k), .int _ n => some (.int k (k.wrap n))
  | some .string, some .string, .str b => some (.str b)
  | _, _, _ => none

theorem convA_ok (w : World) {s d : TypeId} {x r : AV} {u : Value} (hu : VR mu pr hp x u) (h : convA P s d x = some r) : ∃ z, (convert s d u).run P w = .ok z w ∧ VR mu pr hp r z := by
  unfold convA at h
  split at h
  case h_3 => simp at h
  all_goals
    rename_i h1 h2
    cases hu
    simp only [Option.some.injEq] at h
    subst h
    exact ⟨_, by simp [convert, run_underlying h1, run_underlying h2, Conv.intToInt]; rfl, by constructor⟩

def mmA (b : Builtin) : List AV → Option AV
  | [.int k x, .int _ y] => match b with
    | .min => some (.int k (if y < x then y else x))
    | .max => some (.int k (if y > x then y else x))
    | _ => none
  | _ => none

/-- A quiet operation's value. -/
def evQ (P : Program) (ρ : Operand → AV) (rows : Nm → Option Row) : Op → Option AV
  | .move x | .assign x => some (ρ x)
  | .pick c a b => match ρ c with
    | .bool t => some (if t then ρ a else ρ b)
    | _ => none
  | .load t a => loadA P rows t (ρ a)
  | .nilCheck x => match ρ x with
    | .ptr n v i o => some (.ptr n v i o)
    | .tptr g cs => some (.tptr g cs)
    | .fn f cs => some (.fn f cs)
    | _ => none
  | .binOp op t x y _ => binA P op t (isCst x || isCst y) (ρ x) (ρ y)
  | .unOp op _ x => unA op (ρ x)
  | .convert s d x => convA P s d (ρ x)
  | .field t x f => fieldA P t (ρ x) f
  | .fieldAddr t x f => faddrA P t (ρ x) f
  | .indexAddr t x i => iaddrA P rows t (ρ x) (ρ i)
  | .index t x i => indexA P t (ρ x) (ρ i)
  | .slice t x lo hi mx => sliceA P rows t (ρ x) (lo.map ρ) (hi.map ρ) mx.isSome
  | .extract x i => match ρ x with
    | .tup vs => vs[i]?
    | _ => none
  | .build t parts => buildA P t (parts.toList.map fun p => (p.1, ρ p.2))
  | .makeFunc (.func f) ⟨[]⟩ captured => some (.fn f (captured.toList.map ρ))
  | .call ⟨.builtin .len, ⟨[x]⟩, ⟨[t]⟩⟩ => lenA P t (ρ x)
  | .call ⟨.builtin .min, ⟨[x, y]⟩, _⟩ => mmA .min [ρ x, ρ y]
  | .call ⟨.builtin .max, ⟨[x, y]⟩, _⟩ => mmA .max [ρ x, ρ y]
  | _ => none

theorem VRs.of_map {ρ : Operand → AV} {σ : Operand → Value} (hρ : ∀ x, VR mu pr hp (ρ x) (σ x)) (l : List Operand) : VRs mu pr hp (l.map ρ) (l.map σ) := by
  refine ⟨by simp, fun i c hc => ?_⟩
  simp only [List.getElem?_map, Option.map_eq_some_iff] at hc
  obtain ⟨x, hx, rfl⟩ := hc
  exact ⟨σ x, by simp [hx], hρ x⟩

theorem evQ_ok {h : Hp} {w : World} (R : Rel mu pr h w) {o : Oper} {ρ : Operand → AV} {σ : Operand → Value} (hρ : ∀ x, VR mu pr w.heap (ρ x) (σ x)) {r : AV} (he : evQ P ρ h.rows o.op = some r) :
    ∃ z, (execOp σ o).run P w = .ok (.value z) w ∧ VR mu pr w.heap r z := by
  have lift : ∀ {s : Sem Value} {z : Value}, s.run P w = .ok z w → ((do pure (.value (← s)) : Sem Next)).run P w = .ok (.value z) w := by
    intro s z hs
    simp [hs]
  obtain ⟨dst, op, type, pos, after, guard⟩ := o
  simp only at he
  unfold evQ at he
  split at he
  case h_20 => simp at he
  case h_1 x => simp at he; subst he; exact ⟨σ x, rfl, hρ x⟩
  case h_2 x => simp at he; subst he; exact ⟨σ x, rfl, hρ x⟩
  case h_3 c a b =>
    split at he
    case h_2 => simp at he
    case h_1 t hc =>
      simp at he
      subst he
      have h1 := hρ c
      rw [hc] at h1
      generalize hz : σ c = z at h1
      cases h1
      refine ⟨if t then σ a else σ b, ?_, by split <;> exact hρ _⟩
      simp [execOp, hz, asBool]
  case h_4 t a => obtain ⟨z, h1, h2⟩ := loadA_ok R (hρ a) he; exact ⟨z, lift h1, h2⟩
  case h_5 x =>
    have h1 := hρ x
    split at he
    case h_4 => simp at he
    all_goals
      rename_i hx
      simp at he
      subst he
      rw [hx] at h1
      generalize hz : σ x = z at h1
      cases h1 <;> exact ⟨_, by simp [execOp, hz]; rfl, by first | (constructor <;> assumption) | (rw [← hx, ← hz]; exact hρ x)⟩
  case h_6 op t x y ty => obtain ⟨z, h1, h2⟩ := binA_ok w (hρ x) (hρ y) he; exact ⟨z, lift h1, h2⟩
  case h_7 op t x => obtain ⟨z, h1, h2⟩ := unA_ok w (hρ x) he; exact ⟨z, lift h1, h2⟩
  case h_8 s d x => obtain ⟨z, h1, h2⟩ := convA_ok w (hρ x) he; exact ⟨z, lift h1, h2⟩
  case h_9 t x f => obtain ⟨z, h1, h2⟩ := fieldA_ok w (hρ x) he; exact ⟨z, lift h1, h2⟩
  case h_10 t x f => obtain ⟨z, h1, h2⟩ := faddrA_ok w (hρ x) he; exact ⟨z, lift h1, h2⟩
  case h_11 t x i => obtain ⟨z, h1, h2⟩ := iaddrA_ok R (hρ x) (hρ i) he; exact ⟨z, lift h1, h2⟩
  case h_12 t x i => obtain ⟨z, h1, h2⟩ := indexA_ok w (hρ x) (hρ i) he; exact ⟨z, lift h1, h2⟩
  case h_13 t x lo hi mx => obtain ⟨z, h1, h2⟩ := sliceA_ok R hρ (hρ x) he; exact ⟨z, lift h1, h2⟩
  case h_14 x i =>
    split at he
    case h_2 => simp at he
    case h_1 vs hx =>
      have h1 := hρ x
      rw [hx] at h1
      generalize hz : σ x = z at h1
      obtain ⟨arr, rfl, hvs⟩ := h1.tup_inv
      obtain ⟨u, hu, hr⟩ := hvs.2 _ _ he
      have hu' : arr[i]? = some u := by simpa using hu
      exact ⟨u, by simp [execOp, hz, Instr.extract, hu'], hr⟩
  case h_15 t parts => obtain ⟨z, h1, h2⟩ := buildA_ok w hρ he; exact ⟨z, lift h1, h2⟩
  case h_16 f captured =>
    simp at he
    subst he
    refine ⟨.func (.func f) #[] (captured.toList.map σ).toArray, ?_, VR.fn_mk (VRs.of_map hρ _)⟩
    have hm : captured.map σ = (captured.toList.map σ).toArray := by apply Array.ext'; simp
    simp [execOp, Instr.makeFunc, hm]
  case h_17 x t =>
    obtain ⟨z, h1, h2⟩ := lenA_ok (ty := type) w (hρ x) he
    exact ⟨z, by simp [execOp, resolve, invoke, builtin, h1], h2⟩
  case h_18 x y ts =>
    have h1 := hρ x
    have h2 := hρ y
    unfold mmA at he
    split at he
    case h_2 => simp at he
    case h_1 k a k' b hl =>
      simp only [List.cons.injEq, and_true] at hl
      rw [hl.1] at h1
      rw [hl.2] at h2
      generalize hz : σ x = z at h1
      generalize hz' : σ y = z' at h2
      cases h1
      cases h2
      simp at he
      subst he
      exact ⟨_, by simp [execOp, resolve, invoke, builtin, hz, hz', run_min_int2]; rfl, by constructor⟩
  case h_19 x y ts =>
    have h1 := hρ x
    have h2 := hρ y
    unfold mmA at he
    split at he
    case h_2 => simp at he
    case h_1 k a k' b hl =>
      simp only [List.cons.injEq, and_true] at hl
      rw [hl.1] at h1
      rw [hl.2] at h2
      generalize hz : σ x = z at h1
      generalize hz' : σ y = z' at h2
      cases h1
      cases h2
      simp at he
      subst he
      exact ⟨_, by simp [execOp, resolve, invoke, builtin, hz, hz', run_max_int2]; rfl, by constructor⟩

end
end Go.Proofs.Ytfgaoojogididaa.AM
