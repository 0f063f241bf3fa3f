/-
  The A-machine, part 20: contracts: pure ones, ones with new rows; loops.
-/
import Derived.Test.YtfgaoojogididaaA19
set_option linter.unusedVariables false
set_option linter.unusedSimpArgs false
namespace Go.Proofs.Ytfgaoojogididaa.AM
open Go.RowKit

/-- Cells, and the rows that they own: what they are as trees, and the rows' names. -/
inductive Own (rows : Nm → Option Row) (c : Bool) : List AV → List AV → List Nm → Prop
  | nil : Own rows c [] [] []
  | int {as ts : List AV} {ns : List Nm} (k : IntKind) (n : Int) : Own rows c as ts ns → Own rows c (.int k n :: as) (.int k n :: ts) ns
  | bool {as ts : List AV} {ns : List Nm} (b : Bool) : Own rows c as ts ns → Own rows c (.bool b :: as) (.bool b :: ts) ns
  | str {as ts : List AV} {ns : List Nm} (s : ByteArray) : Own rows c as ts ns → Own rows c (.str s :: as) (.str s :: ts) ns
  | nilsl {as ts : List AV} {ns : List Nm} : Own rows c as ts ns → Own rows c (.nilsl :: as) (.tr c [] :: ts) ns
  | sl {as ts : List AV} {ns1 ns2 : List Nm} (n : Nm) (ver len s : Nat) (r : Row) (ts' : List (List AV)) : rows n = some r → r.ver = ver → r.esz = s → ClRow r → len ≤ r.elems.length → (∀ e ∈ r.elems, e.length = s) → ts'.length = len → (∀ e ∈ ts', e.length = s) →
      Own rows c (r.elems.take len).flatten ts'.flatten ns1 → Own rows c as ts ns2 → Own rows c (.sl n ver 0 len :: as) (.tr c ts' :: ts) (n :: (ns1 ++ ns2))

section
variable {rows rows' : Nm → Option Row} {c : Bool}

theorem Own.length {as ts : List AV} {ns : List Nm} (h : Own rows c as ts ns) : ts.length = as.length := by
  induction h <;> simp_all

theorem Own.append {as ts as' ts' : List AV} {ns ns' : List Nm} (h : Own rows c as ts ns) (k : Own rows c as' ts' ns') : Own rows c (as ++ as') (ts ++ ts') (ns ++ ns') := by
  induction h with
  | nil => exact k
  | int q n _ ih => exact .int q n ih
  | bool b _ ih => exact .bool b ih
  | str s _ ih => exact .str s ih
  | nilsl _ ih => exact .nilsl ih
  | @sl as ts ns1 ns2 n ver len s r ts' h1 h2 h3 h4 h5 h6 h7 h8 h9 _ _ ih =>
    have := Own.sl (ns1 := ns1) n ver len s r ts' h1 h2 h3 h4 h5 h6 h7 h8 h9 ih
    simpa [List.append_assoc] using this

theorem Own.split : ∀ {as1 : List AV} {as2 ts1 ts2 : List AV} {ns : List Nm}, Own rows c (as1 ++ as2) (ts1 ++ ts2) ns → ts1.length = as1.length → ∃ ns1 ns2, ns = ns1 ++ ns2 ∧ Own rows c as1 ts1 ns1 ∧ Own rows c as2 ts2 ns2
  | [], as2, ts1, ts2, ns, h, hl => by
    obtain rfl : ts1 = [] := List.eq_nil_of_length_eq_zero (by simpa using hl)
    exact ⟨[], ns, rfl, .nil, h⟩
  | a :: as1, as2, [], ts2, ns, h, hl => by simp at hl
  | a :: as1, as2, t :: ts1, ts2, ns, h, hl => by
    simp only [List.length_cons, Nat.add_right_cancel_iff] at hl
    cases h with
    | int q n h => obtain ⟨n1, n2, e, h1, h2⟩ := Own.split h hl; exact ⟨n1, n2, e, .int q n h1, h2⟩
    | bool b h => obtain ⟨n1, n2, e, h1, h2⟩ := Own.split h hl; exact ⟨n1, n2, e, .bool b h1, h2⟩
    | str s h => obtain ⟨n1, n2, e, h1, h2⟩ := Own.split h hl; exact ⟨n1, n2, e, .str s h1, h2⟩
    | nilsl h => obtain ⟨n1, n2, e, h1, h2⟩ := Own.split h hl; exact ⟨n1, n2, e, .nilsl h1, h2⟩
    | @sl _ _ ns1 ns2 n ver len s r ts' q1 q2 q3 q4 q5 q6 q7 q8 q9 h =>
      obtain ⟨n1, n2, e, h1, h2⟩ := Own.split h hl
      subst e
      exact ⟨n :: (ns1 ++ n1), n2, by simp [List.append_assoc], .sl n ver len s r ts' q1 q2 q3 q4 q5 q6 q7 q8 q9 h1, h2⟩

theorem Own.congr {as ts : List AV} {ns : List Nm} (h : Own rows c as ts ns) (hr : ∀ n ∈ ns, rows' n = rows n) : Own rows' c as ts ns := by
  induction h with
  | nil => exact .nil
  | int q n _ ih => exact .int q n (ih hr)
  | bool b _ ih => exact .bool b (ih hr)
  | str s _ ih => exact .str s (ih hr)
  | nilsl _ ih => exact .nilsl (ih hr)
  | sl n ver len s r ts' h1 h2 h3 h4 h5 h6 h7 h8 _ _ ih1 ih2 =>
    exact .sl n ver len s r ts' (by rw [hr n (by simp)]; exact h1) h2 h3 h4 h5 h6 h7 h8 (ih1 fun m hm => hr m (by simp [hm])) (ih2 fun m hm => hr m (by simp [hm]))

theorem flatten_at {α : Type} : ∀ (l : List (List α)) (s i j : Nat) (e : List α) (x : α), (∀ e ∈ l, e.length = s) → l[i]? = some e → e[j]? = some x → l.flatten[i * s + j]? = some x
  | [], s, i, j, e, x, _, hi, _ => by simp at hi
  | y :: l, s, 0, j, e, x, h, hi, hj => by
    simp at hi; subst hi
    rw [List.flatten_cons, Nat.zero_mul, Nat.zero_add, List.getElem?_append_left (lt_get hj)]
    exact hj
  | y :: l, s, i + 1, j, e, x, h, hi, hj => by
    have hy := h y (by simp)
    rw [List.flatten_cons, List.getElem?_append_right (by rw [hy, Nat.add_mul]; omega)]
    have := flatten_at l s i j e x (fun e he => h e (by simp [he])) (by simpa using hi) hj
    rw [hy, show (i + 1) * s + j - s = i * s + j by rw [Nat.add_mul]; omega]
    exact this

theorem Own.dr {as ts : List AV} {ns : List Nm} (h : Own rows c as ts ns) : ∀ (i : Nat) (a t : AV), as[i]? = some a → ts[i]? = some t → DR c rows a t := by
  induction h with
  | nil => intro i a t h; simp at h
  | int q n _ ih =>
    intro i a t ha ht
    cases i with
    | zero => simp at ha ht; subst ha ht; exact .int q n
    | succ i => exact ih i a t (by simpa using ha) (by simpa using ht)
  | bool b _ ih =>
    intro i a t ha ht
    cases i with
    | zero => simp at ha ht; subst ha ht; exact .bool b
    | succ i => exact ih i a t (by simpa using ha) (by simpa using ht)
  | str s _ ih =>
    intro i a t ha ht
    cases i with
    | zero => simp at ha ht; subst ha ht; exact .str s
    | succ i => exact ih i a t (by simpa using ha) (by simpa using ht)
  | nilsl _ ih =>
    intro i a t ha ht
    cases i with
    | zero => simp at ha ht; subst ha ht; exact .nilsl
    | succ i => exact ih i a t (by simpa using ha) (by simpa using ht)
  | sl n ver len s r ts' h1 h2 h3 h4 h5 h6 h7 h8 _ _ ih1 ih2 =>
    intro i a t ha ht
    cases i with
    | succ i => exact ih2 i a t (by simpa using ha) (by simpa using ht)
    | zero =>
      simp at ha ht; subst ha ht
      refine .sl n ver 0 len r ts' h1 h2 (by omega) h7 (fun i e t he ht => ?_) (fun i e t j x y he ht hx hy => ?_)
      · rw [h8 t (List.mem_of_getElem? ht), h6 e (List.mem_of_getElem? he)]
      · have hi : i < len := by rw [← h7]; exact lt_get ht
        refine ih1 (i * s + j) x y ?_ ?_
        · refine flatten_at _ s i j e x (fun e he => h6 e (List.mem_of_mem_take he)) ?_ hx
          rw [List.getElem?_take, if_pos hi]
          simpa using he
        · exact flatten_at _ s i j t y h8 ht hy

theorem Own.cl {as ts : List AV} {ns : List Nm} (h : Own rows c as ts ns) : ∀ (i : Nat) (a : AV), as[i]? = some a → Cl a := by
  induction h with
  | nil => intro i a h; simp at h
  | int q n _ ih =>
    intro i a ha
    cases i with
    | zero => simp at ha; subst ha; exact .int q n
    | succ i => exact ih i a (by simpa using ha)
  | bool b _ ih =>
    intro i a ha
    cases i with
    | zero => simp at ha; subst ha; exact .bool b
    | succ i => exact ih i a (by simpa using ha)
  | str s _ ih =>
    intro i a ha
    cases i with
    | zero => simp at ha; subst ha; exact .str s
    | succ i => exact ih i a (by simpa using ha)
  | nilsl _ ih =>
    intro i a ha
    cases i with
    | zero => simp at ha; subst ha; exact .nilsl
    | succ i => exact ih i a (by simpa using ha)
  | sl n ver len s r ts' h1 h2 h3 h4 h5 h6 h7 h8 _ _ ih1 ih2 =>
    intro i a ha
    cases i with
    | zero => simp at ha; subst ha; exact .sl n ver 0 len
    | succ i => exact ih2 i a (by simpa using ha)

theorem Own.row {as ts : List AV} {ns : List Nm} (h : Own rows c as ts ns) : ∀ n ∈ ns, ∃ r, rows n = some r ∧ ClRow r := by
  induction h with
  | nil => intro n hn; simp at hn
  | int q n _ ih => exact ih
  | bool b _ ih => exact ih
  | str s _ ih => exact ih
  | nilsl _ ih => exact ih
  | sl n ver len s r ts' h1 h2 h3 h4 h5 h6 h7 h8 _ _ ih1 ih2 =>
    intro m hm
    simp only [List.mem_cons, List.mem_append] at hm
    rcases hm with rfl | hm | hm
    · exact ⟨r, h1, h4⟩
    · exact ih1 m hm
    · exact ih2 m hm

/-- Values. -/
inductive OwnV (rows : Nm → Option Row) (c : Bool) : AV → AV → List Nm → Prop
  | one {a t : AV} {ns : List Nm} : Own rows c [a] [t] ns → OwnV rows c a t ns
  | agg {as ts : List AV} {ns : List Nm} : Own rows c as ts ns → OwnV rows c (.agg as) (.agg ts) ns
  | tup2 {a t a' t' : AV} {ns ns' : List Nm} : OwnV rows c a t ns → OwnV rows c a' t' ns' → OwnV rows c (.tup [a, a']) (.tup [t, t']) (ns ++ ns')

theorem OwnV.dr {v t : AV} {ns : List Nm} (h : OwnV rows c v t ns) : DR c rows v t := by
  induction h with
  | one h => exact h.dr 0 _ _ rfl rfl
  | agg h => exact .agg _ _ h.length h.dr
  | @tup2 a t a' t' _ _ _ _ ih1 ih2 =>
    refine .tup _ _ rfl fun j x y hx hy => ?_
    match j, hx, hy with
    | 0, hx, hy => simp at hx hy; subst hx hy; exact ih1
    | 1, hx, hy => simp at hx hy; subst hx hy; exact ih2

theorem OwnV.cl {v t : AV} {ns : List Nm} (h : OwnV rows c v t ns) : Cl v := by
  induction h with
  | one h => exact h.cl 0 _ rfl
  | agg h => exact .agg _ h.cl
  | @tup2 a t a' t' _ _ _ _ ih1 ih2 =>
    refine .tup _ fun j x hx => ?_
    match j, hx with
    | 0, hx => simp at hx; subst hx; exact ih1
    | 1, hx => simp at hx; subst hx; exact ih2

theorem OwnV.congr {v t : AV} {ns : List Nm} (h : OwnV rows c v t ns) (hr : ∀ n ∈ ns, rows' n = rows n) : OwnV rows' c v t ns := by
  induction h with
  | one h => exact .one (h.congr hr)
  | agg h => exact .agg (h.congr hr)
  | tup2 _ _ ih1 ih2 => exact .tup2 (ih1 fun n hn => hr n (by simp [hn])) (ih2 fun n hn => hr n (by simp [hn]))

theorem OwnV.row {v t : AV} {ns : List Nm} (h : OwnV rows c v t ns) : ∀ n ∈ ns, ∃ r, rows n = some r ∧ ClRow r := by
  induction h with
  | one h => exact h.row
  | agg h => exact h.row
  | tup2 _ _ ih1 ih2 =>
    intro n hn
    rcases List.mem_append.1 hn with h | h
    · exact ih1 n h
    · exact ih2 n h
end

section
variable {P : Program} {M : FuncId → Mode}

/-- A function of its arguments' values alone: its result as a tree. -/
def Pure (P : Program) (f : FuncId) (args : List AV) (r : AV) : Prop := ∀ T, Sound P f args (.mt T) fun v h' => DR false h'.rows v r

/-- A function whose result is its own: new rows. -/
def Fresh (P : Program) (f : FuncId) (args : List AV) (r : Bool → AV) : Prop := ∀ T, Sound P f args (.mt T) fun v h' => T ≤ h'.tick ∧ ∃ ns, (∀ c, OwnV h'.rows c v (r c) ns) ∧ ns.Nodup ∧ ∀ n ∈ ns, T ≤ n.1 ∧ n.1 < h'.tick

theorem Sound.mono {f : FuncId} {args : List AV} {h : Hp} {K K' : AV → Hp → Prop} (hk : ∀ v h', K v h' → K' v h') (hs : Sound P f args h K) : Sound P f args h K' :=
  ⟨hs.1, fun mu pr w vs R hv => (hs.2 mu pr w vs R hv).mono fun e w' ⟨z, v, h', mu', pr', e1, k, r⟩ => ⟨z, v, h', mu', pr', e1, hk _ _ k, r⟩⟩

theorem Fresh.pure {f : FuncId} {args : List AV} {r : Bool → AV} (h : Fresh P f args r) : Pure P f args (r false) := fun T => (h T).mono fun v h' ⟨_, ns, k, _⟩ => (k false).dr

theorem DRs.nil {c : Bool} {rows : Nm → Option Row} : DRs c rows [] [] := ⟨rfl, fun i a t h => by simp at h⟩
theorem DRs.cons {c : Bool} {rows : Nm → Option Row} {a t : AV} {as ts : List AV} (h : DR c rows a t) (hs : DRs c rows as ts) : DRs c rows (a :: as) (t :: ts) :=
  ⟨by simp [hs.1], fun i x y hx hy => by
    cases i with
    | zero => simp at hx hy; subst hx hy; exact h
    | succ i => exact hs.2 i x y (by simpa using hx) (by simpa using hy)⟩

theorem treeW_pure {g : FuncId} {rows : Nm → Option Row} {args targs : List AV} {r : AV} {t : Nat} {K : AV → Prop} (hp : Pure P g targs r) (ha : DRs true rows args targs) (hk : K r) : treeW (Sound P) g rows args t K := ⟨targs, r, ha, hp t, hk⟩

theorem freshW_of {g : FuncId} {args targs : List AV} {r : Bool → AV} {h : Hp} {K : AV → Hp → Prop} (hp : Fresh P g targs r) (ha : DRs true h.rows args targs)
    (hk : ∀ v h' ns, (∀ c, OwnV h'.rows c v (r c) ns) → ns.Nodup → (∀ n ∈ ns, h.tick ≤ n.1 ∧ n.1 < h'.tick) → (∀ n, n.1 < h.tick → h'.rows n = h.rows n) → h.tick ≤ h'.tick → K v h') : freshW (Sound P) g args h K := by
  refine ⟨targs, ha, (hp h.tick).mono ?_⟩
  rintro v h' ⟨ht, ns, h1, h2, h3⟩
  refine ⟨fun n => if n ∈ ns then h'.rows n else none, fun n r hn => ?_, (h1 true).cl, hk v _ ns (fun c => (h1 c).congr fun n hn => ?_) h2 h3 (fun n hn => ?_) ht⟩
  · by_cases hm : n ∈ ns
    · obtain ⟨r', q1, q2⟩ := (h1 true).row n hm
      simp only [if_pos hm] at hn
      rw [q1] at hn
      cases hn
      exact ⟨q1, q2⟩
    · simp [if_neg hm] at hn
  · have := (h3 n hn).1
    simp only [Hp.join]
    rw [if_neg (by omega), if_pos hn]
  · simp only [Hp.join, if_pos hn]

/-- A loop, by a measure. -/
theorem wpC_inv {C : CS} (hC : CS.le C C) {D : Array Oper → (Nat → AV) → Hp → ((Nat → AV) → Hp → Prop) → Prop} (hD : Dle D D) {α : Type} (I : α → (Nat → AV) → Hp → Prop) (m : α → Nat) {body : Code} {K : Ex → (Nat → AV) → Hp → Prop}
    (step : ∀ a σ h, I a σ h → wpC P M C D body σ h (fun e σ' h' => match e with | .normal => ∃ a', m a' < m a ∧ I a' σ' h' | e => K e σ' h')) (a : α) {σ : Nat → AV} {h : Hp} (h0 : I a σ h) : wpC P M C D (.loop body) σ h K := by
  intro J hJ
  have key : ∀ (n : Nat) (a : α) (σ : Nat → AV) (h : Hp), m a < n → I a σ h → J σ h := by
    intro n
    induction n with
    | zero => intro a σ h hm; omega
    | succ n ih =>
      intro a σ h hm hi
      refine hJ σ h (wpC_mono hC hD _ _ _ _ _ (fun e σ' h' hr => ?_) (step a σ h hi))
      cases e
      · obtain ⟨a', h1, h2⟩ := hr
        exact ih a' σ' h' (by omega) h2
      · exact hr
      · exact hr
  exact key _ a σ h (Nat.lt_succ_self _) h0

theorem Sound.le : CS.le (Sound P) (Sound P) := fun f args h K K' hk hs => Sound.mono hk hs
theorem drawW_le : Dle (drawW P M (Sound P)) (drawW P M (Sound P)) := drawW_mono Sound.le
end

/-! ### Whole numbers -/
def ints (c : Bool) (xs : List Int) : AV := .tr c (xs.map fun n => [.int .i64 n])
def intss (c : Bool) (xs : List (List Int)) : AV := .tr c (xs.map fun x => [ints c x])

theorem own_flat {rows : Nm → Option Row} {c : Bool} : ∀ xs : List Int, Own rows c (xs.map fun n => [AV.int .i64 n]).flatten (xs.map fun n => [AV.int .i64 n]).flatten []
  | [] => .nil
  | x :: xs => .int .i64 x (own_flat xs)

theorem clRow_ints {ver : Nat} {l : List (List AV)} (h : ∀ e ∈ l, ∃ n : Int, e = [.int .i64 n]) : ClRow ⟨ver, 1, l⟩ := fun i e j x he hx => by
  obtain ⟨n, rfl⟩ := h e (List.mem_of_getElem? he)
  match j, hx with
  | 0, hx => simp at hx; subst hx; exact .int .i64 n

theorem own_ints {rows : Nm → Option Row} {c : Bool} {n : Nm} {ver len : Nat} {xs ys : List Int} (h : rows n = some ⟨ver, 1, ys.map fun n => [.int .i64 n]⟩) (hl : ys.take len = xs) (hx : xs.length = len) : Own rows c [.sl n ver 0 len] [ints c xs] [n] := by
  have h1 : ((ys.map fun n => [AV.int .i64 n]).take len) = xs.map fun n => [AV.int .i64 n] := by rw [← List.map_take, hl]
  have := Own.sl (as := []) (ts := []) (ns1 := []) (ns2 := []) (c := c) n ver len 1 _ (xs.map fun n => [AV.int .i64 n]) h rfl rfl (clRow_ints fun e he => by simp at he; obtain ⟨a, _, rfl⟩ := he; exact ⟨a, rfl⟩)
    (by simp; have := congrArg List.length hl; simp at this; omega) (fun e he => by simp at he; obtain ⟨a, _, rfl⟩ := he; rfl) (by simpa using hx) (fun e he => by simp at he; obtain ⟨a, _, rfl⟩ := he; rfl)
    (by rw [h1]; exact own_flat xs) .nil
  simpa [ints] using this

theorem dr_ints {c b : Bool} {rows : Nm → Option Row} (hb : b = true → c = true) (xs : List Int) : DR c rows (ints b xs) (ints c xs) := by
  refine .tr b _ _ hb (by simp) (fun i e t he ht => ?_) (fun i e t j x y he ht hx hy => ?_)
  · simp at he ht; obtain ⟨a, h1, rfl⟩ := he; obtain ⟨a', h2, rfl⟩ := ht; rfl
  · simp at he ht; obtain ⟨a, h1, rfl⟩ := he; obtain ⟨a', h2, rfl⟩ := ht
    rw [h1] at h2; cases h2
    match j, hx, hy with
    | 0, hx, hy => simp at hx hy; subst hx hy; exact .int .i64 a

theorem dr_intss {c b : Bool} {rows : Nm → Option Row} (hb : b = true → c = true) (xs : List (List Int)) : DR c rows (intss b xs) (intss c xs) := by
  refine .tr b _ _ hb (by simp) (fun i e t he ht => ?_) (fun i e t j x y he ht hx hy => ?_)
  · simp at he ht; obtain ⟨a, h1, rfl⟩ := he; obtain ⟨a', h2, rfl⟩ := ht; rfl
  · simp at he ht; obtain ⟨a, h1, rfl⟩ := he; obtain ⟨a', h2, rfl⟩ := ht
    rw [h1] at h2; cases h2
    match j, hx, hy with
    | 0, hx, hy => simp at hx hy; subst hx hy; exact dr_ints hb a
end Go.Proofs.Ytfgaoojogididaa.AM
