/-
  The A-machine, part 3: fields, indexes, pieces of slices and strings, lengths: and all quiet operations together ('evQ').
-/
import Derived.Test.YtfgaoojogididaaA2
import Derived.Laws.Strings
import Derived.Laws.Small
set_option linter.unusedVariables false
set_option linter.unusedSimpArgs false
namespace Go.Proofs.Ytfgaoojogididaa.AM
open Go.RowKit

theorem tfld_inv {P : Program} {t : TypeId} {i o s : Nat} {ft : TypeId} (h : tfld P t i = some (o, s, ft)) : ∃ (fs : Array Field) (f : Field), P.underlying t = some (.struct fs) ∧ fs[i]? = some f ∧ f.offset = o ∧ f.type = ft ∧ tsz P ft = some s := by
  unfold tfld at h
  split at h
  case h_2 => simp at h
  case h_1 fs hd =>
    split at h
    case h_2 => simp at h
    case h_1 f hf =>
      split at h
      case h_2 => simp at h
      case h_1 x hx =>
        simp only [Option.some.injEq, Prod.mk.injEq] at h
        obtain ⟨rfl, rfl, rfl⟩ := h
        exact ⟨fs, f, hd, hf, rfl, rfl, by simp [tsz, hx]⟩

theorem telem_inv {P : Program} {t e : TypeId} (h : telem P t = some e) : P.underlying t = some (.slice e) := by
  unfold telem at h
  split at h
  case h_2 => simp at h
  case h_1 e' hd => simp at h; subst h; exact hd

/-! ### A field's address -/
def faddrA (P : Program) (t : TypeId) (p : AV) (f : Nat) : Option AV :=
  match tfld P t f with
  | some (o, s, _) => if s = 0 then none else match p with
    | .ptr n v i off => some (.ptr n v i (off + o))
    | .tptr g cs => some (.tptr g (cs.drop o))
    | _ => none
  | none => none

section
variable {P : Program} {mu : Nm → Nat → Option Loc} {pr : Bool → Nat → Prop} {hp : Array Obj}

theorem faddrA_ok (w : World) {t : TypeId} {p r : AV} {v : Value} {f : Nat} (hv : VR mu pr hp p v) (h : faddrA P t p f = some r) : ∃ z, (Instr.fieldAt t v f).run P w = .ok z w ∧ VR mu pr hp r z := by
  unfold faddrA at h
  split at h
  case h_2 => simp at h
  case h_1 o s ft hf =>
    obtain ⟨fs, fd, hd, hfi, rfl, rfl, hs⟩ := tfld_inv hf
    split at h
    case isTrue => simp at h
    case isFalse hs0 =>
      split at h
      case h_3 => simp at h
      case h_1 n v' i off =>
        simp only [Option.some.injEq] at h
        subst h
        cases hv with
        | ptr _ _ _ _ l hl =>
          refine ⟨_, by simp [Instr.fieldAt, run_underlying hd, hfi, Instr.sureAddr, fieldPlace, run_sizeOf' hs, hs0, Addr.add_lit]; rfl, ?_⟩
          rw [Nat.add_assoc]
          exact .ptr _ _ _ _ l hl
      case h_2 g cs =>
        simp only [Option.some.injEq] at h
        subst h
        cases hv with
        | tptr _ b o arr ty fr _ us h1 h2 h3 h4 h5 =>
          refine ⟨_, by simp [Instr.fieldAt, run_underlying hd, hfi, Instr.sureAddr, fieldPlace, run_sizeOf' hs, hs0, Addr.add_lit]; rfl, ?_⟩
          refine .tptr g b _ arr ty fr _ (fun j => us (fd.offset + j)) h1 h2 (fun j c hc => ?_) (fun j c hc => ?_) (fun j c hc => ?_) <;> rw [List.getElem?_drop] at hc
          · rw [Nat.add_assoc]; exact h3 _ _ hc
          · exact h4 _ _ hc
          · exact h5 _ _ hc

/-! ### An element's address -/
def iaddrA (P : Program) (rows : Nm → Option Row) (t : TypeId) (x i : AV) : Option AV :=
  match telem P t with
  | some e => match tsz P e with
    | some s => match x, i with
      | .tr g elems, .int _ k => if 0 ≤ k then match elems[k.toNat]? with
          | some e => if e.length = s then some (.tptr g e) else none
          | none => none
        else none
      | .sl n v off len, .int _ k => if 0 ≤ k ∧ k < len then match rows n with
          | some r => if r.ver = v ∧ r.esz = s then some (.ptr n v (off + k.toNat) 0) else none
          | none => none
        else none
      | _, _ => none
    | none => none
  | none => none

theorem iaddrA_ok {h : Hp} {w : World} (R : Rel mu pr h w) {t : TypeId} {x i r : AV} {u v : Value} (hu : VR mu pr w.heap x u) (hv : VR mu pr w.heap i v) (he : iaddrA P h.rows t x i = some r) :
    ∃ z, (Instr.indexAt t u v).run P w = .ok z w ∧ VR mu pr w.heap r z := by
  unfold iaddrA at he
  split at he
  case h_2 => simp at he
  case h_1 e ht =>
    have hd := telem_inv ht
    split at he
    case h_2 => simp at he
    case h_1 s hs =>
      split at he
      case h_3 => simp at he
      case h_1 g elems kk k =>
        split at he
        case isFalse => simp at he
        case isTrue hk0 =>
          split at he
          case h_2 => simp at he
          case h_1 el hel =>
            split at he
            case isFalse => simp at he
            case isTrue hes =>
              simp only [Option.some.injEq] at he
              subst he
              cases hv
              have hlt : k.toNat < elems.length := (List.getElem?_eq_some_iff.1 hel).1
              cases hu with
              | tr0 _ a cap => simp at hlt
              | tr _ b o cap esz arr ty fr _ us h1 h2 h3 h4 h5 h6 h7 =>
                have hesz : esz = s := by rw [← hes]; exact (h4 _ _ hel).symm
                subst hesz
                refine ⟨.pointer (some ⟨b, o + k.toNat * esz, none⟩), ?_, ?_⟩
                · have hc : 0 ≤ k ∧ k < (elems.length : Int) := ⟨hk0, by omega⟩
                  simp only [Instr.indexAt, asIntOf, Sem.run_bind, Sem.run_pure, Result.andThen_ok, run_underlying hd]
                  simp [hc, run_sizeOf' hs, Addr.add_lit]
                · exact .tptr g b _ arr ty fr _ (fun j => us k.toNat j) h1 h2 (fun j c hc => h5 _ _ _ _ hel hc) (fun j c hc => h6 _ _ _ _ hel hc) (fun j c hc => h7 _ _ _ _ hel hc)
      case h_2 n ver off len kk k =>
        split at he
        case isFalse => simp at he
        case isTrue hk =>
          split at he
          case h_2 => simp at he
          case h_1 row hrow =>
            split at he
            case isFalse => simp at he
            case isTrue hve =>
              simp only [Option.some.injEq] at he
              subst he
              cases hv
              cases hu with
              | sl _ _ _ _ cap ao l arr ty fr h1 h2 h3 h4 h5 h6 h7 h8 =>
                obtain ⟨l', arr', ty', hm, hnp, hb, he1, he2, _⟩ := R.row n row hrow
                rw [hve.1, h1] at hm
                cases hm
                have hao := h8 (by omega)
                refine ⟨.pointer (some ⟨l.b, l.o + (off + k.toNat) * l.esz + 0, none⟩), ?_, .ptr _ _ _ _ l h1⟩
                simp only [Instr.indexAt, asIntOf, Sem.run_bind, Sem.run_pure, Result.andThen_ok, run_underlying hd]
                simp [hk, run_sizeOf' hs, Addr.add_lit, hao, ← hve.2, he1, Nat.add_mul, Nat.add_assoc]

/-! ### A byte of a string -/
def indexA (P : Program) (t : TypeId) (x i : AV) : Option AV :=
  match P.underlying t, x, i with
  | some .string, .str s, .int _ k => match (if 0 ≤ k then s[k.toNat]? else none) with
    | some b => some (.int .u8 b.toNat)
    | none => none
  | _, _, _ => none

theorem indexA_ok (w : World) {t : TypeId} {x i r : AV} {u v : Value} (hu : VR mu pr hp x u) (hv : VR mu pr hp i v) (he : indexA P t x i = some r) :
    ∃ z, (Instr.index t u v).run P w = .ok z w ∧ VR mu pr hp r z := by
  unfold indexA at he
  split at he
  case h_2 => simp at he
  case h_1 s kk k hd =>
    cases hu
    cases hv
    split at he
    case h_2 => simp at he
    case h_1 b hb =>
      simp only [Option.some.injEq] at he
      subst he
      refine ⟨.int .u8 b.toNat, ?_, by constructor⟩
      simp only [Instr.index, asIntOf, Sem.run_bind, Sem.run_pure, Result.andThen_ok, run_underlying hd, hb]

/-! ### A piece -/
def bnd : Option AV → Nat → Option Nat
  | none, d => some d
  | some (.int _ k), _ => if 0 ≤ k then some k.toNat else none
  | some _, _ => none

def sliceA (P : Program) (rows : Nm → Option Row) (t : TypeId) (x : AV) (lo hi : Option AV) (mx : Bool) : Option AV :=
  if mx then none else match P.underlying t, x with
  | some .string, .str s => match bnd lo 0, bnd hi s.size with
    | some l, some h => if l ≤ h ∧ h ≤ s.size then some (.str (s.extract l h)) else none
    | _, _ => none
  | some (.slice e), .nilsl => match tsz P e, bnd lo 0, bnd hi 0 with
    | some _, some 0, some 0 => some .nilsl
    | _, _, _ => none
  | some (.slice e), .tr g elems => match tsz P e, bnd lo 0, bnd hi elems.length with
    | some s, some l, some h => if l ≤ h ∧ h ≤ elems.length then match (elems.take h).drop l with
        | [] => some (.tr g [])
        | e :: es => if e.length = s then some (.tr g (e :: es)) else none
      else none
    | _, _, _ => none
  | some (.slice e), .sl n v off len => match tsz P e, bnd lo 0, bnd hi len, rows n with
    | some s, some l, some h, some r => if l ≤ h ∧ off + h ≤ r.elems.length ∧ r.ver = v ∧ r.esz = s then some (.sl n v (off + l) (h - l)) else none
    | _, _, _, _ => none
  | _, _ => none

theorem bounds_run (w : World) {lo hi : Option Operand} {ρ : Operand → AV} {σ : Operand → Value} (hρ : ∀ x, VR mu pr hp (ρ x) (σ x)) {isS : Bool} {len cap l h : Nat} (hl : bnd (lo.map ρ) 0 = some l) (hh : bnd (hi.map ρ) len = some h)
    (h1 : l ≤ h) (h2 : h ≤ cap) : (Instr.sliceBounds isS len cap (lo.map σ) (hi.map σ) none).run P w = .ok (l, h, cap) w := by
  have key : ∀ (o : Option Operand) (d n : Nat), bnd (o.map ρ) d = some n → (o = none ∧ n = d) ∨ ∃ x k, o = some x ∧ (∃ kk, σ x = .int kk k) ∧ 0 ≤ k ∧ k.toNat = n := by
    intro o d n e
    cases o with
    | none => simp [bnd] at e; exact .inl ⟨rfl, e.symm⟩
    | some x =>
      right
      have hx := hρ x
      simp only [Option.map_some] at e
      unfold bnd at e
      split at e
      case h_1 => simp at *
      case h_2 kk k hq =>
        simp only [Option.some.injEq] at hq
        rw [hq] at hx
        split at e
        case isFalse => simp at e
        case isTrue h0 =>
          simp only [Option.some.injEq] at e
          generalize hz : σ x = z at hx
          cases hx
          exact ⟨x, k, rfl, ⟨_, hz⟩, h0, e⟩
      case h_3 => simp at e
  rcases key lo 0 l hl with ⟨rfl, rfl⟩ | ⟨x, k, rfl, ⟨kk, hx⟩, h0, rfl⟩ <;> rcases key hi len h hh with ⟨rfl, rfl⟩ | ⟨y, k', rfl, ⟨kk', hy⟩, h0', rfl⟩
  · simp [Instr.sliceBounds]
  · have q : 0 ≤ k' ∧ k' ≤ (cap : Int) := ⟨h0', by omega⟩
    simp [Instr.sliceBounds, Instr.sliceBound, asIntOf, hy, q]
  · have q : 0 ≤ k ∧ k ≤ (h : Int) := ⟨h0, by omega⟩
    simp [Instr.sliceBounds, Instr.sliceBound, asIntOf, hx, q]
  · have q : 0 ≤ k' ∧ k' ≤ (cap : Int) := ⟨h0', by omega⟩
    have q' : 0 ≤ k ∧ k ≤ ((k'.toNat : Nat) : Int) := ⟨h0, by omega⟩
    simp only [Instr.sliceBounds, Instr.sliceBound, asIntOf, hx, hy, Option.map_some, Sem.run_bind, Sem.run_pure, Result.andThen_ok, if_pos q, if_pos q']

theorem sliceA_ok {h : Hp} {w : World} (R : Rel mu pr h w) {t : TypeId} {x r : AV} {u : Value} {lo hi mx : Option Operand} {ρ : Operand → AV} {σ : Operand → Value} (hρ : ∀ x, VR mu pr w.heap (ρ x) (σ x)) (hu : VR mu pr w.heap x u)
    (he : sliceA P h.rows t x (lo.map ρ) (hi.map ρ) mx.isSome = some r) : ∃ z, (Instr.sliceAt t u (lo.map σ) (hi.map σ) (mx.map σ)).run P w = .ok z w ∧ VR mu pr w.heap r z := by
  unfold sliceA at he
  split at he
  case isTrue => simp at he
  case isFalse hmx =>
    obtain rfl : mx = none := by simpa using hmx
    split at he
    case h_5 => simp at he
    case h_1 s hd =>
      split at he
      case h_2 => simp at he
      case h_1 l hh hl hhi =>
        split at he
        case isFalse => simp at he
        case isTrue hc =>
          simp only [Option.some.injEq] at he
          subst he
          cases hu
          have hb := bounds_run (P := P) w hρ (isS := false) hl hhi hc.1 hc.2
          exact ⟨_, by simp [Instr.sliceAt, Instr.slice, run_underlying hd, hb]; rfl, by constructor⟩
    case h_2 e hd =>
      split at he
      case h_2 => simp at he
      case h_1 s hs hl hhi =>
        simp only [Option.some.injEq] at he
        subst he
        cases hu
        have hb := bounds_run (P := P) w hρ (isS := true) hl hhi (Nat.le_refl 0) (Nat.le_refl 0)
        refine ⟨.slice none 0 0, ?_, .nilsl⟩
        simp [Instr.sliceAt, Instr.slice, run_underlying hd, hb, run_sizeOf' hs]
    case h_3 e g elems hd =>
      split at he
      case h_2 => simp at he
      case h_1 s l hh hs hl hhi =>
        split at he
        case isFalse => simp at he
        case isTrue hc =>
          have hrun : ∀ (a : Option Addr) (cap : Nat), elems.length ≤ cap → (Instr.sliceAt t (.slice a elems.length cap) (lo.map σ) (hi.map σ) none).run P w = .ok (.slice (if cap = l then a else a.map (·.add (l * s))) (hh - l) (cap - l)) w := by
            intro a cap hcap
            have hb := bounds_run (P := P) w hρ (isS := true) (cap := cap) hl hhi hc.1 (by omega)
            simp [Instr.sliceAt, Instr.slice, run_underlying hd, hb, run_sizeOf' hs]
          split at he
          case h_1 hnil =>
            simp only [Option.some.injEq] at he
            subst he
            have hz : hh - l = 0 := by
              have := congrArg List.length hnil
              simp at this
              omega
            cases hu with
            | tr0 _ a cap =>
              exact ⟨_, hrun a cap (by simp), by rw [hz]; exact .tr0 _ _ _⟩
            | tr _ b o cap esz arr ty fr _ us g1 g2 g3 g4 g5 g6 g7 =>
              exact ⟨_, hrun _ cap g3, by rw [hz]; exact .tr0 _ _ _⟩
          case h_2 e1 es hcons =>
            split at he
            case isFalse => simp at he
            case isTrue hes =>
              simp only [Option.some.injEq] at he
              subst he
              have hlen : es.length + 1 = hh - l := by
                have := congrArg List.length hcons
                simp at this
                omega
              have hget : ∀ (i : Nat) (c : List AV), (e1 :: es)[i]? = some c → elems[l + i]? = some c := by
                intro i c hi
                rw [← hcons, List.getElem?_drop, List.getElem?_take] at hi
                split at hi
                · exact hi
                · simp at hi
              cases hu with
              | tr0 _ a cap => simp at hc; omega
              | tr _ b o cap esz arr ty fr _ us g1 g2 g3 g4 g5 g6 g7 =>
                have hez : esz = s := by rw [← hes]; exact (g4 _ _ (hget 0 e1 rfl)).symm
                subst hez
                refine ⟨_, hrun _ cap g3, ?_⟩
                rw [if_neg (by omega), ← hlen]
                simp only [Option.map_some, Addr.add_lit]
                refine .tr g b _ _ esz arr ty fr (e1 :: es) (fun i j => us (l + i) j) g1 g2 (by simp; omega) (fun i e hi => g4 _ _ (hget i e hi)) (fun i e j c hi hj => ?_) (fun i e j c hi hj => g6 _ _ _ _ (hget i e hi) hj) (fun i e j c hi hj => g7 _ _ _ _ (hget i e hi) hj)
                have := g5 _ _ _ _ (hget i e hi) hj
                rw [← this]
                congr 1
                rw [Nat.add_mul]
                omega
    case h_4 e n v off len hd =>
      split at he
      case h_2 => simp at he
      case h_1 s l hh row hs hl hhi hrow =>
        split at he
        case isFalse => simp at he
        case isTrue hc =>
          simp only [Option.some.injEq] at he
          subst he
          obtain ⟨c1, c2, c3, c4⟩ := hc
          cases hu with
          | sl _ _ _ _ cap ao loc arr ty fr g1 g2 g3 g4 g5 g6 g7 g8 =>
            obtain ⟨l', arr', ty', hm, hnp, hb, he1, he2, _⟩ := R.row n row hrow
            rw [c3, g1] at hm
            cases hm
            have hbd := bounds_run (P := P) w hρ (isS := true) (cap := cap) hl hhi c1 (by omega)
            refine ⟨_, by simp [Instr.sliceAt, Instr.slice, run_underlying hd, hbd, run_sizeOf' hs]; rfl, ?_⟩
            have hsp : off + l + (cap - l) = off + cap := by omega
            split
            · rename_i hcl
              exact .sl _ _ _ _ _ _ loc arr ty fr g1 g2 (by omega) (by omega) (by omega) (by rw [hsp]; exact g6) (by omega) (fun h => by omega)
            · rename_i hcl
              simp only [Option.map_some, Addr.add_lit]
              refine .sl _ _ _ _ _ _ loc arr ty fr g1 g2 (by omega) (by omega) (by omega) (by rw [hsp]; exact g6) (by omega) (fun h => ?_)
              rw [g8 (by omega), ← c4, he1, Nat.add_mul]
              omega

end
end Go.Proofs.Ytfgaoojogididaa.AM
