/-
  ABSTRACT VALUES over the model (own framework, part 2): operations that touch no memory, slices and strings read, calls.
-/
import Derived.Test.YtljgkjkdmoejfaaAvCore
set_option linter.unusedVariables false
set_option linter.unusedSimpArgs false
namespace Go.Proofs.YtljgkjkdmoejfaaAv
open Go Go.RowKit

/-- A binary operation on whole numbers. -/
def ibin (op : BinOp) (k : IntKind) (a b : Int) : Option AV :=
  match op with
  | .add => some (.p (.int k (k.wrap (a + b))))
  | .sub => some (.p (.int k (k.wrap (a - b))))
  | .mul => some (.p (.int k (k.wrap (a * b))))
  | .quo => if b = 0 then none else some (.p (.int k (k.wrap (a.tdiv b))))
  | .rem => if b = 0 then none else some (.p (.int k (a.tmod b)))
  | .and => some (.p (.int k (bits .and k a b)))
  | .or => some (.p (.int k (bits .or k a b)))
  | .xor => some (.p (.int k (bits .xor k a b)))
  | .andNot => some (.p (.int k (bits .andNot k a b)))
  | .eql => some (.p (.bool (a == b)))
  | .neq => some (.p (.bool (a != b)))
  | .lss => some (.p (.bool (decide (a < b))))
  | .leq => some (.p (.bool (decide (a ≤ b))))
  | .gtr => some (.p (.bool (decide (a > b))))
  | .geq => some (.p (.bool (decide (a ≥ b))))
  | _ => none

def sbin (op : BinOp) (a b : ByteArray) : Option AV :=
  match op with
  | .eql => some (.p (.bool (decide (a = b))))
  | .neq => some (.p (.bool (!decide (a = b))))
  | _ => none

def ishift (op : BinOp) (k : IntKind) (a b : Int) : Option AV :=
  match op with
  | .shl => if b < 0 then none else some (.p (.int k (k.wrap (a * 2 ^ (min b.toNat k.bits)))))
  | .shr => if b < 0 then none else some (.p (.int k (a.fdiv (2 ^ (min b.toNat k.bits)))))
  | _ => none

/-- Operations whose value is told by their operands alone, whatever the world and the types. -/
def fv (t : TM) : Op → Option AV
  | .move x => some (ev t x)
  | .assign x => some (ev t x)
  | .pick c a b =>
    match ev t c with
    | .p (.bool x) =>
      match x with
      | true => some (ev t a)
      | false => some (ev t b)
    | _ => none
  | .binOp op _ x y _ =>
    match ev t x with
    | .p (.int k a) =>
      match ev t y with
      | .p (.int k' b) =>
        match op with
        | .shl => ishift .shl k a b
        | .shr => ishift .shr k a b
        | op => if k = k' then ibin op k a b else none
      | _ => none
    | .p (.string a) =>
      match ev t y with
      | .p (.string b) => sbin op a b
      | _ => none
    | _ => none
  | .unOp op _ x =>
    match op, ev t x with
    | .not, .p (.bool b) => some (.p (.bool (!b)))
    | .neg, .p (.int k a) => some (.p (.int k (k.wrap (-a))))
    | _, _ => none
  | .extract x i =>
    match ev t x with
    | .tup cs => cs[i]?
    | _ => none
  | .nilCheck x =>
    match ev t x with
    | .ptr g o => some (.ptr g o)
    | .fp cs => some (.fp cs)
    | _ => none
  | _ => none

theorem byteArray_toList_inj (a b : ByteArray) : (a.toList == b.toList) = decide (a = b) := by
  have h : a.toList = b.toList ↔ a = b := by
    rw [ByteArray.toList_eq, ByteArray.toList_eq]
    constructor
    · intro h; apply ByteArray.ext; exact Array.toList_inj.1 h
    · rintro rfl; rfl
  rw [Bool.eq_iff_iff]
  simp [h]

theorem ibin_run {P : Program} {op : BinOp} {k : IntKind} {a b : Int} {v : AV} (xt : TypeId) (x y : Operand) (h : ibin op k a b = some v) (w : World) :
    ∃ z, (do eqGuard op xt x y (.int k a) (.int k b); binOp op xt (.int k a) (.int k b) : Sem Value).run P w = .ok z w ∧ ∀ L, VS L w v z := by
  have hg : (eqGuard op xt x y (.int k a) (.int k b)).run P w = .ok () w := by
    unfold eqGuard
    split <;> simp
  unfold ibin at h
  cases op <;> simp only [Option.some.injEq, reduceCtorEq] at h <;> (try split at h) <;> (try simp only [Option.some.injEq, reduceCtorEq] at h) <;> (try subst h) <;>
    first
      | (simp [hg, binOp, Op.intArith, Op.intCmp, Op.intDiv, VS, *]; done)
      | (simp only [Sem.run_bind, hg, Result.andThen_ok, binOp, ne_eq, not_true_eq_false, if_false, intBits_and, intBits_or, intBits_xor, intBits_andNot, Sem.run_pure, reduceIte]; simp [VS]; done)

theorem ishift_run {P : Program} {op : BinOp} {k k' : IntKind} {a b : Int} {v : AV} (xt : TypeId) (x y : Operand) (h : ishift op k a b = some v) (w : World) :
    ∃ z, (do eqGuard op xt x y (.int k a) (.int k' b); binOp op xt (.int k a) (.int k' b) : Sem Value).run P w = .ok z w ∧ ∀ L, VS L w v z := by
  unfold ishift at h
  cases op <;> simp only [Option.some.injEq, reduceCtorEq] at h <;> split at h <;> simp only [Option.some.injEq, reduceCtorEq] at h <;> subst h <;>
    simp [eqGuard, binOp, Op.shift, VS, *]

theorem sbin_run {P : Program} {op : BinOp} {a b : ByteArray} {v : AV} (xt : TypeId) (x y : Operand) (h : sbin op a b = some v) (w : World) :
    ∃ z, (do eqGuard op xt x y (.string a) (.string b); binOp op xt (.string a) (.string b) : Sem Value).run P w = .ok z w ∧ ∀ L, VS L w v z := by
  have hg : (eqGuard op xt x y (.string a) (.string b)).run P w = .ok () w := by
    unfold eqGuard
    split <;> simp
  unfold sbin at h
  cases op <;> simp only [Option.some.injEq, reduceCtorEq] at h <;> subst h <;> simp [hg, binOp, Op.stringOp, VS, byteArray_toList_inj]

theorem fv_run {P : Program} {N : Nat} {t : TM} {L : GH} {a : Act} {w : World} (s : Sim N t L a w) {op : Op} {v : AV} (h : fv t op = some v) (d : Option Nat) (ty : TypeId) (pos : String) (af : Array Edge) :
    ∃ z, (execOp a.eval ⟨d, op, ty, pos, af, none⟩).run P w = .ok (.value z) w ∧ VS L w v z := by
  cases op with
  | move x =>
    simp only [fv, Option.some.injEq] at h
    subst h
    exact ⟨_, by simp [execOp], s.ev x⟩
  | assign x =>
    simp only [fv, Option.some.injEq] at h
    subst h
    exact ⟨_, by simp [execOp], s.ev x⟩
  | pick c x y =>
    simp only [fv] at h
    split at h
    · rename_i b hc
      have hv := s.ev c
      rw [hc] at hv
      simp only [VS] at hv
      split at h <;> simp only [Option.some.injEq] at h <;> subst h
      · exact ⟨_, by simp [execOp, hv, asBool], s.ev x⟩
      · exact ⟨_, by simp [execOp, hv, asBool], s.ev y⟩
    · cases h
  | binOp op xt x y yt =>
    simp only [fv] at h
    split at h
    · rename_i k i hx
      split at h
      · rename_i k' j hy
        have h1 := s.ev x
        have h2 := s.ev y
        rw [hx] at h1
        rw [hy] at h2
        simp only [VS] at h1 h2
        split at h
        · obtain ⟨z, hz, hv⟩ := ishift_run (P := P) (k' := k') xt x y h w
          refine ⟨z, ?_, hv L⟩
          simp only [execOp, h1, h2, Sem.run_bind] at hz ⊢
          rw [hz]; rfl
        · obtain ⟨z, hz, hv⟩ := ishift_run (P := P) (k' := k') xt x y h w
          refine ⟨z, ?_, hv L⟩
          simp only [execOp, h1, h2, Sem.run_bind] at hz ⊢
          rw [hz]; rfl
        · split at h
          · rename_i hk
            subst hk
            obtain ⟨z, hz, hv⟩ := ibin_run (P := P) xt x y h w
            refine ⟨z, ?_, hv L⟩
            simp only [execOp, h1, h2, Sem.run_bind] at hz ⊢
            rw [hz]; rfl
          · cases h
      · cases h
    · rename_i i hx
      split at h
      · rename_i j hy
        have h1 := s.ev x
        have h2 := s.ev y
        rw [hx] at h1
        rw [hy] at h2
        simp only [VS] at h1 h2
        obtain ⟨z, hz, hv⟩ := sbin_run (P := P) xt x y h w
        refine ⟨z, ?_, hv L⟩
        simp only [execOp, h1, h2, Sem.run_bind] at hz ⊢
        rw [hz]; rfl
      · cases h
    · cases h
  | unOp op xt x =>
    simp only [fv] at h
    split at h
    · rename_i b hx
      have h1 := s.ev x
      rw [hx] at h1
      simp only [VS] at h1
      simp only [Option.some.injEq] at h
      subst h
      exact ⟨.bool (!b), by simp [execOp, h1, Op.unary], by simp [VS]⟩
    · rename_i k b hx
      have h1 := s.ev x
      rw [hx] at h1
      simp only [VS] at h1
      simp only [Option.some.injEq] at h
      subst h
      exact ⟨.int k (k.wrap (-b)), by simp [execOp, h1, Op.unary, Op.intArith], by simp [VS]⟩
    · cases h
  | extract x i =>
    simp only [fv] at h
    split at h
    · rename_i cs hx
      have h1 := s.ev x
      rw [hx] at h1
      simp only [VS] at h1
      obtain ⟨vs, he, hv⟩ := h1
      obtain ⟨z, hz, hv⟩ := hv.get i v h
      refine ⟨z, ?_, hv⟩
      have hz' : vs.toArray[i]? = some z := by simpa using hz
      simp [execOp, he, Instr.extract, hz']
    · cases h
  | nilCheck x =>
    simp only [fv] at h
    split at h
    · rename_i g o hx
      have h1 := s.ev x
      rw [hx] at h1
      simp only [Option.some.injEq] at h
      subst h
      refine ⟨a.eval x, ?_, h1⟩
      simp only [VS] at h1
      simp [execOp, h1]
    · rename_i cs hx
      have h1 := s.ev x
      rw [hx] at h1
      simp only [Option.some.injEq] at h
      subst h
      refine ⟨a.eval x, ?_, h1⟩
      simp only [VS] at h1
      obtain ⟨ad, vs, he, -⟩ := h1
      simp [execOp, he]
    · cases h
  | _ => simp [fv] at h

/-- A destination that lies in the frame. -/
def dok (N : Nat) : Option Nat → Bool
  | some d => decide (d < N)
  | none => true
theorem dok_lt {N : Nat} {d : Option Nat} (h : dok N d = true) : ∀ i, d = some i → i < N := by
  rintro i rfl
  simpa [dok] using h

section
variable {P : Program} {N : Nat} {ops : Array Oper} {Q : Exit → TM → GH → Prop} {d : Option Nat} {ty : TypeId} {pos : String} {af : Array Edge} {os : List Oper} {t : TM} {L : GH}

theorem JO.pure {op : Op} {v : AV} (h : fv t op = some v) (hd : dok N d = true) (k : JO P N ops Q os (t.putO d v) L) : JO P N ops Q (⟨d, op, ty, pos, af, none⟩ :: os) t L :=
  JO.value (dok_lt hd) fun a w s => by
    obtain ⟨z, hz, hv⟩ := fv_run (P := P) s h d ty pos af
    exact ⟨z, w, v, L, hz, Ext.refl _ _, s.rows, hv, k⟩

/-- The same world and rows, a value by its run. -/
theorem JO.still {op : Op} {v : AV} (hd : dok N d = true) (h : ∀ a w, Sim N t L a w → ∃ x, (execOp a.eval ⟨d, op, ty, pos, af, none⟩).run P w = .ok (.value x) w ∧ VS L w v x)
    (k : JO P N ops Q os (t.putO d v) L) : JO P N ops Q (⟨d, op, ty, pos, af, none⟩ :: os) t L :=
  JO.value (dok_lt hd) fun a w s => by
    obtain ⟨x, hx, hv⟩ := h a w s
    exact ⟨x, w, v, L, hx, Ext.refl _ _, s.rows, hv, k⟩

theorem JO.convInt {src dst : TypeId} {x : Operand} {u : TypeDesc} {k k' : IntKind} {i : Int} (hs : P.underlying src = some u) (hdt : P.underlying dst = some (.int k)) (hx : ev t x = .p (.int k' i)) (hd : dok N d = true)
    (K : JO P N ops Q os (t.putO d (.p (.int k (k.wrap i)))) L) : JO P N ops Q (⟨d, .convert src dst x, ty, pos, af, none⟩ :: os) t L :=
  JO.still hd (fun a w s => by
    have h1 := s.ev x
    rw [hx] at h1
    simp only [VS] at h1
    exact ⟨.int k (k.wrap i), by simp [execOp, h1, convert, run_underlying hs, run_underlying hdt, Conv.intToInt], by simp [VS]⟩) K

theorem JO.lenStr {T : TypeId} {x : Operand} {b : ByteArray} (hT : P.underlying T = some .string) (hx : ev t x = .p (.string b)) (hd : dok N d = true)
    (K : JO P N ops Q os (t.putO d (.p (.int .i64 b.size))) L) : JO P N ops Q (⟨d, .call { callee := .builtin .len, args := #[x], argTypes := #[T] }, ty, pos, af, none⟩ :: os) t L :=
  JO.still hd (fun a w s => by
    have h1 := s.ev x
    rw [hx] at h1
    simp only [VS] at h1
    exact ⟨goInt b.size, by simp [execOp, h1, resolve, invoke, builtin, Builtin.len_, run_underlying hT], by simp [VS, goInt]⟩) K

def imin (x y : Int) : Int := if y < x then y else x
def imax (x y : Int) : Int := if y > x then y else x
theorem JO.min2 {ts : Array TypeId} {x y : Operand} {k k' : IntKind} {i j : Int} (hx : ev t x = .p (.int k i)) (hy : ev t y = .p (.int k' j)) (hd : dok N d = true)
    (K : JO P N ops Q os (t.putO d (.p (.int k (imin i j)))) L) : JO P N ops Q (⟨d, .call { callee := .builtin .min, args := #[x, y], argTypes := ts }, ty, pos, af, none⟩ :: os) t L :=
  JO.still hd (fun a w s => by
    have h1 := s.ev x
    have h2 := s.ev y
    rw [hx] at h1
    rw [hy] at h2
    simp only [VS] at h1 h2
    exact ⟨.int k (imin i j), by simp [execOp, h1, h2, resolve, invoke, builtin, Builtin.min_, Builtin.min2, imin], by simp [VS]⟩) K
theorem JO.min3 {ts : Array TypeId} {x y z : Operand} {k k' k'' : IntKind} {i j l : Int} (hx : ev t x = .p (.int k i)) (hy : ev t y = .p (.int k' j)) (hz : ev t z = .p (.int k'' l)) (hd : dok N d = true)
    (K : JO P N ops Q os (t.putO d (.p (.int k (imin (imin i j) l)))) L) : JO P N ops Q (⟨d, .call { callee := .builtin .min, args := #[x, y, z], argTypes := ts }, ty, pos, af, none⟩ :: os) t L :=
  JO.still hd (fun a w s => by
    have h1 := s.ev x
    have h2 := s.ev y
    have h3 := s.ev z
    rw [hx] at h1
    rw [hy] at h2
    rw [hz] at h3
    simp only [VS] at h1 h2 h3
    exact ⟨.int k (imin (imin i j) l), by simp [execOp, h1, h2, h3, resolve, invoke, builtin, Builtin.min_, Builtin.min2, imin]; rfl, by simp [VS]⟩) K
theorem JO.max2 {ts : Array TypeId} {x y : Operand} {k k' : IntKind} {i j : Int} (hx : ev t x = .p (.int k i)) (hy : ev t y = .p (.int k' j)) (hd : dok N d = true)
    (K : JO P N ops Q os (t.putO d (.p (.int k (imax i j)))) L) : JO P N ops Q (⟨d, .call { callee := .builtin .max, args := #[x, y], argTypes := ts }, ty, pos, af, none⟩ :: os) t L :=
  JO.still hd (fun a w s => by
    have h1 := s.ev x
    have h2 := s.ev y
    rw [hx] at h1
    rw [hy] at h2
    simp only [VS] at h1 h2
    exact ⟨.int k (imax i j), by simp [execOp, h1, h2, resolve, invoke, builtin, Builtin.max_, Builtin.max2, imax], by simp [VS]⟩) K

/-- How many elements a slice is known to have. -/
def slen : AV → Option Nat
  | .sl _ _ _ n => some n
  | .fz n _ => some n
  | .p (.slice none n _) => some n
  | _ => none

theorem slen_run {L : GH} {w : World} {v : AV} {n : Nat} {x : Value} (h : slen v = some n) (hv : VS L w v x) : ∃ a c, x = .slice a n c := by
  unfold slen at h
  split at h
  · obtain rfl := Option.some.inj h
    simp only [VS] at hv
    obtain ⟨a, cap, rfl, _⟩ := hv
    exact ⟨a, cap, rfl⟩
  · obtain rfl := Option.some.inj h
    simp only [VS] at hv
    obtain ⟨a, cap, vs, rfl, _⟩ := hv
    exact ⟨a, cap, rfl⟩
  · obtain rfl := Option.some.inj h
    exact ⟨_, _, by simpa [VS] using hv⟩
  · cases h

theorem JO.lenSl {T e : TypeId} {x : Operand} {n : Nat} (hT : P.underlying T = some (.slice e)) (hx : slen (ev t x) = some n) (hd : dok N d = true)
    (K : JO P N ops Q os (t.putO d (.p (.int .i64 n))) L) : JO P N ops Q (⟨d, .call { callee := .builtin .len, args := #[x], argTypes := #[T] }, ty, pos, af, none⟩ :: os) t L :=
  JO.still hd (fun a w s => by
    obtain ⟨ad, c, h1⟩ := slen_run hx (s.ev x)
    exact ⟨goInt n, by simp [execOp, h1, resolve, invoke, builtin, Builtin.len_, run_underlying hT], by simp [VS, goInt]⟩) K

/-- A byte of a string. -/
def sbyte (b : ByteArray) (i : Int) : Int := ((b.data.toList.getD i.toNat 0).toNat : Int)

theorem JO.idxStr {T : TypeId} {x i : Operand} {b : ByteArray} {k : IntKind} {j : Int} (hT : P.underlying T = some .string) (hx : ev t x = .p (.string b)) (hi : ev t i = .p (.int k j)) (hd : dok N d = true)
    (h0 : 0 ≤ j) (h1 : j < b.size) (K : JO P N ops Q os (t.putO d (.p (.int .u8 (sbyte b j)))) L) : JO P N ops Q (⟨d, .index T x i, ty, pos, af, none⟩ :: os) t L :=
  JO.still hd (fun a w s => by
    have e1 := s.ev x
    have e2 := s.ev i
    rw [hx] at e1
    rw [hi] at e2
    simp only [VS] at e1 e2
    have hlt : j.toNat < b.size := by omega
    have hb : b[j.toNat]? = some (b[j.toNat]'hlt) := by simp [hlt]
    refine ⟨.int .u8 (b[j.toNat]'hlt).toNat, by simp [execOp, e1, e2, Instr.index, asIntOf, run_underlying hT, h0, hb], ?_⟩
    simp only [VS, sbyte]
    have hl : j.toNat < b.data.toList.length := by simpa using hlt
    rw [List.getD_eq_getElem?_getD, List.getElem?_eq_getElem hl]
    rfl) K

theorem run_bound {P : Program} {w : World} {k : IntKind} {i : Int} {y : Nat} {c : BoundsCode} (h0 : 0 ≤ i) (h1 : i ≤ y) : (Instr.sliceBound (.int k i) y c).run P w = .ok i.toNat w := by
  simp [Instr.sliceBound, asIntOf, h0, h1]

/-- A string cut: from l up to h. -/
theorem JO.cutStr {T : TypeId} {x : Operand} {lo hi : Option Operand} {b : ByteArray} {l h : Int} (hT : P.underlying T = some .string) (hx : ev t x = .p (.string b))
    (hl : match lo with | some i => ∃ k, ev t i = .p (.int k l) | none => l = 0) (hh : match hi with | some i => ∃ k, ev t i = .p (.int k h) | none => h = b.size) (hd : dok N d = true)
    (h0 : 0 ≤ l) (h1 : l ≤ h) (h2 : h ≤ b.size) (K : JO P N ops Q os (t.putO d (.p (.string (b.extract l.toNat h.toNat)))) L) : JO P N ops Q (⟨d, .slice T x lo hi none, ty, pos, af, none⟩ :: os) t L :=
  JO.still hd (fun a w s => by
    have e1 := s.ev x
    rw [hx] at e1
    simp only [VS] at e1
    refine ⟨.string (b.extract l.toNat h.toNat), ?_, by simp [VS]⟩
    have hc : ((h.toNat : Nat) : Int) = h := by omega
    cases lo with
    | none =>
      simp only at hl
      subst hl
      cases hi with
      | none =>
        simp only at hh
        subst hh
        simp [execOp, e1, Instr.sliceAt, run_underlying hT, Instr.slice, Instr.sliceBounds]
      | some i =>
        obtain ⟨k, hh⟩ := hh
        have e2 := s.ev i
        rw [hh] at e2
        simp only [VS] at e2
        simp [execOp, e1, e2, Instr.sliceAt, run_underlying hT, Instr.slice, Instr.sliceBounds, run_bound (show 0 ≤ h by omega) h2]
    | some j =>
      obtain ⟨k', hl⟩ := hl
      have e3 := s.ev j
      rw [hl] at e3
      simp only [VS] at e3
      cases hi with
      | none =>
        simp only at hh
        subst hh
        simp [execOp, e1, e3, Instr.sliceAt, run_underlying hT, Instr.slice, Instr.sliceBounds, run_bound h0 h1]
      | some i =>
        obtain ⟨k, hh⟩ := hh
        have e2 := s.ev i
        rw [hh] at e2
        simp only [VS] at e2
        simp [execOp, e1, e2, e3, Instr.sliceAt, run_underlying hT, Instr.slice, Instr.sliceBounds, run_bound (show 0 ≤ h by omega) h2, run_bound (y := h.toNat) h0 (by omega)]) K

/-- Two strings, one behind the other. -/
theorem JO.cat {T T' : TypeId} {x y : Operand} {a b : ByteArray} (hx : ev t x = .p (.string a)) (hy : ev t y = .p (.string b)) (hd : dok N d = true) (hn : a.size + b.size ≤ 9223372036854775807)
    (K : JO P N ops Q os (t.putO d (.p (.string (a ++ b)))) L) : JO P N ops Q (⟨d, .binOp .add T x y T', ty, pos, af, none⟩ :: os) t L :=
  JO.still hd (fun c w s => by
    have e1 := s.ev x
    have e2 := s.ev y
    rw [hx] at e1
    rw [hy] at e2
    simp only [VS] at e1 e2
    refine ⟨.string (a ++ b), ?_, by simp [VS]⟩
    have hg : (eqGuard .add T x y (.string a) (.string b)).run P w = .ok () w := by simp [eqGuard]
    have hlt : ¬ (((a.size + b.size : Nat) : Int) > IntKind.i64.max) := by simp [IntKind.max, IntKind.signed, IntKind.bits]; omega
    simp only [execOp, e1, e2, Sem.run_bind, hg, Result.andThen_ok, binOp, Op.stringOp]
    rw [if_neg hlt]
    simp) K

theorem equalIn_bool {P : Program} {T : TypeId} (hT : P.underlying T = some .bool) (a b : Bool) (w : World) (n : Nat) : (Op.equalIn (n + 1) T (.bool a) (.bool b)).run P w = .ok (a == b) w := by
  simp only [Op.equalIn, Sem.run_bind, run_underlying hT, Result.andThen_ok]
  rfl
theorem equal_bool {P : Program} {T : TypeId} (hT : P.underlying T = some .bool) (a b : Bool) (w : World) : (Op.equal T (.bool a) (.bool b)).run P w = .ok (a == b) w := equalIn_bool hT a b w 9999

theorem JO.eqBool {T T' : TypeId} {x y : Operand} {a b : Bool} (hT : P.underlying T = some .bool) (hx : ev t x = .p (.bool a)) (hy : ev t y = .p (.bool b)) (hd : dok N d = true)
    (K : JO P N ops Q os (t.putO d (.p (.bool (a == b)))) L) : JO P N ops Q (⟨d, .binOp .eql T x y T', ty, pos, af, none⟩ :: os) t L :=
  JO.still hd (fun c w s => by
    have e1 := s.ev x
    have e2 := s.ev y
    rw [hx] at e1
    rw [hy] at e2
    simp only [VS] at e1 e2
    refine ⟨.bool (a == b), ?_, by simp [VS]⟩
    have hg : ∀ o, (eqGuard o T x y (.bool a) (.bool b)).run P w = .ok () w := by intro o; unfold eqGuard; split <;> simp
    simp [execOp, e1, e2, hg, binOp, equal_bool hT]) K

theorem JO.neBool {T T' : TypeId} {x y : Operand} {a b : Bool} (hT : P.underlying T = some .bool) (hx : ev t x = .p (.bool a)) (hy : ev t y = .p (.bool b)) (hd : dok N d = true)
    (K : JO P N ops Q os (t.putO d (.p (.bool (!(a == b))))) L) : JO P N ops Q (⟨d, .binOp .neq T x y T', ty, pos, af, none⟩ :: os) t L :=
  JO.still hd (fun c w s => by
    have e1 := s.ev x
    have e2 := s.ev y
    rw [hx] at e1
    rw [hy] at e2
    simp only [VS] at e1 e2
    refine ⟨.bool (!(a == b)), ?_, by simp [VS]⟩
    have hg : ∀ o, (eqGuard o T x y (.bool a) (.bool b)).run P w = .ok () w := by intro o; unfold eqGuard; split <;> simp
    simp [execOp, e1, e2, hg, binOp, equal_bool hT]) K

end

/-- A function's contract: called with values that are as told, over own blocks as told, it returns a value and own blocks as told; what is not told stays. -/
def JF (P : Program) (f : FuncId) (args : List AV) (L : GH) (R : AV → GH → Prop) : Prop :=
  ∀ (w : World) (xs : List Value), Glb L w → VSL L w args xs → (∀ g r, L g = some r → RowR L w g r) →
    Calls P f xs.toArray w fun e w' => ∃ v x L', e = .returned x ∧ VS L' w' v x ∧ (∀ g r, L' g = some r → RowR L' w' g r) ∧ Ext L w L' w' ∧ R v L'

theorem JF.mono {P : Program} {f : FuncId} {args : List AV} {L : GH} {R R' : AV → GH → Prop} (h : JF P f args L R) (hr : ∀ v L', R v L' → R' v L') : JF P f args L R' :=
  fun w xs hg hv hw => (h w xs hg hv hw).mono fun e w' ⟨v, x, L', he, hv, hw, hx, r⟩ => ⟨v, x, L', he, hv, hw, hx, hr _ _ r⟩

/-- The slots at a call's begin. -/
def tm0 (args : List AV) : TM := fun i => args.getD i .top

/-- Behind the body: what the function's results are. -/
def outs : List ResultVar → TM → Option (List AV)
  | [], _ => some []
  | .tmp s :: rs, t => (outs rs t).map (t s :: ·)
  | .cell .. :: _, _ => none
def out1 : List AV → AV
  | [v] => v
  | vs => .tup vs

def JQ (rs : List ResultVar) (R : AV → GH → Prop) : Exit → TM → GH → Prop
  | .normal, t, L => ∃ vs, outs rs t = some vs ∧ R (out1 vs) L
  | .ret, t, L => ∃ vs, outs rs t = some vs ∧ R (out1 vs) L
  | _, _, _ => False

/-- What a result variable holds. -/
def readOut (a : Act) : ResultVar → Sem Value
  | .tmp t => pure (a.tmps.getD t undef)
  | .cell c ty => do loadVar ty (← asAddr (a.tmps.getD c undef))

theorem outs_run {P : Program} {N : Nat} {L : GH} {a : Act} {w : World} (t : TM) (s : Sim N t L a w) : ∀ (rs : List ResultVar) (vs : List AV), outs rs t = some vs →
    ∃ xs : List Value, (rs.mapM (readOut a)).run P w = .ok xs w ∧ VSL L w vs xs
  | [], vs, h => by
    simp only [outs, Option.some.injEq] at h
    subst h
    exact ⟨[], by simp, by simp [VSL]⟩
  | .tmp i :: rs, vs, h => by
    simp only [outs] at h
    cases ho : outs rs t with
    | none => simp [ho] at h
    | some us =>
      simp only [ho, Option.map_some, Option.some.injEq] at h
      subst h
      obtain ⟨xs, hx, hv⟩ := outs_run (P := P) t s rs us ho
      exact ⟨a.tmps.getD i undef :: xs, by simp [readOut, hx], by simp only [VSL]; exact ⟨s.tm i, hv⟩⟩
  | .cell .. :: rs, vs, h => by simp [outs] at h

theorem VSL.getD {L : GH} {w : World} : ∀ {cs : List AV} {xs : List Value}, VSL L w cs xs → ∀ i, i < cs.length → VS L w (cs.getD i .top) (xs.getD i undef) := by
  intro cs xs h i hi
  obtain ⟨v, hv, hs⟩ := h.get i (cs[i]) (by simp [hi])
  rw [List.getD_eq_getElem?_getD, List.getD_eq_getElem?_getD, hv, List.getElem?_eq_getElem hi]
  exact hs

/-- A contract out of its function's body. -/
theorem JF.body {P : Program} {f : FuncId} {fn : Func} {c : Code} {args : List AV} {L : GH} {R : AV → GH → Prop} (hf : P.funcs[f]? = some fn) (hb : fn.body = some c) (hn : args.length ≤ fn.ntmps)
    (h : J P fn.ntmps c (JQ fn.results.toList R) (tm0 args) L) : JF P f args L R := by
  intro w xs hglb hv hrows
  refine calls_of_wp hf hb ?_
  have hl := hv.length
  have s : Sim fn.ntmps (tm0 args) L { tmps := xs.toArray ++ Array.replicate (fn.ntmps - xs.toArray.size) undef, defers := [] } w := by
    refine ⟨fun i => ?_, hrows, by simp; omega, rfl, hglb⟩
    unfold tm0
    by_cases hi : i < args.length
    · have := hv.getD i hi
      have e : (xs.toArray ++ Array.replicate (fn.ntmps - xs.toArray.size) undef).getD i undef = xs.getD i undef := by
        have hx : i < xs.length := by omega
        simp [Array.getD_eq_getD_getElem?, Array.getElem?_append, hx, List.getD_eq_getElem?_getD]
      show VS L w _ ((xs.toArray ++ Array.replicate (fn.ntmps - xs.toArray.size) undef).getD i undef)
      rw [e]
      exact this
    · have e : args.getD i .top = .top := by simp [List.getD_eq_getElem?_getD, List.getElem?_eq_none (Nat.le_of_not_lt hi)]
      rw [e]
      simp [VS]
  refine wp_mono (h L w _ w (Ext.refl _ _) s) ?_
  rintro e a' w' ⟨t', L', s', x, q⟩
  have fin : (∃ vs, outs fn.results.toList t' = some vs ∧ R (out1 vs) L') → a'.defers = [] ∧ ∃ v, (results fn a'.tmps).run P w' = .ok v w' ∧
      ∃ v' x' L'', Ending.returned v = .returned x' ∧ VS L'' w' v' x' ∧ (∀ g r, L'' g = some r → RowR L'' w' g r) ∧ Ext L w L'' w' ∧ R v' L'' := by
    rintro ⟨vs, ho, hr⟩
    obtain ⟨us, hu, hv⟩ := outs_run (P := P) t' s' _ _ ho
    refine ⟨s'.df.1, if h : us.toArray.size = 1 then us.toArray[0] else .tuple us.toArray, ?_, out1 vs, _, L', rfl, ?_, s'.rows, x, hr⟩
    · have hm : (fn.results.mapM (readOut a')).run P w' = .ok us.toArray w' := by
        rw [Array.mapM_eq_mapM_toList, Sem.run_map, hu]
        simp
      have e : results fn a'.tmps = (do let vs ← fn.results.mapM (readOut a'); pure (if h : vs.size = 1 then vs[0] else .tuple vs)) := by
        unfold results
        congr 2
      rw [e, Sem.run_bind, hm]
      rfl
    · have hl := hv.length
      match vs, us, hv, hl with
      | [v], [u], hv, _ =>
        simp only [VSL] at hv
        simpa [out1] using hv.1
      | [], [], hv, _ => simpa [out1, VS] using hv
      | v :: v2 :: vs, u :: u2 :: us, hv, _ =>
        have : ¬ (u :: u2 :: us).toArray.size = 1 := by simp
        rw [dif_neg this]
        simp only [out1, VS]
        exact ⟨_, rfl, hv⟩
  cases e with
  | normal => exact fin q
  | ret => exact fin q
  | exit id => exact q.elim
  | goto l => exact q.elim
  | panic ch => exact q.elim
  | outgrown => exact q.elim

section
variable {P : Program} {N : Nat} {ops : Array Oper} {Q : Exit → TM → GH → Prop} {d : Option Nat} {ty : TypeId} {pos : String} {af : Array Edge} {os : List Oper} {t : TM} {L : GH}

theorem evs {a : Act} {w : World} (s : Sim N t L a w) : ∀ xs : List Operand, VSL L w (xs.map (ev t)) (xs.map a.eval)
  | [] => by simp [VSL]
  | x :: xs => by simp only [List.map_cons, VSL]; exact ⟨s.ev x, evs s xs⟩

theorem run_callFunc {P : Program} {f : FuncId} {fn : Func} {c : Code} (hf : P.funcs[f]? = some fn) (hb : fn.body = some c) (hr : (fn.name == "runtime.NumGoroutine") = false) (args : Array Value) (w : World) :
    (callFunc f args).run P w = .ok (.enter f args) w := by
  have hr' : ¬ (fn.name = "runtime.NumGoroutine") := by simpa using hr
  simp [callFunc, hf, hb, hr']

/-- A call of a known function. -/
theorem JO.call {f : FuncId} {fn : Func} {c : Code} {xs : List Operand} {tys : Array TypeId} {R : AV → GH → Prop} (hf : P.funcs[f]? = some fn) (hb : fn.body = some c) (hr : (fn.name == "runtime.NumGoroutine") = false)
    (hd : dok N d = true) (h : JF P f (xs.map (ev t)) L R) (K : ∀ v L', R v L' → JO P N ops Q os (t.putO d v) L') :
    JO P N ops Q (⟨d, .call { callee := .value (.func f), args := xs.toArray, argTypes := tys }, ty, pos, af, none⟩ :: os) t L := by
  refine JO.op rfl (fun _ => t) fun L0 w0 a w he hs => ?_
  have hx : (execOp a.eval ⟨d, .call { callee := .value (.func f), args := xs.toArray, argTypes := tys }, ty, pos, af, none⟩).run P w = .ok (.enter f (xs.map a.eval).toArray) w := by
    simp [execOp, resolve, Act.eval, Deferred.ofValue, invoke, run_callFunc hf hb hr]
  unfold Oper.wp
  rw [hx]
  simp only [Oper.upon_enter]
  refine (h w (xs.map a.eval) hs.df.2 (evs hs xs) hs.rows).mono ?_
  rintro e w' ⟨v, x, L', rfl, hv, hrows, hx, r⟩
  show wpList _ _ _ _ _ _
  refine K v L' r L0 w0 _ w' (he.trans hx) ?_
  have s' := hs.ext hx hrows
  cases d with
  | none => exact s'
  | some i => exact s'.put i (dok_lt hd i rfl) hv
end

end Go.Proofs.YtljgkjkdmoejfaaAv
