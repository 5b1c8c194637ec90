/- The contracts of resolve's functions. -/
import Derived.Test.YtljgkjkdmoejfaaAvXl
import Derived.Test.YtljgkjkdmoejfaaTab
set_option linter.unusedVariables false
set_option linter.unusedSimpArgs false
set_option maxRecDepth 100000
namespace Go.Proofs.YtljgkjkdmoejfaaAv
open Go Go.RowKit


/-- An outcome without records: its source, its candidate, its kind. -/
structure Rp where
  s : Int
  c : Int
  k : Int
def Rp.x (r : Rp) : XV := .agg [XI r.s, XI r.c, XI r.k, Xnil]
def weight (k : Int) : Int := if k == 4 then 4 else if k == 5 then 3 else if k == 2 then 2 else if k == 3 then 1 else 0
def both (a b : Rp) : Rp := if ((a.k != 1) && ((b.k == 1) || decide (weight b.k > weight a.k))) = true then b else a
def act (k : Int) : Int := if k == 5 then 2 else k

def dRp : Dc Rp := ⟨fun x => match x with
  | .agg [a, b, c, d] => match intO a, intO b, intO c, nilO d with
    | some s, some c, some k, true => some ([], ⟨s, c, k⟩)
    | _, _, _, _ => none
  | _ => none, Rp.x⟩
theorem dRp_eq : DcEq dRp := fun x cs r h _ => by
  simp only [dRp] at h
  split at h
  · split at h
    · rename_i h1 h2 h3 h4
      simp only [Option.some.injEq, Prod.mk.injEq] at h
      obtain ⟨-, rfl⟩ := h
      rw [intO_eq h1, intO_eq h2, intO_eq h3, nilO_eq h4]
      exact ⟨rfl, rfl, rfl⟩
    · cases h
  · cases h

def weightC : CT := C1 dInt (fun _ => []) fun k => XI (weight k)
def weightV (k : Int) : Prop :=
  ((k == (4 : Int)) = true → (4 : Int) = weight k) ∧ ((k == (4 : Int)) = false → ((k == (5 : Int)) = true → (3 : Int) = weight k) ∧ ((k == (5 : Int)) = false → ((k == (2 : Int)) = true → (2 : Int) = weight k) ∧ ((k == (2 : Int)) = false → ((k == (3 : Int)) = true → (1 : Int) = weight k) ∧ ((k == (3 : Int)) = false → (0 : Int) = weight k))))
theorem weightV_eq (k : Int) : weightV k = (funC cx0 Try.f31 .nil [XI k] (XI (weight k))) := by kernel_rfl
theorem weight_v (k : Int) : weightV k := by
  unfold weightV weight
  refine ⟨fun h => ?_, fun h1 => ⟨fun h => ?_, fun h2 => ⟨fun h => ?_, fun h3 => ⟨fun h => ?_, fun h4 => ?_⟩⟩⟩⟩ <;> simp [*]
theorem weight_ok : CTok Try.prog 31 weightC := C1_ok cx0_ok Try.func31 rfl (by decide) dInt_eq.ok (by kernel_rfl) (fun a => rfl) fun k _ => exv (weightV_eq k) (weight_v k)
def cx1 : Cx := { cx0 with C := (31, weightC) :: cx0.C }
theorem cx1_ok : cx1.ok Try.prog := cx0_ok.addC weight_ok

def bothC : CT := C2 dRp dRp (fun _ _ => []) fun a b => (both a b).x
def bothV (a b : Rp) : Prop :=
  ((a.k != (1 : Int) && !b.k == (1 : Int)) = true → (a.k != (1 : Int) && !b.k == (1 : Int)) = true) ∧ ((a.k != (1 : Int) && !b.k == (1 : Int)) = true → (a.k != (1 : Int) && !b.k == (1 : Int)) = true) ∧ ((a.k != (1 : Int) && !b.k == (1 : Int)) = true → (a.k != (1 : Int) && !b.k == (1 : Int)) = true) ∧ ((a.k != (1 : Int)) = true → (a.k != (1 : Int)) = true) ∧ ((a.k != (1 : Int)) = true → (b.k == (1 : Int)) = false → (a.k != (1 : Int) && !b.k == (1 : Int)) = true) ∧ ((a.k != (1 : Int)) = true → (a.k != (1 : Int)) = true) ∧ ((a.k != (1 : Int) && (b.k == (1 : Int) || decide (weight b.k > weight a.k))) = true → b.s = (both a b).s ∧ b.c = (both a b).c ∧ b.k = (both a b).k ∧ Xnil = Xnil ∧ True) ∧ ((a.k != (1 : Int) && (b.k == (1 : Int) || decide (weight b.k > weight a.k))) = false → a.s = (both a b).s ∧ a.c = (both a b).c ∧ a.k = (both a b).k ∧ Xnil = Xnil ∧ True)
theorem bothV_eq (a b : Rp) : bothV a b = (funC cx1 Try.f29 .nil [a.x, b.x] (both a b).x) := by kernel_rfl
theorem both_v (a b : Rp) : bothV a b := by
  unfold bothV both
  refine ⟨fun h => h, fun h => h, fun h1 => h1, fun h => h, ?_, fun h => h, ?_⟩
  · cases (a.k != 1) <;> cases (b.k == 1) <;> simp
  · refine ⟨fun h => ?_, fun h => ?_⟩ <;> simp [h]
theorem both_ok : CTok Try.prog 29 bothC := C2_ok cx1_ok Try.func29 rfl (by decide) dRp_eq.ok dRp_eq.ok (by kernel_rfl) (fun a b => by kernel_rfl) fun a b _ => exv (bothV_eq a b) (both_v a b)

def actC : CT := C1 dInt (fun _ => []) fun k => XI (act k)
def actV (k : Int) : Prop :=
  ((k == (5 : Int)) = true → (2 : Int) = act k) ∧ ((k == (5 : Int)) = false → k = act k)
theorem actV_eq (k : Int) : actV k = (funC cx1 Try.f30 .nil [XI k] (XI (act k))) := by kernel_rfl
theorem act_v (k : Int) : actV k := by
  unfold actV act
  refine ⟨fun h => ?_, fun h => ?_⟩ <;> simp [h]
theorem act_ok : CTok Try.prog 30 actC := C1_ok cx1_ok Try.func30 rfl (by decide) dInt_eq.ok (by kernel_rfl) (fun a => rfl) fun k _ => exv (actV_eq k) (act_v k)
def cx2 : Cx := { cx1 with C := (29, bothC) :: (30, actC) :: cx1.C }
theorem cx2_ok : cx2.ok Try.prog := (cx1_ok.addC act_ok).addC both_ok

/-- A source: its kind, and by which outcomes it returns. -/
structure Sr where
  k : Int
  r0 : Bool
  r1 : Bool
  r2 : Bool
  r3 : Bool
  r4 : Bool
  deriving Inhabited
def Sr.cells (s : Sr) : List XV := [XI s.k, XB s.r0, XB s.r1, XB s.r2, XB s.r3, XB s.r4]
def Sr.ret (s : Sr) (a : Nat) : Bool := [s.r0, s.r1, s.r2, s.r3, s.r4].getD a false
def srD (l : List XV) : Sr := ⟨intD (xget l 0), boolD (xget l 1), boolD (xget l 2), boolD (xget l 3), boolD (xget l 4), boolD (xget l 5)⟩
/-- Sources in memory that is only read. -/
abbrev Ord := Sq Sr
def ordX (q : Ord) : XV := sqX 6 Sr.cells q
def dOrd : Dc Ord := dSl 6 srD Sr.cells default

/-- What a Fold in memory holds. -/
structure Fd where
  o : Ord
  n : Int
  s : Int
  c : Int
  acc : Rp
  last : Rp
  ov : Bool
def Fd.cells (f : Fd) : List XV := [ordX f.o, XI f.n, XI f.s, XI f.c, XI f.acc.s, XI f.acc.c, XI f.acc.k, Xnil, XI f.last.s, XI f.last.c, XI f.last.k, Xnil, XB f.ov]
def dFd : DcL Fd := ⟨fun l => match l with
  | [o, a, b, c, d, e, f, g, h, i, j, k, m] => match o, intO a, intO b, intO c, intO d, intO e, intO f, nilO g, intO h, intO i, intO j, nilO k, boolO m with
    | .fz n 6 t, some a, some b, some c, some d, some e, some f, true, some h, some i, some j, true, some m => some ([∀ i, i < n → t i = (srD (t i)).cells], ⟨⟨n, fun i => srD (t i)⟩, a, b, c, ⟨d, e, f⟩, ⟨h, i, j⟩, m⟩)
    | _, _, _, _, _, _, _, _, _, _, _, _, _ => none
  | _ => none, Fd.cells⟩
theorem dFd_ok : DcLOk dFd := fun x cs a h hc => by
  simp only [dFd] at h
  split at h
  · split at h
    · rename_i h1 h2 h3 h4 h5 h6 h7 h8 h9 h10 h11 h12
      simp only [Option.some.injEq, Prod.mk.injEq] at h
      obtain ⟨rfl, rfl⟩ := h
      have := all1 hc
      rw [intO_eq h1, intO_eq h2, intO_eq h3, intO_eq h4, intO_eq h5, intO_eq h6, nilO_eq h7, intO_eq h8, intO_eq h9, intO_eq h10, nilO_eq h11, boolO_eq h12]
      refine ⟨rfl, fun b => rfl, ?_⟩
      simp only [dFd, Fd.cells, toAVL, ordX, sqX, toAV]
      rw [vecOf_congr (g' := fun i => toAVL (srD _).cells) fun j hj => by rw [← this j hj]]
    · cases h
  · cases h


def Fd.atX (f : Fd) : XV := .tup [XI (bif f.ov then 0 else f.s), XI (bif f.ov then 0 else f.c), XB (!f.ov)]
def atH : HT := H0 dFd (fun _ => []) Fd.atX (fun _ => none)
def atV (e : TypeId) (ap : Bool) (f : Fd) : Prop :=
  (f.ov = true → (((0 : Int) = bif f.ov then (0 : Int) else f.s) ∧ ((0 : Int) = bif f.ov then (0 : Int) else f.c) ∧ false = !f.ov ∧ True) ∧ (e = e ∧ ap = ap) ∧ ((6 : Nat) = (6 : Nat) ∧ f.o.n = f.o.n ∧ ∀ (j : Nat), j < f.o.n → [XI ((f.o.g j).k), XB ((f.o.g j).r0), XB ((f.o.g j).r1), XB ((f.o.g j).r2), XB ((f.o.g j).r3), XB ((f.o.g j).r4)] = [XI ((f.o.g j).k), XB ((f.o.g j).r0), XB ((f.o.g j).r1), XB ((f.o.g j).r2), XB ((f.o.g j).r3), XB ((f.o.g j).r4)]) ∧ f.n = f.n ∧ f.s = f.s ∧ f.c = f.c ∧ f.acc.s = f.acc.s ∧ f.acc.c = f.acc.c ∧ f.acc.k = f.acc.k ∧ Xnil = Xnil ∧ f.last.s = f.last.s ∧ f.last.c = f.last.c ∧ f.last.k = f.last.k ∧ Xnil = Xnil ∧ f.ov = f.ov ∧ True) ∧ (f.ov = false → ((f.s = bif f.ov then (0 : Int) else f.s) ∧ (f.c = bif f.ov then (0 : Int) else f.c) ∧ true = !f.ov ∧ True) ∧ (e = e ∧ ap = ap) ∧ ((6 : Nat) = (6 : Nat) ∧ f.o.n = f.o.n ∧ ∀ (j : Nat), j < f.o.n → [XI ((f.o.g j).k), XB ((f.o.g j).r0), XB ((f.o.g j).r1), XB ((f.o.g j).r2), XB ((f.o.g j).r3), XB ((f.o.g j).r4)] = [XI ((f.o.g j).k), XB ((f.o.g j).r0), XB ((f.o.g j).r1), XB ((f.o.g j).r2), XB ((f.o.g j).r3), XB ((f.o.g j).r4)]) ∧ f.n = f.n ∧ f.s = f.s ∧ f.c = f.c ∧ f.acc.s = f.acc.s ∧ f.acc.c = f.acc.c ∧ f.acc.k = f.acc.k ∧ Xnil = Xnil ∧ f.last.s = f.last.s ∧ f.last.c = f.last.c ∧ f.last.k = f.last.k ∧ Xnil = Xnil ∧ f.ov = f.ov ∧ True)
theorem atV_eq (e : TypeId) (ap : Bool) (f : Fd) : atV e ap f = (funH cx2 Try.f25 .nil e ap f.cells [] f.atX f.cells) := by kernel_rfl
theorem at_v (e : TypeId) (ap : Bool) (f : Fd) : atV e ap f := by
  unfold atV
  refine ⟨fun h => ?_, fun h => ?_⟩ <;> simp [h]
theorem rat_ok : HTok Try.prog 25 atH := H0_ok cx2_ok Try.func25 rfl (by decide) dFd_ok (by kernel_rfl) (fun a => rfl) fun f _ => exvH (fun e ap => atV_eq e ap f) fun e ap => at_v e ap f
def replyH : HT := H0 dFd (fun _ => []) (fun f => f.last.x) (fun _ => none)
def replyV (e : TypeId) (ap : Bool) (f : Fd) : Prop :=
  (f.last.s = f.last.s ∧ f.last.c = f.last.c ∧ f.last.k = f.last.k ∧ Xnil = Xnil ∧ True) ∧ (e = e ∧ ap = ap) ∧ ((6 : Nat) = (6 : Nat) ∧ f.o.n = f.o.n ∧ ∀ (j : Nat), j < f.o.n → [XI ((f.o.g j).k), XB ((f.o.g j).r0), XB ((f.o.g j).r1), XB ((f.o.g j).r2), XB ((f.o.g j).r3), XB ((f.o.g j).r4)] = [XI ((f.o.g j).k), XB ((f.o.g j).r0), XB ((f.o.g j).r1), XB ((f.o.g j).r2), XB ((f.o.g j).r3), XB ((f.o.g j).r4)]) ∧ f.n = f.n ∧ f.s = f.s ∧ f.c = f.c ∧ f.acc.s = f.acc.s ∧ f.acc.c = f.acc.c ∧ f.acc.k = f.acc.k ∧ Xnil = Xnil ∧ f.last.s = f.last.s ∧ f.last.c = f.last.c ∧ f.last.k = f.last.k ∧ Xnil = Xnil ∧ f.ov = f.ov ∧ True
theorem replyV_eq (e : TypeId) (ap : Bool) (f : Fd) : replyV e ap f = (funH cx2 Try.f28 .nil e ap f.cells [] f.last.x f.cells) := by kernel_rfl
theorem reply_v (e : TypeId) (ap : Bool) (f : Fd) : replyV e ap f := by
  unfold replyV
  simp
theorem reply_ok : HTok Try.prog 28 replyH := H0_ok cx2_ok Try.func28 rfl (by decide) dFd_ok (by kernel_rfl) (fun a => rfl) fun f _ => exvH (fun e ap => replyV_eq e ap f) fun e ap => reply_v e ap f

def Fd.take (f : Fd) (p : Rp) : Rp := bif f.c == 0 then ⟨f.s, f.c, p.k⟩ else both f.acc ⟨f.s, f.c, p.k⟩
/-- The fold behind one more outcome. -/
def Fd.note (f : Fd) (p : Rp) : Fd :=
  bif f.ov then f else
  bif (f.take p).k != 1 && decide (f.c + 1 < f.n) then { f with acc := f.take p, c := f.c + 1 } else
  { f with acc := f.take p, last := f.take p, ov := (f.o.g f.s.toNat).ret (act (f.take p).k).toNat || (f.s + 1 == (f.o.n : Int)), s := f.s + 1, c := 0 }
/-- What is asked ahead of one more outcome. -/
def Fd.can (f : Fd) (p : Rp) : Prop := (0 ≤ f.c ∧ f.c ≤ 1000000) ∧ (f.ov = false → (0 ≤ f.s ∧ f.s < f.o.n ∧ f.o.n ≤ 1000000) ∧ 0 ≤ act (f.take p).k ∧ act (f.take p).k < 5)
def noteH : HT := H1 dFd dRp (fun f p => [f.can p]) (fun _ _ => .tup []) (fun f p => some (f.note p))
def noteV (e : TypeId) (ap : Bool) (f : Fd) (p : Rp) : Prop :=
  (f.ov = true → True ∧ (e = e ∧ ap = ap) ∧ ((6 : Nat) = (6 : Nat) ∧ f.o.n = (f.note p).o.n ∧ ∀ (j : Nat), j < f.o.n → [XI ((f.o.g j).k), XB ((f.o.g j).r0), XB ((f.o.g j).r1), XB ((f.o.g j).r2), XB ((f.o.g j).r3), XB ((f.o.g j).r4)] = [XI (((f.note p).o.g j).k), XB (((f.note p).o.g j).r0), XB (((f.note p).o.g j).r1), XB (((f.note p).o.g j).r2), XB (((f.note p).o.g j).r3), XB (((f.note p).o.g j).r4)]) ∧ f.n = (f.note p).n ∧ f.s = (f.note p).s ∧ f.c = (f.note p).c ∧ f.acc.s = (f.note p).acc.s ∧ f.acc.c = (f.note p).acc.c ∧ f.acc.k = (f.note p).acc.k ∧ Xnil = Xnil ∧ f.last.s = (f.note p).last.s ∧ f.last.c = (f.note p).last.c ∧ f.last.k = (f.note p).last.k ∧ Xnil = Xnil ∧ f.ov = (f.note p).ov ∧ True) ∧ (f.ov = false → ((f.c == (0 : Int)) = true → in64 (f.c + (1 : Int)) ∧ ((p.k != (1 : Int)) = true → (p.k != (1 : Int)) = true) ∧ ((p.k != (1 : Int)) = true → (p.k != (1 : Int)) = true) ∧ ((p.k != (1 : Int)) = true → (p.k != (1 : Int)) = true) ∧ ((p.k != (1 : Int) && decide (f.c + (1 : Int) < f.n)) = true → True ∧ (e = e ∧ ap = ap) ∧ ((6 : Nat) = (6 : Nat) ∧ f.o.n = (f.note p).o.n ∧ ∀ (j : Nat), j < f.o.n → [XI ((f.o.g j).k), XB ((f.o.g j).r0), XB ((f.o.g j).r1), XB ((f.o.g j).r2), XB ((f.o.g j).r3), XB ((f.o.g j).r4)] = [XI (((f.note p).o.g j).k), XB (((f.note p).o.g j).r0), XB (((f.note p).o.g j).r1), XB (((f.note p).o.g j).r2), XB (((f.note p).o.g j).r3), XB (((f.note p).o.g j).r4)]) ∧ f.n = (f.note p).n ∧ f.s = (f.note p).s ∧ f.c + (1 : Int) = (f.note p).c ∧ f.s = (f.note p).acc.s ∧ f.c = (f.note p).acc.c ∧ p.k = (f.note p).acc.k ∧ Xnil = Xnil ∧ f.last.s = (f.note p).last.s ∧ f.last.c = (f.note p).last.c ∧ f.last.k = (f.note p).last.k ∧ Xnil = Xnil ∧ f.ov = (f.note p).ov ∧ True) ∧ ((p.k != (1 : Int) && decide (f.c + (1 : Int) < f.n)) = false → (0 : Int) ≤ f.s ∧ f.s < (↑f.o.n : Int) ∧ (0 : Int) ≤ act p.k ∧ act p.k < (↑(5 : Nat) : Int) ∧ (act p.k).toNat < [XB ((f.o.g f.s.toNat).r0), XB ((f.o.g f.s.toNat).r1), XB ((f.o.g f.s.toNat).r2), XB ((f.o.g f.s.toNat).r3), XB ((f.o.g f.s.toNat).r4)].length ∧ ((![(f.o.g f.s.toNat).r0, (f.o.g f.s.toNat).r1, (f.o.g f.s.toNat).r2, (f.o.g f.s.toNat).r3, (f.o.g f.s.toNat).r4].getD (act p.k).toNat false) = true → in64 (f.s + (1 : Int))) ∧ in64 (f.s + (1 : Int)) ∧ True ∧ (e = e ∧ ap = ap) ∧ ((6 : Nat) = (6 : Nat) ∧ f.o.n = (f.note p).o.n ∧ ∀ (j : Nat), j < f.o.n → [XI ((f.o.g j).k), XB ((f.o.g j).r0), XB ((f.o.g j).r1), XB ((f.o.g j).r2), XB ((f.o.g j).r3), XB ((f.o.g j).r4)] = [XI (((f.note p).o.g j).k), XB (((f.note p).o.g j).r0), XB (((f.note p).o.g j).r1), XB (((f.note p).o.g j).r2), XB (((f.note p).o.g j).r3), XB (((f.note p).o.g j).r4)]) ∧ f.n = (f.note p).n ∧ f.s + (1 : Int) = (f.note p).s ∧ (0 : Int) = (f.note p).c ∧ f.s = (f.note p).acc.s ∧ f.c = (f.note p).acc.c ∧ p.k = (f.note p).acc.k ∧ Xnil = Xnil ∧ f.s = (f.note p).last.s ∧ f.c = (f.note p).last.c ∧ p.k = (f.note p).last.k ∧ Xnil = Xnil ∧ ([(f.o.g f.s.toNat).r0, (f.o.g f.s.toNat).r1, (f.o.g f.s.toNat).r2, (f.o.g f.s.toNat).r3, (f.o.g f.s.toNat).r4].getD (act p.k).toNat false || f.s + (1 : Int) == (↑f.o.n : Int)) = (f.note p).ov ∧ True)) ∧ ((f.c == (0 : Int)) = false → in64 (f.c + (1 : Int)) ∧ (((both f.acc { s := f.s, c := f.c, k := p.k : Rp }).k != (1 : Int)) = true → ((both f.acc { s := f.s, c := f.c, k := p.k : Rp }).k != (1 : Int)) = true) ∧ (((both f.acc { s := f.s, c := f.c, k := p.k : Rp }).k != (1 : Int)) = true → ((both f.acc { s := f.s, c := f.c, k := p.k : Rp }).k != (1 : Int)) = true) ∧ (((both f.acc { s := f.s, c := f.c, k := p.k : Rp }).k != (1 : Int)) = true → ((both f.acc { s := f.s, c := f.c, k := p.k : Rp }).k != (1 : Int)) = true) ∧ (((both f.acc { s := f.s, c := f.c, k := p.k : Rp }).k != (1 : Int) && decide (f.c + (1 : Int) < f.n)) = true → True ∧ (e = e ∧ ap = ap) ∧ ((6 : Nat) = (6 : Nat) ∧ f.o.n = (f.note p).o.n ∧ ∀ (j : Nat), j < f.o.n → [XI ((f.o.g j).k), XB ((f.o.g j).r0), XB ((f.o.g j).r1), XB ((f.o.g j).r2), XB ((f.o.g j).r3), XB ((f.o.g j).r4)] = [XI (((f.note p).o.g j).k), XB (((f.note p).o.g j).r0), XB (((f.note p).o.g j).r1), XB (((f.note p).o.g j).r2), XB (((f.note p).o.g j).r3), XB (((f.note p).o.g j).r4)]) ∧ f.n = (f.note p).n ∧ f.s = (f.note p).s ∧ f.c + (1 : Int) = (f.note p).c ∧ (both f.acc { s := f.s, c := f.c, k := p.k : Rp }).s = (f.note p).acc.s ∧ (both f.acc { s := f.s, c := f.c, k := p.k : Rp }).c = (f.note p).acc.c ∧ (both f.acc { s := f.s, c := f.c, k := p.k : Rp }).k = (f.note p).acc.k ∧ Xnil = Xnil ∧ f.last.s = (f.note p).last.s ∧ f.last.c = (f.note p).last.c ∧ f.last.k = (f.note p).last.k ∧ Xnil = Xnil ∧ f.ov = (f.note p).ov ∧ True) ∧ (((both f.acc { s := f.s, c := f.c, k := p.k : Rp }).k != (1 : Int) && decide (f.c + (1 : Int) < f.n)) = false → (0 : Int) ≤ f.s ∧ f.s < (↑f.o.n : Int) ∧ (0 : Int) ≤ act (both f.acc { s := f.s, c := f.c, k := p.k : Rp }).k ∧ act (both f.acc { s := f.s, c := f.c, k := p.k : Rp }).k < (↑(5 : Nat) : Int) ∧ (act (both f.acc { s := f.s, c := f.c, k := p.k : Rp }).k).toNat < [XB ((f.o.g f.s.toNat).r0), XB ((f.o.g f.s.toNat).r1), XB ((f.o.g f.s.toNat).r2), XB ((f.o.g f.s.toNat).r3), XB ((f.o.g f.s.toNat).r4)].length ∧ ((![(f.o.g f.s.toNat).r0, (f.o.g f.s.toNat).r1, (f.o.g f.s.toNat).r2, (f.o.g f.s.toNat).r3, (f.o.g f.s.toNat).r4].getD (act (both f.acc { s := f.s, c := f.c, k := p.k : Rp }).k).toNat false) = true → in64 (f.s + (1 : Int))) ∧ in64 (f.s + (1 : Int)) ∧ True ∧ (e = e ∧ ap = ap) ∧ ((6 : Nat) = (6 : Nat) ∧ f.o.n = (f.note p).o.n ∧ ∀ (j : Nat), j < f.o.n → [XI ((f.o.g j).k), XB ((f.o.g j).r0), XB ((f.o.g j).r1), XB ((f.o.g j).r2), XB ((f.o.g j).r3), XB ((f.o.g j).r4)] = [XI (((f.note p).o.g j).k), XB (((f.note p).o.g j).r0), XB (((f.note p).o.g j).r1), XB (((f.note p).o.g j).r2), XB (((f.note p).o.g j).r3), XB (((f.note p).o.g j).r4)]) ∧ f.n = (f.note p).n ∧ f.s + (1 : Int) = (f.note p).s ∧ (0 : Int) = (f.note p).c ∧ (both f.acc { s := f.s, c := f.c, k := p.k : Rp }).s = (f.note p).acc.s ∧ (both f.acc { s := f.s, c := f.c, k := p.k : Rp }).c = (f.note p).acc.c ∧ (both f.acc { s := f.s, c := f.c, k := p.k : Rp }).k = (f.note p).acc.k ∧ Xnil = Xnil ∧ (both f.acc { s := f.s, c := f.c, k := p.k : Rp }).s = (f.note p).last.s ∧ (both f.acc { s := f.s, c := f.c, k := p.k : Rp }).c = (f.note p).last.c ∧ (both f.acc { s := f.s, c := f.c, k := p.k : Rp }).k = (f.note p).last.k ∧ Xnil = Xnil ∧ ([(f.o.g f.s.toNat).r0, (f.o.g f.s.toNat).r1, (f.o.g f.s.toNat).r2, (f.o.g f.s.toNat).r3, (f.o.g f.s.toNat).r4].getD (act (both f.acc { s := f.s, c := f.c, k := p.k : Rp }).k).toNat false || f.s + (1 : Int) == (↑f.o.n : Int)) = (f.note p).ov ∧ True)))
theorem noteV_eq (e : TypeId) (ap : Bool) (f : Fd) (p : Rp) : noteV e ap f p = (funH cx2 Try.f26 .nil e ap f.cells [p.x] (.tup []) (f.note p).cells) := by kernel_rfl
theorem note_v (e : TypeId) (ap : Bool) (f : Fd) (p : Rp) (hc : f.can p) : noteV e ap f p := by
  obtain ⟨⟨h0, h1⟩, h2⟩ := hc
  unfold noteV
  have hret : ∀ (s : Sr) (a : Nat), [s.r0, s.r1, s.r2, s.r3, s.r4].getD a false = s.ret a := fun _ _ => rfl
  refine ⟨fun h => ?_, fun h => ?_⟩
  · have hn : f.note p = f := by unfold Fd.note; rw [h]; rfl
    rw [hn]
    simp [h]
  · obtain ⟨⟨h3, h4, h5⟩, h6, h7⟩ := h2 h
    have main : ∀ q : Rp, f.take p = q → 0 ≤ act q.k → act q.k < 5 → True := fun _ _ _ _ => trivial
    refine ⟨fun hc => ?_, fun hc => ?_⟩
    · have ht : f.take p = ⟨f.s, f.c, p.k⟩ := by unfold Fd.take; rw [hc]; rfl
      rw [ht] at h6 h7
      simp only at h6 h7
      refine ⟨⟨by omega, by omega⟩, fun h => h, fun h => h, fun h => h, fun hk => ?_, fun hk => ?_⟩
      · have hn : f.note p = { f with acc := ⟨f.s, f.c, p.k⟩, c := f.c + 1 } := by unfold Fd.note; rw [h, ht, hk]; rfl
        rw [hn]
        simp [h]
      · have hn : f.note p = { f with acc := ⟨f.s, f.c, p.k⟩, last := ⟨f.s, f.c, p.k⟩, ov := (f.o.g f.s.toNat).ret (act p.k).toNat || (f.s + 1 == (f.o.n : Int)), s := f.s + 1, c := 0 } := by unfold Fd.note; rw [h, ht, hk]; rfl
        rw [hn]
        refine ⟨h3, h4, h6, h7, by simp; omega, fun _ => ⟨by omega, by omega⟩, ⟨by omega, by omega⟩, ?_⟩
        simp [Sr.ret]
    · have ht : f.take p = both f.acc ⟨f.s, f.c, p.k⟩ := by unfold Fd.take; rw [hc]; rfl
      rw [ht] at h6 h7
      refine ⟨⟨by omega, by omega⟩, fun h => h, fun h => h, fun h => h, fun hk => ?_, fun hk => ?_⟩
      · have hn : f.note p = { f with acc := both f.acc ⟨f.s, f.c, p.k⟩, c := f.c + 1 } := by unfold Fd.note; rw [h, ht]; simp only [cond_false]; rw [hk]; rfl
        rw [hn]
        simp [h]
      · have hn : f.note p = { f with acc := both f.acc ⟨f.s, f.c, p.k⟩, last := both f.acc ⟨f.s, f.c, p.k⟩, ov := (f.o.g f.s.toNat).ret (act (both f.acc ⟨f.s, f.c, p.k⟩).k).toNat || (f.s + 1 == (f.o.n : Int)), s := f.s + 1, c := 0 } := by unfold Fd.note; rw [h, ht]; simp only [cond_false]; rw [hk]; rfl
        rw [hn]
        refine ⟨h3, h4, h6, h7, by simp; omega, fun _ => ⟨by omega, by omega⟩, ⟨by omega, by omega⟩, ?_⟩
        simp [Sr.ret]
theorem note_ok : HTok Try.prog 26 noteH := H1_ok cx2_ok Try.func26 rfl (by decide) dFd_ok dRp_eq.ok (by kernel_rfl) (fun a b => rfl) fun f p hc => exvH (fun e ap => noteV_eq e ap f p) fun e ap => note_v e ap f p (hc _ (by simp))

def Fd.new (o : Ord) (n : Int) : Fd := ⟨o, n, 0, 0, ⟨0, 0, 0⟩, ⟨0, 0, 3⟩, ((o.n : Int) == 0) || decide (n < 1)⟩
def newN : NT := N2 dOrd dInt (fun o n => [o.n ≤ 1000]) fun o n => (Fd.new o n).cells
def newV (o : Ord) (n : Int) : Prop :=
  o.n * (16 : Nat) ≤ (140737488355328 : Nat) ∧ o.n ≤ (140737488355328 : Nat) ∧ ((59 : Nat) = (59 : TypeId) ∧ true = true) ∧ (((6 : Nat) = (6 : Nat) ∧ (6 : Nat) = (6 : Nat)) ∧ o.n = o.n ∧ o.n = o.n ∧ ∀ (j : Nat), j < o.n → [XI ((o.g j).k), XB ((o.g j).r0), XB ((o.g j).r1), XB ((o.g j).r2), XB ((o.g j).r3), XB ((o.g j).r4)] = [XI ((o.g j).k), XB ((o.g j).r0), XB ((o.g j).r1), XB ((o.g j).r2), XB ((o.g j).r3), XB ((o.g j).r4)]) ∧ n = (Fd.new o n).n ∧ (0 : Int) = (Fd.new o n).s ∧ (0 : Int) = (Fd.new o n).c ∧ (0 : Int) = (0 : Int) ∧ (0 : Int) = (0 : Int) ∧ (0 : Int) = (0 : Int) ∧ Xnil = Xnil ∧ (0 : Int) = (0 : Int) ∧ (0 : Int) = (0 : Int) ∧ (3 : Int) = (3 : Int) ∧ Xnil = Xnil ∧ ((↑o.n : Int) == (0 : Int) || decide (n < (1 : Int))) = (Fd.new o n).ov ∧ True
theorem newV_eq (o : Ord) (n : Int) : newV o n = (funN cx2 Try.f23 Sc.nil [ordX o, XI n] 59 (Fd.new o n).cells) := by kernel_rfl
theorem new_v (o : Ord) (n : Int) (ho : o.n ≤ 1000) : newV o n := by
  unfold newV
  refine ⟨by omega, by omega, ?_⟩
  simp [Fd.new]
theorem new_ok : NTok Try.prog 23 59 newN := N2_ok cx2_ok Try.func23 rfl (by decide) dSl_ok dInt_eq.ok (by kernel_rfl) (fun a b => rfl) fun o n hc => exvN (newV_eq o n) (new_v o n (hc _ (by simp)))
def cx3 : Cx := { cx2 with H := [(25, atH), (26, noteH), (28, replyH)], N := [(23, 59, newN)] }
theorem cx3_ok : cx3.ok Try.prog := (((cx2_ok.addN new_ok).addH reply_ok).addH note_ok).addH rat_ok
end Go.Proofs.YtljgkjkdmoejfaaAv
