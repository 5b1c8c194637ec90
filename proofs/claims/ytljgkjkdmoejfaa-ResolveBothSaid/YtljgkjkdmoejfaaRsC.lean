/- The contracts of the law's own helpers. -/
import Derived.Test.YtljgkjkdmoejfaaRsB
set_option linter.unusedVariables false
set_option linter.unusedSimpArgs false
set_option maxRecDepth 100000
namespace Go.Proofs.YtljgkjkdmoejfaaAv
open Go Go.RowKit
def cx4 : Cx := { cx3 with C := (27, resolveC) :: cx3.C }
theorem cx4_ok : cx4.ok Try.prog := cx3_ok.addC resolve_ok

theorem and_mask (x m : Int) (h0 : 0 ≤ m) (h1 : m ≤ 9223372036854775807) : 0 ≤ bits .and .i64 x m ∧ bits .and .i64 x m ≤ m := by
  have hb : (BitVec.ofInt 64 m).toNat = m.toNat := by
    rw [BitVec.toNat_ofInt, Int.emod_eq_of_lt h0 (by omega)]
  have h2 : (BitVec.ofInt 64 x &&& BitVec.ofInt 64 m).toNat ≤ m.toNat := by
    rw [BitVec.toNat_and, hb]; exact Nat.and_le_right
  have e : bits .and .i64 x m = ((BitVec.ofInt 64 x &&& BitVec.ofInt 64 m).toNat : Int) := by
    show IntKind.i64.wrap ((BitVec.ofInt 64 x &&& BitVec.ofInt 64 m).toNat : Int) = _
    generalize (BitVec.ofInt 64 x &&& BitVec.ofInt 64 m).toNat = t at h2
    exact wrap64_in (by omega) (by omega)
  rw [e]
  omega

def kind (n : Int) : Int := 1 + (bits .and .i64 n 255).tmod 5
theorem kind_valid (n : Int) : 1 ≤ kind n ∧ kind n ≤ 5 := by
  have h := and_mask n 255 (by omega) (by omega)
  unfold kind
  rw [Int.tmod_eq_emod_of_nonneg h.1]
  omega
def kindC : CT := C1 dInt (fun _ => []) fun n => XI (kind n)
def kindV (n : Int) : Prop :=
  (5 : Int) ≠ (0 : Int) ∧ in64 ((1 : Int) + (bits BinOp.and IntKind.i64 n (255 : Int)).tmod (5 : Int)) ∧ (1 : Int) + (bits BinOp.and IntKind.i64 n (255 : Int)).tmod (5 : Int) = kind n
theorem kindV_eq (n : Int) : kindV n = (funC cx4 Try.f24 .nil [XI n] (XI (kind n))) := by kernel_rfl
theorem kind_v (n : Int) : kindV n := by
  have h := kind_valid n
  unfold kind at h
  unfold kindV kind
  exact ⟨by decide, ⟨by omega, by omega⟩, rfl⟩
theorem kind_ok : CTok Try.prog 24 kindC := C1_ok cx4_ok Try.func24 rfl (by decide) dInt_eq.ok (by kernel_rfl) (fun a => rfl) fun n _ => exv (kindV_eq n) (kind_v n)

def bt (x : Int) (k : Nat) : Bool := bits .and .i64 (x.fdiv ((2 : Int) ^ k)) 1 == 1
def srOf (x : Int) : Sr := ⟨1 + (bits .and .i64 x 3).tmod 3, false, bt x 2, bt x 3, bt x 4, bt x 5⟩
def orderOf (q : Sq Int) : Ord := ⟨min q.n 4, fun i => srOf (q.g i)⟩
structure OL where
  i : Nat
def oInv (q : Sq Int) : Inv where
  σ := OL
  S := fun x => ⟨[(3, .sl 0 6 0 x.i), (8, sqX 1 (fun s => [XI s]) q), (9, XI q.n), (10, XI x.i)], [(0, .vec 56 true x.i 6 fun i => (srOf (q.g i)).cells)], 1, false, []⟩
  inv := fun x => x.i ≤ q.n ∧ x.i ≤ 4
  μ := fun x => q.n - x.i
def oE (q : Sq Int) : Env := { loops := [(0, oInv q)], rolls := [(2, 5)], own := [(2, [(3, 56, 6)])] }
def orderC : CT := C1 dInts (fun q => [q.n ≤ 1000]) fun q => ordX (orderOf q)
def orderV (q : Sq Int) : Prop :=
  (∃ (x : (oInv q).σ), (x.i ≤ q.n ∧ x.i ≤ (4 : Nat)) ∧ true = true ∧ XV.sl (0 : Nat) (6 : Nat) (0 : Nat) (0 : Nat) = XV.sl (0 : Nat) (6 : Nat) (0 : Nat) x.i ∧ ((XV.fz q.n (1 : Nat) fun (i : Nat) => [XI (q.g i)]) = XV.fz q.n (1 : Nat) fun (i : Nat) => [XI (q.g i)]) ∧ (↑q.n : Int) = (↑q.n : Int) ∧ (0 : Int) = (↑x.i : Int) ∧ (((56 : Nat) = (56 : TypeId) ∧ true = true ∧ (6 : Nat) = (6 : Nat)) ∧ (0 : Nat) = x.i ∧ ∀ (j : Nat), j < (0 : Nat) → [] = [XI ((srOf (q.g j)).k), XB ((srOf (q.g j)).r0), XB ((srOf (q.g j)).r1), XB ((srOf (q.g j)).r2), XB ((srOf (q.g j)).r3), XB ((srOf (q.g j)).r4)]) ∧ True) ∧ ∀ (x : OL), x.i ≤ q.n ∧ x.i ≤ (4 : Nat) → (decide ((↑x.i : Int) < (↑q.n : Int)) = true → (0 : Int) ≤ (↑x.i : Int) ∧ (↑x.i : Int) < (↑q.n : Int) ∧ (((↑x.i : Int) == (4 : Int)) = true → ((6 : Nat) = (6 : Nat) ∧ (6 : Nat) = (6 : Nat)) ∧ x.i = x.i ∧ x.i = (orderOf q).n ∧ ∀ (j : Nat), j < x.i → [XI ((srOf (q.g j)).k), XB ((srOf (q.g j)).r0), XB ((srOf (q.g j)).r1), XB ((srOf (q.g j)).r2), XB ((srOf (q.g j)).r3), XB ((srOf (q.g j)).r4)] = [XI ((1 : Int) + (bits BinOp.and IntKind.i64 (q.g j) (3 : Int)).tmod (3 : Int)), XB false, XB (bt (q.g j) (2 : Nat)), XB (bt (q.g j) (3 : Nat)), XB (bt (q.g j) (4 : Nat)), XB (bt (q.g j) (5 : Nat))]) ∧ (((↑x.i : Int) == (4 : Int)) = false → (3 : Int) ≠ (0 : Int) ∧ in64 ((1 : Int) + (bits BinOp.and IntKind.i64 (q.g (↑x.i : Int).toNat) (3 : Int)).tmod (3 : Int)) ∧ in64 ((1 : Int) + (1 : Int)) ∧ (0 : Int) ≤ (1 : Int) + (1 : Int) ∧ (0 : Int) ≤ (1 : Int) ∧ (1 : Int) < (↑(5 : Nat) : Int) ∧ (1 : Nat) < [false, false, false, false, false].length ∧ in64 ((1 : Int) + (1 : Int)) ∧ in64 ((1 : Int) + ((1 : Int) + (1 : Int))) ∧ (0 : Int) ≤ (1 : Int) + ((1 : Int) + (1 : Int)) ∧ (0 : Int) ≤ (1 : Int) + (1 : Int) ∧ (1 : Int) + (1 : Int) < (↑(5 : Nat) : Int) ∧ (2 : Nat) < [false, bits BinOp.and IntKind.i64 ((q.g (↑x.i : Int).toNat).fdiv ((2 : Int) ^ (2 : Nat))) (1 : Int) == (1 : Int), false, false, false].length ∧ in64 ((1 : Int) + (1 : Int) + (1 : Int)) ∧ in64 ((1 : Int) + ((1 : Int) + (1 : Int) + (1 : Int))) ∧ (0 : Int) ≤ (1 : Int) + ((1 : Int) + (1 : Int) + (1 : Int)) ∧ (0 : Int) ≤ (1 : Int) + (1 : Int) + (1 : Int) ∧ (1 : Int) + (1 : Int) + (1 : Int) < (↑(5 : Nat) : Int) ∧ (3 : Nat) < [false, bits BinOp.and IntKind.i64 ((q.g (↑x.i : Int).toNat).fdiv ((2 : Int) ^ (2 : Nat))) (1 : Int) == (1 : Int), bits BinOp.and IntKind.i64 ((q.g (↑x.i : Int).toNat).fdiv ((2 : Int) ^ (3 : Nat))) (1 : Int) == (1 : Int), false, false].length ∧ in64 ((1 : Int) + (1 : Int) + (1 : Int) + (1 : Int)) ∧ in64 ((1 : Int) + ((1 : Int) + (1 : Int) + (1 : Int) + (1 : Int))) ∧ (0 : Int) ≤ (1 : Int) + ((1 : Int) + (1 : Int) + (1 : Int) + (1 : Int)) ∧ (0 : Int) ≤ (1 : Int) + (1 : Int) + (1 : Int) + (1 : Int) ∧ (1 : Int) + (1 : Int) + (1 : Int) + (1 : Int) < (↑(5 : Nat) : Int) ∧ (4 : Nat) < [false, bits BinOp.and IntKind.i64 ((q.g (↑x.i : Int).toNat).fdiv ((2 : Int) ^ (2 : Nat))) (1 : Int) == (1 : Int), bits BinOp.and IntKind.i64 ((q.g (↑x.i : Int).toNat).fdiv ((2 : Int) ^ (3 : Nat))) (1 : Int) == (1 : Int), bits BinOp.and IntKind.i64 ((q.g (↑x.i : Int).toNat).fdiv ((2 : Int) ^ (4 : Nat))) (1 : Int) == (1 : Int), false].length ∧ in64 ((1 : Int) + (1 : Int) + (1 : Int) + (1 : Int) + (1 : Int)) ∧ x.i = x.i ∧ (x.i + (1 : Nat)) * (16 : Nat) ≤ (140737488355328 : Nat) ∧ x.i + (1 : Nat) ≤ (140737488355328 : Nat) ∧ in64 ((↑x.i : Int) + (1 : Int)) ∧ ∃ (x' : (oInv q).σ), (x'.i ≤ q.n ∧ x'.i ≤ (4 : Nat)) ∧ q.n - x'.i < q.n - x.i ∧ true = true ∧ XV.sl (0 : Nat) (6 : Nat) (0 : Nat) (x.i + (1 : Nat)) = XV.sl (0 : Nat) (6 : Nat) (0 : Nat) x'.i ∧ ((XV.fz q.n (1 : Nat) fun (i : Nat) => [XI (q.g i)]) = XV.fz q.n (1 : Nat) fun (i : Nat) => [XI (q.g i)]) ∧ (↑q.n : Int) = (↑q.n : Int) ∧ (↑x.i : Int) + (1 : Int) = (↑x'.i : Int) ∧ (((56 : TypeId) = (56 : TypeId) ∧ true = true ∧ (6 : Nat) = (6 : Nat)) ∧ x.i + (1 : Nat) = x'.i ∧ ∀ (j : Nat), j < x.i + (1 : Nat) → [Bool.rec (XI ((1 : Int) + (bits BinOp.and IntKind.i64 (q.g (↑x.i : Int).toNat) (3 : Int)).tmod (3 : Int))) (XI ((srOf (q.g j)).k)) (j.blt x.i), XB (bif j.blt x.i then (srOf (q.g j)).r0 else false), XB (bif j.blt x.i then (srOf (q.g j)).r1 else bits BinOp.and IntKind.i64 ((q.g (↑x.i : Int).toNat).fdiv ((2 : Int) ^ (2 : Nat))) (1 : Int) == (1 : Int)), XB (bif j.blt x.i then (srOf (q.g j)).r2 else bits BinOp.and IntKind.i64 ((q.g (↑x.i : Int).toNat).fdiv ((2 : Int) ^ (3 : Nat))) (1 : Int) == (1 : Int)), XB (bif j.blt x.i then (srOf (q.g j)).r3 else bits BinOp.and IntKind.i64 ((q.g (↑x.i : Int).toNat).fdiv ((2 : Int) ^ (4 : Nat))) (1 : Int) == (1 : Int)), XB (bif j.blt x.i then (srOf (q.g j)).r4 else bits BinOp.and IntKind.i64 ((q.g (↑x.i : Int).toNat).fdiv ((2 : Int) ^ (5 : Nat))) (1 : Int) == (1 : Int))] = [XI ((srOf (q.g j)).k), XB ((srOf (q.g j)).r0), XB ((srOf (q.g j)).r1), XB ((srOf (q.g j)).r2), XB ((srOf (q.g j)).r3), XB ((srOf (q.g j)).r4)]) ∧ True)) ∧ (decide ((↑x.i : Int) < (↑q.n : Int)) = false → ((6 : Nat) = (6 : Nat) ∧ (6 : Nat) = (6 : Nat)) ∧ x.i = x.i ∧ x.i = (orderOf q).n ∧ ∀ (j : Nat), j < x.i → [XI ((srOf (q.g j)).k), XB ((srOf (q.g j)).r0), XB ((srOf (q.g j)).r1), XB ((srOf (q.g j)).r2), XB ((srOf (q.g j)).r3), XB ((srOf (q.g j)).r4)] = [XI ((1 : Int) + (bits BinOp.and IntKind.i64 (q.g j) (3 : Int)).tmod (3 : Int)), XB false, XB (bt (q.g j) (2 : Nat)), XB (bt (q.g j) (3 : Nat)), XB (bt (q.g j) (4 : Nat)), XB (bt (q.g j) (5 : Nat))])
theorem orderV_eq (q : Sq Int) : orderV q = (funC cx4 Try.f22 (mkSc (oE q) (bodyOf Try.f22)) [sqX 1 (fun s => [XI s]) q] (ordX (orderOf q))) := by kernel_rfl
theorem order_v (q : Sq Int) (hq : q.n ≤ 1000) : orderV q := by
  have fin : ∀ i, i ≤ q.n → i ≤ 4 → (q.n ≤ i ∨ i = 4) → i = (orderOf q).n := by intro i h1 h2 h3; simp only [orderOf]; omega
  unfold orderV
  refine ⟨⟨⟨0⟩, ⟨by simp, by simp⟩, rfl, rfl, rfl, rfl, rfl, ⟨⟨rfl, rfl, rfl⟩, rfl, fun j hj => absurd hj (by omega)⟩, trivial⟩, fun x ⟨h1, h2⟩ => ⟨fun h => ?_, fun h => ?_⟩⟩
  · have hx : x.i < q.n := by simpa using h
    refine ⟨by omega, by omega, fun h4 => ?_, fun h4 => ?_⟩
    · have h4' : x.i = 4 := by simp at h4; omega
      exact ⟨⟨rfl, rfl⟩, rfl, fin _ h1 h2 (.inr h4'), fun _ _ => rfl⟩
    · have h4' : x.i ≠ 4 := by simp at h4; omega
      have hk := and_mask (q.g (x.i : Int).toNat) 3 (by omega) (by omega)
      have hk2 : in64 (1 + (bits .and .i64 (q.g (x.i : Int).toNat) 3).tmod 3) := by
        rw [Int.tmod_eq_emod_of_nonneg hk.1]
        exact ⟨by omega, by omega⟩
      refine ⟨by decide, hk2, ⟨by decide, by decide⟩, by decide, by decide, by decide, by simp, ⟨by decide, by decide⟩, ⟨by decide, by decide⟩, by decide, by decide, by decide, by simp, ⟨by decide, by decide⟩, ⟨by decide, by decide⟩, by decide, by decide, by decide, by simp, ⟨by decide, by decide⟩, ⟨by decide, by decide⟩, by decide, by decide, by decide, by simp, ⟨by decide, by decide⟩, rfl, by omega, by omega, ⟨by omega, by omega⟩, ⟨x.i + 1⟩, ⟨hx, by show x.i + 1 ≤ 4; omega⟩, ?_, rfl, rfl, rfl, rfl, rfl, ⟨⟨rfl, rfl, rfl⟩, rfl, fun j hj => ?_⟩, trivial⟩
      · show q.n - (x.i + 1) < q.n - x.i; omega
      · rcases Nat.lt_or_ge j x.i with hlt | hge
        · have e : j.blt x.i = true := by rw [bltN]; simp [hlt]
          rw [e]; rfl
        · have e : j.blt x.i = false := by rw [bltN]; simp; omega
          have ej : j = x.i := by omega
          subst ej
          rw [e]
          simp only [cond_false, Int.toNat_natCast]
          rfl
  · have hx : ¬ x.i < q.n := by simpa using h
    exact ⟨⟨rfl, rfl⟩, rfl, fin _ h1 h2 (.inl (by omega)), fun _ _ => rfl⟩
theorem order_ok : CTok Try.prog 22 orderC := C1_ok cx4_ok Try.func22 rfl (by decide) dSl_ok (by kernel_rfl) (fun a => by kernel_rfl) fun q hc => exv (orderV_eq q) (order_v q (hc _ (by simp)))

def fitV  : Prop :=
  (∀ (i : Nat), i < (2 : Nat) → [XI ([(1 : Int), (2 : Int)].getD i (0 : Int)), XB ([false, false].getD i false), XB ([false, false].getD i false), XB ([false, false].getD i false), XB ([false, false].getD i false), XB ([false, false].getD i false)] = [XI ([(1 : Int), (2 : Int)].getD i (0 : Int)), XB ([false, false].getD i false), XB ([false, false].getD i false), XB ([false, false].getD i false), XB ([false, false].getD i false), XB ([false, false].getD i false)]) ∧ (∀ (i : Nat), i < (2 : Nat) → [XI ([(0 : Int), (0 : Int)].getD i (0 : Int)), XI ([(0 : Int), (0 : Int)].getD i (0 : Int)), XI ([(2 : Int), (1 : Int)].getD i (0 : Int)), Xnil] = [XI ([(0 : Int), (0 : Int)].getD i (0 : Int)), XI ([(0 : Int), (0 : Int)].getD i (0 : Int)), XI ([(2 : Int), (1 : Int)].getD i (0 : Int)), Xnil]) ∧ (2 : Nat) ≤ (1000 : Nat) ∧ (1 : Int) ≤ (1000 : Int) ∧ (2 : Nat) ≤ (1000000 : Nat) ∧ (∀ (i : Nat), i < (2 : Nat) → valid { s := [(0 : Int), (0 : Int)].getD i (0 : Int), c := [(0 : Int), (0 : Int)].getD i (0 : Int), k := [(2 : Int), (1 : Int)].getD i (0 : Int) : Rp }) ∧ ((res (Fd.new { n := (2 : Nat), g := fun (i : Nat) => { k := [(1 : Int), (2 : Int)].getD i (0 : Int), r0 := [false, false].getD i false, r1 := [false, false].getD i false, r2 := [false, false].getD i false, r3 := [false, false].getD i false, r4 := [false, false].getD i false : Sr } : Sq Sr } (1 : Int)) [{ s := [(0 : Int), (0 : Int)].getD ((0 : Nat)) (0 : Int), c := [(0 : Int), (0 : Int)].getD ((0 : Nat)) (0 : Int), k := [(2 : Int), (1 : Int)].getD ((0 : Nat)) (0 : Int) : Rp }, { s := [(0 : Int), (0 : Int)].getD ((1 : Nat)) (0 : Int), c := [(0 : Int), (0 : Int)].getD ((1 : Nat)) (0 : Int), k := [(2 : Int), (1 : Int)].getD ((1 : Nat)) (0 : Int) : Rp }]).snd && [(2 : Int), (1 : Int)].getD ((1 : Nat)) (0 : Int) == (1 : Int) && ((Fd.new { n := (2 : Nat), g := fun (i : Nat) => { k := [(1 : Int), (2 : Int)].getD i (0 : Int), r0 := [false, false].getD i false, r1 := [false, false].getD i false, r2 := [false, false].getD i false, r3 := [false, false].getD i false, r4 := [false, false].getD i false : Sr } : Sq Sr } (1 : Int)).note { s := [(0 : Int), (0 : Int)].getD ((0 : Nat)) (0 : Int), c := [(0 : Int), (0 : Int)].getD ((0 : Nat)) (0 : Int), k := [(2 : Int), (1 : Int)].getD ((0 : Nat)) (0 : Int) : Rp }).s == (1 : Int)) = true
theorem fitV_eq  : fitV  = (funC cx4 Try.f21 .nil [] (XB true)) := by kernel_rfl
theorem fit_v : fitV := by
  unfold fitV
  refine ⟨fun i hi => ?_, fun i hi => ?_, by decide, by decide, by decide, fun i hi => ?_, by kernel_rfl⟩
  · match i, hi with
    | 0, _ => rfl
    | 1, _ => rfl
  · match i, hi with
    | 0, _ => rfl
    | 1, _ => rfl
  · match i, hi with
    | 0, _ => exact ⟨by decide, by decide⟩
    | 1, _ => exact ⟨by decide, by decide⟩
def fitC : CT := C0 [] (XB true)
theorem fit_ok : CTok Try.prog 21 fitC := C0_ok cx4_ok Try.func21 rfl (by decide) rfl fun _ => exv fitV_eq fit_v
def cx5 : Cx := { cx4 with C := (21, fitC) :: (24, kindC) :: (22, orderC) :: cx4.C }
theorem cx5_ok : cx5.ok Try.prog := ((cx4_ok.addC order_ok).addC kind_ok).addC fit_ok
end Go.Proofs.YtljgkjkdmoejfaaAv
