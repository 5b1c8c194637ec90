/- The law ResolveLists: its run. -/
import Derived.Test.YtljgkjkdmoejfaaRsC
set_option linter.unusedVariables false
set_option linter.unusedSimpArgs false
set_option maxRecDepth 100000
namespace Go.Proofs.YtljgkjkdmoejfaaAv
open Go Go.RowKit

def stp (x : Fd × Int) (p : Rp) : Fd × Int := bif x.1.ov then x else (x.1.note p, x.2 + 1)
theorem stp_ov : ∀ (l : List Rp) (x : Fd × Int), x.1.ov = true → l.foldl stp x = x
  | [], x, h => rfl
  | p :: l, x, h => by
    have e : stp x p = x := by unfold stp; rw [h]; rfl
    rw [List.foldl_cons, e]
    exact stp_ov l x h
theorem stp_le : ∀ (l : List Rp) (x : Fd × Int), (l.foldl stp x).2 ≤ x.2 + l.length ∧ x.2 ≤ (l.foldl stp x).2
  | [], x => by simp
  | p :: l, x => by
    rw [List.foldl_cons, List.length_cons]
    have h := stp_le l (stp x p)
    have h2 : (stp x p).2 ≤ x.2 + 1 ∧ x.2 ≤ (stp x p).2 := by unfold stp; cases x.1.ov <;> simp <;> omega
    omega
theorem res_stp : ∀ (l : List Rp) (f : Fd) (c : Int), res f l = ((l.foldl stp (f, c)).1.last, (l.foldl stp (f, c)).1.ov && ((l.foldl stp (f, c)).2 == c + l.length))
  | [], f, c => by simp [res]
  | p :: l, f, c => by
    cases h : f.ov with
    | true =>
      rw [stp_ov _ _ h, res, h]
      have : (c == c + ((p :: l).length : Int)) = false := by simp; omega
      rw [this]; rfl
    | false =>
      have e : stp (f, c) p = (f.note p, c + 1) := by unfold stp; simp only; rw [h]; rfl
      rw [res, h, List.foldl_cons, e]
      simp only [cond_false]
      rw [res_stp l (f.note p) (c + 1), List.length_cons]
      have : c + 1 + (l.length : Int) = c + ((l.length + 1 : Nat) : Int) := by omega
      rw [this]
theorem stp_ok : ∀ (l : List Rp) (x : Fd × Int), x.1.ok → (∀ p ∈ l, valid p) → (l.foldl stp x).1.ok
  | [], x, h, _ => h
  | p :: l, x, h, hv => by
    rw [List.foldl_cons]
    refine stp_ok l _ ?_ fun q hq => hv q (by simp [hq])
    unfold stp
    cases x.1.ov with
    | true => exact h
    | false => exact h.note (hv p (by simp))

def rpK (k : Sq Int) : Sq Rp := ⟨k.n, fun j => ⟨0, 0, kind (k.g j)⟩⟩
def nK (n : Int) : Int := bits .and .i64 n 3
structure LL where
  i : Nat
  f : Fd
  c : Int
def lInv0 (q : Sq Int) (n : Int) (k : Sq Int) : Inv where
  σ := LL
  S := fun x => ⟨[(1, XI (nK n)), (7, ordX (orderOf q)), (8, .ptr 0 0 0 0), (9, XI 0), (10, .sl 1 4 0 x.i), (40, sqX 1 (fun s => [XI s]) k), (41, XI k.n), (42, XI x.i)],
    [(0, .one 59 true (Fd.new (orderOf q) (nK n)).cells), (1, .vec 44 true x.i 4 fun j => ((rpK k).g j).cells)], 2, false⟩
  inv := fun x => x.i ≤ k.n
  μ := fun x => k.n - x.i
def lInv2 (q : Sq Int) (n : Int) (k : Sq Int) : Inv where
  σ := LL
  S := fun x => ⟨[(1, XI (nK n)), (7, ordX (orderOf q)), (8, .ptr 0 0 0 0), (9, XI x.c), (10, rpsX (rpK k)), (53, rpsX (rpK k)), (54, XI k.n), (55, XI x.i)],
    [(0, .one 59 true x.f.cells)], 1, false⟩
  inv := fun x => x.i ≤ k.n ∧ ((rpK k).toList.take x.i).foldl stp (Fd.new (orderOf q) (nK n), 0) = (x.f, x.c)
  μ := fun x => k.n - x.i
def lE (q : Sq Int) (n : Int) (k : Sq Int) : Env := { loops := [(0, lInv0 q n k), (2, lInv2 q n k)], own := [(10, [(10, 44, 4)])], frz := [(15, [10])] }
def listsV (q : Sq Int) (n : Int) (k : Sq Int) : Prop :=
  ((!true) = true → false = true) ∧ ((!true) = false → ((decide ((↑q.n : Int) > (20 : Int)) || decide ((↑k.n : Int) > (60 : Int))) = true → true = true) ∧ ((decide ((↑q.n : Int) > (20 : Int)) || decide ((↑k.n : Int) > (60 : Int))) = false → (∀ (i : Nat), i < q.n → [XI (q.g i)] = [XI (q.g i)]) ∧ q.n ≤ (1000 : Nat) ∧ (∀ (i : Nat), i < (orderOf q).n → [XI (((orderOf q).g i).k), XB (((orderOf q).g i).r0), XB (((orderOf q).g i).r1), XB (((orderOf q).g i).r2), XB (((orderOf q).g i).r3), XB (((orderOf q).g i).r4)] = [XI (((orderOf q).g i).k), XB (((orderOf q).g i).r0), XB (((orderOf q).g i).r1), XB (((orderOf q).g i).r2), XB (((orderOf q).g i).r3), XB (((orderOf q).g i).r4)]) ∧ (orderOf q).n ≤ (1000 : Nat) ∧ (∃ (x : (lInv0 q n k).σ), x.i.le k.n ∧ true = true ∧ bits BinOp.and IntKind.i64 n (3 : Int) = nK n ∧ ((XV.fz (orderOf q).n (6 : Nat) fun (i : Nat) => [XI (((orderOf q).g i).k), XB (((orderOf q).g i).r0), XB (((orderOf q).g i).r1), XB (((orderOf q).g i).r2), XB (((orderOf q).g i).r3), XB (((orderOf q).g i).r4)]) = XV.fz (orderOf q).n (6 : Nat) fun (i : Nat) => [XI (((orderOf q).g i).k), XB (((orderOf q).g i).r0), XB (((orderOf q).g i).r1), XB (((orderOf q).g i).r2), XB (((orderOf q).g i).r3), XB (((orderOf q).g i).r4)]) ∧ XV.ptr (0 : Nat) (0 : Nat) (0 : Nat) (0 : Nat) = XV.ptr (0 : Nat) (0 : Nat) (0 : Nat) (0 : Nat) ∧ (0 : Int) = (0 : Int) ∧ XV.sl ((0 : Nat) + (1 : Nat)) (4 : Nat) (0 : Nat) (0 : Nat) = XV.sl (1 : Nat) (4 : Nat) (0 : Nat) x.i ∧ ((XV.fz k.n (1 : Nat) fun (i : Nat) => [XI (k.g i)]) = XV.fz k.n (1 : Nat) fun (i : Nat) => [XI (k.g i)]) ∧ (↑k.n : Int) = (↑k.n : Int) ∧ (0 : Int) = (↑x.i : Int) ∧ (((59 : TypeId) = (59 : TypeId) ∧ true = true) ∧ ((XV.fz (Fd.new (orderOf q) (bits BinOp.and IntKind.i64 n (3 : Int))).o.n (6 : Nat) fun (i : Nat) => [XI (((Fd.new (orderOf q) (bits BinOp.and IntKind.i64 n (3 : Int))).o.g i).k), XB (((Fd.new (orderOf q) (bits BinOp.and IntKind.i64 n (3 : Int))).o.g i).r0), XB (((Fd.new (orderOf q) (bits BinOp.and IntKind.i64 n (3 : Int))).o.g i).r1), XB (((Fd.new (orderOf q) (bits BinOp.and IntKind.i64 n (3 : Int))).o.g i).r2), XB (((Fd.new (orderOf q) (bits BinOp.and IntKind.i64 n (3 : Int))).o.g i).r3), XB (((Fd.new (orderOf q) (bits BinOp.and IntKind.i64 n (3 : Int))).o.g i).r4)]) = XV.fz (Fd.new (orderOf q) (nK n)).o.n (6 : Nat) fun (i : Nat) => [XI (((Fd.new (orderOf q) (nK n)).o.g i).k), XB (((Fd.new (orderOf q) (nK n)).o.g i).r0), XB (((Fd.new (orderOf q) (nK n)).o.g i).r1), XB (((Fd.new (orderOf q) (nK n)).o.g i).r2), XB (((Fd.new (orderOf q) (nK n)).o.g i).r3), XB (((Fd.new (orderOf q) (nK n)).o.g i).r4)]) ∧ (Fd.new (orderOf q) (bits BinOp.and IntKind.i64 n (3 : Int))).n = (Fd.new (orderOf q) (nK n)).n ∧ (Fd.new (orderOf q) (bits BinOp.and IntKind.i64 n (3 : Int))).s = (Fd.new (orderOf q) (nK n)).s ∧ (Fd.new (orderOf q) (bits BinOp.and IntKind.i64 n (3 : Int))).c = (Fd.new (orderOf q) (nK n)).c ∧ (Fd.new (orderOf q) (bits BinOp.and IntKind.i64 n (3 : Int))).acc.s = (Fd.new (orderOf q) (nK n)).acc.s ∧ (Fd.new (orderOf q) (bits BinOp.and IntKind.i64 n (3 : Int))).acc.c = (Fd.new (orderOf q) (nK n)).acc.c ∧ (Fd.new (orderOf q) (bits BinOp.and IntKind.i64 n (3 : Int))).acc.k = (Fd.new (orderOf q) (nK n)).acc.k ∧ Xnil = Xnil ∧ (Fd.new (orderOf q) (bits BinOp.and IntKind.i64 n (3 : Int))).last.s = (Fd.new (orderOf q) (nK n)).last.s ∧ (Fd.new (orderOf q) (bits BinOp.and IntKind.i64 n (3 : Int))).last.c = (Fd.new (orderOf q) (nK n)).last.c ∧ (Fd.new (orderOf q) (bits BinOp.and IntKind.i64 n (3 : Int))).last.k = (Fd.new (orderOf q) (nK n)).last.k ∧ Xnil = Xnil ∧ (Fd.new (orderOf q) (bits BinOp.and IntKind.i64 n (3 : Int))).ov = (Fd.new (orderOf q) (nK n)).ov ∧ True) ∧ (((44 : Nat) = (44 : TypeId) ∧ true = true ∧ (4 : Nat) = (4 : Nat)) ∧ (0 : Nat) = x.i ∧ ∀ (j : Nat), j < (0 : Nat) → [] = [XI (((rpK k).g j).s), XI (((rpK k).g j).c), XI (((rpK k).g j).k), Xnil]) ∧ True) ∧ ∀ (x : LL), x.i.le k.n → (decide ((↑x.i : Int) < (↑k.n : Int)) = true → (0 : Int) ≤ (↑x.i : Int) ∧ (↑x.i : Int) < (↑k.n : Int) ∧ x.i = x.i ∧ (x.i + (1 : Nat)) * (48 : Nat) ≤ (140737488355328 : Nat) ∧ x.i + (1 : Nat) ≤ (140737488355328 : Nat) ∧ in64 ((↑x.i : Int) + (1 : Int)) ∧ ∃ (x' : (lInv0 q n k).σ), x'.i.le k.n ∧ k.n - x'.i < k.n - x.i ∧ true = true ∧ nK n = nK n ∧ ((XV.fz (orderOf q).n (6 : Nat) fun (i : Nat) => [XI (((orderOf q).g i).k), XB (((orderOf q).g i).r0), XB (((orderOf q).g i).r1), XB (((orderOf q).g i).r2), XB (((orderOf q).g i).r3), XB (((orderOf q).g i).r4)]) = XV.fz (orderOf q).n (6 : Nat) fun (i : Nat) => [XI (((orderOf q).g i).k), XB (((orderOf q).g i).r0), XB (((orderOf q).g i).r1), XB (((orderOf q).g i).r2), XB (((orderOf q).g i).r3), XB (((orderOf q).g i).r4)]) ∧ XV.ptr (0 : Nat) (0 : Nat) (0 : Nat) (0 : Nat) = XV.ptr (0 : Nat) (0 : Nat) (0 : Nat) (0 : Nat) ∧ (0 : Int) = (0 : Int) ∧ XV.sl (1 : Nat) (4 : Nat) (0 : Nat) (x.i + (1 : Nat)) = XV.sl (1 : Nat) (4 : Nat) (0 : Nat) x'.i ∧ ((XV.fz k.n (1 : Nat) fun (i : Nat) => [XI (k.g i)]) = XV.fz k.n (1 : Nat) fun (i : Nat) => [XI (k.g i)]) ∧ (↑k.n : Int) = (↑k.n : Int) ∧ (↑x.i : Int) + (1 : Int) = (↑x'.i : Int) ∧ (((59 : TypeId) = (59 : TypeId) ∧ true = true) ∧ ((XV.fz (Fd.new (orderOf q) (nK n)).o.n (6 : Nat) fun (i : Nat) => [XI (((Fd.new (orderOf q) (nK n)).o.g i).k), XB (((Fd.new (orderOf q) (nK n)).o.g i).r0), XB (((Fd.new (orderOf q) (nK n)).o.g i).r1), XB (((Fd.new (orderOf q) (nK n)).o.g i).r2), XB (((Fd.new (orderOf q) (nK n)).o.g i).r3), XB (((Fd.new (orderOf q) (nK n)).o.g i).r4)]) = XV.fz (Fd.new (orderOf q) (nK n)).o.n (6 : Nat) fun (i : Nat) => [XI (((Fd.new (orderOf q) (nK n)).o.g i).k), XB (((Fd.new (orderOf q) (nK n)).o.g i).r0), XB (((Fd.new (orderOf q) (nK n)).o.g i).r1), XB (((Fd.new (orderOf q) (nK n)).o.g i).r2), XB (((Fd.new (orderOf q) (nK n)).o.g i).r3), XB (((Fd.new (orderOf q) (nK n)).o.g i).r4)]) ∧ (Fd.new (orderOf q) (nK n)).n = (Fd.new (orderOf q) (nK n)).n ∧ (Fd.new (orderOf q) (nK n)).s = (Fd.new (orderOf q) (nK n)).s ∧ (Fd.new (orderOf q) (nK n)).c = (Fd.new (orderOf q) (nK n)).c ∧ (Fd.new (orderOf q) (nK n)).acc.s = (Fd.new (orderOf q) (nK n)).acc.s ∧ (Fd.new (orderOf q) (nK n)).acc.c = (Fd.new (orderOf q) (nK n)).acc.c ∧ (Fd.new (orderOf q) (nK n)).acc.k = (Fd.new (orderOf q) (nK n)).acc.k ∧ Xnil = Xnil ∧ (Fd.new (orderOf q) (nK n)).last.s = (Fd.new (orderOf q) (nK n)).last.s ∧ (Fd.new (orderOf q) (nK n)).last.c = (Fd.new (orderOf q) (nK n)).last.c ∧ (Fd.new (orderOf q) (nK n)).last.k = (Fd.new (orderOf q) (nK n)).last.k ∧ Xnil = Xnil ∧ (Fd.new (orderOf q) (nK n)).ov = (Fd.new (orderOf q) (nK n)).ov ∧ True) ∧ (((44 : TypeId) = (44 : TypeId) ∧ true = true ∧ (4 : Nat) = (4 : Nat)) ∧ x.i + (1 : Nat) = x'.i ∧ ∀ (j : Nat), j < x.i + (1 : Nat) → (bif j.blt x.i then [XI (((rpK k).g j).s), XI (((rpK k).g j).c), XI (((rpK k).g j).k), Xnil] else [XI 0, XI 0, XI (kind (k.g (↑x.i : Int).toNat)), Xnil]) = [XI (((rpK k).g j).s), XI (((rpK k).g j).c), XI (((rpK k).g j).k), Xnil]) ∧ True) ∧ (decide ((↑x.i : Int) < (↑k.n : Int)) = false → x.i = x.i ∧ (∃ (x_1 : (lInv2 q n k).σ), (x_1.i ≤ k.n ∧ List.foldl stp (Fd.new (orderOf q) (nK n), (0 : Int)) (List.take x_1.i (rpK k).toList) = (x_1.f, x_1.c)) ∧ true = true ∧ nK n = nK n ∧ ((XV.fz (orderOf q).n (6 : Nat) fun (i : Nat) => [XI (((orderOf q).g i).k), XB (((orderOf q).g i).r0), XB (((orderOf q).g i).r1), XB (((orderOf q).g i).r2), XB (((orderOf q).g i).r3), XB (((orderOf q).g i).r4)]) = XV.fz (orderOf q).n (6 : Nat) fun (i : Nat) => [XI (((orderOf q).g i).k), XB (((orderOf q).g i).r0), XB (((orderOf q).g i).r1), XB (((orderOf q).g i).r2), XB (((orderOf q).g i).r3), XB (((orderOf q).g i).r4)]) ∧ XV.ptr (0 : Nat) (0 : Nat) (0 : Nat) (0 : Nat) = XV.ptr (0 : Nat) (0 : Nat) (0 : Nat) (0 : Nat) ∧ (0 : Int) = x_1.c ∧ ((XV.fz x.i (4 : Nat) fun (j : Nat) => [XI (((rpK k).g j).s), XI (((rpK k).g j).c), XI (((rpK k).g j).k), Xnil]) = XV.fz (rpK k).n (4 : Nat) fun (i : Nat) => [XI (((rpK k).g i).s), XI (((rpK k).g i).c), XI (((rpK k).g i).k), Xnil]) ∧ ((XV.fz x.i (4 : Nat) fun (j : Nat) => [XI (((rpK k).g j).s), XI (((rpK k).g j).c), XI (((rpK k).g j).k), Xnil]) = XV.fz (rpK k).n (4 : Nat) fun (i : Nat) => [XI (((rpK k).g i).s), XI (((rpK k).g i).c), XI (((rpK k).g i).k), Xnil]) ∧ (↑x.i : Int) = (↑k.n : Int) ∧ (0 : Int) = (↑x_1.i : Int) ∧ (((59 : TypeId) = (59 : TypeId) ∧ true = true) ∧ ((XV.fz (Fd.new (orderOf q) (nK n)).o.n (6 : Nat) fun (i : Nat) => [XI (((Fd.new (orderOf q) (nK n)).o.g i).k), XB (((Fd.new (orderOf q) (nK n)).o.g i).r0), XB (((Fd.new (orderOf q) (nK n)).o.g i).r1), XB (((Fd.new (orderOf q) (nK n)).o.g i).r2), XB (((Fd.new (orderOf q) (nK n)).o.g i).r3), XB (((Fd.new (orderOf q) (nK n)).o.g i).r4)]) = XV.fz x_1.f.o.n (6 : Nat) fun (i : Nat) => [XI ((x_1.f.o.g i).k), XB ((x_1.f.o.g i).r0), XB ((x_1.f.o.g i).r1), XB ((x_1.f.o.g i).r2), XB ((x_1.f.o.g i).r3), XB ((x_1.f.o.g i).r4)]) ∧ (Fd.new (orderOf q) (nK n)).n = x_1.f.n ∧ (Fd.new (orderOf q) (nK n)).s = x_1.f.s ∧ (Fd.new (orderOf q) (nK n)).c = x_1.f.c ∧ (Fd.new (orderOf q) (nK n)).acc.s = x_1.f.acc.s ∧ (Fd.new (orderOf q) (nK n)).acc.c = x_1.f.acc.c ∧ (Fd.new (orderOf q) (nK n)).acc.k = x_1.f.acc.k ∧ Xnil = Xnil ∧ (Fd.new (orderOf q) (nK n)).last.s = x_1.f.last.s ∧ (Fd.new (orderOf q) (nK n)).last.c = x_1.f.last.c ∧ (Fd.new (orderOf q) (nK n)).last.k = x_1.f.last.k ∧ Xnil = Xnil ∧ (Fd.new (orderOf q) (nK n)).ov = x_1.f.ov ∧ True) ∧ True) ∧ ∀ (x : LL), x.i ≤ k.n ∧ List.foldl stp (Fd.new (orderOf q) (nK n), (0 : Int)) (List.take x.i (rpK k).toList) = (x.f, x.c) → (decide ((↑x.i : Int) < (↑k.n : Int)) = true → (0 : Int) ≤ (↑x.i : Int) ∧ (↑x.i : Int) < (↑(rpK k).n : Int) ∧ (∀ (i : Nat), i < x.f.o.n → [XI ((x.f.o.g i).k), XB ((x.f.o.g i).r0), XB ((x.f.o.g i).r1), XB ((x.f.o.g i).r2), XB ((x.f.o.g i).r3), XB ((x.f.o.g i).r4)] = [XI ((x.f.o.g i).k), XB ((x.f.o.g i).r0), XB ((x.f.o.g i).r1), XB ((x.f.o.g i).r2), XB ((x.f.o.g i).r3), XB ((x.f.o.g i).r4)]) ∧ ((!x.f.ov) = true → (∀ (i : Nat), i < x.f.o.n → [XI ((x.f.o.g i).k), XB ((x.f.o.g i).r0), XB ((x.f.o.g i).r1), XB ((x.f.o.g i).r2), XB ((x.f.o.g i).r3), XB ((x.f.o.g i).r4)] = [XI ((x.f.o.g i).k), XB ((x.f.o.g i).r0), XB ((x.f.o.g i).r1), XB ((x.f.o.g i).r2), XB ((x.f.o.g i).r3), XB ((x.f.o.g i).r4)]) ∧ x.f.can ((rpK k).g (↑x.i : Int).toNat) ∧ in64 (x.c + (1 : Int)) ∧ in64 ((↑x.i : Int) + (1 : Int)) ∧ ∃ (x' : (lInv2 q n k).σ), (x'.i ≤ k.n ∧ List.foldl stp (Fd.new (orderOf q) (nK n), (0 : Int)) (List.take x'.i (rpK k).toList) = (x'.f, x'.c)) ∧ k.n - x'.i < k.n - x.i ∧ true = true ∧ nK n = nK n ∧ ((XV.fz (orderOf q).n (6 : Nat) fun (i : Nat) => [XI (((orderOf q).g i).k), XB (((orderOf q).g i).r0), XB (((orderOf q).g i).r1), XB (((orderOf q).g i).r2), XB (((orderOf q).g i).r3), XB (((orderOf q).g i).r4)]) = XV.fz (orderOf q).n (6 : Nat) fun (i : Nat) => [XI (((orderOf q).g i).k), XB (((orderOf q).g i).r0), XB (((orderOf q).g i).r1), XB (((orderOf q).g i).r2), XB (((orderOf q).g i).r3), XB (((orderOf q).g i).r4)]) ∧ XV.ptr (0 : Nat) (0 : Nat) (0 : Nat) (0 : Nat) = XV.ptr (0 : Nat) (0 : Nat) (0 : Nat) (0 : Nat) ∧ x.c + (1 : Int) = x'.c ∧ ((XV.fz (rpK k).n (4 : Nat) fun (i : Nat) => [XI (((rpK k).g i).s), XI (((rpK k).g i).c), XI (((rpK k).g i).k), Xnil]) = XV.fz (rpK k).n (4 : Nat) fun (i : Nat) => [XI (((rpK k).g i).s), XI (((rpK k).g i).c), XI (((rpK k).g i).k), Xnil]) ∧ ((XV.fz (rpK k).n (4 : Nat) fun (i : Nat) => [XI (((rpK k).g i).s), XI (((rpK k).g i).c), XI (((rpK k).g i).k), Xnil]) = XV.fz (rpK k).n (4 : Nat) fun (i : Nat) => [XI (((rpK k).g i).s), XI (((rpK k).g i).c), XI (((rpK k).g i).k), Xnil]) ∧ (↑k.n : Int) = (↑k.n : Int) ∧ (↑x.i : Int) + (1 : Int) = (↑x'.i : Int) ∧ (((59 : TypeId) = (59 : TypeId) ∧ true = true) ∧ ((XV.fz (x.f.note ((rpK k).g (↑x.i : Int).toNat)).o.n (6 : Nat) fun (i : Nat) => [XI (((x.f.note ((rpK k).g (↑x.i : Int).toNat)).o.g i).k), XB (((x.f.note ((rpK k).g (↑x.i : Int).toNat)).o.g i).r0), XB (((x.f.note ((rpK k).g (↑x.i : Int).toNat)).o.g i).r1), XB (((x.f.note ((rpK k).g (↑x.i : Int).toNat)).o.g i).r2), XB (((x.f.note ((rpK k).g (↑x.i : Int).toNat)).o.g i).r3), XB (((x.f.note ((rpK k).g (↑x.i : Int).toNat)).o.g i).r4)]) = XV.fz x'.f.o.n (6 : Nat) fun (i : Nat) => [XI ((x'.f.o.g i).k), XB ((x'.f.o.g i).r0), XB ((x'.f.o.g i).r1), XB ((x'.f.o.g i).r2), XB ((x'.f.o.g i).r3), XB ((x'.f.o.g i).r4)]) ∧ (x.f.note ((rpK k).g (↑x.i : Int).toNat)).n = x'.f.n ∧ (x.f.note ((rpK k).g (↑x.i : Int).toNat)).s = x'.f.s ∧ (x.f.note ((rpK k).g (↑x.i : Int).toNat)).c = x'.f.c ∧ (x.f.note ((rpK k).g (↑x.i : Int).toNat)).acc.s = x'.f.acc.s ∧ (x.f.note ((rpK k).g (↑x.i : Int).toNat)).acc.c = x'.f.acc.c ∧ (x.f.note ((rpK k).g (↑x.i : Int).toNat)).acc.k = x'.f.acc.k ∧ Xnil = Xnil ∧ (x.f.note ((rpK k).g (↑x.i : Int).toNat)).last.s = x'.f.last.s ∧ (x.f.note ((rpK k).g (↑x.i : Int).toNat)).last.c = x'.f.last.c ∧ (x.f.note ((rpK k).g (↑x.i : Int).toNat)).last.k = x'.f.last.k ∧ Xnil = Xnil ∧ (x.f.note ((rpK k).g (↑x.i : Int).toNat)).ov = x'.f.ov ∧ True) ∧ True) ∧ ((!x.f.ov) = false → in64 ((↑x.i : Int) + (1 : Int)) ∧ ∃ (x' : (lInv2 q n k).σ), (x'.i ≤ k.n ∧ List.foldl stp (Fd.new (orderOf q) (nK n), (0 : Int)) (List.take x'.i (rpK k).toList) = (x'.f, x'.c)) ∧ k.n - x'.i < k.n - x.i ∧ true = true ∧ nK n = nK n ∧ ((XV.fz (orderOf q).n (6 : Nat) fun (i : Nat) => [XI (((orderOf q).g i).k), XB (((orderOf q).g i).r0), XB (((orderOf q).g i).r1), XB (((orderOf q).g i).r2), XB (((orderOf q).g i).r3), XB (((orderOf q).g i).r4)]) = XV.fz (orderOf q).n (6 : Nat) fun (i : Nat) => [XI (((orderOf q).g i).k), XB (((orderOf q).g i).r0), XB (((orderOf q).g i).r1), XB (((orderOf q).g i).r2), XB (((orderOf q).g i).r3), XB (((orderOf q).g i).r4)]) ∧ XV.ptr (0 : Nat) (0 : Nat) (0 : Nat) (0 : Nat) = XV.ptr (0 : Nat) (0 : Nat) (0 : Nat) (0 : Nat) ∧ x.c = x'.c ∧ ((XV.fz (rpK k).n (4 : Nat) fun (i : Nat) => [XI (((rpK k).g i).s), XI (((rpK k).g i).c), XI (((rpK k).g i).k), Xnil]) = XV.fz (rpK k).n (4 : Nat) fun (i : Nat) => [XI (((rpK k).g i).s), XI (((rpK k).g i).c), XI (((rpK k).g i).k), Xnil]) ∧ ((XV.fz (rpK k).n (4 : Nat) fun (i : Nat) => [XI (((rpK k).g i).s), XI (((rpK k).g i).c), XI (((rpK k).g i).k), Xnil]) = XV.fz (rpK k).n (4 : Nat) fun (i : Nat) => [XI (((rpK k).g i).s), XI (((rpK k).g i).c), XI (((rpK k).g i).k), Xnil]) ∧ (↑k.n : Int) = (↑k.n : Int) ∧ (↑x.i : Int) + (1 : Int) = (↑x'.i : Int) ∧ (((59 : TypeId) = (59 : TypeId) ∧ true = true) ∧ ((XV.fz x.f.o.n (6 : Nat) fun (i : Nat) => [XI ((x.f.o.g i).k), XB ((x.f.o.g i).r0), XB ((x.f.o.g i).r1), XB ((x.f.o.g i).r2), XB ((x.f.o.g i).r3), XB ((x.f.o.g i).r4)]) = XV.fz x'.f.o.n (6 : Nat) fun (i : Nat) => [XI ((x'.f.o.g i).k), XB ((x'.f.o.g i).r0), XB ((x'.f.o.g i).r1), XB ((x'.f.o.g i).r2), XB ((x'.f.o.g i).r3), XB ((x'.f.o.g i).r4)]) ∧ x.f.n = x'.f.n ∧ x.f.s = x'.f.s ∧ x.f.c = x'.f.c ∧ x.f.acc.s = x'.f.acc.s ∧ x.f.acc.c = x'.f.acc.c ∧ x.f.acc.k = x'.f.acc.k ∧ Xnil = Xnil ∧ x.f.last.s = x'.f.last.s ∧ x.f.last.c = x'.f.last.c ∧ x.f.last.k = x'.f.last.k ∧ Xnil = Xnil ∧ x.f.ov = x'.f.ov ∧ True) ∧ True)) ∧ (decide ((↑x.i : Int) < (↑k.n : Int)) = false → (∀ (i : Nat), i < x.f.o.n → [XI ((x.f.o.g i).k), XB ((x.f.o.g i).r0), XB ((x.f.o.g i).r1), XB ((x.f.o.g i).r2), XB ((x.f.o.g i).r3), XB ((x.f.o.g i).r4)] = [XI ((x.f.o.g i).k), XB ((x.f.o.g i).r0), XB ((x.f.o.g i).r1), XB ((x.f.o.g i).r2), XB ((x.f.o.g i).r3), XB ((x.f.o.g i).r4)]) ∧ (∀ (i : Nat), i < (orderOf q).n → [XI (((orderOf q).g i).k), XB (((orderOf q).g i).r0), XB (((orderOf q).g i).r1), XB (((orderOf q).g i).r2), XB (((orderOf q).g i).r3), XB (((orderOf q).g i).r4)] = [XI (((orderOf q).g i).k), XB (((orderOf q).g i).r0), XB (((orderOf q).g i).r1), XB (((orderOf q).g i).r2), XB (((orderOf q).g i).r3), XB (((orderOf q).g i).r4)]) ∧ (∀ (i : Nat), i < (rpK k).n → [XI (((rpK k).g i).s), XI (((rpK k).g i).c), XI (((rpK k).g i).k), Xnil] = [XI (((rpK k).g i).s), XI (((rpK k).g i).c), XI (((rpK k).g i).k), Xnil]) ∧ (orderOf q).n ≤ (1000 : Nat) ∧ nK n ≤ (1000 : Int) ∧ (rpK k).n ≤ (1000000 : Nat) ∧ (∀ (i : Nat), i < (rpK k).n → valid ((rpK k).g i)) ∧ (((res (Fd.new (orderOf q) (nK n)) (rpK k).toList).snd == (!!x.f.ov && x.c == (↑(rpK k).n : Int))) = true → ∀ (i : Nat), i < x.f.o.n → [XI ((x.f.o.g i).k), XB ((x.f.o.g i).r0), XB ((x.f.o.g i).r1), XB ((x.f.o.g i).r2), XB ((x.f.o.g i).r3), XB ((x.f.o.g i).r4)] = [XI ((x.f.o.g i).k), XB ((x.f.o.g i).r0), XB ((x.f.o.g i).r1), XB ((x.f.o.g i).r2), XB ((x.f.o.g i).r3), XB ((x.f.o.g i).r4)]) ∧ (((res (Fd.new (orderOf q) (nK n)) (rpK k).toList).snd == (!!x.f.ov && x.c == (↑(rpK k).n : Int)) && (res (Fd.new (orderOf q) (nK n)) (rpK k).toList).fst.k == x.f.last.k) = true → ∀ (i : Nat), i < x.f.o.n → [XI ((x.f.o.g i).k), XB ((x.f.o.g i).r0), XB ((x.f.o.g i).r1), XB ((x.f.o.g i).r2), XB ((x.f.o.g i).r3), XB ((x.f.o.g i).r4)] = [XI ((x.f.o.g i).k), XB ((x.f.o.g i).r0), XB ((x.f.o.g i).r1), XB ((x.f.o.g i).r2), XB ((x.f.o.g i).r3), XB ((x.f.o.g i).r4)]) ∧ ((res (Fd.new (orderOf q) (nK n)) (rpK k).toList).snd == (!!x.f.ov && x.c == (↑(rpK k).n : Int)) && (res (Fd.new (orderOf q) (nK n)) (rpK k).toList).fst.k == x.f.last.k && (res (Fd.new (orderOf q) (nK n)) (rpK k).toList).fst.s == x.f.last.s) = true))))
theorem listsV_eq (q : Sq Int) (n : Int) (k : Sq Int) : listsV q n k = (funC cx5 Try.f9 (mkSc (lE q n k) (bodyOf Try.f9)) [sqX 1 (fun s => [XI s]) q, XI n, sqX 1 (fun s => [XI s]) k] (XB true)) := by kernel_rfl
theorem lists_v (q : Sq Int) (n : Int) (k : Sq Int) : listsV q n k := by
  have hv : ∀ i, valid ((rpK k).g i) := fun i => kind_valid _
  have hnk : 0 ≤ nK n ∧ nK n ≤ 3 := and_mask n 3 (by omega) (by omega)
  have ho : (orderOf q).n ≤ 4 := by simp only [orderOf]; omega
  have hlen : (rpK k).toList.length = k.n := by simp [Sq.toList, rpK]
  have hmem : ∀ p ∈ (rpK k).toList, valid p := by
    intro p hp
    simp only [Sq.toList, List.mem_map] at hp
    obtain ⟨i, _, rfl⟩ := hp
    exact hv i
  have f0 : (Fd.new (orderOf q) (nK n)).ok := Fd.new_ok (by omega) (by omega)
  unfold listsV
  refine ⟨fun h => absurd h (by decide), fun _ => ⟨fun _ => rfl, fun hg => ?_⟩⟩
  have hqk : q.n ≤ 20 ∧ k.n ≤ 60 := by simp at hg; omega
  obtain ⟨hq, hk⟩ := hqk
  refine ⟨fun _ _ => rfl, by omega, fun _ _ => rfl, by omega, ⟨⟨0, Fd.new (orderOf q) (nK n), 0⟩, Nat.zero_le _, ?_⟩, fun x h1 => ⟨fun h => ?_, fun h => ?_⟩⟩
  · and_intros
    all_goals first | rfl | trivial | skip
    exact fun j hj => absurd hj (by omega)
  · have hx : x.i < k.n := by simpa using h
    refine ⟨by omega, by omega, rfl, by omega, by omega, ⟨by omega, by omega⟩, ⟨x.i + 1, x.f, x.c⟩, hx, by show k.n - (x.i + 1) < k.n - x.i; omega, ?_⟩
    and_intros
    all_goals first | rfl | trivial | skip
    intro j hj
    rcases Nat.lt_or_ge j x.i with hlt | hge
    · have e : j.blt x.i = true := by rw [bltN]; simp [hlt]
      rw [e]; rfl
    · have e : j.blt x.i = false := by rw [bltN]; simp; omega
      have ej : j = x.i := by omega
      subst ej
      rw [e]
      simp only [cond_false, Int.toNat_natCast]
      rfl
  · have hx : ¬ x.i < k.n := by simpa using h
    have hxe : x.i = k.n := by have h1' : x.i ≤ k.n := h1; omega
    refine ⟨rfl, ⟨⟨0, Fd.new (orderOf q) (nK n), 0⟩, ⟨Nat.zero_le _, rfl⟩, ?_⟩, fun y ⟨h2, h3⟩ => ?_⟩
    · rw [hxe]
      and_intros <;> first | rfl | trivial
    · have hfok : y.f.ok := by
        have := stp_ok ((rpK k).toList.take y.i) (Fd.new (orderOf q) (nK n), 0) f0 fun p hp => hmem p (List.mem_of_mem_take hp)
        rw [h3] at this
        exact this
      have hc := stp_le ((rpK k).toList.take y.i) (Fd.new (orderOf q) (nK n), 0)
      rw [h3] at hc
      simp only [List.length_take, hlen] at hc
      refine ⟨fun h => ?_, fun h => ?_⟩
      · have hy : y.i < k.n := by simpa using h
        have hsn : (rpK k).toList.take (y.i + 1) = (rpK k).toList.take y.i ++ [(rpK k).g y.i] := by
          rw [List.take_add_one, List.getElem?_eq_getElem (by omega)]
          simp [Sq.toList]
        refine ⟨by omega, by show (y.i : Int) < (k.n : Int); omega, fun _ _ => rfl, fun hov => ?_, fun hov => ?_⟩
        · have hov' : y.f.ov = false := by simpa using hov
          refine ⟨fun _ _ => rfl, hfok.can (hv _), ⟨by omega, by omega⟩, ⟨by omega, by omega⟩, ⟨y.i + 1, y.f.note ((rpK k).g y.i), y.c + 1⟩, ⟨hy, ?_⟩, by show k.n - (y.i + 1) < k.n - y.i; omega, ?_⟩
          · show List.foldl stp _ (List.take (y.i + 1) _) = _
            rw [hsn, List.foldl_append, h3]
            simp only [List.foldl_cons, List.foldl_nil]
            unfold stp
            simp only
            rw [hov']
            rfl
          · and_intros <;> first | rfl | trivial
        · have hov' : y.f.ov = true := by simpa using hov
          refine ⟨⟨by omega, by omega⟩, ⟨y.i + 1, y.f, y.c⟩, ⟨hy, ?_⟩, by show k.n - (y.i + 1) < k.n - y.i; omega, ?_⟩
          · show List.foldl stp _ (List.take (y.i + 1) _) = _
            rw [hsn, List.foldl_append, h3]
            simp only [List.foldl_cons, List.foldl_nil]
            unfold stp
            simp only
            rw [hov']
            rfl
          · and_intros <;> first | rfl | trivial
      · have hy : ¬ y.i < k.n := by simpa using h
        have hall : (rpK k).toList.take y.i = (rpK k).toList := List.take_of_length_le (by omega)
        have hres := res_stp (rpK k).toList (Fd.new (orderOf q) (nK n)) 0
        rw [← hall, h3, hall, hlen] at hres
        refine ⟨fun _ _ => rfl, fun _ _ => rfl, fun _ _ => rfl, by omega, by omega, by show k.n ≤ 1000000; omega, fun i _ => hv i, fun _ _ _ => rfl, fun _ _ _ => rfl, ?_⟩
        have e : ((rpK k).n : Int) = (k.n : Int) := rfl
        rw [hres, e]
        simp
def listsC : CT := C3 dInts dInt dInts (fun _ _ _ => []) fun _ _ _ => XB true
theorem lists_ok : CTok Try.prog 9 listsC := C3_ok cx5_ok Try.func9 rfl (by decide) dSl_ok dInt_eq.ok dSl_ok (by kernel_rfl) (fun _ _ _ => rfl) fun q n k _ => exv (listsV_eq q n k) (lists_v q n k)
end Go.Proofs.YtljgkjkdmoejfaaAv
