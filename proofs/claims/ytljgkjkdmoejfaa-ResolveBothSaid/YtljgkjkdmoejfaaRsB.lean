/- The contracts of resolve.Resolve, and of the law's own helpers. -/
import Derived.Test.YtljgkjkdmoejfaaRsA
set_option linter.unusedVariables false
set_option linter.unusedSimpArgs false
set_option maxRecDepth 100000
namespace Go.Proofs.YtljgkjkdmoejfaaAv
open Go Go.RowKit

def rpD (l : List XV) : Rp := ⟨intD (xget l 0), intD (xget l 1), intD (xget l 2)⟩
def Rp.cells (r : Rp) : List XV := [XI r.s, XI r.c, XI r.k, Xnil]
instance : Inhabited Rp := ⟨⟨0, 0, 0⟩⟩
def rpsX (q : Sq Rp) : XV := sqX 4 Rp.cells q
def dRps : Dc (Sq Rp) := dSl 4 rpD Rp.cells default

/-- What outcomes, one behind the other, come to. -/
def res (f : Fd) : List Rp → Rp × Bool
  | [] => (f.last, f.ov)
  | p :: l => bif f.ov then (f.last, false) else res (f.note p) l
def valid (p : Rp) : Prop := 1 ≤ p.k ∧ p.k ≤ 5
structure Fd.ok (f : Fd) : Prop where
  o : f.o.n ≤ 1000
  n : f.n ≤ 1000
  c0 : 0 ≤ f.c
  c1 : f.c = 0 ∨ (f.c < f.n ∧ valid f.acc)
  s : f.ov = false → 0 ≤ f.s ∧ f.s < f.o.n
theorem valid_act {p : Rp} (h : valid p) : 0 ≤ act p.k ∧ act p.k < 5 := by
  obtain ⟨h1, h2⟩ := h
  unfold act
  by_cases h : p.k = 5
  · simp [h]
  · simp [h]; omega
theorem valid_both {a b : Rp} (ha : valid a) (hb : valid b) : valid (both a b) := by
  unfold both; split <;> assumption
theorem Fd.ok.take {f : Fd} (h : f.ok) {p : Rp} (hp : valid p) : valid (f.take p) := by
  unfold Fd.take
  cases hc : f.c == 0 with
  | true => exact hp
  | false =>
    rcases h.c1 with h1 | ⟨_, h1⟩
    · rw [h1] at hc; cases hc
    · exact valid_both h1 hp
theorem Fd.ok.can {f : Fd} (h : f.ok) {p : Rp} (hp : valid p) : f.can p := by
  have h1 := h.o
  have h2 := h.n
  have h3 := h.c0
  refine ⟨⟨h3, by rcases h.c1 with h4 | ⟨h4, _⟩ <;> omega⟩, fun ho => ⟨⟨(h.s ho).1, (h.s ho).2, by omega⟩, valid_act (h.take hp)⟩⟩
theorem Fd.ok.note {f : Fd} (h : f.ok) {p : Rp} (hp : valid p) : (f.note p).ok := by
  unfold Fd.note
  cases ho : f.ov with
  | true => exact h
  | false =>
    obtain ⟨s1, s2⟩ := h.s ho
    simp only [cond_false]
    cases hk : (f.take p).k != 1 && decide (f.c + 1 < f.n) with
    | true =>
      simp only [Bool.and_eq_true, decide_eq_true_eq] at hk
      exact ⟨h.o, h.n, by have := h.c0; simp only [cond_true]; omega, .inr ⟨hk.2, h.take hp⟩, fun _ => ⟨s1, s2⟩⟩
    | false =>
      refine ⟨h.o, h.n, by simp, .inl rfl, fun h2 => ?_⟩
      simp only [cond_false, Bool.or_eq_false_iff, beq_eq_false_iff_ne] at h2 ⊢
      omega
theorem Fd.new_ok {o : Ord} {n : Int} (ho : o.n ≤ 1000) (hn : n ≤ 1000) : (Fd.new o n).ok := by
  refine ⟨ho, hn, by simp [Fd.new], .inl rfl, fun h => ?_⟩
  simp only [Fd.new, Bool.or_eq_false_iff, beq_eq_false_iff_ne] at h ⊢
  omega

structure RL where
  i : Nat
  f : Fd
def resInv (o : Ord) (n : Int) (l : Sq Rp) : Inv where
  σ := RL
  S := fun x => ⟨[(6, .ptr 0 0 0 0), (8, .ptr 1 0 0 0), (20, rpsX l), (21, XI l.n), (22, XI x.i)], [(0, .one 44 true [XI 0, XI 0, XI 0, Xnil]), (1, .one 59 true x.f.cells)], 2, false, []⟩
  inv := fun x => x.i ≤ l.n ∧ x.f.ok ∧ res (Fd.new o n) l.toList = res x.f (l.toList.drop x.i)
  μ := fun x => l.n - x.i
def resE (o : Ord) (n : Int) (l : Sq Rp) : Env := { loops := [(0, resInv o n l)] }
def resX (o : Ord) (n : Int) (l : Sq Rp) : XV := .tup [(res (Fd.new o n) l.toList).1.x, XB (res (Fd.new o n) l.toList).2]
def resolveC : CT := C3 dOrd dInt dRps (fun o n l => [o.n ≤ 1000, n ≤ 1000, l.n ≤ 1000000, ∀ i, i < l.n → valid (l.g i)]) resX
def resolveV (o : Ord) (n : Int) (l : Sq Rp) : Prop :=
  (∀ (i : Nat), i < o.n → [XI ((o.g i).k), XB ((o.g i).r0), XB ((o.g i).r1), XB ((o.g i).r2), XB ((o.g i).r3), XB ((o.g i).r4)] = [XI ((o.g i).k), XB ((o.g i).r0), XB ((o.g i).r1), XB ((o.g i).r2), XB ((o.g i).r3), XB ((o.g i).r4)]) ∧ o.n ≤ (1000 : Nat) ∧ (∃ (x : (resInv o n l).σ), (x.i ≤ l.n ∧ x.f.ok ∧ res (Fd.new o n) l.toList = res x.f (List.drop x.i l.toList)) ∧ true = true ∧ XV.ptr (0 : Nat) (0 : Nat) (0 : Nat) (0 : Nat) = XV.ptr (0 : Nat) (0 : Nat) (0 : Nat) (0 : Nat) ∧ XV.ptr ((0 : Nat) + (1 : Nat)) (0 : Nat) (0 : Nat) (0 : Nat) = XV.ptr (1 : Nat) (0 : Nat) (0 : Nat) (0 : Nat) ∧ ((XV.fz l.n (4 : Nat) fun (i : Nat) => [XI ((l.g i).s), XI ((l.g i).c), XI ((l.g i).k), Xnil]) = XV.fz l.n (4 : Nat) fun (i : Nat) => [XI ((l.g i).s), XI ((l.g i).c), XI ((l.g i).k), Xnil]) ∧ (↑l.n : Int) = (↑l.n : Int) ∧ (0 : Int) = (↑x.i : Int) ∧ (((44 : Nat) = (44 : TypeId) ∧ true = true) ∧ (0 : Int) = (0 : Int) ∧ (0 : Int) = (0 : Int) ∧ (0 : Int) = (0 : Int) ∧ Xnil = Xnil ∧ True) ∧ (((59 : TypeId) = (59 : TypeId) ∧ true = true) ∧ ((XV.fz o.n (6 : Nat) fun (i : Nat) => [XI ((o.g i).k), XB ((o.g i).r0), XB ((o.g i).r1), XB ((o.g i).r2), XB ((o.g i).r3), XB ((o.g i).r4)]) = XV.fz x.f.o.n (6 : Nat) fun (i : Nat) => [XI ((x.f.o.g i).k), XB ((x.f.o.g i).r0), XB ((x.f.o.g i).r1), XB ((x.f.o.g i).r2), XB ((x.f.o.g i).r3), XB ((x.f.o.g i).r4)]) ∧ (Fd.new o n).n = x.f.n ∧ (Fd.new o n).s = x.f.s ∧ (Fd.new o n).c = x.f.c ∧ (0 : Int) = x.f.acc.s ∧ (0 : Int) = x.f.acc.c ∧ (0 : Int) = x.f.acc.k ∧ Xnil = Xnil ∧ (0 : Int) = x.f.last.s ∧ (0 : Int) = x.f.last.c ∧ (3 : Int) = x.f.last.k ∧ Xnil = Xnil ∧ (Fd.new o n).ov = x.f.ov ∧ True) ∧ True) ∧ ∀ (x : RL), x.i ≤ l.n ∧ x.f.ok ∧ res (Fd.new o n) l.toList = res x.f (List.drop x.i l.toList) → (decide ((↑x.i : Int) < (↑l.n : Int)) = true → (0 : Int) ≤ (↑x.i : Int) ∧ (↑x.i : Int) < (↑l.n : Int) ∧ (∀ (i : Nat), i < x.f.o.n → [XI ((x.f.o.g i).k), XB ((x.f.o.g i).r0), XB ((x.f.o.g i).r1), XB ((x.f.o.g i).r2), XB ((x.f.o.g i).r3), XB ((x.f.o.g i).r4)] = [XI ((x.f.o.g i).k), XB ((x.f.o.g i).r0), XB ((x.f.o.g i).r1), XB ((x.f.o.g i).r2), XB ((x.f.o.g i).r3), XB ((x.f.o.g i).r4)]) ∧ ((!!x.f.ov) = true → (∀ (i : Nat), i < x.f.o.n → [XI ((x.f.o.g i).k), XB ((x.f.o.g i).r0), XB ((x.f.o.g i).r1), XB ((x.f.o.g i).r2), XB ((x.f.o.g i).r3), XB ((x.f.o.g i).r4)] = [XI ((x.f.o.g i).k), XB ((x.f.o.g i).r0), XB ((x.f.o.g i).r1), XB ((x.f.o.g i).r2), XB ((x.f.o.g i).r3), XB ((x.f.o.g i).r4)]) ∧ (x.f.last.s = (res (Fd.new o n) l.toList).fst.s ∧ x.f.last.c = (res (Fd.new o n) l.toList).fst.c ∧ x.f.last.k = (res (Fd.new o n) l.toList).fst.k ∧ Xnil = Xnil ∧ True) ∧ false = (res (Fd.new o n) l.toList).snd ∧ True) ∧ ((!!x.f.ov) = false → (∀ (i : Nat), i < x.f.o.n → [XI ((x.f.o.g i).k), XB ((x.f.o.g i).r0), XB ((x.f.o.g i).r1), XB ((x.f.o.g i).r2), XB ((x.f.o.g i).r3), XB ((x.f.o.g i).r4)] = [XI ((x.f.o.g i).k), XB ((x.f.o.g i).r0), XB ((x.f.o.g i).r1), XB ((x.f.o.g i).r2), XB ((x.f.o.g i).r3), XB ((x.f.o.g i).r4)]) ∧ x.f.can (l.g (↑x.i : Int).toNat) ∧ in64 ((↑x.i : Int) + (1 : Int)) ∧ ∃ (x' : (resInv o n l).σ), (x'.i ≤ l.n ∧ x'.f.ok ∧ res (Fd.new o n) l.toList = res x'.f (List.drop x'.i l.toList)) ∧ l.n - x'.i < l.n - x.i ∧ true = true ∧ XV.ptr (0 : Nat) (0 : Nat) (0 : Nat) (0 : Nat) = XV.ptr (0 : Nat) (0 : Nat) (0 : Nat) (0 : Nat) ∧ XV.ptr (1 : Nat) (0 : Nat) (0 : Nat) (0 : Nat) = XV.ptr (1 : Nat) (0 : Nat) (0 : Nat) (0 : Nat) ∧ ((XV.fz l.n (4 : Nat) fun (i : Nat) => [XI ((l.g i).s), XI ((l.g i).c), XI ((l.g i).k), Xnil]) = XV.fz l.n (4 : Nat) fun (i : Nat) => [XI ((l.g i).s), XI ((l.g i).c), XI ((l.g i).k), Xnil]) ∧ (↑l.n : Int) = (↑l.n : Int) ∧ (↑x.i : Int) + (1 : Int) = (↑x'.i : Int) ∧ (((44 : TypeId) = (44 : TypeId) ∧ true = true) ∧ (0 : Int) = (0 : Int) ∧ (0 : Int) = (0 : Int) ∧ (0 : Int) = (0 : Int) ∧ Xnil = Xnil ∧ True) ∧ (((59 : TypeId) = (59 : TypeId) ∧ true = true) ∧ ((XV.fz (x.f.note (l.g (↑x.i : Int).toNat)).o.n (6 : Nat) fun (i : Nat) => [XI (((x.f.note (l.g (↑x.i : Int).toNat)).o.g i).k), XB (((x.f.note (l.g (↑x.i : Int).toNat)).o.g i).r0), XB (((x.f.note (l.g (↑x.i : Int).toNat)).o.g i).r1), XB (((x.f.note (l.g (↑x.i : Int).toNat)).o.g i).r2), XB (((x.f.note (l.g (↑x.i : Int).toNat)).o.g i).r3), XB (((x.f.note (l.g (↑x.i : Int).toNat)).o.g i).r4)]) = XV.fz x'.f.o.n (6 : Nat) fun (i : Nat) => [XI ((x'.f.o.g i).k), XB ((x'.f.o.g i).r0), XB ((x'.f.o.g i).r1), XB ((x'.f.o.g i).r2), XB ((x'.f.o.g i).r3), XB ((x'.f.o.g i).r4)]) ∧ (x.f.note (l.g (↑x.i : Int).toNat)).n = x'.f.n ∧ (x.f.note (l.g (↑x.i : Int).toNat)).s = x'.f.s ∧ (x.f.note (l.g (↑x.i : Int).toNat)).c = x'.f.c ∧ (x.f.note (l.g (↑x.i : Int).toNat)).acc.s = x'.f.acc.s ∧ (x.f.note (l.g (↑x.i : Int).toNat)).acc.c = x'.f.acc.c ∧ (x.f.note (l.g (↑x.i : Int).toNat)).acc.k = x'.f.acc.k ∧ Xnil = Xnil ∧ (x.f.note (l.g (↑x.i : Int).toNat)).last.s = x'.f.last.s ∧ (x.f.note (l.g (↑x.i : Int).toNat)).last.c = x'.f.last.c ∧ (x.f.note (l.g (↑x.i : Int).toNat)).last.k = x'.f.last.k ∧ Xnil = Xnil ∧ (x.f.note (l.g (↑x.i : Int).toNat)).ov = x'.f.ov ∧ True) ∧ True)) ∧ (decide ((↑x.i : Int) < (↑l.n : Int)) = false → (∀ (i : Nat), i < x.f.o.n → [XI ((x.f.o.g i).k), XB ((x.f.o.g i).r0), XB ((x.f.o.g i).r1), XB ((x.f.o.g i).r2), XB ((x.f.o.g i).r3), XB ((x.f.o.g i).r4)] = [XI ((x.f.o.g i).k), XB ((x.f.o.g i).r0), XB ((x.f.o.g i).r1), XB ((x.f.o.g i).r2), XB ((x.f.o.g i).r3), XB ((x.f.o.g i).r4)]) ∧ (∀ (i : Nat), i < x.f.o.n → [XI ((x.f.o.g i).k), XB ((x.f.o.g i).r0), XB ((x.f.o.g i).r1), XB ((x.f.o.g i).r2), XB ((x.f.o.g i).r3), XB ((x.f.o.g i).r4)] = [XI ((x.f.o.g i).k), XB ((x.f.o.g i).r0), XB ((x.f.o.g i).r1), XB ((x.f.o.g i).r2), XB ((x.f.o.g i).r3), XB ((x.f.o.g i).r4)]) ∧ (x.f.last.s = (res (Fd.new o n) l.toList).fst.s ∧ x.f.last.c = (res (Fd.new o n) l.toList).fst.c ∧ x.f.last.k = (res (Fd.new o n) l.toList).fst.k ∧ Xnil = Xnil ∧ True) ∧ (!!x.f.ov) = (res (Fd.new o n) l.toList).snd ∧ True)
theorem resolveV_eq (o : Ord) (n : Int) (l : Sq Rp) : resolveV o n l = (funC cx3 Try.f27 (mkSc (resE o n l) (bodyOf Try.f27)) [ordX o, XI n, rpsX l] (resX o n l)) := by kernel_rfl
theorem resolve_v (o : Ord) (n : Int) (l : Sq Rp) (ho : o.n ≤ 1000) (hn : n ≤ 1000) (hk : l.n ≤ 1000000) (hl : ∀ i, i < l.n → valid (l.g i)) : resolveV o n l := by
  unfold resolveV
  have hlen : l.toList.length = l.n := by simp [Sq.toList]
  refine ⟨fun _ _ => rfl, ho, ⟨⟨0, Fd.new o n⟩, ⟨by simp, Fd.new_ok ho hn, by simp⟩, ?_⟩, fun x ⟨hi, hf, hr⟩ => ⟨fun h => ?_, fun h => ?_⟩⟩
  · simp [Fd.new]
  · have hx : x.i < l.n := by simpa using h
    have hd : l.toList.drop x.i = l.g x.i :: l.toList.drop (x.i + 1) := by
      rw [List.drop_eq_getElem_cons (by omega)]; simp [Sq.toList]
    refine ⟨by omega, by omega, fun _ _ => rfl, fun hov => ?_, fun hov => ?_⟩
    · have hov' : x.f.ov = true := by simpa using hov
      have hres : res x.f (l.toList.drop x.i) = (x.f.last, false) := by rw [hd, res, hov']; rfl
      rw [hr, hres]
      simp
    · have hov' : x.f.ov = false := by simpa using hov
      have hres : res x.f (l.toList.drop x.i) = res (x.f.note (l.g x.i)) (l.toList.drop (x.i + 1)) := by rw [hd, res, hov']; rfl
      refine ⟨fun _ _ => rfl, hf.can (hl _ hx), ⟨by omega, by omega⟩, ⟨x.i + 1, x.f.note (l.g x.i)⟩, ⟨hx, hf.note (hl _ hx), by rw [hr, hres]⟩, ?_⟩
      refine ⟨?_, ?_⟩
      · show l.n - (x.i + 1) < l.n - x.i; omega
      · and_intros <;> first | rfl | trivial
  · have hx : ¬ x.i < l.n := by simpa using h
    have hres : res x.f (l.toList.drop x.i) = (x.f.last, x.f.ov) := by rw [List.drop_eq_nil_of_le (by omega)]; rfl
    rw [hr, hres]
    simp
theorem resolve_ok : CTok Try.prog 27 resolveC := C3_ok cx3_ok Try.func27 rfl (by decide) dSl_ok dInt_eq.ok dSl_ok (by kernel_rfl) (fun a b c => by kernel_rfl) fun o n l hc => exv (resolveV_eq o n l) (resolve_v o n l (hc _ (by simp)) (hc _ (by simp)) (hc _ (by simp)) (hc _ (by simp)))
end Go.Proofs.YtljgkjkdmoejfaaAv
