/- The walk of ResolveBoth. -/
import Derived.Test.YtljgkjkdmoejfaaRsC
set_option linter.unusedVariables false
set_option linter.unusedSimpArgs false
set_option maxRecDepth 100000
namespace Go.Proofs.YtljgkjkdmoejfaaAv
open Go Go.RowKit
def rbE : Env := { dec := [] }
def rbV (a b c : Int) : Prop :=
  ((!true) = true → false = true) ∧ ((!true) = false → (((both (both { s := (0 : Int), c := (1 : Int), k := kind a : Rp } { s := (0 : Int), c := (2 : Int), k := kind b : Rp }) { s := (0 : Int), c := (3 : Int), k := kind c : Rp }).k != (both { s := (0 : Int), c := (1 : Int), k := kind a : Rp } (both { s := (0 : Int), c := (2 : Int), k := kind b : Rp } { s := (0 : Int), c := (3 : Int), k := kind c : Rp })).k || (both (both { s := (0 : Int), c := (1 : Int), k := kind a : Rp } { s := (0 : Int), c := (2 : Int), k := kind b : Rp }) { s := (0 : Int), c := (3 : Int), k := kind c : Rp }).c != (both { s := (0 : Int), c := (1 : Int), k := kind a : Rp } (both { s := (0 : Int), c := (2 : Int), k := kind b : Rp } { s := (0 : Int), c := (3 : Int), k := kind c : Rp })).c) = true → false = true) ∧ (((both (both { s := (0 : Int), c := (1 : Int), k := kind a : Rp } { s := (0 : Int), c := (2 : Int), k := kind b : Rp }) { s := (0 : Int), c := (3 : Int), k := kind c : Rp }).k != (both { s := (0 : Int), c := (1 : Int), k := kind a : Rp } (both { s := (0 : Int), c := (2 : Int), k := kind b : Rp } { s := (0 : Int), c := (3 : Int), k := kind c : Rp })).k || (both (both { s := (0 : Int), c := (1 : Int), k := kind a : Rp } { s := (0 : Int), c := (2 : Int), k := kind b : Rp }) { s := (0 : Int), c := (3 : Int), k := kind c : Rp }).c != (both { s := (0 : Int), c := (1 : Int), k := kind a : Rp } (both { s := (0 : Int), c := (2 : Int), k := kind b : Rp } { s := (0 : Int), c := (3 : Int), k := kind c : Rp })).c) = false → ((kind a == (1 : Int)) = true → ((both { s := (0 : Int), c := (1 : Int), k := kind a : Rp } { s := (0 : Int), c := (2 : Int), k := kind b : Rp }).c == (1 : Int)) = true) ∧ ((kind a == (1 : Int)) = false → ((kind b == (1 : Int)) = true → ((both { s := (0 : Int), c := (1 : Int), k := kind a : Rp } { s := (0 : Int), c := (2 : Int), k := kind b : Rp }).c == (2 : Int)) = true) ∧ ((kind b == (1 : Int)) = false → (0 : Int) ≤ kind b ∧ kind b < (↑(6 : Nat) : Int) ∧ (0 : Int) ≤ kind a ∧ kind a < (↑(6 : Nat) : Int) ∧ (((both { s := (0 : Int), c := (1 : Int), k := kind a : Rp } { s := (0 : Int), c := (2 : Int), k := kind b : Rp }).c == (2 : Int)) == decide ([(0 : Int), (0 : Int), (2 : Int), (1 : Int), (4 : Int), (3 : Int)].getD (kind b).toNat (0 : Int) > [(0 : Int), (0 : Int), (2 : Int), (1 : Int), (4 : Int), (3 : Int)].getD (kind a).toNat (0 : Int))) = true))))
theorem rbV_eq (a b c : Int) : rbV a b c = (funC cx5 Try.f10 (mkSc rbE (bodyOf Try.f10)) [XI a, XI b, XI c] (XB true)) := by kernel_rfl
theorem one5 {x : Int} (h : 1 ≤ x ∧ x ≤ 5) : x = 1 ∨ x = 2 ∨ x = 3 ∨ x = 4 ∨ x = 5 := by omega
theorem rb_v (a b c : Int) : rbV a b c := by
  unfold rbV
  have ha := one5 (kind_valid a)
  have hb := one5 (kind_valid b)
  have hc := one5 (kind_valid c)
  generalize kind a = x at ha
  generalize kind b = y at hb
  generalize kind c = z at hc
  rcases ha with rfl | rfl | rfl | rfl | rfl <;> rcases hb with rfl | rfl | rfl | rfl | rfl <;> rcases hc with rfl | rfl | rfl | rfl | rfl <;> decide
def rbC : CT := C3 dInt dInt dInt (fun _ _ _ => []) fun _ _ _ => XB true
theorem rb_ok : CTok Try.prog 10 rbC := C3_ok cx5_ok Try.func10 rfl (by decide) dInt_eq.ok dInt_eq.ok dInt_eq.ok (by kernel_rfl) (fun a b c => rfl) fun a b c _ => exv (rbV_eq a b c) (rb_v a b c)
end Go.Proofs.YtljgkjkdmoejfaaAv
