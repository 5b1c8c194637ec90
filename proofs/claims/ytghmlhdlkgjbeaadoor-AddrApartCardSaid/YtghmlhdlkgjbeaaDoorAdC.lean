/- addr: Is4, V4, Shared. -/
import Derived.Test.YtghmlhdlkgjbeaaDoorAdB
set_option linter.unusedVariables false
set_option linter.unusedSimpArgs false
set_option maxRecDepth 100000
namespace Go.Proofs.YtghmlhdlkgjbeaaDoorAv
open Go Go.RowKit
def byteO : XV → Option Int
  | .v (.p (.int .u8 i)) => some i
  | _ => none
def byteD (x : XV) : Int := (byteO x).getD 0
theorem byteO_eq {x : XV} {i : Int} (h : byteO x = some i) : x = X8 i := by
  unfold byteO at h
  split at h
  · rw [Option.some.inj h]
  · cases h
def allX8 : List XV → Bool
  | [] => true
  | x :: l => match byteO x with | some _ => allX8 l | none => false
/-- An address, by its bytes. -/
def adr (g : Nat → Int) : XV := .agg [X8 (g 0), X8 (g 1), X8 (g 2), X8 (g 3), X8 (g 4), X8 (g 5), X8 (g 6), X8 (g 7), X8 (g 8), X8 (g 9), X8 (g 10), X8 (g 11), X8 (g 12), X8 (g 13), X8 (g 14), X8 (g 15)]
def dAd : Dc (Nat → Int) := ⟨fun x => match x with
  | .agg cs => match Nat.beq (xlen cs) 16 && allX8 cs with
    | true => some ([], fun i => byteD (xget cs i))
    | false => none
  | _ => none, adr⟩
theorem allX8_get : ∀ (l : List XV) (i : Nat), allX8 l = true → i < l.length → xget l i = X8 (byteD (xget l i))
  | x :: l, i, h, hi => by
    unfold allX8 at h
    split at h
    · rename_i b hb
      cases i with
      | zero =>
        show x = X8 (byteD x)
        unfold byteD
        rw [hb]
        exact byteO_eq hb
      | succ i => exact allX8_get l i h (by simpa using hi)
    · cases h
theorem dAd_eq : DcEq dAd := fun x cs a h _ => by
  simp only [dAd] at h
  split at h
  · rename_i l
    split at h
    · rename_i hl
      simp only [Option.some.injEq, Prod.mk.injEq] at h
      obtain ⟨-, rfl⟩ := h
      simp only [Bool.and_eq_true, beqN, decide_eq_true_eq] at hl
      obtain ⟨h1, h2⟩ := hl
      rw [xlen_eq] at h1
      have e : l = [X8 (byteD (xget l 0)), X8 (byteD (xget l 1)), X8 (byteD (xget l 2)), X8 (byteD (xget l 3)), X8 (byteD (xget l 4)), X8 (byteD (xget l 5)), X8 (byteD (xget l 6)), X8 (byteD (xget l 7)), X8 (byteD (xget l 8)), X8 (byteD (xget l 9)), X8 (byteD (xget l 10)), X8 (byteD (xget l 11)), X8 (byteD (xget l 12)), X8 (byteD (xget l 13)), X8 (byteD (xget l 14)), X8 (byteD (xget l 15))] := by
        rcases l with _ | ⟨a0, _ | ⟨a1, _ | ⟨a2, _ | ⟨a3, _ | ⟨a4, _ | ⟨a5, _ | ⟨a6, _ | ⟨a7, _ | ⟨a8, _ | ⟨a9, _ | ⟨a10, _ | ⟨a11, _ | ⟨a12, _ | ⟨a13, _ | ⟨a14, _ | ⟨a15, _ | ⟨a16, l⟩⟩⟩⟩⟩⟩⟩⟩⟩⟩⟩⟩⟩⟩⟩⟩⟩
        case cons.cons.cons.cons.cons.cons.cons.cons.cons.cons.cons.cons.cons.cons.cons.cons.nil =>
          simp only [List.cons.injEq, and_true]
          exact ⟨allX8_get _ 0 h2 (by show 0 < 16; omega), allX8_get _ 1 h2 (by show 1 < 16; omega), allX8_get _ 2 h2 (by show 2 < 16; omega), allX8_get _ 3 h2 (by show 3 < 16; omega), allX8_get _ 4 h2 (by show 4 < 16; omega), allX8_get _ 5 h2 (by show 5 < 16; omega), allX8_get _ 6 h2 (by show 6 < 16; omega), allX8_get _ 7 h2 (by show 7 < 16; omega), allX8_get _ 8 h2 (by show 8 < 16; omega), allX8_get _ 9 h2 (by show 9 < 16; omega), allX8_get _ 10 h2 (by show 10 < 16; omega), allX8_get _ 11 h2 (by show 11 < 16; omega), allX8_get _ 12 h2 (by show 12 < 16; omega), allX8_get _ 13 h2 (by show 13 < 16; omega), allX8_get _ 14 h2 (by show 14 < 16; omega), allX8_get _ 15 h2 (by show 15 < 16; omega)⟩
        all_goals (exfalso; simp at h1; try omega)
      refine ⟨?_, rfl, ?_⟩
      · show (XV.agg l).pd = true
        rw [e]
        rfl
      · show toAV (XV.agg l) = toAV (adr fun i => byteD (xget l i))
        exact congrArg (fun l => toAV (XV.agg l)) e
    · cases h
  · cases h
def is4 (g : Nat → Int) : Bool := g 0 == 0 && (g 1 == 0 && (g 2 == 0 && (g 3 == 0 && (g 4 == 0 && (g 5 == 0 && (g 6 == 0 && (g 7 == 0 && (g 8 == 0 && (g 9 == 0 && (g 10 == 255 && (g 11 == 255 && true)))))))))))
def is4V (g : Nat → Int) : Prop :=
  (0 : Int) ≤ (0 : Int) ∧ (0 : Int) ≤ (12 : Int) ∧ (12 : Int) ≤ (↑(16 : Nat) : Int) ∧ (12 : Nat) ≤ (12 : Nat) ∧ (g (0 : Nat) == (0 : Int) && (g (1 : Nat) == (0 : Int) && (g (2 : Nat) == (0 : Int) && (g (3 : Nat) == (0 : Int) && (g (4 : Nat) == (0 : Int) && (g (5 : Nat) == (0 : Int) && (g (6 : Nat) == (0 : Int) && (g (7 : Nat) == (0 : Int) && (g (8 : Nat) == (0 : Int) && (g (9 : Nat) == (0 : Int) && (g (10 : Nat) == (255 : Int) && (g (11 : Nat) == (255 : Int) && true)))))))))))) = is4 g
theorem is4V_eq (g : Nat → Int) : is4V g = (funC cx0 Tryd.f14 .nil [adr g] (XB (is4 g))) := by kernel_rfl
def v4 (a b c d : Int) : Nat → Int := fun i => [0, 0, 0, 0, 0, 0, 0, 0, 0, 0, 255, 255, a, b, c, d].getD i 0
def v4V (a b c d : Int) : Prop :=
  (0 : Int) = v4 a b c d (0 : Nat) ∧ (0 : Int) = v4 a b c d (1 : Nat) ∧ (0 : Int) = v4 a b c d (2 : Nat) ∧ (0 : Int) = v4 a b c d (3 : Nat) ∧ (0 : Int) = v4 a b c d (4 : Nat) ∧ (0 : Int) = v4 a b c d (5 : Nat) ∧ (0 : Int) = v4 a b c d (6 : Nat) ∧ (0 : Int) = v4 a b c d (7 : Nat) ∧ (0 : Int) = v4 a b c d (8 : Nat) ∧ (0 : Int) = v4 a b c d (9 : Nat) ∧ (255 : Int) = v4 a b c d (10 : Nat) ∧ (255 : Int) = v4 a b c d (11 : Nat) ∧ a = v4 a b c d (12 : Nat) ∧ b = v4 a b c d (13 : Nat) ∧ c = v4 a b c d (14 : Nat) ∧ d = v4 a b c d (15 : Nat) ∧ True
theorem v4V_eq (a b c d : Int) : v4V a b c d = (funC cx0 Tryd.f15 .nil [X8 a, X8 b, X8 c, X8 d] (adr (v4 a b c d))) := by kernel_rfl
structure IX where
  i : Nat
/-- The bits by which two bytes part, from the first one on. -/
def shB (x y : Int) : Nat → Bool := fun k => bits .and .u8 ((bits .xor .u8 x y).fdiv (2 ^ (min k 8))) 1 == 1
def shF (g h : Nat → Int) : Nat → Nat → Int
  | 0, _ => 128
  | m + 1, i => shG (g i) (h i) (shF g h m (i + 1)) i 8
where shG (x y : Int) (r : Int) (i : Nat) : Nat → Int
  | 0 => r
  | k + 1 => if shB x y k = true then 8 * (i : Int) + 7 - k else shG x y r i k
def shI (g h : Nat → Int) : Inv where
  σ := IX
  S := fun x => ⟨[(2, .ptr 0 0 0 0), (3, .ptr 1 0 0 0), (7, XI x.i)], [(0, .one 23 true (adr g).cells), (1, .one 23 true (adr h).cells)], 2, false, []⟩
  inv := fun x => x.i ≤ 16 ∧ shF g h (16 - x.i) x.i = shF g h 16 0
  μ := fun x => 16 - x.i
def shJ (g h : Nat → Int) (p : IX) : Inv where
  σ := IX
  S := fun x => ⟨[(2, .ptr 0 0 0 0), (3, .ptr 1 0 0 0), (5, XI p.i), (6, XI ((x.i : Int) - 1)), (7, XI p.i)], [(0, .one 23 true (adr g).cells), (1, .one 23 true (adr h).cells)], 2, false, []⟩
  inv := fun x => x.i ≤ 8 ∧ shF.shG (g p.i) (h p.i) (shF g h (15 - p.i) (p.i + 1)) p.i x.i = shF g h 16 0
  μ := fun x => x.i
def shE (g h : Nat → Int) : Env := { loops := [(0, shI g h)], loopsP := [(2, ⟨IX, shJ g h⟩)] }
def shV (g h : Nat → Int) : Prop :=
  (∃ (x : (shI g h).σ), (x.i ≤ (16 : Nat) ∧ shF g h ((16 : Nat) - x.i) x.i = shF g h (16 : Nat) (0 : Nat)) ∧ true = true ∧ XV.ptr (0 : Nat) (0 : Nat) (0 : Nat) (0 : Nat) = XV.ptr (0 : Nat) (0 : Nat) (0 : Nat) (0 : Nat) ∧ XV.ptr ((0 : Nat) + (1 : Nat)) (0 : Nat) (0 : Nat) (0 : Nat) = XV.ptr (1 : Nat) (0 : Nat) (0 : Nat) (0 : Nat) ∧ (0 : Int) = (↑x.i : Int) ∧ (((23 : Nat) = (23 : TypeId) ∧ true = true) ∧ g (0 : Nat) = g (0 : Nat) ∧ g (1 : Nat) = g (1 : Nat) ∧ g (2 : Nat) = g (2 : Nat) ∧ g (3 : Nat) = g (3 : Nat) ∧ g (4 : Nat) = g (4 : Nat) ∧ g (5 : Nat) = g (5 : Nat) ∧ g (6 : Nat) = g (6 : Nat) ∧ g (7 : Nat) = g (7 : Nat) ∧ g (8 : Nat) = g (8 : Nat) ∧ g (9 : Nat) = g (9 : Nat) ∧ g (10 : Nat) = g (10 : Nat) ∧ g (11 : Nat) = g (11 : Nat) ∧ g (12 : Nat) = g (12 : Nat) ∧ g (13 : Nat) = g (13 : Nat) ∧ g (14 : Nat) = g (14 : Nat) ∧ g (15 : Nat) = g (15 : Nat) ∧ True) ∧ (((23 : Nat) = (23 : TypeId) ∧ true = true) ∧ h (0 : Nat) = h (0 : Nat) ∧ h (1 : Nat) = h (1 : Nat) ∧ h (2 : Nat) = h (2 : Nat) ∧ h (3 : Nat) = h (3 : Nat) ∧ h (4 : Nat) = h (4 : Nat) ∧ h (5 : Nat) = h (5 : Nat) ∧ h (6 : Nat) = h (6 : Nat) ∧ h (7 : Nat) = h (7 : Nat) ∧ h (8 : Nat) = h (8 : Nat) ∧ h (9 : Nat) = h (9 : Nat) ∧ h (10 : Nat) = h (10 : Nat) ∧ h (11 : Nat) = h (11 : Nat) ∧ h (12 : Nat) = h (12 : Nat) ∧ h (13 : Nat) = h (13 : Nat) ∧ h (14 : Nat) = h (14 : Nat) ∧ h (15 : Nat) = h (15 : Nat) ∧ True) ∧ True) ∧ ∀ (x : IX), x.i ≤ (16 : Nat) ∧ shF g h ((16 : Nat) - x.i) x.i = shF g h (16 : Nat) (0 : Nat) → (decide ((↑x.i : Int) < (16 : Int)) = true → ∃ (p : { α := IX, J := shJ g h : InvP }.α), (∃ (x_1 : ({ α := IX, J := shJ g h : InvP }.J p).σ), (x_1.i ≤ (8 : Nat) ∧ shF.shG (g p.i) (h p.i) (shF g h ((15 : Nat) - p.i) (p.i + (1 : Nat))) p.i x_1.i = shF g h (16 : Nat) (0 : Nat)) ∧ true = true ∧ XV.ptr (0 : Nat) (0 : Nat) (0 : Nat) (0 : Nat) = XV.ptr (0 : Nat) (0 : Nat) (0 : Nat) (0 : Nat) ∧ XV.ptr (1 : Nat) (0 : Nat) (0 : Nat) (0 : Nat) = XV.ptr (1 : Nat) (0 : Nat) (0 : Nat) (0 : Nat) ∧ (↑x.i : Int) = (↑p.i : Int) ∧ (7 : Int) = (↑x_1.i : Int) - (1 : Int) ∧ (↑x.i : Int) = (↑p.i : Int) ∧ (((23 : TypeId) = (23 : TypeId) ∧ true = true) ∧ g (0 : Nat) = g (0 : Nat) ∧ g (1 : Nat) = g (1 : Nat) ∧ g (2 : Nat) = g (2 : Nat) ∧ g (3 : Nat) = g (3 : Nat) ∧ g (4 : Nat) = g (4 : Nat) ∧ g (5 : Nat) = g (5 : Nat) ∧ g (6 : Nat) = g (6 : Nat) ∧ g (7 : Nat) = g (7 : Nat) ∧ g (8 : Nat) = g (8 : Nat) ∧ g (9 : Nat) = g (9 : Nat) ∧ g (10 : Nat) = g (10 : Nat) ∧ g (11 : Nat) = g (11 : Nat) ∧ g (12 : Nat) = g (12 : Nat) ∧ g (13 : Nat) = g (13 : Nat) ∧ g (14 : Nat) = g (14 : Nat) ∧ g (15 : Nat) = g (15 : Nat) ∧ True) ∧ (((23 : TypeId) = (23 : TypeId) ∧ true = true) ∧ h (0 : Nat) = h (0 : Nat) ∧ h (1 : Nat) = h (1 : Nat) ∧ h (2 : Nat) = h (2 : Nat) ∧ h (3 : Nat) = h (3 : Nat) ∧ h (4 : Nat) = h (4 : Nat) ∧ h (5 : Nat) = h (5 : Nat) ∧ h (6 : Nat) = h (6 : Nat) ∧ h (7 : Nat) = h (7 : Nat) ∧ h (8 : Nat) = h (8 : Nat) ∧ h (9 : Nat) = h (9 : Nat) ∧ h (10 : Nat) = h (10 : Nat) ∧ h (11 : Nat) = h (11 : Nat) ∧ h (12 : Nat) = h (12 : Nat) ∧ h (13 : Nat) = h (13 : Nat) ∧ h (14 : Nat) = h (14 : Nat) ∧ h (15 : Nat) = h (15 : Nat) ∧ True) ∧ True) ∧ ∀ (x_1 : IX), x_1.i ≤ (8 : Nat) ∧ shF.shG (g p.i) (h p.i) (shF g h ((15 : Nat) - p.i) (p.i + (1 : Nat))) p.i x_1.i = shF g h (16 : Nat) (0 : Nat) → (decide ((↑x_1.i : Int) - (1 : Int) ≥ (0 : Int)) = true → (0 : Int) ≤ (↑p.i : Int) ∧ (↑p.i : Int) < (↑(16 : Nat) : Int) ∧ (↑p.i : Int).toNat < [g (0 : Nat), g (1 : Nat), g (2 : Nat), g (3 : Nat), g (4 : Nat), g (5 : Nat), g (6 : Nat), g (7 : Nat), g (8 : Nat), g (9 : Nat), g (10 : Nat), g (11 : Nat), g (12 : Nat), g (13 : Nat), g (14 : Nat), g (15 : Nat)].length ∧ (0 : Int) ≤ (↑p.i : Int) ∧ (↑p.i : Int) < (↑(16 : Nat) : Int) ∧ (↑p.i : Int).toNat < [h (0 : Nat), h (1 : Nat), h (2 : Nat), h (3 : Nat), h (4 : Nat), h (5 : Nat), h (6 : Nat), h (7 : Nat), h (8 : Nat), h (9 : Nat), h (10 : Nat), h (11 : Nat), h (12 : Nat), h (13 : Nat), h (14 : Nat), h (15 : Nat)].length ∧ (0 : Int) ≤ (↑x_1.i : Int) - (1 : Int) ∧ ((bits BinOp.and IntKind.u8 ((bits BinOp.xor IntKind.u8 ([g (0 : Nat), g (1 : Nat), g (2 : Nat), g (3 : Nat), g (4 : Nat), g (5 : Nat), g (6 : Nat), g (7 : Nat), g (8 : Nat), g (9 : Nat), g (10 : Nat), g (11 : Nat), g (12 : Nat), g (13 : Nat), g (14 : Nat), g (15 : Nat)].getD (↑p.i : Int).toNat (0 : Int)) ([h (0 : Nat), h (1 : Nat), h (2 : Nat), h (3 : Nat), h (4 : Nat), h (5 : Nat), h (6 : Nat), h (7 : Nat), h (8 : Nat), h (9 : Nat), h (10 : Nat), h (11 : Nat), h (12 : Nat), h (13 : Nat), h (14 : Nat), h (15 : Nat)].getD (↑p.i : Int).toNat (0 : Int))).fdiv ((2 : Int) ^ min ((↑x_1.i : Int) - (1 : Int)).toNat ((8 : Nat)))) (1 : Int) == (1 : Int)) = true → in64 ((8 : Int) * (↑p.i : Int)) ∧ in64 ((8 : Int) * (↑p.i : Int) + (7 : Int)) ∧ in64 ((8 : Int) * (↑p.i : Int) + (7 : Int) - ((↑x_1.i : Int) - (1 : Int))) ∧ (8 : Int) * (↑p.i : Int) + (7 : Int) - ((↑x_1.i : Int) - (1 : Int)) = shF g h (16 : Nat) (0 : Nat)) ∧ ((bits BinOp.and IntKind.u8 ((bits BinOp.xor IntKind.u8 ([g (0 : Nat), g (1 : Nat), g (2 : Nat), g (3 : Nat), g (4 : Nat), g (5 : Nat), g (6 : Nat), g (7 : Nat), g (8 : Nat), g (9 : Nat), g (10 : Nat), g (11 : Nat), g (12 : Nat), g (13 : Nat), g (14 : Nat), g (15 : Nat)].getD (↑p.i : Int).toNat (0 : Int)) ([h (0 : Nat), h (1 : Nat), h (2 : Nat), h (3 : Nat), h (4 : Nat), h (5 : Nat), h (6 : Nat), h (7 : Nat), h (8 : Nat), h (9 : Nat), h (10 : Nat), h (11 : Nat), h (12 : Nat), h (13 : Nat), h (14 : Nat), h (15 : Nat)].getD (↑p.i : Int).toNat (0 : Int))).fdiv ((2 : Int) ^ min ((↑x_1.i : Int) - (1 : Int)).toNat ((8 : Nat)))) (1 : Int) == (1 : Int)) = false → in64 ((↑x_1.i : Int) - (1 : Int) - (1 : Int)) ∧ ∃ (x' : ({ α := IX, J := shJ g h : InvP }.J p).σ), (x'.i ≤ (8 : Nat) ∧ shF.shG (g p.i) (h p.i) (shF g h ((15 : Nat) - p.i) (p.i + (1 : Nat))) p.i x'.i = shF g h (16 : Nat) (0 : Nat)) ∧ x'.i < x_1.i ∧ true = true ∧ XV.ptr (0 : Nat) (0 : Nat) (0 : Nat) (0 : Nat) = XV.ptr (0 : Nat) (0 : Nat) (0 : Nat) (0 : Nat) ∧ XV.ptr (1 : Nat) (0 : Nat) (0 : Nat) (0 : Nat) = XV.ptr (1 : Nat) (0 : Nat) (0 : Nat) (0 : Nat) ∧ (↑p.i : Int) = (↑p.i : Int) ∧ (↑x_1.i : Int) - (1 : Int) - (1 : Int) = (↑x'.i : Int) - (1 : Int) ∧ (↑p.i : Int) = (↑p.i : Int) ∧ (((23 : TypeId) = (23 : TypeId) ∧ true = true) ∧ g (0 : Nat) = g (0 : Nat) ∧ g (1 : Nat) = g (1 : Nat) ∧ g (2 : Nat) = g (2 : Nat) ∧ g (3 : Nat) = g (3 : Nat) ∧ g (4 : Nat) = g (4 : Nat) ∧ g (5 : Nat) = g (5 : Nat) ∧ g (6 : Nat) = g (6 : Nat) ∧ g (7 : Nat) = g (7 : Nat) ∧ g (8 : Nat) = g (8 : Nat) ∧ g (9 : Nat) = g (9 : Nat) ∧ g (10 : Nat) = g (10 : Nat) ∧ g (11 : Nat) = g (11 : Nat) ∧ g (12 : Nat) = g (12 : Nat) ∧ g (13 : Nat) = g (13 : Nat) ∧ g (14 : Nat) = g (14 : Nat) ∧ g (15 : Nat) = g (15 : Nat) ∧ True) ∧ (((23 : TypeId) = (23 : TypeId) ∧ true = true) ∧ h (0 : Nat) = h (0 : Nat) ∧ h (1 : Nat) = h (1 : Nat) ∧ h (2 : Nat) = h (2 : Nat) ∧ h (3 : Nat) = h (3 : Nat) ∧ h (4 : Nat) = h (4 : Nat) ∧ h (5 : Nat) = h (5 : Nat) ∧ h (6 : Nat) = h (6 : Nat) ∧ h (7 : Nat) = h (7 : Nat) ∧ h (8 : Nat) = h (8 : Nat) ∧ h (9 : Nat) = h (9 : Nat) ∧ h (10 : Nat) = h (10 : Nat) ∧ h (11 : Nat) = h (11 : Nat) ∧ h (12 : Nat) = h (12 : Nat) ∧ h (13 : Nat) = h (13 : Nat) ∧ h (14 : Nat) = h (14 : Nat) ∧ h (15 : Nat) = h (15 : Nat) ∧ True) ∧ True)) ∧ (decide ((↑x_1.i : Int) - (1 : Int) ≥ (0 : Int)) = false → in64 ((↑p.i : Int) + (1 : Int)) ∧ ∃ (x' : (shI g h).σ), (x'.i ≤ (16 : Nat) ∧ shF g h ((16 : Nat) - x'.i) x'.i = shF g h (16 : Nat) (0 : Nat)) ∧ (16 : Nat) - x'.i < (16 : Nat) - x.i ∧ true = true ∧ XV.ptr (0 : Nat) (0 : Nat) (0 : Nat) (0 : Nat) = XV.ptr (0 : Nat) (0 : Nat) (0 : Nat) (0 : Nat) ∧ XV.ptr (1 : Nat) (0 : Nat) (0 : Nat) (0 : Nat) = XV.ptr (1 : Nat) (0 : Nat) (0 : Nat) (0 : Nat) ∧ (↑p.i : Int) + (1 : Int) = (↑x'.i : Int) ∧ (((23 : TypeId) = (23 : TypeId) ∧ true = true) ∧ g (0 : Nat) = g (0 : Nat) ∧ g (1 : Nat) = g (1 : Nat) ∧ g (2 : Nat) = g (2 : Nat) ∧ g (3 : Nat) = g (3 : Nat) ∧ g (4 : Nat) = g (4 : Nat) ∧ g (5 : Nat) = g (5 : Nat) ∧ g (6 : Nat) = g (6 : Nat) ∧ g (7 : Nat) = g (7 : Nat) ∧ g (8 : Nat) = g (8 : Nat) ∧ g (9 : Nat) = g (9 : Nat) ∧ g (10 : Nat) = g (10 : Nat) ∧ g (11 : Nat) = g (11 : Nat) ∧ g (12 : Nat) = g (12 : Nat) ∧ g (13 : Nat) = g (13 : Nat) ∧ g (14 : Nat) = g (14 : Nat) ∧ g (15 : Nat) = g (15 : Nat) ∧ True) ∧ (((23 : TypeId) = (23 : TypeId) ∧ true = true) ∧ h (0 : Nat) = h (0 : Nat) ∧ h (1 : Nat) = h (1 : Nat) ∧ h (2 : Nat) = h (2 : Nat) ∧ h (3 : Nat) = h (3 : Nat) ∧ h (4 : Nat) = h (4 : Nat) ∧ h (5 : Nat) = h (5 : Nat) ∧ h (6 : Nat) = h (6 : Nat) ∧ h (7 : Nat) = h (7 : Nat) ∧ h (8 : Nat) = h (8 : Nat) ∧ h (9 : Nat) = h (9 : Nat) ∧ h (10 : Nat) = h (10 : Nat) ∧ h (11 : Nat) = h (11 : Nat) ∧ h (12 : Nat) = h (12 : Nat) ∧ h (13 : Nat) = h (13 : Nat) ∧ h (14 : Nat) = h (14 : Nat) ∧ h (15 : Nat) = h (15 : Nat) ∧ True) ∧ True)) ∧ (decide ((↑x.i : Int) < (16 : Int)) = false → (128 : Int) = shF g h (16 : Nat) (0 : Nat))
theorem shV_eq (g h : Nat → Int) : shV g h = (funC cx0 Tryd.f16 (mkSc (shE g h) (bodyOf Tryd.f16)) [adr g, adr h] (XI (shF g h 16 0))) := by kernel_rfl
theorem is4_v (g : Nat → Int) : is4V g := ⟨by omega, by omega, by omega, by omega, rfl⟩
theorem is4_ok : CTok Tryd.prog 14 (C1 dAd (fun _ => []) fun g => XB (is4 g)) := C1_ok cx0_ok Tryd.func14 rfl (by decide) dAd_eq.ok (by kernel_rfl) (fun _ => rfl) fun g _ => exv (is4V_eq g) (is4_v g)
theorem v4_v (a b c d : Int) : v4V a b c d := ⟨rfl, rfl, rfl, rfl, rfl, rfl, rfl, rfl, rfl, rfl, rfl, rfl, rfl, rfl, rfl, rfl, trivial⟩
def v4C : CT := fun args => match args with
  | [.v (.p (.int .u8 a)), .v (.p (.int .u8 b)), .v (.p (.int .u8 c)), .v (.p (.int .u8 d))] => some ([], adr (v4 a b c d))
  | _ => none
theorem v4_ok : CTok Tryd.prog 15 v4C := ct_ok2 cx0_ok Tryd.func15 rfl (by decide) fun args cs v hC hc => by
  unfold v4C at hC
  split at hC
  · rename_i a b c d
    simp only [Option.some.injEq, Prod.mk.injEq] at hC
    obtain ⟨rfl, rfl⟩ := hC
    exact ⟨[X8 a, X8 b, X8 c, X8 d], by kernel_rfl, rfl, rfl, fun _ _ _ h => h, rfl, exv (v4V_eq a b c d) (v4_v a b c d)⟩
  · cases hC
theorem get16 (g : Nat → Int) : ∀ j, j < 16 → [g 0, g 1, g 2, g 3, g 4, g 5, g 6, g 7, g 8, g 9, g 10, g 11, g 12, g 13, g 14, g 15].getD j 0 = g j
  | 0, _ => rfl | 1, _ => rfl | 2, _ => rfl | 3, _ => rfl | 4, _ => rfl | 5, _ => rfl | 6, _ => rfl | 7, _ => rfl
  | 8, _ => rfl | 9, _ => rfl | 10, _ => rfl | 11, _ => rfl | 12, _ => rfl | 13, _ => rfl | 14, _ => rfl | 15, _ => rfl
  | n + 16, h => absurd h (by omega)
theorem sh_v (g h : Nat → Int) : shV g h := by
  unfold shV
  refine ⟨⟨⟨0⟩, ⟨Nat.zero_le _, rfl⟩, by and_intros <;> first | with_reducible rfl | exact rfl | trivial⟩, ?_⟩
  rintro ⟨i⟩ ⟨hi, hrec⟩
  have hi : i ≤ 16 := hi
  have hrec : shF g h (16 - i) i = shF g h 16 0 := hrec
  refine ⟨fun h1 => ?_, fun h1 => ?_⟩
  · have hlt : i < 16 := by
      have : (i : Int) < 16 := of_decide_eq_true h1
      omega
    have hg : ∀ e, e = (i : Int).toNat → [g 0, g 1, g 2, g 3, g 4, g 5, g 6, g 7, g 8, g 9, g 10, g 11, g 12, g 13, g 14, g 15].getD e 0 = g i := fun e he => by rw [he]; exact get16 g i hlt
    have hh : ∀ e, e = (i : Int).toNat → [h 0, h 1, h 2, h 3, h 4, h 5, h 6, h 7, h 8, h 9, h 10, h 11, h 12, h 13, h 14, h 15].getD e 0 = h i := fun e he => by rw [he]; exact get16 h i hlt
    rw [show 16 - i = (15 - i) + 1 by omega, shF] at hrec
    refine ⟨⟨i⟩, ⟨⟨8⟩, ⟨Nat.le_refl _, hrec⟩, ?_⟩, ?_⟩
    · exact ⟨rfl, rfl, rfl, rfl, rfl, rfl, by and_intros <;> first | with_reducible rfl | trivial, by and_intros <;> first | with_reducible rfl | trivial, trivial⟩
    · rintro ⟨k⟩ ⟨hk, hr⟩
      have hk : k ≤ 8 := hk
      have hr : shF.shG (g i) (h i) (shF g h (15 - i) (i + 1)) i k = shF g h 16 0 := hr
      refine ⟨fun h2 => ?_, fun h2 => ?_⟩
      · have hk1 : 1 ≤ k := by
          have : (k : Int) - 1 ≥ 0 := of_decide_eq_true h2
          omega
        obtain ⟨j, rfl⟩ : ∃ j, k = j + 1 := ⟨k - 1, by omega⟩
        rw [shF.shG] at hr
        dsimp only
        rw [hg _ rfl, hh _ rfl]
        have ek : (((j + 1 : Nat) : Int) - 1).toNat = j := by omega
        rw [ek]
        refine ⟨by omega, by omega, by show _ < 16; omega, by omega, by omega, by show _ < 16; omega, by omega, fun h3 => ?_, fun h3 => ⟨by unfold in64; omega, ⟨j⟩, ⟨by show j ≤ 8; omega, ?_⟩, by show j < j + 1; omega, ?_⟩⟩
        · have h3' : shB (g i) (h i) j = true := h3
          rw [if_pos h3'] at hr
          refine ⟨by unfold in64; omega, by unfold in64; omega, by unfold in64; omega, ?_⟩
          rw [← hr]
          omega
        · have h3' : ¬ shB (g i) (h i) j = true := fun e => Bool.noConfusion (h3.symm.trans e)
          rw [if_neg h3'] at hr
          exact hr
        · refine ⟨rfl, rfl, rfl, rfl, ?_, rfl, by and_intros <;> first | with_reducible rfl | trivial, by and_intros <;> first | with_reducible rfl | trivial, trivial⟩
          show ((j + 1 : Nat) : Int) - 1 - 1 = (j : Int) - 1
          omega
      · have hk0 : k = 0 := by
          have : ¬ (k : Int) - 1 ≥ 0 := of_decide_eq_false h2
          omega
        rw [hk0, shF.shG] at hr
        refine ⟨by unfold in64; dsimp only; omega, ⟨i + 1⟩, ⟨by show i + 1 ≤ 16; omega, ?_⟩, by show 16 - (i + 1) < 16 - i; omega, ?_⟩
        · show shF g h (16 - (i + 1)) (i + 1) = _
          rw [show 16 - (i + 1) = 15 - i by omega]
          exact hr
        · exact ⟨rfl, rfl, rfl, rfl, by and_intros <;> first | with_reducible rfl | trivial, by and_intros <;> first | with_reducible rfl | trivial, trivial⟩
  · have hge : i = 16 := by
      have : ¬ (i : Int) < 16 := of_decide_eq_false h1
      omega
    rw [hge, Nat.sub_self, shF] at hrec
    exact hrec
theorem sh_ok : CTok Tryd.prog 16 (C2 dAd dAd (fun _ _ => []) fun g h => XI (shF g h 16 0)) := C2_ok cx0_ok Tryd.func16 rfl (by decide) dAd_eq.ok dAd_eq.ok (by kernel_rfl) (fun _ _ => rfl) fun g h _ => exv (shV_eq g h) (sh_v g h)
end Go.Proofs.YtghmlhdlkgjbeaaDoorAv
