/- Own texts, put together: NmH; PnB; PnC; NmRowD. -/
import Derived.Test.YtedmgnhbfpjceaaDoorMgE
set_option linter.unusedVariables false
set_option linter.unusedSimpArgs false
set_option maxRecDepth 100000
namespace Go.Proofs.YtedmgnhbfpjceaaDoorAv
open Go Go.RowKit
def cxL : Cx := { cx0 with C := [(11, C0 [] (XB true)), (12, toAC), (13, toUC), (18, lspC), (15, rgtC), (14, lowC), (16, ljnC), (19, dotC), (20, cnlC), (17, goodC)] }
theorem cxL_ok : cxL.ok Tryd.prog := (((((((((cx0_ok.addC good_ok).addC cnl_ok).addC dot_ok).addC ljn_ok).addC low_ok).addC rgt_ok).addC lsp_ok).addC toU_ok).addC toA_ok).addC fit_ok
/-- A text's bytes, small letters ahead of place i capitals. -/
def upB (s : ByteArray) (i j : Nat) : Int := if j < i ∧ (97 ≤ sbyte s j ∧ sbyte s j ≤ 122) then IntKind.u8.wrap (sbyte s j - 32) else sbyte s j
def upT (s : ByteArray) : ByteArray := txtOf s.size fun j => UInt8.ofNat (upB s s.size (0 + j)).toNat
def cpI (s : ByteArray) : Inv where
  σ := IL
  S := fun x => ⟨[(0, XT s), (3, .sl 0 1 0 s.size), (31, .sl 0 1 0 s.size), (32, XI s.size), (33, XI x.i)], [(0, .vec 5 false s.size 1 fun j => [X8 (upB s x.i j)])], 1, false, []⟩
  inv := fun x => x.i ≤ s.size
  μ := fun x => s.size - x.i
def cpE (s : ByteArray) : Env := { loops := [(0, cpI s)] }
def capV (s : ByteArray) : Prop :=
  ((!true) = true → false = true) ∧ ((!true) = false → ((!decide ((↑s.size : Int) > (900 : Int)) && !decide (s = { data := #[] : ByteArray })) = true → in64 ((↑s.size : Int) - (1 : Int))) ∧ ((!decide ((↑s.size : Int) > (900 : Int)) && !decide (s = { data := #[] : ByteArray })) = true → (0 : Int) ≤ (↑s.size : Int) - (1 : Int)) ∧ ((!decide ((↑s.size : Int) > (900 : Int)) && !decide (s = { data := #[] : ByteArray })) = true → (↑s.size : Int) - (1 : Int) < (↑s.size : Int)) ∧ ((decide ((↑s.size : Int) > (900 : Int)) || !decide (s = { data := #[] : ByteArray }) && sbyte s ((↑s.size : Int) - (1 : Int)) == (46 : Int)) = true → true = true) ∧ ((decide ((↑s.size : Int) > (900 : Int)) || !decide (s = { data := #[] : ByteArray }) && sbyte s ((↑s.size : Int) - (1 : Int)) == (46 : Int)) = false → (∃ (x : (cpI s).σ), x.i.le s.size ∧ true = true ∧ s = s ∧ XV.sl (0 : Nat) (1 : Nat) (0 : Nat) s.size = XV.sl (0 : Nat) (1 : Nat) (0 : Nat) s.size ∧ XV.sl (0 : Nat) (1 : Nat) (0 : Nat) s.size = XV.sl (0 : Nat) (1 : Nat) (0 : Nat) s.size ∧ (↑s.size : Int) = (↑s.size : Int) ∧ (0 : Int) = (↑x.i : Int) ∧ (((5 : TypeId) = (5 : TypeId) ∧ false = false ∧ (1 : Nat) = (1 : Nat)) ∧ s.size = s.size ∧ ∀ (j : Nat), j < s.size → [X8 (sbyte s (↑j : Int))] = [X8 (upB s x.i j)]) ∧ True) ∧ ∀ (x : IL), x.i.le s.size → (decide ((↑x.i : Int) < (↑s.size : Int)) = true → (0 : Int) ≤ (↑x.i : Int) ∧ (↑x.i : Int) < (↑s.size : Int) ∧ (0 : Nat) + (↑x.i : Int).toNat < s.size ∧ ((decide (upB s x.i ((0 : Nat) + (↑x.i : Int).toNat) ≥ (97 : Int)) && decide (upB s x.i ((0 : Nat) + (↑x.i : Int).toNat) ≤ (122 : Int))) = true → (0 : Int) ≤ (↑x.i : Int) ∧ (↑x.i : Int) < (↑s.size : Int) ∧ (0 : Nat) + (↑x.i : Int).toNat < s.size ∧ in64 ((↑x.i : Int) + (1 : Int)) ∧ ∃ (x' : (cpI s).σ), x'.i.le s.size ∧ s.size - x'.i < s.size - x.i ∧ true = true ∧ s = s ∧ XV.sl (0 : Nat) (1 : Nat) (0 : Nat) s.size = XV.sl (0 : Nat) (1 : Nat) (0 : Nat) s.size ∧ XV.sl (0 : Nat) (1 : Nat) (0 : Nat) s.size = XV.sl (0 : Nat) (1 : Nat) (0 : Nat) s.size ∧ (↑s.size : Int) = (↑s.size : Int) ∧ (↑x.i : Int) + (1 : Int) = (↑x'.i : Int) ∧ (((5 : TypeId) = (5 : TypeId) ∧ false = false ∧ (1 : Nat) = (1 : Nat)) ∧ s.size = s.size ∧ ∀ (j : Nat), j < s.size → (bif j.beq ((0 : Nat) + (↑x.i : Int).toNat) then [X8 (IntKind.u8.wrap (upB s x.i ((0 : Nat) + (↑x.i : Int).toNat) - (32 : Int)))] else [X8 (upB s x.i j)]) = [X8 (upB s x'.i j)]) ∧ True) ∧ ((decide (upB s x.i ((0 : Nat) + (↑x.i : Int).toNat) ≥ (97 : Int)) && decide (upB s x.i ((0 : Nat) + (↑x.i : Int).toNat) ≤ (122 : Int))) = false → in64 ((↑x.i : Int) + (1 : Int)) ∧ ∃ (x' : (cpI s).σ), x'.i.le s.size ∧ s.size - x'.i < s.size - x.i ∧ true = true ∧ s = s ∧ XV.sl (0 : Nat) (1 : Nat) (0 : Nat) s.size = XV.sl (0 : Nat) (1 : Nat) (0 : Nat) s.size ∧ XV.sl (0 : Nat) (1 : Nat) (0 : Nat) s.size = XV.sl (0 : Nat) (1 : Nat) (0 : Nat) s.size ∧ (↑s.size : Int) = (↑s.size : Int) ∧ (↑x.i : Int) + (1 : Int) = (↑x'.i : Int) ∧ (((5 : TypeId) = (5 : TypeId) ∧ false = false ∧ (1 : Nat) = (1 : Nat)) ∧ s.size = s.size ∧ ∀ (j : Nat), j < s.size → [X8 (upB s x.i j)] = [X8 (upB s x'.i j)]) ∧ True)) ∧ (decide ((↑x.i : Int) < (↑s.size : Int)) = false → (0 : Nat) + s.size ≤ s.size ∧ (∀ (j : Nat), j < s.size → [X8 (upB s x.i ((0 : Nat) + j))] = [X8 (↑{ toBitVec := BitVec.ofNat (8 : Nat) (upB s x.i ((0 : Nat) + j)).toNat : UInt8 }.toNat : Int)]) ∧ s.size + (1 : Nat) ≤ (9223372036854775807 : Nat) ∧ (decide ((toA s).fst = (toA (txtOf s.size fun (j : Nat) => { toBitVec := BitVec.ofNat (8 : Nat) (upB s x.i ((0 : Nat) + j)).toNat : UInt8 })).fst) && (toA s).snd == (toA (txtOf s.size fun (j : Nat) => { toBitVec := BitVec.ofNat (8 : Nat) (upB s x.i ((0 : Nat) + j)).toNat : UInt8 })).snd && (decide ((toA s).fst = (toA (s ++ { data := #[(46 : UInt8)] : ByteArray })).fst) && (toA s).snd == (toA (s ++ { data := #[(46 : UInt8)] : ByteArray })).snd || decide (s = { data := #[] : ByteArray }))) = true)))
theorem capV_eq (s : ByteArray) : capV s = (funC cxL Tryd.f6 (mkSc (cpE s) (bodyOf Tryd.f6)) [XT s] (XB true)) := by kernel_rfl
def parV (a b : ByteArray) : Prop :=
  ((!true) = true → false = true) ∧ ((!true) = false → in64 ((↑a.size : Int) + (↑b.size : Int)) ∧ ((!decide ((↑a.size : Int) + (↑b.size : Int) > (400 : Int)) && !decide (a = { data := #[] : ByteArray })) = true → in64 ((↑a.size : Int) - (1 : Int))) ∧ ((!decide ((↑a.size : Int) + (↑b.size : Int) > (400 : Int)) && !decide (a = { data := #[] : ByteArray })) = true → (0 : Int) ≤ (↑a.size : Int) - (1 : Int)) ∧ ((!decide ((↑a.size : Int) + (↑b.size : Int) > (400 : Int)) && !decide (a = { data := #[] : ByteArray })) = true → (↑a.size : Int) - (1 : Int) < (↑a.size : Int)) ∧ ((!(decide ((↑a.size : Int) + (↑b.size : Int) > (400 : Int)) || !decide (a = { data := #[] : ByteArray }) && sbyte a ((↑a.size : Int) - (1 : Int)) == (46 : Int)) && !decide (b = { data := #[] : ByteArray })) = true → in64 ((↑b.size : Int) - (1 : Int))) ∧ ((!(decide ((↑a.size : Int) + (↑b.size : Int) > (400 : Int)) || !decide (a = { data := #[] : ByteArray }) && sbyte a ((↑a.size : Int) - (1 : Int)) == (46 : Int)) && !decide (b = { data := #[] : ByteArray })) = true → (0 : Int) ≤ (↑b.size : Int) - (1 : Int)) ∧ ((!(decide ((↑a.size : Int) + (↑b.size : Int) > (400 : Int)) || !decide (a = { data := #[] : ByteArray }) && sbyte a ((↑a.size : Int) - (1 : Int)) == (46 : Int)) && !decide (b = { data := #[] : ByteArray })) = true → (↑b.size : Int) - (1 : Int) < (↑b.size : Int)) ∧ ((decide ((↑a.size : Int) + (↑b.size : Int) > (400 : Int)) || !decide (a = { data := #[] : ByteArray }) && sbyte a ((↑a.size : Int) - (1 : Int)) == (46 : Int) || !decide (b = { data := #[] : ByteArray }) && sbyte b ((↑b.size : Int) - (1 : Int)) == (46 : Int)) = true → true = true) ∧ ((decide ((↑a.size : Int) + (↑b.size : Int) > (400 : Int)) || !decide (a = { data := #[] : ByteArray }) && sbyte a ((↑a.size : Int) - (1 : Int)) == (46 : Int) || !decide (b = { data := #[] : ByteArray }) && sbyte b ((↑b.size : Int) - (1 : Int)) == (46 : Int)) = false → a.size + (1 : Nat) ≤ (9223372036854775807 : Nat) ∧ (a ++ { data := #[(46 : UInt8)] : ByteArray }).size + b.size ≤ (9223372036854775807 : Nat) ∧ (((toA a).snd != (0 : Int) && (toA a).snd != (2 : Int)) = true → ((toA (a ++ { data := #[(46 : UInt8)] : ByteArray } ++ b)).snd == (toA a).snd) = true) ∧ (((toA a).snd != (0 : Int) && (toA a).snd != (2 : Int)) = false → ((!(decide (b = { data := #[] : ByteArray }) || (toA a).snd == (2 : Int))) = true → (!(decide (b = { data := #[] : ByteArray }) || (toA a).snd == (2 : Int))) = true) ∧ ((decide (b = { data := #[] : ByteArray }) || (toA a).snd == (2 : Int)) = false → (!(decide (b = { data := #[] : ByteArray }) || (toA a).snd == (2 : Int))) = true) ∧ ((decide (b = { data := #[] : ByteArray }) || (toA a).snd == (2 : Int) || (toA b).snd == (2 : Int)) = true → true = true) ∧ ((decide (b = { data := #[] : ByteArray }) || (toA a).snd == (2 : Int) || (toA b).snd == (2 : Int)) = false → (((toA b).snd != (0 : Int)) = true → ((toA (a ++ { data := #[(46 : UInt8)] : ByteArray } ++ b)).snd == (toA b).snd) = true) ∧ (((toA b).snd != (0 : Int)) = false → in64 ((↑(toA a).fst.size : Int) + (1 : Int)) ∧ in64 ((↑(toA a).fst.size : Int) + (1 : Int) + (↑(toA b).fst.size : Int)) ∧ ((!(decide ((↑(toA a).fst.size : Int) + (1 : Int) + (↑(toA b).fst.size : Int) > (253 : Int)) && (toA (a ++ { data := #[(46 : UInt8)] : ByteArray } ++ b)).snd == (2 : Int)) && (toA (a ++ { data := #[(46 : UInt8)] : ByteArray } ++ b)).snd == (0 : Int)) = true → (toA a).fst.size + (1 : Nat) ≤ (9223372036854775807 : Nat)) ∧ ((!(decide ((↑(toA a).fst.size : Int) + (1 : Int) + (↑(toA b).fst.size : Int) > (253 : Int)) && (toA (a ++ { data := #[(46 : UInt8)] : ByteArray } ++ b)).snd == (2 : Int)) && (toA (a ++ { data := #[(46 : UInt8)] : ByteArray } ++ b)).snd == (0 : Int)) = true → ((toA a).fst ++ { data := #[(46 : UInt8)] : ByteArray }).size + (toA b).fst.size ≤ (9223372036854775807 : Nat)) ∧ (decide ((↑(toA a).fst.size : Int) + (1 : Int) + (↑(toA b).fst.size : Int) > (253 : Int)) && (toA (a ++ { data := #[(46 : UInt8)] : ByteArray } ++ b)).snd == (2 : Int) || (toA (a ++ { data := #[(46 : UInt8)] : ByteArray } ++ b)).snd == (0 : Int) && decide ((toA (a ++ { data := #[(46 : UInt8)] : ByteArray } ++ b)).fst = (toA a).fst ++ { data := #[(46 : UInt8)] : ByteArray } ++ (toA b).fst)) = true)))))
theorem parV_eq (a b : ByteArray) : parV a b = (funC cxL Tryd.f7 .nil [XT a, XT b] (XB true)) := by kernel_rfl
/-- So many signs a. -/
def rpA : Nat → ByteArray
  | 0 => ⟨#[]⟩
  | i + 1 => rpA i ++ ⟨#[97]⟩
def rpS (x : ByteArray) : Nat → ByteArray
  | 0 => ⟨#[]⟩
  | i + 1 => (if 0 < i then rpS x i ++ ⟨#[46]⟩ else rpS x i) ++ x
def lnN (n : Int) : Int := bits .and .i64 n 127 + 1
def lnM (m : Int) : Int := bits .and .i64 m 7 + 1
def lnI0 (n m : Int) : Inv where
  σ := IL
  S := fun x => ⟨[(0, XI (lnN n)), (1, XI (lnM m)), (5, XT (rpA x.i)), (18, XI (lnN n)), (19, XI x.i)], [], 0, false, []⟩
  inv := fun x => (x.i : Int) ≤ lnN n
  μ := fun x => (lnN n).toNat - x.i
def lnI2 (n m : Int) : Inv where
  σ := IL
  S := fun x => ⟨[(0, XI (lnN n)), (1, XI (lnM m)), (5, XT (rpA (lnN n).toNat)), (6, XT (rpS (rpA (lnN n).toNat) x.i)), (24, XI (lnM m)), (25, XI x.i)], [], 0, false, []⟩
  inv := fun x => (x.i : Int) ≤ lnM m
  μ := fun x => (lnM m).toNat - x.i
def lnE (n m : Int) : Env := { loops := [(0, lnI0 n m), (2, lnI2 n m)] }
def lonV (n m : Int) : Prop :=
  ((!true) = true → false = true) ∧ ((!true) = false → in64 (bits BinOp.and IntKind.i64 n (127 : Int) + (1 : Int)) ∧ in64 (bits BinOp.and IntKind.i64 m (7 : Int) + (1 : Int)) ∧ (∃ (x : (lnI0 n m).σ), (lnN n - (↑x.i : Int)).NonNeg ∧ true = true ∧ bits BinOp.and IntKind.i64 n (127 : Int) + (1 : Int) = lnN n ∧ bits BinOp.and IntKind.i64 m (7 : Int) + (1 : Int) = lnM m ∧ { data := #[] : ByteArray } = rpA x.i ∧ bits BinOp.and IntKind.i64 n (127 : Int) + (1 : Int) = lnN n ∧ (0 : Int) = (↑x.i : Int) ∧ True) ∧ ∀ (x : IL), (lnN n - (↑x.i : Int)).NonNeg → (decide ((↑x.i : Int) < lnN n) = true → (rpA x.i).size + (1 : Nat) ≤ (9223372036854775807 : Nat) ∧ in64 ((↑x.i : Int) + (1 : Int)) ∧ ∃ (x' : (lnI0 n m).σ), (lnN n - (↑x'.i : Int)).NonNeg ∧ (lnN n).toNat - x'.i < (lnN n).toNat - x.i ∧ true = true ∧ lnN n = lnN n ∧ lnM m = lnM m ∧ rpA x.i ++ { data := #[(97 : UInt8)] : ByteArray } = rpA x'.i ∧ lnN n = lnN n ∧ (↑x.i : Int) + (1 : Int) = (↑x'.i : Int) ∧ True) ∧ (decide ((↑x.i : Int) < lnN n) = false → (∃ (x_1 : (lnI2 n m).σ), (lnM m - (↑x_1.i : Int)).NonNeg ∧ true = true ∧ lnN n = lnN n ∧ lnM m = lnM m ∧ rpA x.i = rpA (lnN n).toNat ∧ { data := #[] : ByteArray } = rpS (rpA (lnN n).toNat) x_1.i ∧ lnM m = lnM m ∧ (0 : Int) = (↑x_1.i : Int) ∧ True) ∧ ∀ (x : IL), (lnM m - (↑x.i : Int)).NonNeg → (decide ((↑x.i : Int) < lnM m) = true → (decide ((↑x.i : Int) > (0 : Int)) = true → (rpS (rpA (lnN n).toNat) x.i).size + (1 : Nat) ≤ (9223372036854775807 : Nat) ∧ (rpS (rpA (lnN n).toNat) x.i ++ { data := #[(46 : UInt8)] : ByteArray }).size + (rpA (lnN n).toNat).size ≤ (9223372036854775807 : Nat) ∧ in64 ((↑x.i : Int) + (1 : Int)) ∧ ∃ (x' : (lnI2 n m).σ), (lnM m - (↑x'.i : Int)).NonNeg ∧ (lnM m).toNat - x'.i < (lnM m).toNat - x.i ∧ true = true ∧ lnN n = lnN n ∧ lnM m = lnM m ∧ rpA (lnN n).toNat = rpA (lnN n).toNat ∧ rpS (rpA (lnN n).toNat) x.i ++ { data := #[(46 : UInt8)] : ByteArray } ++ rpA (lnN n).toNat = rpS (rpA (lnN n).toNat) x'.i ∧ lnM m = lnM m ∧ (↑x.i : Int) + (1 : Int) = (↑x'.i : Int) ∧ True) ∧ (decide ((↑x.i : Int) > (0 : Int)) = false → (rpS (rpA (lnN n).toNat) x.i).size + (rpA (lnN n).toNat).size ≤ (9223372036854775807 : Nat) ∧ in64 ((↑x.i : Int) + (1 : Int)) ∧ ∃ (x' : (lnI2 n m).σ), (lnM m - (↑x'.i : Int)).NonNeg ∧ (lnM m).toNat - x'.i < (lnM m).toNat - x.i ∧ true = true ∧ lnN n = lnN n ∧ lnM m = lnM m ∧ rpA (lnN n).toNat = rpA (lnN n).toNat ∧ rpS (rpA (lnN n).toNat) x.i ++ rpA (lnN n).toNat = rpS (rpA (lnN n).toNat) x'.i ∧ lnM m = lnM m ∧ (↑x.i : Int) + (1 : Int) = (↑x'.i : Int) ∧ True)) ∧ (decide ((↑x.i : Int) < lnM m) = false → ((decide (lnN n > (63 : Int)) && decide ((↑(rpS (rpA (lnN n).toNat) x.i).size : Int) ≤ (1012 : Int))) = true → ((toA (rpS (rpA (lnN n).toNat) x.i)).snd == (1 : Int)) = true) ∧ ((decide (lnN n > (63 : Int)) && decide ((↑(rpS (rpA (lnN n).toNat) x.i).size : Int) ≤ (1012 : Int))) = false → (decide ((↑(rpS (rpA (lnN n).toNat) x.i).size : Int) > (253 : Int)) = true → ((toA (rpS (rpA (lnN n).toNat) x.i)).snd == (2 : Int)) = true) ∧ (decide ((↑(rpS (rpA (lnN n).toNat) x.i).size : Int) > (253 : Int)) = false → (((toA (rpS (rpA (lnN n).toNat) x.i)).snd == (0 : Int)) = true → ((toA (rpS (rpA (lnN n).toNat) x.i)).snd == (0 : Int)) = true) ∧ (((toA (rpS (rpA (lnN n).toNat) x.i)).snd == (0 : Int)) = true → ((toA (rpS (rpA (lnN n).toNat) x.i)).snd == (0 : Int)) = true) ∧ (((toA (rpS (rpA (lnN n).toNat) x.i)).snd == (0 : Int)) = true → ((toA (rpS (rpA (lnN n).toNat) x.i)).snd == (0 : Int)) = true) ∧ ((toA (rpS (rpA (lnN n).toNat) x.i)).snd == (0 : Int) && decide ((toA (rpS (rpA (lnN n).toNat) x.i)).fst = rpS (rpA (lnN n).toNat) x.i)) = true)))))
theorem lonV_eq (n m : Int) : lonV n m = (funC cxL Tryd.f9 (mkSc (lnE n m) (bodyOf Tryd.f9)) [XI n, XI m] (XB true)) := by kernel_rfl
end Go.Proofs.YtedmgnhbfpjceaaDoorAv
set_option linter.unusedVariables false
set_option linter.unusedSimpArgs false
set_option maxRecDepth 100000
namespace Go.Proofs.YtedmgnhbfpjceaaDoorAv
open Go Go.RowKit
/-- A label beyond ASCII. -/
def aN (t : List UInt8) : List UInt8 × Int := ((ascL (rns (mk8 t))).1.data.toList, (ascL (rns (mk8 t))).2)
def aS (t : List UInt8) : List UInt8 × Int :=
  if plaL t then
    if rgtL t = false then ([], 1)
    else if xnL.isPrefixOf t then (t, (uL t).2) else (t, 0)
  else if validB (mk8 t) = false then ([], 1)
  else aN t
theorem low_mk8 (x : List UInt8) : lowT (mk8 x) = mk8 (x.map lowc) := by
  rw [← data_mk8 (lowT (mk8 x)), lowT_list, mk8_data]
theorem aL_aS (x : List UInt8) : aL x = aS (x.map lowc) := by
  unfold aL lf
  rw [ascR, low_mk8, ascS, pla_list, rgt_list, hasPre_list, mk8_data, aS]
  split
  · split
    · rfl
    · split
      · rfl
      · rfl
  · split
    · rfl
    · rfl
theorem eR_snd (F : List UInt8 → List UInt8 × Int) (l : List (List UInt8)) : (eR F l).2 = ee (fun x => (F x).2) l := by
  rw [eR]
  split
  · rfl
  · rename_i h; simp at h; exact h.symm
theorem eR_congr {F G : List UInt8 → List UInt8 × Int} {l : List (List UInt8)} (h : ∀ x ∈ l, F x = G x) : eR F l = eR G l := by
  have e1 : ee (fun x => (F x).2) l = ee (fun x => (G x).2) l := ee_congr fun x hx => by rw [h x hx]
  have e2 : l.map (fun x => (F x).1) = l.map fun x => (G x).1 := List.map_congr_left fun x hx => by rw [h x hx]
  rw [eR, eR, e1, e2]
theorem eR_map (F : List UInt8 → List UInt8 × Int) (g : List UInt8 → List UInt8) (l : List (List UInt8)) : eR F (l.map g) = eR (fun x => F (g x)) l := by
  rw [eR, eR, ee_map, List.map_map]
  rfl
theorem eR_ok {F : List UInt8 → List UInt8 × Int} {l : List (List UInt8)} (h : ee (fun x => (F x).2) l = 0) : eR F l = (join46 (l.map fun x => (F x).1), 0) := by rw [eR, if_neg (by rw [h]; simp)]
theorem eR_err {F : List UInt8 → List UInt8 × Int} {l : List (List UInt8)} (h : ee (fun x => (F x).2) l ≠ 0) : eR F l = ([], ee (fun x => (F x).2) l) := by rw [eR, if_pos h]
/-- A name that is not too long, by its labels. -/
def tL (l : List (List UInt8)) : List UInt8 × Int := if (eR aL l).2 = 0 ∧ (eR aL l).1.length > 253 then ([], 2) else eR aL l
theorem tA_tL {s : List UInt8} (h : s.length ≤ 1012) : tA s = tL (LL s) := by rw [tA, if_neg (by omega), tL]
theorem LL_no {s : List UInt8} (h : ∀ t, s ≠ t ++ [46]) : LL s = split1 46 s := by unfold LL; rw [trim46_no h]
theorem no_dot {s : ByteArray} (h : (!decide (s = ⟨#[]⟩) && sbyte s ((s.size : Int) - 1) == 46) = false) : ∀ t, s.data.toList ≠ t ++ [46] := by
  intro t ht
  have hl : s.data.toList.length = t.length + 1 := by rw [ht, List.length_append]; rfl
  have hs : s.size = t.length + 1 := by rw [size_data]; exact hl
  have e1 : decide (s = ⟨#[]⟩) = false := by rw [emp_iff, decide_eq_false_iff_not]; omega
  have e2 : sbyte s ((s.size : Int) - 1) = 46 := by
    unfold sbyte
    rw [show ((s.size : Int) - 1).toNat = t.length by omega, ht, List.getD_eq_getElem?_getD]
    simp
  rw [e1, e2] at h
  cases h
theorem upc_ne {f : UInt8 → UInt8} (hf : ∀ c, f c = 46 ↔ c = 46) {s : List UInt8} (h : ∀ t, s ≠ t ++ [46]) : ∀ t, s.map f ≠ t ++ [46] := by
  intro t ht
  obtain ⟨a, b, e1, e2, e3⟩ := List.map_eq_append_iff.1 ht
  obtain ⟨c, rfl, e4⟩ : ∃ c, b = [c] ∧ f c = 46 := by
    cases b with
    | nil => simp at e3
    | cons c b =>
      cases b with
      | nil => exact ⟨c, rfl, by simpa using e3⟩
      | cons _ _ => simp at e3
  rw [(hf c).1 e4] at e1
  exact h a e1
/-! NameCapitals -/
def upc (c : UInt8) : UInt8 := if 97 ≤ c.toNat ∧ c.toNat ≤ 122 then c - 32 else c
theorem upc_nat (c : UInt8) : (upc c).toNat = if 97 ≤ c.toNat ∧ c.toNat ≤ 122 then c.toNat - 32 else c.toNat := by
  unfold upc
  split
  · rw [UInt8.toNat_sub_of_le]
    · rfl
    · rw [UInt8.le_iff_toNat_le]; show 32 ≤ _; omega
  · rfl
theorem upc_dot (c : UInt8) : upc c = 46 ↔ c = 46 := by
  rw [← UInt8.toNat_inj, ← UInt8.toNat_inj, upc_nat]
  have : (46 : UInt8).toNat = 46 := rfl
  by_cases h : 97 ≤ c.toNat ∧ c.toNat ≤ 122
  · rw [if_pos h]; omega
  · rw [if_neg h]
theorem low_up (c : UInt8) : lowc (upc c) = lowc c := by
  apply UInt8.toNat_inj.1
  rw [lowc_nat, lowc_nat, upc_nat]
  by_cases h : 97 ≤ c.toNat ∧ c.toNat ≤ 122
  · rw [if_pos h, if_pos (by omega), if_neg (by omega)]; omega
  · rw [if_neg h]
theorem upT_list (s : ByteArray) : (upT s).data.toList = s.data.toList.map upc := by
  have e : (upT s).data.toList = (List.range s.size).map fun j => UInt8.ofNat (upB s s.size (0 + j)).toNat := rfl
  rw [e, size_data]
  have := map_range s.data.toList 0 upc
  rw [← this]
  apply List.map_congr_left
  intro j hj
  have hj : j < s.data.toList.length := List.mem_range.1 hj
  apply UInt8.toNat_inj.1
  rw [Nat.zero_add, upc_nat, UInt8.toNat_ofNat']
  unfold upB
  rw [sbyte_nat]
  have hb := UInt8.toNat_lt (s.data.toList.getD j 0)
  by_cases h : 97 ≤ (s.data.toList.getD j 0).toNat ∧ (s.data.toList.getD j 0).toNat ≤ 122
  · rw [if_pos h, if_pos ⟨hj, by omega⟩, w8]; omega
  · rw [if_neg h, if_neg]
    · omega
    · rintro ⟨-, h2⟩
      omega
theorem toA_up {s : ByteArray} (h : ∀ t, s.data.toList ≠ t ++ [46]) : toA (upT s) = toA s := by
  have e : tA (upT s).data.toList = tA s.data.toList := by
    rw [upT_list, tA, tA, List.length_map, LL_no h, LL_no (upc_ne upc_dot h), split1_map upc upc_dot, eR_map]
    have : eR (fun x => aL (x.map upc)) (split1 46 s.data.toList) = eR aL (split1 46 s.data.toList) := eR_congr fun x _ => by
      rw [aL_aS, aL_aS, List.map_map]
      congr 1
      apply List.map_congr_left
      intro c _
      exact low_up c
    rw [this]
  rw [toA_tA, toA_tA, e]
theorem toA_dot {s : ByteArray} (h : ∀ t, s.data.toList ≠ t ++ [46]) (hs : s.size ≤ 900) : toA (s ++ ptT) = toA s := by
  have e : tA (s ++ ptT).data.toList = tA s.data.toList := by
    have e1 : (s ++ ptT).data.toList = s.data.toList ++ [46] := by rw [ByteArray.data_append, Array.toList_append]; rfl
    rw [size_data] at hs
    rw [e1, tA_tL (by rw [List.length_append]; show _ + 1 ≤ _; omega), tA_tL (by omega)]
    congr 1
    unfold LL
    rw [trim46_dot, trim46_no h]
  rw [toA_tA, toA_tA, e]
theorem upB_at (s : ByteArray) (i : Nat) : upB s i i = sbyte s i := by unfold upB; rw [if_neg (by omega)]
theorem upB_no (s : ByteArray) (i j : Nat) (h : j ≠ i ∨ ¬ (97 ≤ sbyte s i ∧ sbyte s i ≤ 122)) : upB s (i + 1) j = upB s i j := by
  unfold upB
  by_cases e : j < i
  · have e2 : j < i + 1 := by omega
    simp only [e, e2]
  · by_cases e3 : j = i
    · subst e3
      rw [if_neg (fun k => (h.resolve_left (fun h => h rfl)) k.2), if_neg (by omega)]
    · rw [if_neg (by omega), if_neg (by omega)]
theorem upB_yes (s : ByteArray) (i : Nat) (h : 97 ≤ sbyte s i ∧ sbyte s i ≤ 122) : upB s (i + 1) i = IntKind.u8.wrap (sbyte s i - 32) := by
  unfold upB
  rw [if_pos ⟨by omega, h⟩]
theorem upB_b (s : ByteArray) (i j : Nat) : upB s i j = ((UInt8.ofNat (upB s i j).toNat).toNat : Int) := by
  have : 0 ≤ upB s i j ∧ upB s i j ≤ 255 := by
    unfold upB
    split
    · rw [w8]; omega
    · exact sb_rng _ _
  rw [UInt8.toNat_ofNat']
  omega
theorem cap_v (s : ByteArray) : capV s := by
  have hpos : (!decide (s = ⟨#[]⟩)) = true → 0 < s.size := fun h => by
    rw [emp_iff, Bool.not_eq_true', decide_eq_false_iff_not] at h; omega
  have hp2 : (!decide ((s.size : Int) > 900) && !decide (s = ⟨#[]⟩)) = true → 0 < s.size ∧ s.size ≤ 900 := fun h => by
    rw [Bool.and_eq_true] at h
    have h1 := h.1
    simp at h1
    exact ⟨hpos h.2, by omega⟩
  unfold capV
  refine ⟨fun h => absurd h (by decide), fun _ => ⟨fun h => ?_, fun h => ?_, fun h => ?_, fun _ => rfl, fun h => ?_⟩⟩
  · have := hp2 h; unfold in64; omega
  · have := hp2 h; omega
  · omega
  rw [Bool.or_eq_false_iff] at h
  obtain ⟨h1, h2⟩ := h
  have hs : s.size ≤ 900 := by have := of_decide_eq_false h1; omega
  have hnd := no_dot h2
  refine ⟨⟨⟨0⟩, Nat.zero_le _, rfl, rfl, rfl, rfl, rfl, rfl, ⟨⟨rfl, rfl, rfl⟩, rfl, fun j hj => by simp [upB]⟩, trivial⟩, ?_⟩
  rintro ⟨i⟩ hi
  have hi : i ≤ s.size := hi
  refine ⟨fun h => ?_, fun h => ?_⟩
  · have h : (i : Int) < s.size := of_decide_eq_true h
    have hz : 0 + (i : Int).toNat = i := by omega
    dsimp only
    rw [hz, upB_at]
    refine ⟨by omega, by omega, by omega, fun hc => ?_, fun hc => ?_⟩
    · simp only [Bool.and_eq_true, decide_eq_true_eq] at hc
      refine ⟨by omega, by omega, by omega, by unfold in64; omega, ⟨i + 1⟩, by show i + 1 ≤ s.size; omega, by show s.size - (i + 1) < s.size - i; omega, rfl, rfl, rfl, rfl, rfl, rfl, ⟨⟨rfl, rfl, rfl⟩, rfl, fun j hj => ?_⟩, trivial⟩
      dsimp only
      rw [beqN]
      by_cases e : j = i
      · subst e
        rw [decide_eq_true rfl, upB_yes s j hc]
        rfl
      · rw [decide_eq_false e, upB_no s i j (.inl e)]
        rfl
    · refine ⟨by unfold in64; omega, ⟨i + 1⟩, by show i + 1 ≤ s.size; omega, by show s.size - (i + 1) < s.size - i; omega, rfl, rfl, rfl, rfl, rfl, rfl, ⟨⟨rfl, rfl, rfl⟩, rfl, fun j hj => ?_⟩, trivial⟩
      rw [upB_no s i j (.inr (by simp only [Bool.and_eq_false_iff, decide_eq_false_iff_not] at hc; omega))]
  · have h : ¬ (i : Int) < s.size := of_decide_eq_false h
    obtain rfl : i = s.size := by omega
    have e1 : toA (txtOf s.size fun j => UInt8.ofNat (upB s s.size (0 + j)).toNat) = toA s := toA_up hnd
    have e2 : toA (s ++ ⟨#[46]⟩) = toA s := toA_dot hnd hs
    refine ⟨by omega, fun j hj => congrArg (fun z => [X8 z]) (upB_b s _ (0 + j)), by omega, ?_⟩
    show (decide ((toA s).1 = (toA (txtOf s.size fun j => UInt8.ofNat (upB s s.size (0 + j)).toNat)).1) && (toA s).2 == (toA (txtOf s.size fun j => UInt8.ofNat (upB s s.size (0 + j)).toNat)).2 && (decide ((toA s).1 = (toA (s ++ ⟨#[46]⟩)).1) && (toA s).2 == (toA (s ++ ⟨#[46]⟩)).2 || decide (s = ⟨#[]⟩))) = true
    rw [e1, e2]
    simp
end Go.Proofs.YtedmgnhbfpjceaaDoorAv
set_option linter.unusedVariables false
set_option linter.unusedSimpArgs false
set_option maxRecDepth 100000
namespace Go.Proofs.YtedmgnhbfpjceaaDoorAv
open Go Go.RowKit
/-- The first error of labels that are turned. -/
def eL (l : List (List UInt8)) : Int := ee (fun x => (aL x).2) l
def jL (l : List (List UInt8)) : List UInt8 := join46 (l.map fun x => (aL x).1)
theorem tL_err {l : List (List UInt8)} (h : eL l ≠ 0) : tL l = ([], eL l) := by
  have : eR aL l = ([], eL l) := eR_err h
  rw [tL, this, if_neg]
  rintro ⟨h1, -⟩
  exact h h1
theorem tL_long {l : List (List UInt8)} (h : eL l = 0) (h2 : (jL l).length > 253) : tL l = ([], 2) := by
  have : eR aL l = (jL l, 0) := eR_ok h
  rw [tL, this, if_pos ⟨rfl, h2⟩]
theorem tL_ok {l : List (List UInt8)} (h : eL l = 0) (h2 : ¬ (jL l).length > 253) : tL l = (jL l, 0) := by
  have : eR aL l = (jL l, 0) := eR_ok h
  rw [tL, this, if_neg (fun k => h2 k.2)]
theorem tL_zero {l : List (List UInt8)} (h : (tL l).2 = 0) : eL l = 0 ∧ ¬ (jL l).length > 253 ∧ (tL l).1 = jL l := by
  by_cases e : eL l = 0
  · by_cases h2 : (jL l).length > 253
    · rw [tL_long e h2] at h; exact absurd h (by decide)
    · exact ⟨e, h2, by rw [tL_ok e h2]⟩
  · rw [tL_err e] at h; exact absurd h e
theorem tL_other {l : List (List UInt8)} (h : (tL l).2 ≠ 0) (h2 : (tL l).2 ≠ 2) : eL l = (tL l).2 := by
  by_cases e : eL l = 0
  · by_cases h3 : (jL l).length > 253
    · rw [tL_long e h3] at h2; exact absurd rfl h2
    · rw [tL_ok e h3] at h; exact absurd rfl h
  · rw [tL_err e]
theorem eL_app (l r : List (List UInt8)) : eL (l ++ r) = if eL l ≠ 0 then eL l else eL r := ee_app _ l r
theorem jL_app {l r : List (List UInt8)} (hl : l ≠ []) (hr : r ≠ []) : jL (l ++ r) = jL l ++ 46 :: jL r := by
  unfold jL
  rw [List.map_append, join46_app (by simpa using hl) (by simpa using hr)]
theorem LL_two {a b : List UInt8} (ha : ∀ t, a ≠ t ++ [46]) (hb : ∀ t, b ≠ t ++ [46]) (h : b ≠ []) : LL (a ++ 46 :: b) = LL a ++ LL b := by
  rw [LL_no ha, LL_no hb, LL_no, split1_app]
  intro t ht
  have h1 := congrArg List.getLast? ht
  rw [List.getLast?_append, List.getLast?_append] at h1
  simp only [List.getLast?_singleton, Option.some_or] at h1
  obtain ⟨c, b', rfl⟩ : ∃ b' c, b = b' ++ [c] := ⟨b.dropLast, b.getLast h, (List.dropLast_concat_getLast h).symm⟩
  rw [← List.cons_append, List.getLast?_append] at h1
  simp only [List.getLast?_singleton, Option.some_or, Option.some.injEq] at h1
  exact hb c (by rw [h1])
theorem par_v (a b : ByteArray) (ha : a.size ≤ 140737488351232) (hb : b.size ≤ 140737488351232) : parV a b := by
  have hpos : ∀ x : ByteArray, (!decide (x = ⟨#[]⟩)) = true → 0 < x.size := fun x h => by
    rw [emp_iff, Bool.not_eq_true', decide_eq_false_iff_not] at h; omega
  have hp2 : ∀ (c : Bool) (x : ByteArray), (c && !decide (x = ⟨#[]⟩)) = true → 0 < x.size := fun c x h => by
    rw [Bool.and_eq_true] at h
    exact hpos x h.2
  have hd : (a ++ ⟨#[46]⟩ ++ b).data.toList = a.data.toList ++ 46 :: b.data.toList := by
    rw [ByteArray.data_append, Array.toList_append, ByteArray.data_append, Array.toList_append, List.append_assoc]
    rfl
  unfold parV
  refine ⟨fun h => absurd h (by decide), fun _ => ⟨by unfold in64; omega, fun h => ?_, fun h => ?_, fun _ => by omega, fun h => ?_, fun h => ?_, fun _ => by omega, fun _ => rfl, fun h => ?_⟩⟩
  · have := hp2 _ _ h; unfold in64; omega
  · have := hp2 _ _ h; omega
  · have := hp2 _ _ h; unfold in64; omega
  · have := hp2 _ _ h; omega
  rw [Bool.or_eq_false_iff, Bool.or_eq_false_iff] at h
  obtain ⟨⟨h1, h2⟩, h3⟩ := h
  have hs : a.size + b.size ≤ 400 := by have := of_decide_eq_false h1; omega
  have hna := no_dot h2
  have hnb := no_dot h3
  have es1 : (a ++ (⟨#[46]⟩ : ByteArray)).size = a.size + 1 := by rw [ByteArray.size_append]; rfl
  have sa := size_data a
  have sb := size_data b
  have tx : tA a.data.toList = tL (LL a.data.toList) := tA_tL (by omega)
  have ty : tA b.data.toList = tL (LL b.data.toList) := tA_tL (by omega)
  have tz : tA (a.data.toList ++ 46 :: b.data.toList) = tL (LL (a.data.toList ++ 46 :: b.data.toList)) := tA_tL (by rw [List.length_append, List.length_cons]; omega)
  rw [toA_tA a, toA_tA b, toA_tA (a ++ ⟨#[46]⟩ ++ b), hd, tx, ty, tz]
  have one : b.data.toList = [] → LL (a.data.toList ++ 46 :: b.data.toList) = LL a.data.toList := fun h => by
    rw [h]
    unfold LL
    rw [trim46_dot, trim46_no hna]
  have hbe : decide (b = ⟨#[]⟩) = false → b.data.toList ≠ [] := fun h he => by
    rw [emp_iff, decide_eq_false_iff_not] at h
    rw [he] at sb
    exact h sb
  dsimp only
  refine ⟨by omega, by omega, fun h => ?_, fun h => ⟨fun h => h, fun h => by rw [h]; rfl, fun _ => rfl, fun h4 => ?_⟩⟩
  · rw [Bool.and_eq_true, bne_iff_ne, bne_iff_ne] at h
    have he := tL_other h.1 h.2
    rw [beq_iff_eq]
    by_cases hbb : b.data.toList = []
    · rw [one hbb]
    · rw [LL_two hna hnb hbb, tL_err (l := LL a.data.toList ++ LL b.data.toList) (by rw [eL_app, if_pos (by rw [he]; exact h.1), he]; exact h.1)]
      show eL _ = _
      rw [eL_app, if_pos (by rw [he]; exact h.1), he]
  · rw [Bool.or_eq_false_iff, Bool.or_eq_false_iff] at h4
    obtain ⟨⟨h5, h6⟩, h7⟩ := h4
    have hbb := hbe h5
    have hx0 : (tL (LL a.data.toList)).2 = 0 := by
      rw [beq_eq_false_iff_ne] at h6
      by_cases e : (tL (LL a.data.toList)).2 = 0
      · exact e
      · rw [Bool.and_eq_false_iff] at h
        rcases h with h | h
        · exact absurd (by simpa using h) e
        · exact absurd (by simpa using h) h6
    have hy2 : (tL (LL b.data.toList)).2 ≠ 2 := by rw [beq_eq_false_iff_ne] at h7; exact h7
    obtain ⟨x1, x2, x3⟩ := tL_zero hx0
    have eab : eL (LL a.data.toList ++ LL b.data.toList) = eL (LL b.data.toList) := by rw [eL_app, if_neg (by rw [x1]; simp)]
    have jab : jL (LL a.data.toList ++ LL b.data.toList) = jL (LL a.data.toList) ++ 46 :: jL (LL b.data.toList) := jL_app (LL_ne _) (LL_ne _)
    rw [LL_two hna hnb hbb]
    refine ⟨fun h8 => ?_, fun h8 => ?_⟩
    · have h8 : (tL (LL b.data.toList)).2 ≠ 0 := by simpa using h8
      have he := tL_other h8 hy2
      rw [tL_err (l := LL a.data.toList ++ LL b.data.toList) (by rw [eab, he]; exact h8), eab, he]
      simp
    · have h8 : (tL (LL b.data.toList)).2 = 0 := by simpa using h8
      obtain ⟨y1, y2, y3⟩ := tL_zero h8
      rw [x3, y3, mk8_size, mk8_size]
      have sj : (mk8 (jL (LL a.data.toList)) ++ (⟨#[46]⟩ : ByteArray)).size = (jL (LL a.data.toList)).length + 1 := by rw [ByteArray.size_append]; rfl
      refine ⟨by unfold in64; omega, by unfold in64; omega, fun _ => by omega, fun _ => by omega, ?_⟩
      by_cases hl : (jL (LL a.data.toList ++ LL b.data.toList)).length > 253
      · rw [tL_long (eab.trans y1) hl]
        rw [jab, List.length_append, List.length_cons] at hl
        rw [decide_eq_true (by omega)]
        rfl
      · rw [tL_ok (eab.trans y1) hl, jab]
        have e2 : mk8 (jL (LL a.data.toList) ++ 46 :: jL (LL b.data.toList)) = mk8 (jL (LL a.data.toList)) ++ ⟨#[46]⟩ ++ mk8 (jL (LL b.data.toList)) := by
          rw [← data_mk8 (mk8 (jL (LL a.data.toList)) ++ ⟨#[46]⟩ ++ mk8 (jL (LL b.data.toList)))]
          rw [ByteArray.data_append, Array.toList_append, ByteArray.data_append, Array.toList_append, List.append_assoc]
          rfl
        rw [← e2]
        simp
/-! NameLong -/
theorem aL_plain {x : List UInt8} (h1 : plaL (x.map lowc) = true) (h2 : xnL.isPrefixOf (x.map lowc) = false) : aL x = if rgtL (x.map lowc) = true then (x.map lowc, 0) else ([], 1) := by
  rw [aL_aS, aS, if_pos h1]
  cases h : rgtL (x.map lowc)
  · rw [if_pos rfl, if_neg (by simp)]
  · rw [if_neg (by simp), if_neg (by rw [h2]; simp), if_pos rfl]
theorem rep_low (n : Nat) : (List.replicate n (97 : UInt8)).map lowc = List.replicate n 97 := by
  rw [List.map_replicate]; rfl
theorem rgt_rep (n : Nat) (h : 0 < n) : rgtL (List.replicate n 97) = decide (n ≤ 63) := by
  unfold rgtL
  have e0 : (List.replicate n (97 : UInt8)).getD 0 0 = 97 := by
    rw [List.getD_eq_getElem?_getD, List.getElem?_replicate, if_pos h]; rfl
  have e1 : (List.replicate n (97 : UInt8)).getD (n - 1) 0 = 97 := by
    rw [List.getD_eq_getElem?_getD, List.getElem?_replicate, if_pos (by omega)]; rfl
  have e2 : (List.replicate n (97 : UInt8)).all okc = true := by
    rw [List.all_eq_true]
    intro c hc
    rw [(List.mem_replicate.1 hc).2]; decide
  rw [List.length_replicate, e0, e1, e2, decide_eq_true h]
  cases decide (n ≤ 63) <;> rfl
theorem aL_rep (n : Nat) (h : 0 < n) : aL (List.replicate n 97) = if n ≤ 63 then (List.replicate n 97, 0) else ([], 1) := by
  rw [aL_plain, rep_low, rgt_rep n h]
  · by_cases e : n ≤ 63
    · rw [decide_eq_true e, if_pos rfl, if_pos e]
    · rw [decide_eq_false e, if_neg (by simp), if_neg e]
  · rw [rep_low, plaL, List.all_eq_true]
    intro c hc
    rw [(List.mem_replicate.1 hc).2]; decide
  · rw [rep_low]
    cases n with
    | zero => omega
    | succ n => rfl
theorem rpA_data : ∀ n, (rpA n).data.toList = List.replicate n 97
  | 0 => rfl
  | n + 1 => by
    rw [rpA, ByteArray.data_append, Array.toList_append, rpA_data n, List.replicate_succ']
theorem rpS_data (x : ByteArray) : ∀ m, (rpS x m).data.toList = join46 (List.replicate m x.data.toList)
  | 0 => rfl
  | m + 1 => by
    rw [rpS, ByteArray.data_append, Array.toList_append]
    by_cases h : 0 < m
    · rw [if_pos h, ByteArray.data_append, Array.toList_append, rpS_data x m, List.replicate_succ', join46_app (by intro e; have := congrArg List.length e; simp at this; omega) (by simp), List.append_assoc]
      rfl
    · obtain rfl : m = 0 := by omega
      rw [if_neg h]
      rfl
theorem join_rep_len (x : List UInt8) : ∀ m, 0 < m → (join46 (List.replicate m x)).length = m * (x.length + 1) - 1
  | 0, h => by omega
  | 1, _ => by simp [join46]
  | m + 2, _ => by
    have ih := join_rep_len x (m + 1) (by omega)
    rw [List.replicate_succ, join46_cons x (by simp), List.length_append, List.length_cons, ih, Nat.add_mul (m + 1) 1]
    have : x.length + 1 ≤ (m + 1) * (x.length + 1) := Nat.le_mul_of_pos_left _ (by omega)
    omega
theorem LL_rep (n m : Nat) (hn : 0 < n) (hm : 0 < m) : LL (join46 (List.replicate m (List.replicate n 97))) = List.replicate m (List.replicate n 97) := by
  have hs : split1 46 (join46 (List.replicate m (List.replicate n 97))) = List.replicate m (List.replicate n 97) := split_join (by intro e; have := congrArg List.length e; simp at this; omega) fun x hx c hc => by
    rw [(List.mem_replicate.1 hx).2] at hc
    rw [(List.mem_replicate.1 hc).2]; decide
  rw [LL_no, hs]
  intro t ht
  rw [ht, split1_app] at hs
  have h1 : ([] : List UInt8) ∈ List.replicate m (List.replicate n 97) := by rw [← hs]; simp [split1]
  have h2 := (List.mem_replicate.1 h1).2
  have := congrArg List.length h2
  simp at this
  omega
theorem eL_rep (n m : Nat) (hn : 0 < n) (hm : 0 < m) : eL (List.replicate m (List.replicate n 97)) = if n ≤ 63 then 0 else 1 := by
  by_cases e : n ≤ 63
  · rw [if_pos e]
    refine ee_zero.2 fun x hx => ?_
    rw [(List.mem_replicate.1 hx).2, aL_rep n hn, if_pos e]
  · rw [if_neg e]
    obtain ⟨m, rfl⟩ : ∃ k, m = k + 1 := ⟨m - 1, by omega⟩
    rw [List.replicate_succ]
    show ee _ (_ :: _) = 1
    rw [ee, aL_rep n hn, if_neg e]
    rfl
theorem jL_rep (n m : Nat) (hn : 0 < n) (e : n ≤ 63) : jL (List.replicate m (List.replicate n 97)) = join46 (List.replicate m (List.replicate n 97)) := by
  unfold jL
  rw [List.map_replicate, aL_rep n hn, if_pos e]
theorem and_mk (x m : Int) (h0 : 0 ≤ m) (h1 : m ≤ 9223372036854775807) : 0 ≤ bits .and .i64 x m ∧ bits .and .i64 x m ≤ m := by
  have hb : (BitVec.ofInt 64 m).toNat = m.toNat := by
    rw [BitVec.toNat_ofInt, Int.emod_eq_of_lt h0 (by omega)]
  have h2 : (BitVec.ofInt 64 x &&& BitVec.ofInt 64 m).toNat ≤ m.toNat := by
    rw [BitVec.toNat_and, hb]; exact Nat.and_le_right
  have e : bits .and .i64 x m = ((BitVec.ofInt 64 x &&& BitVec.ofInt 64 m).toNat : Int) := by
    show IntKind.i64.wrap ((BitVec.ofInt 64 x &&& BitVec.ofInt 64 m).toNat : Int) = _
    generalize (BitVec.ofInt 64 x &&& BitVec.ofInt 64 m).toNat = t at h2
    exact wrap64_in (by omega) (by omega)
  rw [e]
  omega
theorem lon_v (n m : Int) : lonV n m := by
  have hn := and_mk n 127 (by decide) (by decide)
  have hm := and_mk m 7 (by decide) (by decide)
  have hN : 1 ≤ lnN n ∧ lnN n ≤ 128 := by unfold lnN; omega
  have hM : 1 ≤ lnM m ∧ lnM m ≤ 8 := by unfold lnM; omega
  have sA : ∀ i, (rpA i).size = i := fun i => by rw [size_data, rpA_data, List.length_replicate]
  have sS : ∀ k i, (rpS (rpA k) i).size ≤ i * (k + 1) := fun k i => by
    rw [size_data, rpS_data, rpA_data]
    cases i with
    | zero => simp [join46]
    | succ i => rw [join_rep_len _ _ (by omega), List.length_replicate]; omega
  have bnd : ∀ i : Nat, (i : Int) ≤ lnM m → (rpS (rpA (lnN n).toNat) i).size ≤ 8 * 129 := fun i hi => Nat.le_trans (sS _ i) (Nat.mul_le_mul (by omega) (by omega))
  unfold lonV
  refine ⟨fun h => absurd h (by decide), fun _ => ⟨by unfold in64; omega, by unfold in64; omega, ⟨⟨0⟩, (show ((0 : Nat) : Int) ≤ lnN n by omega), rfl, rfl, rfl, rfl, rfl, rfl, trivial⟩, ?_⟩⟩
  rintro ⟨i⟩ hi
  have hi : (i : Int) ≤ lnN n := hi
  refine ⟨fun h => ?_, fun h => ?_⟩
  · have h : (i : Int) < lnN n := of_decide_eq_true h
    exact ⟨by have := sA i; dsimp only; omega, by unfold in64; dsimp only; omega, ⟨i + 1⟩, (show ((i + 1 : Nat) : Int) ≤ lnN n by omega), by show (lnN n).toNat - (i + 1) < (lnN n).toNat - i; omega, rfl, rfl, rfl, rfl, rfl, rfl, trivial⟩
  have h : ¬ (i : Int) < lnN n := of_decide_eq_false h
  have ei : i = (lnN n).toNat := by omega
  refine ⟨⟨⟨0⟩, (show ((0 : Nat) : Int) ≤ lnM m by omega), rfl, rfl, rfl, by dsimp only; rw [ei], rfl, rfl, rfl, trivial⟩, ?_⟩
  clear h ei
  rintro ⟨i⟩ hi
  have hi : (i : Int) ≤ lnM m := hi
  have hb := bnd i hi
  have h97 := sA (lnN n).toNat
  have es1 : (rpS (rpA (lnN n).toNat) i ++ (⟨#[46]⟩ : ByteArray)).size = (rpS (rpA (lnN n).toNat) i).size + 1 := by rw [ByteArray.size_append]; rfl
  refine ⟨fun h => ⟨fun h2 => ?_, fun h2 => ?_⟩, fun h => ?_⟩
  · have h : (i : Int) < lnM m := of_decide_eq_true h
    have h2 : (i : Int) > 0 := of_decide_eq_true h2
    exact ⟨by dsimp only; omega, by dsimp only; omega, by unfold in64; dsimp only; omega, ⟨i + 1⟩, (show ((i + 1 : Nat) : Int) ≤ lnM m by omega), by show (lnM m).toNat - (i + 1) < (lnM m).toNat - i; omega, rfl, rfl, rfl, rfl, by dsimp only; rw [rpS, if_pos (by omega)], rfl, rfl, trivial⟩
  · have h : (i : Int) < lnM m := of_decide_eq_true h
    have h2 : ¬ (i : Int) > 0 := of_decide_eq_false h2
    exact ⟨by dsimp only; omega, by unfold in64; dsimp only; omega, ⟨i + 1⟩, (show ((i + 1 : Nat) : Int) ≤ lnM m by omega), by show (lnM m).toNat - (i + 1) < (lnM m).toNat - i; omega, rfl, rfl, rfl, rfl, by dsimp only; rw [rpS, if_neg (by omega)], rfl, rfl, trivial⟩
  have h : ¬ (i : Int) < lnM m := of_decide_eq_false h
  obtain ⟨k, hk⟩ : ∃ k : Nat, lnN n = k := ⟨(lnN n).toNat, by omega⟩
  have hk0 : 0 < k := by omega
  have hi0 : 0 < i := by omega
  have sd : (rpS (rpA k) i).data.toList = join46 (List.replicate i (List.replicate k 97)) := by rw [rpS_data, rpA_data]
  rw [hk] at hb ⊢
  rw [Int.toNat_natCast] at hb ⊢
  have ss : (rpS (rpA k) i).size = (join46 (List.replicate i (List.replicate k 97))).length := by rw [size_data, sd]
  have hT : toA (rpS (rpA k) i) = (mk8 (tA (join46 (List.replicate i (List.replicate k 97)))).1, (tA (join46 (List.replicate i (List.replicate k 97)))).2) := by rw [toA_tA, sd]
  have hLL := LL_rep k i hk0 hi0
  have hE := eL_rep k i hk0 hi0
  dsimp only
  refine ⟨fun h3 => ?_, fun h3 => ⟨fun h4 => ?_, fun h4 => ⟨fun h => h, fun h => h, fun h => h, ?_⟩⟩⟩
  · simp only [Bool.and_eq_true, decide_eq_true_eq] at h3
    rw [if_neg (by omega)] at hE
    rw [hT, tA_tL (by omega), hLL, tL_err (by rw [hE]; decide), hE]
    rfl
  · have h4 : ((rpS (rpA k) i).size : Int) > 253 := of_decide_eq_true h4
    rw [hT]
    by_cases h5 : (rpS (rpA k) i).size ≤ 1012
    · have hk63 : k ≤ 63 := by
        simp only [Bool.and_eq_false_iff, decide_eq_false_iff_not] at h3
        omega
      rw [if_pos hk63] at hE
      rw [tA_tL (by omega), hLL, tL_long hE (by rw [jL_rep k i hk0 hk63]; omega)]
      rfl
    · rw [tA, if_pos (by omega)]; rfl
  · have h4 : ¬ ((rpS (rpA k) i).size : Int) > 253 := of_decide_eq_false h4
    have hk63 : k ≤ 63 := by
      simp only [Bool.and_eq_false_iff, decide_eq_false_iff_not] at h3
      omega
    rw [if_pos hk63] at hE
    have hJ := jL_rep k i hk0 hk63
    rw [hT, tA_tL (by omega), hLL, tL_ok hE (by rw [hJ]; omega), hJ, ← sd, data_mk8]
    simp
end Go.Proofs.YtedmgnhbfpjceaaDoorAv
set_option linter.unusedVariables false
set_option linter.unusedSimpArgs false
set_option maxRecDepth 100000
namespace Go.Proofs.YtedmgnhbfpjceaaDoorAv
open Go Go.RowKit
theorem par_ok : CTok Tryd.prog 7 (C2 dStr dStr (fun a b => [a.size ≤ 140737488351232, b.size ≤ 140737488351232]) fun _ _ => XB true) := C2_ok cxL_ok Tryd.func7 rfl (by decide) dStr_eq.ok dStr_eq.ok (by kernel_rfl) (fun _ _ => rfl) fun a b hc => exv (parV_eq a b) (par_v a b (hc _ (by simp)) (hc _ (by simp)))
theorem lon_ok : CTok Tryd.prog 9 (C2 dInt dInt (fun _ _ => []) fun _ _ => XB true) := C2_ok cxL_ok Tryd.func9 rfl (by decide) dInt_eq.ok dInt_eq.ok (by kernel_rfl) (fun _ _ => rfl) fun a b hc => exv (lonV_eq a b) (lon_v a b)
theorem nameParts_J (L : GH) (a b : ByteArray) (ha : a.size ≤ 140737488351232) (hb : b.size ≤ 140737488351232) : JF Tryd.prog 7 [strAV a, strAV b] L (fun v L' => v = boolAV true ∧ L' = L) := by
  refine law_J par_ok (xs := [XT a, XT b]) (cs := _) rfl (fun p hp => ?_) ?_ L
  · simp only [List.nil_append, List.append_nil, List.mem_cons, List.not_mem_nil, or_false] at hp
    rcases hp with rfl | rfl
    · exact ha
    · exact hb
  · simp only [RVL]
    exact ⟨by simp [RV, strAV], by simp [RV, strAV], trivial⟩
theorem nameLong_J (L : GH) (a b : Int) (ha : (Lit.int .i64 a).wf = true) (hb : (Lit.int .i64 b).wf = true) : JF Tryd.prog 9 [intAV a, intAV b] L (fun v L' => v = boolAV true ∧ L' = L) := by
  refine law_J lon_ok (xs := [XI a, XI b]) (cs := []) rfl (fun p hp => by cases hp) ?_ L
  simp only [RVL]
  exact ⟨by simp [RV, intAV], by simp [RV, intAV], trivial⟩
end Go.Proofs.YtedmgnhbfpjceaaDoorAv
