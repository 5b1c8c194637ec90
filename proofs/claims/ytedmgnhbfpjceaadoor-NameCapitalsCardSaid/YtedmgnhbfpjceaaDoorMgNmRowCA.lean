/- Own texts, put together: NmH; PnB; NmRowC. -/
import Derived.Test.YtedmgnhbfpjceaaDoorMgE
set_option linter.unusedVariables false
set_option linter.unusedSimpArgs false
set_option maxRecDepth 100000
namespace Go.Proofs.YtedmgnhbfpjceaaDoorAv
open Go Go.RowKit
def cxL : Cx := { cx0 with C := [(11, C0 [] (XB true)), (12, toAC), (13, toUC), (18, lspC), (15, rgtC), (14, lowC), (16, ljnC), (19, dotC), (20, cnlC), (17, goodC)] }
theorem cxL_ok : cxL.ok Tryd.prog := (((((((((cx0_ok.addC good_ok).addC cnl_ok).addC dot_ok).addC ljn_ok).addC low_ok).addC rgt_ok).addC lsp_ok).addC toU_ok).addC toA_ok).addC fit_ok
/-- A text's bytes, small letters ahead of place i capitals. -/
def upB (s : ByteArray) (i j : Nat) : Int := if j < i ∧ (97 ≤ sbyte s j ∧ sbyte s j ≤ 122) then IntKind.u8.wrap (sbyte s j - 32) else sbyte s j
def upT (s : ByteArray) : ByteArray := txtOf s.size fun j => UInt8.ofNat (upB s s.size (0 + j)).toNat
def cpI (s : ByteArray) : Inv where
  σ := IL
  S := fun x => ⟨[(0, XT s), (3, .sl 0 1 0 s.size), (31, .sl 0 1 0 s.size), (32, XI s.size), (33, XI x.i)], [(0, .vec 5 false s.size 1 fun j => [X8 (upB s x.i j)])], 1, false, []⟩
  inv := fun x => x.i ≤ s.size
  μ := fun x => s.size - x.i
def cpE (s : ByteArray) : Env := { loops := [(0, cpI s)] }
def capV (s : ByteArray) : Prop :=
  ((!true) = true → false = true) ∧ ((!true) = false → ((!decide ((↑s.size : Int) > (900 : Int)) && !decide (s = { data := #[] : ByteArray })) = true → in64 ((↑s.size : Int) - (1 : Int))) ∧ ((!decide ((↑s.size : Int) > (900 : Int)) && !decide (s = { data := #[] : ByteArray })) = true → (0 : Int) ≤ (↑s.size : Int) - (1 : Int)) ∧ ((!decide ((↑s.size : Int) > (900 : Int)) && !decide (s = { data := #[] : ByteArray })) = true → (↑s.size : Int) - (1 : Int) < (↑s.size : Int)) ∧ ((decide ((↑s.size : Int) > (900 : Int)) || !decide (s = { data := #[] : ByteArray }) && sbyte s ((↑s.size : Int) - (1 : Int)) == (46 : Int)) = true → true = true) ∧ ((decide ((↑s.size : Int) > (900 : Int)) || !decide (s = { data := #[] : ByteArray }) && sbyte s ((↑s.size : Int) - (1 : Int)) == (46 : Int)) = false → (∃ (x : (cpI s).σ), x.i.le s.size ∧ true = true ∧ s = s ∧ XV.sl (0 : Nat) (1 : Nat) (0 : Nat) s.size = XV.sl (0 : Nat) (1 : Nat) (0 : Nat) s.size ∧ XV.sl (0 : Nat) (1 : Nat) (0 : Nat) s.size = XV.sl (0 : Nat) (1 : Nat) (0 : Nat) s.size ∧ (↑s.size : Int) = (↑s.size : Int) ∧ (0 : Int) = (↑x.i : Int) ∧ (((5 : TypeId) = (5 : TypeId) ∧ false = false ∧ (1 : Nat) = (1 : Nat)) ∧ s.size = s.size ∧ ∀ (j : Nat), j < s.size → [X8 (sbyte s (↑j : Int))] = [X8 (upB s x.i j)]) ∧ True) ∧ ∀ (x : IL), x.i.le s.size → (decide ((↑x.i : Int) < (↑s.size : Int)) = true → (0 : Int) ≤ (↑x.i : Int) ∧ (↑x.i : Int) < (↑s.size : Int) ∧ (0 : Nat) + (↑x.i : Int).toNat < s.size ∧ ((decide (upB s x.i ((0 : Nat) + (↑x.i : Int).toNat) ≥ (97 : Int)) && decide (upB s x.i ((0 : Nat) + (↑x.i : Int).toNat) ≤ (122 : Int))) = true → (0 : Int) ≤ (↑x.i : Int) ∧ (↑x.i : Int) < (↑s.size : Int) ∧ (0 : Nat) + (↑x.i : Int).toNat < s.size ∧ in64 ((↑x.i : Int) + (1 : Int)) ∧ ∃ (x' : (cpI s).σ), x'.i.le s.size ∧ s.size - x'.i < s.size - x.i ∧ true = true ∧ s = s ∧ XV.sl (0 : Nat) (1 : Nat) (0 : Nat) s.size = XV.sl (0 : Nat) (1 : Nat) (0 : Nat) s.size ∧ XV.sl (0 : Nat) (1 : Nat) (0 : Nat) s.size = XV.sl (0 : Nat) (1 : Nat) (0 : Nat) s.size ∧ (↑s.size : Int) = (↑s.size : Int) ∧ (↑x.i : Int) + (1 : Int) = (↑x'.i : Int) ∧ (((5 : TypeId) = (5 : TypeId) ∧ false = false ∧ (1 : Nat) = (1 : Nat)) ∧ s.size = s.size ∧ ∀ (j : Nat), j < s.size → (bif j.beq ((0 : Nat) + (↑x.i : Int).toNat) then [X8 (IntKind.u8.wrap (upB s x.i ((0 : Nat) + (↑x.i : Int).toNat) - (32 : Int)))] else [X8 (upB s x.i j)]) = [X8 (upB s x'.i j)]) ∧ True) ∧ ((decide (upB s x.i ((0 : Nat) + (↑x.i : Int).toNat) ≥ (97 : Int)) && decide (upB s x.i ((0 : Nat) + (↑x.i : Int).toNat) ≤ (122 : Int))) = false → in64 ((↑x.i : Int) + (1 : Int)) ∧ ∃ (x' : (cpI s).σ), x'.i.le s.size ∧ s.size - x'.i < s.size - x.i ∧ true = true ∧ s = s ∧ XV.sl (0 : Nat) (1 : Nat) (0 : Nat) s.size = XV.sl (0 : Nat) (1 : Nat) (0 : Nat) s.size ∧ XV.sl (0 : Nat) (1 : Nat) (0 : Nat) s.size = XV.sl (0 : Nat) (1 : Nat) (0 : Nat) s.size ∧ (↑s.size : Int) = (↑s.size : Int) ∧ (↑x.i : Int) + (1 : Int) = (↑x'.i : Int) ∧ (((5 : TypeId) = (5 : TypeId) ∧ false = false ∧ (1 : Nat) = (1 : Nat)) ∧ s.size = s.size ∧ ∀ (j : Nat), j < s.size → [X8 (upB s x.i j)] = [X8 (upB s x'.i j)]) ∧ True)) ∧ (decide ((↑x.i : Int) < (↑s.size : Int)) = false → (0 : Nat) + s.size ≤ s.size ∧ (∀ (j : Nat), j < s.size → [X8 (upB s x.i ((0 : Nat) + j))] = [X8 (↑{ toBitVec := BitVec.ofNat (8 : Nat) (upB s x.i ((0 : Nat) + j)).toNat : UInt8 }.toNat : Int)]) ∧ s.size + (1 : Nat) ≤ (9223372036854775807 : Nat) ∧ (decide ((toA s).fst = (toA (txtOf s.size fun (j : Nat) => { toBitVec := BitVec.ofNat (8 : Nat) (upB s x.i ((0 : Nat) + j)).toNat : UInt8 })).fst) && (toA s).snd == (toA (txtOf s.size fun (j : Nat) => { toBitVec := BitVec.ofNat (8 : Nat) (upB s x.i ((0 : Nat) + j)).toNat : UInt8 })).snd && (decide ((toA s).fst = (toA (s ++ { data := #[(46 : UInt8)] : ByteArray })).fst) && (toA s).snd == (toA (s ++ { data := #[(46 : UInt8)] : ByteArray })).snd || decide (s = { data := #[] : ByteArray }))) = true)))
theorem capV_eq (s : ByteArray) : capV s = (funC cxL Tryd.f6 (mkSc (cpE s) (bodyOf Tryd.f6)) [XT s] (XB true)) := by kernel_rfl
def parV (a b : ByteArray) : Prop :=
  ((!true) = true → false = true) ∧ ((!true) = false → in64 ((↑a.size : Int) + (↑b.size : Int)) ∧ ((!decide ((↑a.size : Int) + (↑b.size : Int) > (400 : Int)) && !decide (a = { data := #[] : ByteArray })) = true → in64 ((↑a.size : Int) - (1 : Int))) ∧ ((!decide ((↑a.size : Int) + (↑b.size : Int) > (400 : Int)) && !decide (a = { data := #[] : ByteArray })) = true → (0 : Int) ≤ (↑a.size : Int) - (1 : Int)) ∧ ((!decide ((↑a.size : Int) + (↑b.size : Int) > (400 : Int)) && !decide (a = { data := #[] : ByteArray })) = true → (↑a.size : Int) - (1 : Int) < (↑a.size : Int)) ∧ ((!(decide ((↑a.size : Int) + (↑b.size : Int) > (400 : Int)) || !decide (a = { data := #[] : ByteArray }) && sbyte a ((↑a.size : Int) - (1 : Int)) == (46 : Int)) && !decide (b = { data := #[] : ByteArray })) = true → in64 ((↑b.size : Int) - (1 : Int))) ∧ ((!(decide ((↑a.size : Int) + (↑b.size : Int) > (400 : Int)) || !decide (a = { data := #[] : ByteArray }) && sbyte a ((↑a.size : Int) - (1 : Int)) == (46 : Int)) && !decide (b = { data := #[] : ByteArray })) = true → (0 : Int) ≤ (↑b.size : Int) - (1 : Int)) ∧ ((!(decide ((↑a.size : Int) + (↑b.size : Int) > (400 : Int)) || !decide (a = { data := #[] : ByteArray }) && sbyte a ((↑a.size : Int) - (1 : Int)) == (46 : Int)) && !decide (b = { data := #[] : ByteArray })) = true → (↑b.size : Int) - (1 : Int) < (↑b.size : Int)) ∧ ((decide ((↑a.size : Int) + (↑b.size : Int) > (400 : Int)) || !decide (a = { data := #[] : ByteArray }) && sbyte a ((↑a.size : Int) - (1 : Int)) == (46 : Int) || !decide (b = { data := #[] : ByteArray }) && sbyte b ((↑b.size : Int) - (1 : Int)) == (46 : Int)) = true → true = true) ∧ ((decide ((↑a.size : Int) + (↑b.size : Int) > (400 : Int)) || !decide (a = { data := #[] : ByteArray }) && sbyte a ((↑a.size : Int) - (1 : Int)) == (46 : Int) || !decide (b = { data := #[] : ByteArray }) && sbyte b ((↑b.size : Int) - (1 : Int)) == (46 : Int)) = false → a.size + (1 : Nat) ≤ (9223372036854775807 : Nat) ∧ (a ++ { data := #[(46 : UInt8)] : ByteArray }).size + b.size ≤ (9223372036854775807 : Nat) ∧ (((toA a).snd != (0 : Int) && (toA a).snd != (2 : Int)) = true → ((toA (a ++ { data := #[(46 : UInt8)] : ByteArray } ++ b)).snd == (toA a).snd) = true) ∧ (((toA a).snd != (0 : Int) && (toA a).snd != (2 : Int)) = false → ((!(decide (b = { data := #[] : ByteArray }) || (toA a).snd == (2 : Int))) = true → (!(decide (b = { data := #[] : ByteArray }) || (toA a).snd == (2 : Int))) = true) ∧ ((decide (b = { data := #[] : ByteArray }) || (toA a).snd == (2 : Int)) = false → (!(decide (b = { data := #[] : ByteArray }) || (toA a).snd == (2 : Int))) = true) ∧ ((decide (b = { data := #[] : ByteArray }) || (toA a).snd == (2 : Int) || (toA b).snd == (2 : Int)) = true → true = true) ∧ ((decide (b = { data := #[] : ByteArray }) || (toA a).snd == (2 : Int) || (toA b).snd == (2 : Int)) = false → (((toA b).snd != (0 : Int)) = true → ((toA (a ++ { data := #[(46 : UInt8)] : ByteArray } ++ b)).snd == (toA b).snd) = true) ∧ (((toA b).snd != (0 : Int)) = false → in64 ((↑(toA a).fst.size : Int) + (1 : Int)) ∧ in64 ((↑(toA a).fst.size : Int) + (1 : Int) + (↑(toA b).fst.size : Int)) ∧ ((!(decide ((↑(toA a).fst.size : Int) + (1 : Int) + (↑(toA b).fst.size : Int) > (253 : Int)) && (toA (a ++ { data := #[(46 : UInt8)] : ByteArray } ++ b)).snd == (2 : Int)) && (toA (a ++ { data := #[(46 : UInt8)] : ByteArray } ++ b)).snd == (0 : Int)) = true → (toA a).fst.size + (1 : Nat) ≤ (9223372036854775807 : Nat)) ∧ ((!(decide ((↑(toA a).fst.size : Int) + (1 : Int) + (↑(toA b).fst.size : Int) > (253 : Int)) && (toA (a ++ { data := #[(46 : UInt8)] : ByteArray } ++ b)).snd == (2 : Int)) && (toA (a ++ { data := #[(46 : UInt8)] : ByteArray } ++ b)).snd == (0 : Int)) = true → ((toA a).fst ++ { data := #[(46 : UInt8)] : ByteArray }).size + (toA b).fst.size ≤ (9223372036854775807 : Nat)) ∧ (decide ((↑(toA a).fst.size : Int) + (1 : Int) + (↑(toA b).fst.size : Int) > (253 : Int)) && (toA (a ++ { data := #[(46 : UInt8)] : ByteArray } ++ b)).snd == (2 : Int) || (toA (a ++ { data := #[(46 : UInt8)] : ByteArray } ++ b)).snd == (0 : Int) && decide ((toA (a ++ { data := #[(46 : UInt8)] : ByteArray } ++ b)).fst = (toA a).fst ++ { data := #[(46 : UInt8)] : ByteArray } ++ (toA b).fst)) = true)))))
theorem parV_eq (a b : ByteArray) : parV a b = (funC cxL Tryd.f7 .nil [XT a, XT b] (XB true)) := by kernel_rfl
/-- So many signs a. -/
def rpA : Nat → ByteArray
  | 0 => ⟨#[]⟩
  | i + 1 => rpA i ++ ⟨#[97]⟩
def rpS (x : ByteArray) : Nat → ByteArray
  | 0 => ⟨#[]⟩
  | i + 1 => (if 0 < i then rpS x i ++ ⟨#[46]⟩ else rpS x i) ++ x
def lnN (n : Int) : Int := bits .and .i64 n 127 + 1
def lnM (m : Int) : Int := bits .and .i64 m 7 + 1
def lnI0 (n m : Int) : Inv where
  σ := IL
  S := fun x => ⟨[(0, XI (lnN n)), (1, XI (lnM m)), (5, XT (rpA x.i)), (18, XI (lnN n)), (19, XI x.i)], [], 0, false, []⟩
  inv := fun x => (x.i : Int) ≤ lnN n
  μ := fun x => (lnN n).toNat - x.i
def lnI2 (n m : Int) : Inv where
  σ := IL
  S := fun x => ⟨[(0, XI (lnN n)), (1, XI (lnM m)), (5, XT (rpA (lnN n).toNat)), (6, XT (rpS (rpA (lnN n).toNat) x.i)), (24, XI (lnM m)), (25, XI x.i)], [], 0, false, []⟩
  inv := fun x => (x.i : Int) ≤ lnM m
  μ := fun x => (lnM m).toNat - x.i
def lnE (n m : Int) : Env := { loops := [(0, lnI0 n m), (2, lnI2 n m)] }
def lonV (n m : Int) : Prop :=
  ((!true) = true → false = true) ∧ ((!true) = false → in64 (bits BinOp.and IntKind.i64 n (127 : Int) + (1 : Int)) ∧ in64 (bits BinOp.and IntKind.i64 m (7 : Int) + (1 : Int)) ∧ (∃ (x : (lnI0 n m).σ), (lnN n - (↑x.i : Int)).NonNeg ∧ true = true ∧ bits BinOp.and IntKind.i64 n (127 : Int) + (1 : Int) = lnN n ∧ bits BinOp.and IntKind.i64 m (7 : Int) + (1 : Int) = lnM m ∧ { data := #[] : ByteArray } = rpA x.i ∧ bits BinOp.and IntKind.i64 n (127 : Int) + (1 : Int) = lnN n ∧ (0 : Int) = (↑x.i : Int) ∧ True) ∧ ∀ (x : IL), (lnN n - (↑x.i : Int)).NonNeg → (decide ((↑x.i : Int) < lnN n) = true → (rpA x.i).size + (1 : Nat) ≤ (9223372036854775807 : Nat) ∧ in64 ((↑x.i : Int) + (1 : Int)) ∧ ∃ (x' : (lnI0 n m).σ), (lnN n - (↑x'.i : Int)).NonNeg ∧ (lnN n).toNat - x'.i < (lnN n).toNat - x.i ∧ true = true ∧ lnN n = lnN n ∧ lnM m = lnM m ∧ rpA x.i ++ { data := #[(97 : UInt8)] : ByteArray } = rpA x'.i ∧ lnN n = lnN n ∧ (↑x.i : Int) + (1 : Int) = (↑x'.i : Int) ∧ True) ∧ (decide ((↑x.i : Int) < lnN n) = false → (∃ (x_1 : (lnI2 n m).σ), (lnM m - (↑x_1.i : Int)).NonNeg ∧ true = true ∧ lnN n = lnN n ∧ lnM m = lnM m ∧ rpA x.i = rpA (lnN n).toNat ∧ { data := #[] : ByteArray } = rpS (rpA (lnN n).toNat) x_1.i ∧ lnM m = lnM m ∧ (0 : Int) = (↑x_1.i : Int) ∧ True) ∧ ∀ (x : IL), (lnM m - (↑x.i : Int)).NonNeg → (decide ((↑x.i : Int) < lnM m) = true → (decide ((↑x.i : Int) > (0 : Int)) = true → (rpS (rpA (lnN n).toNat) x.i).size + (1 : Nat) ≤ (9223372036854775807 : Nat) ∧ (rpS (rpA (lnN n).toNat) x.i ++ { data := #[(46 : UInt8)] : ByteArray }).size + (rpA (lnN n).toNat).size ≤ (9223372036854775807 : Nat) ∧ in64 ((↑x.i : Int) + (1 : Int)) ∧ ∃ (x' : (lnI2 n m).σ), (lnM m - (↑x'.i : Int)).NonNeg ∧ (lnM m).toNat - x'.i < (lnM m).toNat - x.i ∧ true = true ∧ lnN n = lnN n ∧ lnM m = lnM m ∧ rpA (lnN n).toNat = rpA (lnN n).toNat ∧ rpS (rpA (lnN n).toNat) x.i ++ { data := #[(46 : UInt8)] : ByteArray } ++ rpA (lnN n).toNat = rpS (rpA (lnN n).toNat) x'.i ∧ lnM m = lnM m ∧ (↑x.i : Int) + (1 : Int) = (↑x'.i : Int) ∧ True) ∧ (decide ((↑x.i : Int) > (0 : Int)) = false → (rpS (rpA (lnN n).toNat) x.i).size + (rpA (lnN n).toNat).size ≤ (9223372036854775807 : Nat) ∧ in64 ((↑x.i : Int) + (1 : Int)) ∧ ∃ (x' : (lnI2 n m).σ), (lnM m - (↑x'.i : Int)).NonNeg ∧ (lnM m).toNat - x'.i < (lnM m).toNat - x.i ∧ true = true ∧ lnN n = lnN n ∧ lnM m = lnM m ∧ rpA (lnN n).toNat = rpA (lnN n).toNat ∧ rpS (rpA (lnN n).toNat) x.i ++ rpA (lnN n).toNat = rpS (rpA (lnN n).toNat) x'.i ∧ lnM m = lnM m ∧ (↑x.i : Int) + (1 : Int) = (↑x'.i : Int) ∧ True)) ∧ (decide ((↑x.i : Int) < lnM m) = false → ((decide (lnN n > (63 : Int)) && decide ((↑(rpS (rpA (lnN n).toNat) x.i).size : Int) ≤ (1012 : Int))) = true → ((toA (rpS (rpA (lnN n).toNat) x.i)).snd == (1 : Int)) = true) ∧ ((decide (lnN n > (63 : Int)) && decide ((↑(rpS (rpA (lnN n).toNat) x.i).size : Int) ≤ (1012 : Int))) = false → (decide ((↑(rpS (rpA (lnN n).toNat) x.i).size : Int) > (253 : Int)) = true → ((toA (rpS (rpA (lnN n).toNat) x.i)).snd == (2 : Int)) = true) ∧ (decide ((↑(rpS (rpA (lnN n).toNat) x.i).size : Int) > (253 : Int)) = false → (((toA (rpS (rpA (lnN n).toNat) x.i)).snd == (0 : Int)) = true → ((toA (rpS (rpA (lnN n).toNat) x.i)).snd == (0 : Int)) = true) ∧ (((toA (rpS (rpA (lnN n).toNat) x.i)).snd == (0 : Int)) = true → ((toA (rpS (rpA (lnN n).toNat) x.i)).snd == (0 : Int)) = true) ∧ (((toA (rpS (rpA (lnN n).toNat) x.i)).snd == (0 : Int)) = true → ((toA (rpS (rpA (lnN n).toNat) x.i)).snd == (0 : Int)) = true) ∧ ((toA (rpS (rpA (lnN n).toNat) x.i)).snd == (0 : Int) && decide ((toA (rpS (rpA (lnN n).toNat) x.i)).fst = rpS (rpA (lnN n).toNat) x.i)) = true)))))
theorem lonV_eq (n m : Int) : lonV n m = (funC cxL Tryd.f9 (mkSc (lnE n m) (bodyOf Tryd.f9)) [XI n, XI m] (XB true)) := by kernel_rfl
end Go.Proofs.YtedmgnhbfpjceaaDoorAv
set_option linter.unusedVariables false
set_option linter.unusedSimpArgs false
set_option maxRecDepth 100000
namespace Go.Proofs.YtedmgnhbfpjceaaDoorAv
open Go Go.RowKit
/-- A label beyond ASCII. -/
def aN (t : List UInt8) : List UInt8 × Int := ((ascL (rns (mk8 t))).1.data.toList, (ascL (rns (mk8 t))).2)
def aS (t : List UInt8) : List UInt8 × Int :=
  if plaL t then
    if rgtL t = false then ([], 1)
    else if xnL.isPrefixOf t then (t, (uL t).2) else (t, 0)
  else if validB (mk8 t) = false then ([], 1)
  else aN t
theorem low_mk8 (x : List UInt8) : lowT (mk8 x) = mk8 (x.map lowc) := by
  rw [← data_mk8 (lowT (mk8 x)), lowT_list, mk8_data]
theorem aL_aS (x : List UInt8) : aL x = aS (x.map lowc) := by
  unfold aL lf
  rw [ascR, low_mk8, ascS, pla_list, rgt_list, hasPre_list, mk8_data, aS]
  split
  · split
    · rfl
    · split
      · rfl
      · rfl
  · split
    · rfl
    · rfl
theorem eR_snd (F : List UInt8 → List UInt8 × Int) (l : List (List UInt8)) : (eR F l).2 = ee (fun x => (F x).2) l := by
  rw [eR]
  split
  · rfl
  · rename_i h; simp at h; exact h.symm
theorem eR_congr {F G : List UInt8 → List UInt8 × Int} {l : List (List UInt8)} (h : ∀ x ∈ l, F x = G x) : eR F l = eR G l := by
  have e1 : ee (fun x => (F x).2) l = ee (fun x => (G x).2) l := ee_congr fun x hx => by rw [h x hx]
  have e2 : l.map (fun x => (F x).1) = l.map fun x => (G x).1 := List.map_congr_left fun x hx => by rw [h x hx]
  rw [eR, eR, e1, e2]
theorem eR_map (F : List UInt8 → List UInt8 × Int) (g : List UInt8 → List UInt8) (l : List (List UInt8)) : eR F (l.map g) = eR (fun x => F (g x)) l := by
  rw [eR, eR, ee_map, List.map_map]
  rfl
theorem eR_ok {F : List UInt8 → List UInt8 × Int} {l : List (List UInt8)} (h : ee (fun x => (F x).2) l = 0) : eR F l = (join46 (l.map fun x => (F x).1), 0) := by rw [eR, if_neg (by rw [h]; simp)]
theorem eR_err {F : List UInt8 → List UInt8 × Int} {l : List (List UInt8)} (h : ee (fun x => (F x).2) l ≠ 0) : eR F l = ([], ee (fun x => (F x).2) l) := by rw [eR, if_pos h]
/-- A name that is not too long, by its labels. -/
def tL (l : List (List UInt8)) : List UInt8 × Int := if (eR aL l).2 = 0 ∧ (eR aL l).1.length > 253 then ([], 2) else eR aL l
theorem tA_tL {s : List UInt8} (h : s.length ≤ 1012) : tA s = tL (LL s) := by rw [tA, if_neg (by omega), tL]
theorem LL_no {s : List UInt8} (h : ∀ t, s ≠ t ++ [46]) : LL s = split1 46 s := by unfold LL; rw [trim46_no h]
theorem no_dot {s : ByteArray} (h : (!decide (s = ⟨#[]⟩) && sbyte s ((s.size : Int) - 1) == 46) = false) : ∀ t, s.data.toList ≠ t ++ [46] := by
  intro t ht
  have hl : s.data.toList.length = t.length + 1 := by rw [ht, List.length_append]; rfl
  have hs : s.size = t.length + 1 := by rw [size_data]; exact hl
  have e1 : decide (s = ⟨#[]⟩) = false := by rw [emp_iff, decide_eq_false_iff_not]; omega
  have e2 : sbyte s ((s.size : Int) - 1) = 46 := by
    unfold sbyte
    rw [show ((s.size : Int) - 1).toNat = t.length by omega, ht, List.getD_eq_getElem?_getD]
    simp
  rw [e1, e2] at h
  cases h
theorem upc_ne {f : UInt8 → UInt8} (hf : ∀ c, f c = 46 ↔ c = 46) {s : List UInt8} (h : ∀ t, s ≠ t ++ [46]) : ∀ t, s.map f ≠ t ++ [46] := by
  intro t ht
  obtain ⟨a, b, e1, e2, e3⟩ := List.map_eq_append_iff.1 ht
  obtain ⟨c, rfl, e4⟩ : ∃ c, b = [c] ∧ f c = 46 := by
    cases b with
    | nil => simp at e3
    | cons c b =>
      cases b with
      | nil => exact ⟨c, rfl, by simpa using e3⟩
      | cons _ _ => simp at e3
  rw [(hf c).1 e4] at e1
  exact h a e1
/-! NameCapitals -/
def upc (c : UInt8) : UInt8 := if 97 ≤ c.toNat ∧ c.toNat ≤ 122 then c - 32 else c
theorem upc_nat (c : UInt8) : (upc c).toNat = if 97 ≤ c.toNat ∧ c.toNat ≤ 122 then c.toNat - 32 else c.toNat := by
  unfold upc
  split
  · rw [UInt8.toNat_sub_of_le]
    · rfl
    · rw [UInt8.le_iff_toNat_le]; show 32 ≤ _; omega
  · rfl
theorem upc_dot (c : UInt8) : upc c = 46 ↔ c = 46 := by
  rw [← UInt8.toNat_inj, ← UInt8.toNat_inj, upc_nat]
  have : (46 : UInt8).toNat = 46 := rfl
  by_cases h : 97 ≤ c.toNat ∧ c.toNat ≤ 122
  · rw [if_pos h]; omega
  · rw [if_neg h]
theorem low_up (c : UInt8) : lowc (upc c) = lowc c := by
  apply UInt8.toNat_inj.1
  rw [lowc_nat, lowc_nat, upc_nat]
  by_cases h : 97 ≤ c.toNat ∧ c.toNat ≤ 122
  · rw [if_pos h, if_pos (by omega), if_neg (by omega)]; omega
  · rw [if_neg h]
theorem upT_list (s : ByteArray) : (upT s).data.toList = s.data.toList.map upc := by
  have e : (upT s).data.toList = (List.range s.size).map fun j => UInt8.ofNat (upB s s.size (0 + j)).toNat := rfl
  rw [e, size_data]
  have := map_range s.data.toList 0 upc
  rw [← this]
  apply List.map_congr_left
  intro j hj
  have hj : j < s.data.toList.length := List.mem_range.1 hj
  apply UInt8.toNat_inj.1
  rw [Nat.zero_add, upc_nat, UInt8.toNat_ofNat']
  unfold upB
  rw [sbyte_nat]
  have hb := UInt8.toNat_lt (s.data.toList.getD j 0)
  by_cases h : 97 ≤ (s.data.toList.getD j 0).toNat ∧ (s.data.toList.getD j 0).toNat ≤ 122
  · rw [if_pos h, if_pos ⟨hj, by omega⟩, w8]; omega
  · rw [if_neg h, if_neg]
    · omega
    · rintro ⟨-, h2⟩
      omega
theorem toA_up {s : ByteArray} (h : ∀ t, s.data.toList ≠ t ++ [46]) : toA (upT s) = toA s := by
  have e : tA (upT s).data.toList = tA s.data.toList := by
    rw [upT_list, tA, tA, List.length_map, LL_no h, LL_no (upc_ne upc_dot h), split1_map upc upc_dot, eR_map]
    have : eR (fun x => aL (x.map upc)) (split1 46 s.data.toList) = eR aL (split1 46 s.data.toList) := eR_congr fun x _ => by
      rw [aL_aS, aL_aS, List.map_map]
      congr 1
      apply List.map_congr_left
      intro c _
      exact low_up c
    rw [this]
  rw [toA_tA, toA_tA, e]
theorem toA_dot {s : ByteArray} (h : ∀ t, s.data.toList ≠ t ++ [46]) (hs : s.size ≤ 900) : toA (s ++ ptT) = toA s := by
  have e : tA (s ++ ptT).data.toList = tA s.data.toList := by
    have e1 : (s ++ ptT).data.toList = s.data.toList ++ [46] := by rw [ByteArray.data_append, Array.toList_append]; rfl
    rw [size_data] at hs
    rw [e1, tA_tL (by rw [List.length_append]; show _ + 1 ≤ _; omega), tA_tL (by omega)]
    congr 1
    unfold LL
    rw [trim46_dot, trim46_no h]
  rw [toA_tA, toA_tA, e]
theorem upB_at (s : ByteArray) (i : Nat) : upB s i i = sbyte s i := by unfold upB; rw [if_neg (by omega)]
theorem upB_no (s : ByteArray) (i j : Nat) (h : j ≠ i ∨ ¬ (97 ≤ sbyte s i ∧ sbyte s i ≤ 122)) : upB s (i + 1) j = upB s i j := by
  unfold upB
  by_cases e : j < i
  · have e2 : j < i + 1 := by omega
    simp only [e, e2]
  · by_cases e3 : j = i
    · subst e3
      rw [if_neg (fun k => (h.resolve_left (fun h => h rfl)) k.2), if_neg (by omega)]
    · rw [if_neg (by omega), if_neg (by omega)]
theorem upB_yes (s : ByteArray) (i : Nat) (h : 97 ≤ sbyte s i ∧ sbyte s i ≤ 122) : upB s (i + 1) i = IntKind.u8.wrap (sbyte s i - 32) := by
  unfold upB
  rw [if_pos ⟨by omega, h⟩]
theorem upB_b (s : ByteArray) (i j : Nat) : upB s i j = ((UInt8.ofNat (upB s i j).toNat).toNat : Int) := by
  have : 0 ≤ upB s i j ∧ upB s i j ≤ 255 := by
    unfold upB
    split
    · rw [w8]; omega
    · exact sb_rng _ _
  rw [UInt8.toNat_ofNat']
  omega
theorem cap_v (s : ByteArray) : capV s := by
  have hpos : (!decide (s = ⟨#[]⟩)) = true → 0 < s.size := fun h => by
    rw [emp_iff, Bool.not_eq_true', decide_eq_false_iff_not] at h; omega
  have hp2 : (!decide ((s.size : Int) > 900) && !decide (s = ⟨#[]⟩)) = true → 0 < s.size ∧ s.size ≤ 900 := fun h => by
    rw [Bool.and_eq_true] at h
    have h1 := h.1
    simp at h1
    exact ⟨hpos h.2, by omega⟩
  unfold capV
  refine ⟨fun h => absurd h (by decide), fun _ => ⟨fun h => ?_, fun h => ?_, fun h => ?_, fun _ => rfl, fun h => ?_⟩⟩
  · have := hp2 h; unfold in64; omega
  · have := hp2 h; omega
  · omega
  rw [Bool.or_eq_false_iff] at h
  obtain ⟨h1, h2⟩ := h
  have hs : s.size ≤ 900 := by have := of_decide_eq_false h1; omega
  have hnd := no_dot h2
  refine ⟨⟨⟨0⟩, Nat.zero_le _, rfl, rfl, rfl, rfl, rfl, rfl, ⟨⟨rfl, rfl, rfl⟩, rfl, fun j hj => by simp [upB]⟩, trivial⟩, ?_⟩
  rintro ⟨i⟩ hi
  have hi : i ≤ s.size := hi
  refine ⟨fun h => ?_, fun h => ?_⟩
  · have h : (i : Int) < s.size := of_decide_eq_true h
    have hz : 0 + (i : Int).toNat = i := by omega
    dsimp only
    rw [hz, upB_at]
    refine ⟨by omega, by omega, by omega, fun hc => ?_, fun hc => ?_⟩
    · simp only [Bool.and_eq_true, decide_eq_true_eq] at hc
      refine ⟨by omega, by omega, by omega, by unfold in64; omega, ⟨i + 1⟩, by show i + 1 ≤ s.size; omega, by show s.size - (i + 1) < s.size - i; omega, rfl, rfl, rfl, rfl, rfl, rfl, ⟨⟨rfl, rfl, rfl⟩, rfl, fun j hj => ?_⟩, trivial⟩
      dsimp only
      rw [beqN]
      by_cases e : j = i
      · subst e
        rw [decide_eq_true rfl, upB_yes s j hc]
        rfl
      · rw [decide_eq_false e, upB_no s i j (.inl e)]
        rfl
    · refine ⟨by unfold in64; omega, ⟨i + 1⟩, by show i + 1 ≤ s.size; omega, by show s.size - (i + 1) < s.size - i; omega, rfl, rfl, rfl, rfl, rfl, rfl, ⟨⟨rfl, rfl, rfl⟩, rfl, fun j hj => ?_⟩, trivial⟩
      rw [upB_no s i j (.inr (by simp only [Bool.and_eq_false_iff, decide_eq_false_iff_not] at hc; omega))]
  · have h : ¬ (i : Int) < s.size := of_decide_eq_false h
    obtain rfl : i = s.size := by omega
    have e1 : toA (txtOf s.size fun j => UInt8.ofNat (upB s s.size (0 + j)).toNat) = toA s := toA_up hnd
    have e2 : toA (s ++ ⟨#[46]⟩) = toA s := toA_dot hnd hs
    refine ⟨by omega, fun j hj => congrArg (fun z => [X8 z]) (upB_b s _ (0 + j)), by omega, ?_⟩
    show (decide ((toA s).1 = (toA (txtOf s.size fun j => UInt8.ofNat (upB s s.size (0 + j)).toNat)).1) && (toA s).2 == (toA (txtOf s.size fun j => UInt8.ofNat (upB s s.size (0 + j)).toNat)).2 && (decide ((toA s).1 = (toA (s ++ ⟨#[46]⟩)).1) && (toA s).2 == (toA (s ++ ⟨#[46]⟩)).2 || decide (s = ⟨#[]⟩))) = true
    rw [e1, e2]
    simp
end Go.Proofs.YtedmgnhbfpjceaaDoorAv
set_option linter.unusedVariables false
set_option linter.unusedSimpArgs false
set_option maxRecDepth 100000
namespace Go.Proofs.YtedmgnhbfpjceaaDoorAv
open Go Go.RowKit
theorem cap_ok : CTok Tryd.prog 6 (C1 dStr (fun _ => []) fun _ => XB true) := C1_ok cxL_ok Tryd.func6 rfl (by decide) dStr_eq.ok (by kernel_rfl) (fun _ => rfl) fun s _ => exv (capV_eq s) (cap_v s)
theorem nameCapitals_J (L : GH) (a : ByteArray) (ha : a.size ≤ 140737488351232) : JF Tryd.prog 6 [strAV a] L (fun v L' => v = boolAV true ∧ L' = L) := by
  refine law_J cap_ok (xs := [XT a]) (cs := []) rfl (fun p hp => by cases hp) ?_ L
  simp only [RVL]
  exact ⟨by simp [RV, strAV], trivial⟩
end Go.Proofs.YtedmgnhbfpjceaaDoorAv
