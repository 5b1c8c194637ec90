/- strconv.ParseUint, base 16. -/
import Derived.Test.YtghmlhdlkgjbeaaDoorAdA
set_option linter.unusedVariables false
set_option linter.unusedSimpArgs false
set_option maxRecDepth 100000
namespace Go.Proofs.YtghmlhdlkgjbeaaDoorAv
open Go Go.RowKit
def lowC : CT := fun args => match args with
  | [.v (.p (.int .u8 x))] => some ([], .v (.p (.int .u8 (bits .or .u8 x 32))))
  | _ => none
def lowV (x : Int) : Prop :=
  bits BinOp.or IntKind.u8 x (32 : Int) = bits BinOp.or IntKind.u8 x (32 : Int)
theorem lowV_eq (x : Int) : lowV x = (funC cx0 Tryd.f49 .nil [X8 x] (X8 (bits .or .u8 x 32))) := by kernel_rfl
theorem low_v (x : Int) : lowV x := by
  unfold lowV
  rfl
theorem low_ok : CTok Tryd.prog 49 lowC := ct_ok2 cx0_ok Tryd.func49 rfl (by decide) fun args cs v hC hc => by
  unfold lowC at hC
  split at hC
  · rename_i x
    simp only [Option.some.injEq, Prod.mk.injEq] at hC
    obtain ⟨rfl, rfl⟩ := hC
    exact ⟨[X8 x], by kernel_rfl, rfl, rfl, fun _ _ _ h => h, rfl, exv (lowV_eq x) (low_v x)⟩
  · cases hC
def cxe : Cx := { cx0 with C := [(49, lowC)] }
theorem cxe_ok : cxe.ok Tryd.prog := cx0_ok.addC low_ok
/-- A sign's number in base 16; 99: it is none. -/
def hx (c : UInt8) : Nat := if 48 ≤ c.toNat ∧ c.toNat ≤ 57 then c.toNat - 48 else if 97 ≤ (c ||| 32).toNat ∧ (c ||| 32).toNat ≤ 102 then (c ||| 32).toNat - 87 else 99
/-- How it ends (0: well, 1: too great, 2: no number), and the number. -/
def pu (n : Nat) : List UInt8 → Nat × Nat
  | [] => (0, n)
  | c :: l => if hx c = 99 then (2, 0) else if 65535 < n * 16 + hx c then (1, 65535) else pu (n * 16 + hx c) l
def pu16 (s : ByteArray) : Nat × Nat := if s = ⟨#[]⟩ then (2, 0) else pu 0 s.data.toList
def eNum (k : Int) : XV := .v (.p (.iface 78 (.int .i64 k)))
def eNil : XV := .v (.p .nilIface)
def puAlts (r : Nat × Nat) : List (Prop × XV) := [(r.1 = 0, .tup [XU r.2, eNil]), (r.1 = 1, .tup [XU r.2, eNum 1]), (r.1 = 2, .tup [XU r.2, eNum 2])]
structure BX where
  i : Nat
  n : Nat
def puI (s : ByteArray) : Inv where
  σ := BX
  S := fun x => ⟨[(1, XI 16), (8, XB false), (10, XU 1152921504606846976), (11, XU 65535), (12, XB false), (13, XU x.n), (99, .sl 0 1 0 s.size), (100, XI s.size), (101, XI x.i)], [(0, .vec 5 false s.size 1 fun j => [X8 (sbyte s j)])], 1, false, []⟩
  inv := fun x => x.i ≤ s.size ∧ x.n ≤ 65535 ∧ pu x.n (s.data.toList.drop x.i) = pu16 s
  μ := fun x => s.size - x.i
def puE (s : ByteArray) : Env := { loops := [(3, puI s)], dec := [7, 22, 24, 29, 31, 57], gdec := [56] }
def puV (s : ByteArray) : Prop :=
  (decide (s = { data := #[] : ByteArray }) = true → (pu16 s).fst = (0 : Nat) ∧ (0 : Int) = (↑(pu16 s).snd : Int) ∧ XV.v (AV.p (Value.iface (78 : Nat) (Value.int IntKind.i64 (2 : Int)))) = XV.v (AV.p Value.nilIface) ∧ True ∨ (pu16 s).fst = (1 : Nat) ∧ (0 : Int) = (↑(pu16 s).snd : Int) ∧ XV.v (AV.p (Value.iface (78 : Nat) (Value.int IntKind.i64 (2 : Int)))) = XV.v (AV.p (Value.iface (78 : TypeId) (Value.int IntKind.i64 (1 : Int)))) ∧ True ∨ (pu16 s).fst = (2 : Nat) ∧ (0 : Int) = (↑(pu16 s).snd : Int) ∧ XV.v (AV.p (Value.iface (78 : Nat) (Value.int IntKind.i64 (2 : Int)))) = XV.v (AV.p (Value.iface (78 : TypeId) (Value.int IntKind.i64 (2 : Int)))) ∧ True ∨ False) ∧ (decide (s = { data := #[] : ByteArray }) = false → (0 : Int) ≤ IntKind.u64.wrap (16 : Int) ∧ (∃ (x : (puI s).σ), (x.i ≤ s.size ∧ x.n ≤ (65535 : Nat) ∧ pu x.n (List.drop x.i s.data.toList) = pu16 s) ∧ true = true ∧ (16 : Int) = (16 : Int) ∧ ((16 : Int) == (0 : Int)) = false ∧ (1152921504606846976 : Int) = (1152921504606846976 : Int) ∧ IntKind.u64.wrap (IntKind.u64.wrap ((1 : Int) * (2 : Int) ^ (16 : Nat)) - (1 : Int)) = (65535 : Int) ∧ false = false ∧ (0 : Int) = (↑x.n : Int) ∧ XV.sl (0 : Nat) (1 : Nat) (0 : Nat) s.size = XV.sl (0 : Nat) (1 : Nat) (0 : Nat) s.size ∧ (↑s.size : Int) = (↑s.size : Int) ∧ (0 : Int) = (↑x.i : Int) ∧ (((5 : TypeId) = (5 : TypeId) ∧ false = false ∧ (1 : Nat) = (1 : Nat)) ∧ s.size = s.size ∧ ∀ (j : Nat), j < s.size → [X8 (sbyte s (↑j : Int))] = [X8 (sbyte s (↑j : Int))]) ∧ True) ∧ ∀ (x : BX), x.i ≤ s.size ∧ x.n ≤ (65535 : Nat) ∧ pu x.n (List.drop x.i s.data.toList) = pu16 s → (decide ((↑x.i : Int) < (↑s.size : Int)) = true → (0 : Int) ≤ (↑x.i : Int) ∧ (↑x.i : Int) < (↑s.size : Int) ∧ (0 : Nat) + (↑x.i : Int).toNat < s.size ∧ ((sbyte s (↑((0 : Nat) + (↑x.i : Int).toNat) : Int) == (95 : Int) && false) = true → in64 ((↑x.i : Int) + (1 : Int)) ∧ ∃ (x' : (puI s).σ), (x'.i ≤ s.size ∧ x'.n ≤ (65535 : Nat) ∧ pu x'.n (List.drop x'.i s.data.toList) = pu16 s) ∧ s.size - x'.i < s.size - x.i ∧ true = true ∧ (16 : Int) = (16 : Int) ∧ false = false ∧ (1152921504606846976 : Int) = (1152921504606846976 : Int) ∧ (65535 : Int) = (65535 : Int) ∧ true = false ∧ (↑x.n : Int) = (↑x'.n : Int) ∧ XV.sl (0 : Nat) (1 : Nat) (0 : Nat) s.size = XV.sl (0 : Nat) (1 : Nat) (0 : Nat) s.size ∧ (↑s.size : Int) = (↑s.size : Int) ∧ (↑x.i : Int) + (1 : Int) = (↑x'.i : Int) ∧ (((5 : TypeId) = (5 : TypeId) ∧ false = false ∧ (1 : Nat) = (1 : Nat)) ∧ s.size = s.size ∧ ∀ (j : Nat), j < s.size → [X8 (sbyte s (↑j : Int))] = [X8 (sbyte s (↑j : Int))]) ∧ True) ∧ ((sbyte s (↑((0 : Nat) + (↑x.i : Int).toNat) : Int) == (95 : Int) && false) = false → (decide ((48 : Int) ≤ sbyte s (↑((0 : Nat) + (↑x.i : Int).toNat) : Int)) = true → decide ((48 : Int) ≤ sbyte s (↑((0 : Nat) + (↑x.i : Int).toNat) : Int)) = true) ∧ (decide ((48 : Int) ≤ sbyte s (↑((0 : Nat) + (↑x.i : Int).toNat) : Int)) = true → decide ((48 : Int) ≤ sbyte s (↑((0 : Nat) + (↑x.i : Int).toNat) : Int)) = true) ∧ ((decide ((48 : Int) ≤ sbyte s (↑((0 : Nat) + (↑x.i : Int).toNat) : Int)) && decide (sbyte s (↑((0 : Nat) + (↑x.i : Int).toNat) : Int) ≤ (57 : Int))) = true → (decide (IntKind.u8.wrap (sbyte s (↑((0 : Nat) + (↑x.i : Int).toNat) : Int) - (48 : Int)) ≥ IntKind.u8.wrap (16 : Int)) = true → (pu16 s).fst = (0 : Nat) ∧ (0 : Int) = (↑(pu16 s).snd : Int) ∧ XV.v (AV.p (Value.iface (78 : Nat) (Value.int IntKind.i64 (2 : Int)))) = XV.v (AV.p Value.nilIface) ∧ True ∨ (pu16 s).fst = (1 : Nat) ∧ (0 : Int) = (↑(pu16 s).snd : Int) ∧ XV.v (AV.p (Value.iface (78 : Nat) (Value.int IntKind.i64 (2 : Int)))) = XV.v (AV.p (Value.iface (78 : TypeId) (Value.int IntKind.i64 (1 : Int)))) ∧ True ∨ (pu16 s).fst = (2 : Nat) ∧ (0 : Int) = (↑(pu16 s).snd : Int) ∧ XV.v (AV.p (Value.iface (78 : Nat) (Value.int IntKind.i64 (2 : Int)))) = XV.v (AV.p (Value.iface (78 : TypeId) (Value.int IntKind.i64 (2 : Int)))) ∧ True ∨ False) ∧ (decide (IntKind.u8.wrap (sbyte s (↑((0 : Nat) + (↑x.i : Int).toNat) : Int) - (48 : Int)) ≥ IntKind.u8.wrap (16 : Int)) = false → (decide ((↑x.n : Int) ≥ (1152921504606846976 : Int)) = true → (pu16 s).fst = (0 : Nat) ∧ (65535 : Int) = (↑(pu16 s).snd : Int) ∧ XV.v (AV.p (Value.iface (78 : Nat) (Value.int IntKind.i64 (1 : Int)))) = XV.v (AV.p Value.nilIface) ∧ True ∨ (pu16 s).fst = (1 : Nat) ∧ (65535 : Int) = (↑(pu16 s).snd : Int) ∧ XV.v (AV.p (Value.iface (78 : Nat) (Value.int IntKind.i64 (1 : Int)))) = XV.v (AV.p (Value.iface (78 : TypeId) (Value.int IntKind.i64 (1 : Int)))) ∧ True ∨ (pu16 s).fst = (2 : Nat) ∧ (65535 : Int) = (↑(pu16 s).snd : Int) ∧ XV.v (AV.p (Value.iface (78 : Nat) (Value.int IntKind.i64 (1 : Int)))) = XV.v (AV.p (Value.iface (78 : TypeId) (Value.int IntKind.i64 (2 : Int)))) ∧ True ∨ False) ∧ (decide ((↑x.n : Int) ≥ (1152921504606846976 : Int)) = false → ((decide (IntKind.u64.wrap (IntKind.u64.wrap ((↑x.n : Int) * IntKind.u64.wrap (16 : Int)) + IntKind.u64.wrap (IntKind.u8.wrap (sbyte s (↑((0 : Nat) + (↑x.i : Int).toNat) : Int) - (48 : Int)))) < IntKind.u64.wrap ((↑x.n : Int) * IntKind.u64.wrap (16 : Int))) || decide (IntKind.u64.wrap (IntKind.u64.wrap ((↑x.n : Int) * IntKind.u64.wrap (16 : Int)) + IntKind.u64.wrap (IntKind.u8.wrap (sbyte s (↑((0 : Nat) + (↑x.i : Int).toNat) : Int) - (48 : Int)))) > (65535 : Int))) = true → (pu16 s).fst = (0 : Nat) ∧ (65535 : Int) = (↑(pu16 s).snd : Int) ∧ XV.v (AV.p (Value.iface (78 : Nat) (Value.int IntKind.i64 (1 : Int)))) = XV.v (AV.p Value.nilIface) ∧ True ∨ (pu16 s).fst = (1 : Nat) ∧ (65535 : Int) = (↑(pu16 s).snd : Int) ∧ XV.v (AV.p (Value.iface (78 : Nat) (Value.int IntKind.i64 (1 : Int)))) = XV.v (AV.p (Value.iface (78 : TypeId) (Value.int IntKind.i64 (1 : Int)))) ∧ True ∨ (pu16 s).fst = (2 : Nat) ∧ (65535 : Int) = (↑(pu16 s).snd : Int) ∧ XV.v (AV.p (Value.iface (78 : Nat) (Value.int IntKind.i64 (1 : Int)))) = XV.v (AV.p (Value.iface (78 : TypeId) (Value.int IntKind.i64 (2 : Int)))) ∧ True ∨ False) ∧ ((decide (IntKind.u64.wrap (IntKind.u64.wrap ((↑x.n : Int) * IntKind.u64.wrap (16 : Int)) + IntKind.u64.wrap (IntKind.u8.wrap (sbyte s (↑((0 : Nat) + (↑x.i : Int).toNat) : Int) - (48 : Int)))) < IntKind.u64.wrap ((↑x.n : Int) * IntKind.u64.wrap (16 : Int))) || decide (IntKind.u64.wrap (IntKind.u64.wrap ((↑x.n : Int) * IntKind.u64.wrap (16 : Int)) + IntKind.u64.wrap (IntKind.u8.wrap (sbyte s (↑((0 : Nat) + (↑x.i : Int).toNat) : Int) - (48 : Int)))) > (65535 : Int))) = false → in64 ((↑x.i : Int) + (1 : Int)) ∧ ∃ (x' : (puI s).σ), (x'.i ≤ s.size ∧ x'.n ≤ (65535 : Nat) ∧ pu x'.n (List.drop x'.i s.data.toList) = pu16 s) ∧ s.size - x'.i < s.size - x.i ∧ true = true ∧ (16 : Int) = (16 : Int) ∧ false = false ∧ (1152921504606846976 : Int) = (1152921504606846976 : Int) ∧ (65535 : Int) = (65535 : Int) ∧ false = false ∧ IntKind.u64.wrap (IntKind.u64.wrap ((↑x.n : Int) * IntKind.u64.wrap (16 : Int)) + IntKind.u64.wrap (IntKind.u8.wrap (sbyte s (↑((0 : Nat) + (↑x.i : Int).toNat) : Int) - (48 : Int)))) = (↑x'.n : Int) ∧ XV.sl (0 : Nat) (1 : Nat) (0 : Nat) s.size = XV.sl (0 : Nat) (1 : Nat) (0 : Nat) s.size ∧ (↑s.size : Int) = (↑s.size : Int) ∧ (↑x.i : Int) + (1 : Int) = (↑x'.i : Int) ∧ (((5 : TypeId) = (5 : TypeId) ∧ false = false ∧ (1 : Nat) = (1 : Nat)) ∧ s.size = s.size ∧ ∀ (j : Nat), j < s.size → [X8 (sbyte s (↑j : Int))] = [X8 (sbyte s (↑j : Int))]) ∧ True)))) ∧ ((decide ((48 : Int) ≤ sbyte s (↑((0 : Nat) + (↑x.i : Int).toNat) : Int)) && decide (sbyte s (↑((0 : Nat) + (↑x.i : Int).toNat) : Int) ≤ (57 : Int))) = false → ((decide ((97 : Int) ≤ bits BinOp.or IntKind.u8 (sbyte s (↑((0 : Nat) + (↑x.i : Int).toNat) : Int)) (32 : Int)) && decide (bits BinOp.or IntKind.u8 (sbyte s (↑((0 : Nat) + (↑x.i : Int).toNat) : Int)) (32 : Int) ≤ (122 : Int))) = true → (decide (IntKind.u8.wrap (IntKind.u8.wrap (bits BinOp.or IntKind.u8 (sbyte s (↑((0 : Nat) + (↑x.i : Int).toNat) : Int)) (32 : Int) - (97 : Int)) + (10 : Int)) ≥ IntKind.u8.wrap (16 : Int)) = true → (pu16 s).fst = (0 : Nat) ∧ (0 : Int) = (↑(pu16 s).snd : Int) ∧ XV.v (AV.p (Value.iface (78 : Nat) (Value.int IntKind.i64 (2 : Int)))) = XV.v (AV.p Value.nilIface) ∧ True ∨ (pu16 s).fst = (1 : Nat) ∧ (0 : Int) = (↑(pu16 s).snd : Int) ∧ XV.v (AV.p (Value.iface (78 : Nat) (Value.int IntKind.i64 (2 : Int)))) = XV.v (AV.p (Value.iface (78 : TypeId) (Value.int IntKind.i64 (1 : Int)))) ∧ True ∨ (pu16 s).fst = (2 : Nat) ∧ (0 : Int) = (↑(pu16 s).snd : Int) ∧ XV.v (AV.p (Value.iface (78 : Nat) (Value.int IntKind.i64 (2 : Int)))) = XV.v (AV.p (Value.iface (78 : TypeId) (Value.int IntKind.i64 (2 : Int)))) ∧ True ∨ False) ∧ (decide (IntKind.u8.wrap (IntKind.u8.wrap (bits BinOp.or IntKind.u8 (sbyte s (↑((0 : Nat) + (↑x.i : Int).toNat) : Int)) (32 : Int) - (97 : Int)) + (10 : Int)) ≥ IntKind.u8.wrap (16 : Int)) = false → (decide ((↑x.n : Int) ≥ (1152921504606846976 : Int)) = true → (pu16 s).fst = (0 : Nat) ∧ (65535 : Int) = (↑(pu16 s).snd : Int) ∧ XV.v (AV.p (Value.iface (78 : Nat) (Value.int IntKind.i64 (1 : Int)))) = XV.v (AV.p Value.nilIface) ∧ True ∨ (pu16 s).fst = (1 : Nat) ∧ (65535 : Int) = (↑(pu16 s).snd : Int) ∧ XV.v (AV.p (Value.iface (78 : Nat) (Value.int IntKind.i64 (1 : Int)))) = XV.v (AV.p (Value.iface (78 : TypeId) (Value.int IntKind.i64 (1 : Int)))) ∧ True ∨ (pu16 s).fst = (2 : Nat) ∧ (65535 : Int) = (↑(pu16 s).snd : Int) ∧ XV.v (AV.p (Value.iface (78 : Nat) (Value.int IntKind.i64 (1 : Int)))) = XV.v (AV.p (Value.iface (78 : TypeId) (Value.int IntKind.i64 (2 : Int)))) ∧ True ∨ False) ∧ (decide ((↑x.n : Int) ≥ (1152921504606846976 : Int)) = false → ((decide (IntKind.u64.wrap (IntKind.u64.wrap ((↑x.n : Int) * IntKind.u64.wrap (16 : Int)) + IntKind.u64.wrap (IntKind.u8.wrap (IntKind.u8.wrap (bits BinOp.or IntKind.u8 (sbyte s (↑((0 : Nat) + (↑x.i : Int).toNat) : Int)) (32 : Int) - (97 : Int)) + (10 : Int)))) < IntKind.u64.wrap ((↑x.n : Int) * IntKind.u64.wrap (16 : Int))) || decide (IntKind.u64.wrap (IntKind.u64.wrap ((↑x.n : Int) * IntKind.u64.wrap (16 : Int)) + IntKind.u64.wrap (IntKind.u8.wrap (IntKind.u8.wrap (bits BinOp.or IntKind.u8 (sbyte s (↑((0 : Nat) + (↑x.i : Int).toNat) : Int)) (32 : Int) - (97 : Int)) + (10 : Int)))) > (65535 : Int))) = true → (pu16 s).fst = (0 : Nat) ∧ (65535 : Int) = (↑(pu16 s).snd : Int) ∧ XV.v (AV.p (Value.iface (78 : Nat) (Value.int IntKind.i64 (1 : Int)))) = XV.v (AV.p Value.nilIface) ∧ True ∨ (pu16 s).fst = (1 : Nat) ∧ (65535 : Int) = (↑(pu16 s).snd : Int) ∧ XV.v (AV.p (Value.iface (78 : Nat) (Value.int IntKind.i64 (1 : Int)))) = XV.v (AV.p (Value.iface (78 : TypeId) (Value.int IntKind.i64 (1 : Int)))) ∧ True ∨ (pu16 s).fst = (2 : Nat) ∧ (65535 : Int) = (↑(pu16 s).snd : Int) ∧ XV.v (AV.p (Value.iface (78 : Nat) (Value.int IntKind.i64 (1 : Int)))) = XV.v (AV.p (Value.iface (78 : TypeId) (Value.int IntKind.i64 (2 : Int)))) ∧ True ∨ False) ∧ ((decide (IntKind.u64.wrap (IntKind.u64.wrap ((↑x.n : Int) * IntKind.u64.wrap (16 : Int)) + IntKind.u64.wrap (IntKind.u8.wrap (IntKind.u8.wrap (bits BinOp.or IntKind.u8 (sbyte s (↑((0 : Nat) + (↑x.i : Int).toNat) : Int)) (32 : Int) - (97 : Int)) + (10 : Int)))) < IntKind.u64.wrap ((↑x.n : Int) * IntKind.u64.wrap (16 : Int))) || decide (IntKind.u64.wrap (IntKind.u64.wrap ((↑x.n : Int) * IntKind.u64.wrap (16 : Int)) + IntKind.u64.wrap (IntKind.u8.wrap (IntKind.u8.wrap (bits BinOp.or IntKind.u8 (sbyte s (↑((0 : Nat) + (↑x.i : Int).toNat) : Int)) (32 : Int) - (97 : Int)) + (10 : Int)))) > (65535 : Int))) = false → in64 ((↑x.i : Int) + (1 : Int)) ∧ ∃ (x' : (puI s).σ), (x'.i ≤ s.size ∧ x'.n ≤ (65535 : Nat) ∧ pu x'.n (List.drop x'.i s.data.toList) = pu16 s) ∧ s.size - x'.i < s.size - x.i ∧ true = true ∧ (16 : Int) = (16 : Int) ∧ false = false ∧ (1152921504606846976 : Int) = (1152921504606846976 : Int) ∧ (65535 : Int) = (65535 : Int) ∧ false = false ∧ IntKind.u64.wrap (IntKind.u64.wrap ((↑x.n : Int) * IntKind.u64.wrap (16 : Int)) + IntKind.u64.wrap (IntKind.u8.wrap (IntKind.u8.wrap (bits BinOp.or IntKind.u8 (sbyte s (↑((0 : Nat) + (↑x.i : Int).toNat) : Int)) (32 : Int) - (97 : Int)) + (10 : Int)))) = (↑x'.n : Int) ∧ XV.sl (0 : Nat) (1 : Nat) (0 : Nat) s.size = XV.sl (0 : Nat) (1 : Nat) (0 : Nat) s.size ∧ (↑s.size : Int) = (↑s.size : Int) ∧ (↑x.i : Int) + (1 : Int) = (↑x'.i : Int) ∧ (((5 : TypeId) = (5 : TypeId) ∧ false = false ∧ (1 : Nat) = (1 : Nat)) ∧ s.size = s.size ∧ ∀ (j : Nat), j < s.size → [X8 (sbyte s (↑j : Int))] = [X8 (sbyte s (↑j : Int))]) ∧ True)))) ∧ ((decide ((97 : Int) ≤ bits BinOp.or IntKind.u8 (sbyte s (↑((0 : Nat) + (↑x.i : Int).toNat) : Int)) (32 : Int)) && decide (bits BinOp.or IntKind.u8 (sbyte s (↑((0 : Nat) + (↑x.i : Int).toNat) : Int)) (32 : Int) ≤ (122 : Int))) = false → (pu16 s).fst = (0 : Nat) ∧ (0 : Int) = (↑(pu16 s).snd : Int) ∧ XV.v (AV.p (Value.iface (78 : Nat) (Value.int IntKind.i64 (2 : Int)))) = XV.v (AV.p Value.nilIface) ∧ True ∨ (pu16 s).fst = (1 : Nat) ∧ (0 : Int) = (↑(pu16 s).snd : Int) ∧ XV.v (AV.p (Value.iface (78 : Nat) (Value.int IntKind.i64 (2 : Int)))) = XV.v (AV.p (Value.iface (78 : TypeId) (Value.int IntKind.i64 (1 : Int)))) ∧ True ∨ (pu16 s).fst = (2 : Nat) ∧ (0 : Int) = (↑(pu16 s).snd : Int) ∧ XV.v (AV.p (Value.iface (78 : Nat) (Value.int IntKind.i64 (2 : Int)))) = XV.v (AV.p (Value.iface (78 : TypeId) (Value.int IntKind.i64 (2 : Int)))) ∧ True ∨ False)))) ∧ (decide ((↑x.i : Int) < (↑s.size : Int)) = false → (pu16 s).fst = (0 : Nat) ∧ (↑x.n : Int) = (↑(pu16 s).snd : Int) ∧ XV.v (AV.p Value.nilIface) = XV.v (AV.p Value.nilIface) ∧ True ∨ (pu16 s).fst = (1 : Nat) ∧ (↑x.n : Int) = (↑(pu16 s).snd : Int) ∧ XV.v (AV.p Value.nilIface) = XV.v (AV.p (Value.iface (78 : TypeId) (Value.int IntKind.i64 (1 : Int)))) ∧ True ∨ (pu16 s).fst = (2 : Nat) ∧ (↑x.n : Int) = (↑(pu16 s).snd : Int) ∧ XV.v (AV.p Value.nilIface) = XV.v (AV.p (Value.iface (78 : TypeId) (Value.int IntKind.i64 (2 : Int)))) ∧ True ∨ False))
theorem puV_eq (s : ByteArray) : puV s = (funA cxe Tryd.f37 (mkSc (puE s) (bodyOf Tryd.f37)) [XT s, XI 16, XI 16] (puAlts (pu16 s))) := by kernel_rfl
theorem or32' : ∀ k : Nat, k < 256 → bits .or .u8 (k : Int) 32 = (((UInt8.ofNat k ||| 32 : UInt8).toNat : Nat) : Int) := by decide +kernel
theorem or32 (c : UInt8) : bits .or .u8 (c.toNat : Int) 32 = ((c ||| 32).toNat : Int) := by
  have h := or32' c.toNat (UInt8.toNat_lt c)
  rw [UInt8.ofNat_toNat] at h
  exact h
theorem hx_1 (c : UInt8) (h : 48 ≤ c.toNat ∧ c.toNat ≤ 57) : hx c = c.toNat - 48 := if_pos h
theorem hx_2 (c : UInt8) (h : ¬ (48 ≤ c.toNat ∧ c.toNat ≤ 57)) (h2 : 97 ≤ (c ||| 32).toNat ∧ (c ||| 32).toNat ≤ 102) : hx c = (c ||| 32).toNat - 87 := (if_neg h).trans (if_pos h2)
theorem hx_3 (c : UInt8) (h : ¬ (48 ≤ c.toNat ∧ c.toNat ≤ 57)) (h2 : ¬ (97 ≤ (c ||| 32).toNat ∧ (c ||| 32).toNat ≤ 102)) : hx c = 99 := (if_neg h).trans (if_neg h2)
theorem pu_cons (n : Nat) (c : UInt8) (l : List UInt8) : pu n (c :: l) = if hx c = 99 then (2, 0) else if 65535 < n * 16 + hx c then (1, 65535) else pu (n * 16 + hx c) l := rfl
theorem pu_v (s : ByteArray) (hs : s.size ≤ 1000000) : puV s := by
  unfold puV
  have w1 : IntKind.u8.wrap 16 = 16 := by kernel_rfl
  refine ⟨fun h => ?_, fun h => ?_⟩
  · have h : s = ⟨#[]⟩ := of_decide_eq_true h
    have e : pu16 s = (2, 0) := if_pos h
    rw [e]
    exact .inr (.inr (.inl ⟨rfl, rfl, rfl, trivial⟩))
  have hne : s ≠ ⟨#[]⟩ := of_decide_eq_false h
  refine ⟨by decide +kernel, ⟨⟨0, 0⟩, ⟨Nat.zero_le _, by decide, ?_⟩, ?_⟩, ?_⟩
  · show pu 0 (s.data.toList.drop 0) = pu16 s
    rw [List.drop_zero]
    exact (if_neg hne).symm
  · exact ⟨rfl, rfl, by kernel_rfl, rfl, by kernel_rfl, rfl, rfl, rfl, rfl, rfl, ⟨⟨rfl, rfl, rfl⟩, rfl, fun _ _ => rfl⟩, trivial⟩
  rintro ⟨xi, xn⟩ ⟨hi, hn, hrec⟩
  have hi : xi ≤ s.size := hi
  have hn : xn ≤ 65535 := hn
  have hrec : pu xn (s.data.toList.drop xi) = pu16 s := hrec
  refine ⟨fun h => ?_, fun h => ?_⟩
  · have hlt : xi < s.size := by
      have : (xi : Int) < (s.size : Int) := of_decide_eq_true h
      omega
    have hlt' : xi < s.data.toList.length := by rw [← size_data]; exact hlt
    have hd : s.data.toList.drop xi = s.data.toList.getD xi 0 :: s.data.toList.drop (xi + 1) := by
      rw [List.drop_eq_getElem_cons hlt', List.getD_eq_getElem?_getD, List.getElem?_eq_getElem hlt']
      rfl
    rw [hd, pu_cons] at hrec
    have ec : sbyte s ((0 + (xi : Int).toNat : Nat) : Int) = ((s.data.toList.getD xi 0).toNat : Int) := by
      unfold sbyte
      rw [show ((0 + (xi : Int).toNat : Nat) : Int).toNat = xi by omega]
    generalize s.data.toList.getD xi 0 = c at hrec ec
    have hc := UInt8.toNat_lt c
    have h64 : in64 ((xi : Int) + 1) := by unfold in64; omega
    dsimp only
    rw [ec, or32]
    generalize hk : (c ||| 32).toNat = k
    have hk8 : k < 256 := by rw [← hk]; exact UInt8.toNat_lt _
    have w2 : IntKind.u64.wrap ((xn : Int) * IntKind.u64.wrap 16) = ((xn * 16 : Nat) : Int) := by
      rw [w16, wrapu_in (by omega) (by omega)]
      omega
    have syn : hx c = 99 → pu16 s = (2, 0) := fun e => by rw [← hrec, if_pos e]
    have rng : hx c ≠ 99 → 65535 < xn * 16 + hx c → pu16 s = (1, 65535) := fun e e2 => by rw [← hrec, if_neg e, if_pos e2]
    have nxt : hx c ≠ 99 → ¬ 65535 < xn * 16 + hx c → pu (xn * 16 + hx c) (s.data.toList.drop (xi + 1)) = pu16 s := fun e e2 => by rw [← hrec, if_neg e, if_neg e2]
    have body : ∀ (d : Int) (dd : Nat), d = (dd : Int) → hx c ≠ 99 → hx c = dd → dd < 256 →
        IntKind.u64.wrap (IntKind.u64.wrap ((xn : Int) * IntKind.u64.wrap 16) + IntKind.u64.wrap d) = ((xn * 16 + dd : Nat) : Int) := fun d dd e1 e2 e3 e4 => by
      rw [w2, e1, wrapu_in (i := (dd : Int)) (by omega) (by omega), wrapu_in (by omega) (by omega)]
      omega
    refine ⟨by omega, by omega, by omega, fun h0 => absurd h0 (by simp), fun _ => ⟨fun h => h, fun h => h, fun hA => ?_, fun hA => ⟨fun hB => ?_, fun hB => ?_⟩⟩⟩
    · have hA' : 48 ≤ c.toNat ∧ c.toNat ≤ 57 := by
        simp only [Bool.and_eq_true, decide_eq_true_eq] at hA
        omega
      have e := hx_1 c hA'
      have ew : IntKind.u8.wrap ((c.toNat : Int) - 48) = ((c.toNat - 48 : Nat) : Int) := by
        rw [wrap8_in (by omega) (by omega)]
        omega
      have hb := body _ _ ew (by omega) e (by omega)
      rw [hb, ew, w1, w2]
      refine ⟨fun h1 => ?_, fun _ => ⟨fun h1 => ?_, fun _ => ⟨fun h1 => ?_, fun h1 => ⟨h64, ⟨xi + 1, xn * 16 + (c.toNat - 48)⟩, ?_⟩⟩⟩⟩
      · have := of_decide_eq_true h1
        omega
      · have := of_decide_eq_true h1
        omega
      · have h1 : 65535 < xn * 16 + (c.toNat - 48) := by
          simp only [Bool.or_eq_true, decide_eq_true_eq] at h1
          omega
        rw [rng (by omega) (by omega)]
        exact .inr (.inl ⟨rfl, rfl, rfl, trivial⟩)
      · have h1 : ¬ 65535 < xn * 16 + (c.toNat - 48) := by
          simp only [Bool.or_eq_false_iff, decide_eq_false_iff_not] at h1
          omega
        have h2 := nxt (by omega) (by omega)
        rw [e] at h2
        exact ⟨⟨hlt, by show xn * 16 + (c.toNat - 48) ≤ 65535; omega, h2⟩, by show s.size - (xi + 1) < s.size - xi; omega, rfl, rfl, rfl, rfl, rfl, rfl, rfl, rfl, rfl, rfl, ⟨⟨rfl, rfl, rfl⟩, rfl, fun _ _ => rfl⟩, trivial⟩
    · have hA' : ¬ (48 ≤ c.toNat ∧ c.toNat ≤ 57) := by
        intro h
        rw [decide_eq_true (by omega), decide_eq_true (by omega)] at hA
        exact absurd hA (by decide)
      have hB' : 97 ≤ k ∧ k ≤ 122 := by
        simp only [Bool.and_eq_true, decide_eq_true_eq] at hB
        omega
      have ew : IntKind.u8.wrap (IntKind.u8.wrap ((k : Int) - 97) + 10) = ((k - 87 : Nat) : Int) := by
        rw [wrap8_in (n := (k : Int) - 97) (by omega) (by omega), wrap8_in (by omega) (by omega)]
        omega
      by_cases hk2 : k ≤ 102
      · have e := hx_2 c hA' (by rw [hk]; omega)
        rw [hk] at e
        have hb := body _ _ ew (by omega) e (by omega)
        rw [hb, ew, w1, w2]
        refine ⟨fun h1 => ?_, fun _ => ⟨fun h1 => ?_, fun _ => ⟨fun h1 => ?_, fun h1 => ⟨h64, ⟨xi + 1, xn * 16 + (k - 87)⟩, ?_⟩⟩⟩⟩
        · have := of_decide_eq_true h1
          omega
        · have := of_decide_eq_true h1
          omega
        · have h1 : 65535 < xn * 16 + (k - 87) := by
            simp only [Bool.or_eq_true, decide_eq_true_eq] at h1
            omega
          rw [rng (by omega) (by omega)]
          exact .inr (.inl ⟨rfl, rfl, rfl, trivial⟩)
        · have h1 : ¬ 65535 < xn * 16 + (k - 87) := by
            simp only [Bool.or_eq_false_iff, decide_eq_false_iff_not] at h1
            omega
          have h2 := nxt (by omega) (by omega)
          rw [e] at h2
          exact ⟨⟨hlt, by show xn * 16 + (k - 87) ≤ 65535; omega, h2⟩, by show s.size - (xi + 1) < s.size - xi; omega, rfl, rfl, rfl, rfl, rfl, rfl, rfl, rfl, rfl, rfl, ⟨⟨rfl, rfl, rfl⟩, rfl, fun _ _ => rfl⟩, trivial⟩
      · have e := hx_3 c hA' (by rw [hk]; omega)
        rw [ew, w1]
        refine ⟨fun _ => ?_, fun h1 => ?_⟩
        · rw [syn e]
          exact .inr (.inr (.inl ⟨rfl, rfl, rfl, trivial⟩))
        · have : ¬ ((k - 87 : Nat) : Int) ≥ 16 := of_decide_eq_false h1
          omega
    · have hA' : ¬ (48 ≤ c.toNat ∧ c.toNat ≤ 57) := by
        intro h
        rw [decide_eq_true (by omega), decide_eq_true (by omega)] at hA
        exact absurd hA (by decide)
      have e := hx_3 c hA' (by
        intro h
        rw [hk] at h
        rw [decide_eq_true (by omega), decide_eq_true (by omega)] at hB
        exact absurd hB (by decide))
      rw [syn e]
      exact .inr (.inr (.inl ⟨rfl, rfl, rfl, trivial⟩))
  · have hge : xi = s.size := by
      have : ¬ (xi : Int) < (s.size : Int) := of_decide_eq_false h
      omega
    rw [hge, List.drop_eq_nil_of_le (by rw [← size_data]; exact Nat.le_refl _)] at hrec
    have e : pu16 s = (0, xn) := hrec.symm
    rw [e]
    exact .inl ⟨rfl, rfl, rfl, trivial⟩
def p10 (s : ByteArray) : Nat × Nat := match Lib.parseUintB 8 s.data.toList with
  | .ok u => (0, u)
  | .range => (1, 255)
  | _ => (2, 0)
def puC : AT := fun args => match args with
  | [.v (.p (.string s)), .v (.p (.int .i64 b)), .v (.p (.int .i64 k))] => match decide (b = 16) with
    | true => some ([s.size ≤ 1000000, k = 16], puAlts (pu16 s))
    | false => some ([s.size ≤ 1000000, b = 10, k = 8], puAlts (p10 s))
  | _ => none
def puC16 : AT := fun args => match args with
  | [.v (.p (.string s)), .v (.p (.int .i64 b)), .v (.p (.int .i64 k))] => match decide (b = 16) with
    | true => some ([s.size ≤ 1000000, k = 16], puAlts (pu16 s))
    | false => none
  | _ => none
def puC10 : AT := fun args => match args with
  | [.v (.p (.string s)), .v (.p (.int .i64 b)), .v (.p (.int .i64 k))] => match decide (b = 16) with
    | true => none
    | false => some ([s.size ≤ 1000000, b = 10, k = 8], puAlts (p10 s))
  | _ => none
theorem puAlts_pd (r : Nat × Nat) : ∀ a ∈ puAlts r, a.2.pd = true := by
  intro a ha
  unfold puAlts at ha
  simp only [List.mem_cons, List.not_mem_nil, or_false] at ha
  rcases ha with rfl | rfl | rfl <;> rfl
theorem pu16_ok : ATok Tryd.prog 37 puC16 := at_ok cxe_ok Tryd.func37 rfl (by decide) fun args cs v hC hc => by
  unfold puC16 at hC
  split at hC
  · rename_i s b k
    split at hC
    · rename_i hb
      obtain rfl : b = 16 := of_decide_eq_true hb
      simp only [Option.some.injEq, Prod.mk.injEq] at hC
      obtain ⟨rfl, rfl⟩ := hC
      have h1 : s.size ≤ 1000000 := hc _ (by simp)
      obtain rfl : k = 16 := hc _ (by simp)
      exact ⟨[XT s, XI 16, XI 16], by kernel_rfl, rfl, rfl, fun _ _ _ h => h, puAlts_pd _, mkSc (puE s) (bodyOf Tryd.f37), by rw [← puV_eq s]; exact pu_v s h1⟩
    · cases hC
  · cases hC
theorem at8_ret (s : ByteArray) : ∃ a ∈ puAlts (p10 s), a.1 ∧ ∀ (L : GH) (w : World), VS L w (toAV a.2) (Lib.uintTupleM 78 255 (Lib.parseUintB 8 s.data.toList)) := by
  unfold p10
  generalize Lib.parseUintB 8 s.data.toList = r
  split
  · refine ⟨_, .head _, rfl, fun L w => ?_⟩
    simp only [toAV, toAVL, VS]
    exact ⟨[_, _], rfl, by simp [VSL, VS, eNil, toAV]⟩
  · refine ⟨_, .tail _ (.head _), rfl, fun L w => ?_⟩
    simp only [toAV, toAVL, VS]
    exact ⟨[_, _], rfl, by simp [VSL, VS, eNum, toAV]⟩
  · rename_i h1 h2
    refine ⟨_, .tail _ (.tail _ (.head _)), rfl, fun L w => ?_⟩
    cases r with
    | ok u => exact absurd rfl (h1 u)
    | range => exact absurd rfl h2
    | _ =>
      simp only [toAV, toAVL, VS]
      exact ⟨[_, _], rfl, by simp [VSL, VS, eNum, toAV]⟩
theorem pu10_ok : ATok Tryd.prog 37 puC10 := at_lib Tryd.func37 rfl (by decide) fun args cs v hC hc => by
  unfold puC10 at hC
  split at hC
  · rename_i s b k
    split at hC
    · cases hC
    · simp only [Option.some.injEq, Prod.mk.injEq] at hC
      obtain ⟨rfl, rfl⟩ := hC
      have h1 : s.size ≤ 1000000 := hc _ (by simp)
      obtain rfl : b = 10 := hc _ (by simp)
      obtain rfl : k = 8 := hc _ (by simp)
      refine ⟨rfl, puAlts_pd _, fun L w xs hg hfr hv => ?_⟩
      have := VSL_map_p (l := [.string s, .int .i64 10, .int .i64 8]) (xs := xs) (show VSL L w [AV.p (.string s), AV.p (.int .i64 10), AV.p (.int .i64 8)] xs from hv)
      subst this
      obtain ⟨a, ha, hp, hvs⟩ := at8_ret s
      refine (Tryd.internal_strconv_ParseUint_10_at8 s (by omega) w).mono fun e w' ⟨he, hw⟩ => ⟨a, ha, hp, _, he, hvs L w', ?_⟩
      rcases hw with rfl | rfl
      · exact Below.refl _ _
      · exact Lib.bytesWorld_below w 5 s
  · cases hC
theorem puC_or (args : List XV) : puC args = puC16 args ∨ puC args = puC10 args := by
  unfold puC puC16 puC10
  split
  · split
    · exact .inl rfl
    · exact .inr rfl
  · exact .inl rfl
theorem atok_or {P : Program} {f : FuncId} {C C1 C2 : AT} (h1 : ATok P f C1) (h2 : ATok P f C2) (h : ∀ args, C args = C1 args ∨ C args = C2 args) : ATok P f C :=
  ⟨h1.1, fun args cs alts hC hc => by
    rcases h args with e | e
    · exact h1.2 args cs alts (e ▸ hC) hc
    · exact h2.2 args cs alts (e ▸ hC) hc⟩
theorem puN_ok : ATok Tryd.prog 37 puC := atok_or pu16_ok pu10_ok puC_or
/-- An error told. -/
def eSome : XV := .v (.iface 81 .top)
def teC : AT := fun args => match args with
  | [.v (.p (.string fn)), .v (.p (.string s)), .v (.p (.int .i64 b)), .v (.p (.int .i64 k)), .v (.p (.iface t (.int .i64 c)))] => some ([s.size ≤ 1000000, t = 78, c = 1 ∨ c = 2], [(True, eSome)])
  | _ => none
theorem glb_ifc {L : GH} {w : World} (hg : Glb L w) {g : Nat} (hm : (g, [GV.ifc]) ∈ glbT) : ∃ ev, w.cell? ⟨g, 0, none⟩ = some ev ∧ (ev = .nilIface ∨ ∃ te pe, ev = .iface te pe) := by
  obtain ⟨-, -, h, -⟩ := hg g [GV.ifc] hm
  obtain ⟨x, hx, hi, -⟩ := h 0 .ifc rfl
  exact ⟨x, hx, hi⟩
theorem te_ok : ATok Tryd.prog 38 teC := at_lib Tryd.func38 rfl (by decide) fun args cs v hC hc => by
  unfold teC at hC
  split at hC
  · rename_i fn s b k t c
    simp only [Option.some.injEq, Prod.mk.injEq] at hC
    obtain ⟨rfl, rfl⟩ := hC
    have h1 : s.size ≤ 1000000 := hc _ (by simp)
    obtain rfl : t = 78 := hc _ (by simp)
    have h3 : c = 1 ∨ c = 2 := hc _ (by simp)
    refine ⟨rfl, fun a ha => by obtain rfl := List.mem_singleton.1 ha; rfl, fun L w xs hg hfr hv => ?_⟩
    have := VSL_map_p (l := [.string fn, .string s, .int .i64 b, .int .i64 k, .iface 78 (.int .i64 c)]) (xs := xs) (show VSL L w [AV.p (.string fn), AV.p (.string s), AV.p (.int .i64 b), AV.p (.int .i64 k), AV.p (.iface 78 (.int .i64 c))] xs from hv)
    subst this
    obtain ⟨ev1, g1, k1⟩ := glb_ifc hg (g := 1) (by simp [glbT])
    obtain ⟨ev2, g2, k2⟩ := glb_ifc hg (g := 2) (by simp [glbT])
    rcases h3 with rfl | rfl
    · refine (Tryd.strconv_toError_range fn s b k ev2 w (by omega) g2 k2).mono fun e w' ⟨N, he, _, _, hw⟩ => ⟨_, .head _, trivial, _, he, ?_, hw⟩
      exact ⟨_, rfl, trivial⟩
    · refine (Tryd.strconv_toError_syntax fn s b k ev1 w (by omega) g1 k1).mono fun e w' ⟨N, he, _, _, hw⟩ => ⟨_, .head _, trivial, _, he, ?_, hw⟩
      exact ⟨_, rfl, trivial⟩
  · cases hC
end Go.Proofs.YtghmlhdlkgjbeaaDoorAv
