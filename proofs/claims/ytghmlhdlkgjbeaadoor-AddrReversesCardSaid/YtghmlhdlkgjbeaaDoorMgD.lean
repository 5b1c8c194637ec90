/- Own texts, put together: AdA; AdB; AdC; AdD. -/
import Derived.Test.YtghmlhdlkgjbeaaDoorMgC
set_option linter.unusedVariables false
set_option linter.unusedSimpArgs false
set_option maxRecDepth 100000
namespace Go.Proofs.YtghmlhdlkgjbeaaDoorAv
open Go Go.RowKit
abbrev XU (i : Int) : XV := .v (.p (.int .u64 i))
def ipC : CT := fun args => match args with
  | [.v (.p (.int .i64 x))] => some ([x = 16], XB true)
  | _ => none
def ipV  : Prop :=
  in64 ((16 : Int) - (1 : Int)) ∧ (bits BinOp.and IntKind.i64 (16 : Int) ((16 : Int) - (1 : Int)) == (0 : Int)) = true
theorem ipV_eq  : ipV  = (funC cx0 Tryd.f61 .nil [XI 16] (XB true)) := by kernel_rfl
theorem ip_v : ipV := by
  unfold ipV
  exact ⟨by unfold in64; omega, by kernel_rfl⟩
theorem ip_ok : CTok Tryd.prog 61 ipC := ct_ok2 cx0_ok Tryd.func61 rfl (by decide) fun args cs v hC hc => by
  unfold ipC at hC
  split at hC
  · simp only [Option.some.injEq, Prod.mk.injEq] at hC
    obtain ⟨rfl, rfl⟩ := hC
    obtain rfl := hc _ (.head _)
    exact ⟨[XI 16], by kernel_rfl, rfl, rfl, fun _ _ _ h => h, rfl, exv ipV_eq ip_v⟩
  · cases hC
def tzC : CT := fun args => match args with
  | [.v (.p (.int .u64 x))] => some ([x = 16], XI 4)
  | _ => none
def tz6V  : Prop :=
  (((16 : Int) == (0 : Int)) = true → (64 : Int) = (4 : Int)) ∧ (((16 : Int) == (0 : Int)) = false → (0 : Int) ≤ (IntKind.u64.wrap (bits BinOp.and IntKind.u64 (16 : Int) (IntKind.u64.wrap (-16 : Int)) * (285870213051353865 : Int))).fdiv ((2 : Int) ^ (58 : Nat)) ∧ (IntKind.u64.wrap (bits BinOp.and IntKind.u64 (16 : Int) (IntKind.u64.wrap (-16 : Int)) * (285870213051353865 : Int))).fdiv ((2 : Int) ^ (58 : Nat)) < (↑(64 : Nat) : Int) ∧ (15 : Nat) < (64 : Nat) ∧ in64 ([(0 : Int), (1 : Int), (56 : Int), (2 : Int), (57 : Int), (49 : Int), (28 : Int), (3 : Int), (61 : Int), (58 : Int), (42 : Int), (50 : Int), (38 : Int), (29 : Int), (17 : Int), (4 : Int), (62 : Int), (47 : Int), (59 : Int), (36 : Int), (45 : Int), (43 : Int), (51 : Int), (22 : Int), (53 : Int), (39 : Int), (33 : Int), (30 : Int), (24 : Int), (18 : Int), (12 : Int), (5 : Int), (63 : Int), (55 : Int), (48 : Int), (27 : Int), (60 : Int), (41 : Int), (37 : Int), (16 : Int), (46 : Int), (35 : Int), (44 : Int), (21 : Int), (52 : Int), (32 : Int), (23 : Int), (11 : Int), (54 : Int), (26 : Int), (40 : Int), (15 : Int), (34 : Int), (20 : Int), (31 : Int), (10 : Int), (25 : Int), (14 : Int), (19 : Int), (9 : Int), (13 : Int), (8 : Int), (7 : Int), (6 : Int)].getD ((15 : Nat)) (0 : Int)) ∧ [(0 : Int), (1 : Int), (56 : Int), (2 : Int), (57 : Int), (49 : Int), (28 : Int), (3 : Int), (61 : Int), (58 : Int), (42 : Int), (50 : Int), (38 : Int), (29 : Int), (17 : Int), (4 : Int), (62 : Int), (47 : Int), (59 : Int), (36 : Int), (45 : Int), (43 : Int), (51 : Int), (22 : Int), (53 : Int), (39 : Int), (33 : Int), (30 : Int), (24 : Int), (18 : Int), (12 : Int), (5 : Int), (63 : Int), (55 : Int), (48 : Int), (27 : Int), (60 : Int), (41 : Int), (37 : Int), (16 : Int), (46 : Int), (35 : Int), (44 : Int), (21 : Int), (52 : Int), (32 : Int), (23 : Int), (11 : Int), (54 : Int), (26 : Int), (40 : Int), (15 : Int), (34 : Int), (20 : Int), (31 : Int), (10 : Int), (25 : Int), (14 : Int), (19 : Int), (9 : Int), (13 : Int), (8 : Int), (7 : Int), (6 : Int)].getD ((15 : Nat)) (0 : Int) = (4 : Int))
theorem tz6V_eq  : tz6V  = (funC cx0 Tryd.f73 .nil [XU 16] (XI 4)) := by kernel_rfl
theorem tz6_v : tz6V := by
  unfold tz6V
  exact ⟨fun h => absurd h (by decide), fun _ => ⟨by decide +kernel, by decide +kernel, by decide, by unfold in64; decide, by kernel_rfl⟩⟩
theorem tz6_ok : CTok Tryd.prog 73 tzC := ct_ok2 cx0_ok Tryd.func73 rfl (by decide) fun args cs v hC hc => by
  unfold tzC at hC
  split at hC
  · simp only [Option.some.injEq, Prod.mk.injEq] at hC
    obtain ⟨rfl, rfl⟩ := hC
    obtain rfl := hc _ (.head _)
    exact ⟨[XU 16], by kernel_rfl, rfl, rfl, fun _ _ _ h => h, rfl, exv tz6V_eq tz6_v⟩
  · cases hC
def cxa : Cx := { cx0 with C := [(73, tzC), (61, ipC)] }
theorem cxa_ok : cxa.ok Tryd.prog := (cx0_ok.addC ip_ok).addC tz6_ok
def tzV  : Prop :=
  (false = true → False) ∧ (false = false → (16 : Int) = (16 : Int) ∧ (4 : Int) = (4 : Int))
theorem tzV_eq  : tzV  = (funC cxa Tryd.f62 .nil [XU 16] (XI 4)) := by kernel_rfl
theorem tz_v : tzV := by
  unfold tzV
  exact ⟨fun h => absurd h (by decide), fun _ => ⟨rfl, rfl⟩⟩
theorem tz_ok : CTok Tryd.prog 62 tzC := ct_ok2 cxa_ok Tryd.func62 rfl (by decide) fun args cs v hC hc => by
  unfold tzC at hC
  split at hC
  · simp only [Option.some.injEq, Prod.mk.injEq] at hC
    obtain ⟨rfl, rfl⟩ := hC
    obtain rfl := hc _ (.head _)
    exact ⟨[XU 16], by kernel_rfl, rfl, rfl, fun _ _ _ h => h, rfl, exv tzV_eq tz_v⟩
  · cases hC
def cxb : Cx := { cxa with C := (62, tzC) :: cxa.C }
theorem cxb_ok : cxb.ok Tryd.prog := cxa_ok.addC tz_ok
def fbE : Env := { rollu := [(0, 4)], dec := [6, 8, 26, 29] }
def hexd (k : Nat) : UInt8 := if k < 10 then UInt8.ofNat (48 + k) else UInt8.ofNat (87 + k)
def hexL (n : Nat) : List UInt8 :=
  if n < 16 then [hexd n] else if n < 256 then [hexd (n / 16), hexd (n % 16)]
  else if n < 4096 then [hexd (n / 256), hexd (n / 16 % 16), hexd (n % 16)] else [hexd (n / 4096), hexd (n / 256 % 16), hexd (n / 16 % 16), hexd (n % 16)]
def hexB (n : Nat) : ByteArray := ofBytes (hexL n)
def fbC : CT := fun args => match args with
  | [.v (.p (.slice none 0 0)), .v (.p (.int .u64 u)), .v (.p (.int .i64 b)), .v (.p (.bool g)), .v (.p (.bool a))] => some ([0 ≤ u, u < 65536, b = 16, g = false, a = false], .tup [Xnil, XT (hexB u.toNat)])
  | _ => none
def fbV (n : Nat) : Prop :=
  ((decide ((16 : Int) < (2 : Int)) || (16 : Int) == (10 : Int) || decide ((16 : Int) > (36 : Int))) = true → False) ∧ ((decide ((16 : Int) < (2 : Int)) || (16 : Int) == (10 : Int) || decide ((16 : Int) > (36 : Int))) = false → (16 : Int) = (16 : Int) ∧ IntKind.u64.wrap (16 : Int) = (16 : Int) ∧ (decide ((↑n : Int) ≥ IntKind.u64.wrap (16 : Int)) = true → in64 ((65 : Int) - (1 : Int)) ∧ (0 : Int) ≤ bits BinOp.and IntKind.u64 (↑n : Int) (IntKind.u64.wrap (IntKind.u64.wrap (16 : Int) - (1 : Int))) ∧ bits BinOp.and IntKind.u64 (↑n : Int) (IntKind.u64.wrap (IntKind.u64.wrap (16 : Int) - (1 : Int))) < (↑((36 : Nat)) : Int) ∧ (0 : Int) ≤ (65 : Int) - (1 : Int) ∧ (65 : Int) - (1 : Int) < (↑(65 : Nat) : Int) ∧ (64 : Nat) < (65 : Nat) ∧ (0 : Int) ≤ IntKind.u64.wrap (4 : Int) ∧ (decide ((↑n : Int).fdiv ((2 : Int) ^ (4 : Nat)) ≥ IntKind.u64.wrap (16 : Int)) = true → in64 ((65 : Int) - (1 : Int) - (1 : Int)) ∧ (0 : Int) ≤ bits BinOp.and IntKind.u64 ((↑n : Int).fdiv ((2 : Int) ^ (4 : Nat))) (IntKind.u64.wrap (IntKind.u64.wrap (16 : Int) - (1 : Int))) ∧ bits BinOp.and IntKind.u64 ((↑n : Int).fdiv ((2 : Int) ^ (4 : Nat))) (IntKind.u64.wrap (IntKind.u64.wrap (16 : Int) - (1 : Int))) < (↑((36 : Nat)) : Int) ∧ (0 : Int) ≤ (65 : Int) - (1 : Int) - (1 : Int) ∧ (65 : Int) - (1 : Int) - (1 : Int) < (↑(65 : Nat) : Int) ∧ (63 : Nat) < [(0 : Int), (0 : Int), (0 : Int), (0 : Int), (0 : Int), (0 : Int), (0 : Int), (0 : Int), (0 : Int), (0 : Int), (0 : Int), (0 : Int), (0 : Int), (0 : Int), (0 : Int), (0 : Int), (0 : Int), (0 : Int), (0 : Int), (0 : Int), (0 : Int), (0 : Int), (0 : Int), (0 : Int), (0 : Int), (0 : Int), (0 : Int), (0 : Int), (0 : Int), (0 : Int), (0 : Int), (0 : Int), (0 : Int), (0 : Int), (0 : Int), (0 : Int), (0 : Int), (0 : Int), (0 : Int), (0 : Int), (0 : Int), (0 : Int), (0 : Int), (0 : Int), (0 : Int), (0 : Int), (0 : Int), (0 : Int), (0 : Int), (0 : Int), (0 : Int), (0 : Int), (0 : Int), (0 : Int), (0 : Int), (0 : Int), (0 : Int), (0 : Int), (0 : Int), (0 : Int), (0 : Int), (0 : Int), (0 : Int), (0 : Int), sbyte { data := #[(48 : UInt8), (49 : UInt8), (50 : UInt8), (51 : UInt8), (52 : UInt8), (53 : UInt8), (54 : UInt8), (55 : UInt8), (56 : UInt8), (57 : UInt8), (97 : UInt8), (98 : UInt8), (99 : UInt8), (100 : UInt8), (101 : UInt8), (102 : UInt8), (103 : UInt8), (104 : UInt8), (105 : UInt8), (106 : UInt8), (107 : UInt8), (108 : UInt8), (109 : UInt8), (110 : UInt8), (111 : UInt8), (112 : UInt8), (113 : UInt8), (114 : UInt8), (115 : UInt8), (116 : UInt8), (117 : UInt8), (118 : UInt8), (119 : UInt8), (120 : UInt8), (121 : UInt8), (122 : UInt8)] : ByteArray } (bits BinOp.and IntKind.u64 (↑n : Int) (IntKind.u64.wrap (IntKind.u64.wrap (16 : Int) - (1 : Int))))].length ∧ (0 : Int) ≤ IntKind.u64.wrap (4 : Int) ∧ (decide (((↑n : Int).fdiv ((2 : Int) ^ (4 : Nat))).fdiv ((2 : Int) ^ (4 : Nat)) ≥ IntKind.u64.wrap (16 : Int)) = true → in64 ((65 : Int) - (1 : Int) - (1 : Int) - (1 : Int)) ∧ (0 : Int) ≤ bits BinOp.and IntKind.u64 (((↑n : Int).fdiv ((2 : Int) ^ (4 : Nat))).fdiv ((2 : Int) ^ (4 : Nat))) (IntKind.u64.wrap (IntKind.u64.wrap (16 : Int) - (1 : Int))) ∧ bits BinOp.and IntKind.u64 (((↑n : Int).fdiv ((2 : Int) ^ (4 : Nat))).fdiv ((2 : Int) ^ (4 : Nat))) (IntKind.u64.wrap (IntKind.u64.wrap (16 : Int) - (1 : Int))) < (↑((36 : Nat)) : Int) ∧ (0 : Int) ≤ (65 : Int) - (1 : Int) - (1 : Int) - (1 : Int) ∧ (65 : Int) - (1 : Int) - (1 : Int) - (1 : Int) < (↑(65 : Nat) : Int) ∧ (62 : Nat) < [(0 : Int), (0 : Int), (0 : Int), (0 : Int), (0 : Int), (0 : Int), (0 : Int), (0 : Int), (0 : Int), (0 : Int), (0 : Int), (0 : Int), (0 : Int), (0 : Int), (0 : Int), (0 : Int), (0 : Int), (0 : Int), (0 : Int), (0 : Int), (0 : Int), (0 : Int), (0 : Int), (0 : Int), (0 : Int), (0 : Int), (0 : Int), (0 : Int), (0 : Int), (0 : Int), (0 : Int), (0 : Int), (0 : Int), (0 : Int), (0 : Int), (0 : Int), (0 : Int), (0 : Int), (0 : Int), (0 : Int), (0 : Int), (0 : Int), (0 : Int), (0 : Int), (0 : Int), (0 : Int), (0 : Int), (0 : Int), (0 : Int), (0 : Int), (0 : Int), (0 : Int), (0 : Int), (0 : Int), (0 : Int), (0 : Int), (0 : Int), (0 : Int), (0 : Int), (0 : Int), (0 : Int), (0 : Int), (0 : Int), sbyte { data := #[(48 : UInt8), (49 : UInt8), (50 : UInt8), (51 : UInt8), (52 : UInt8), (53 : UInt8), (54 : UInt8), (55 : UInt8), (56 : UInt8), (57 : UInt8), (97 : UInt8), (98 : UInt8), (99 : UInt8), (100 : UInt8), (101 : UInt8), (102 : UInt8), (103 : UInt8), (104 : UInt8), (105 : UInt8), (106 : UInt8), (107 : UInt8), (108 : UInt8), (109 : UInt8), (110 : UInt8), (111 : UInt8), (112 : UInt8), (113 : UInt8), (114 : UInt8), (115 : UInt8), (116 : UInt8), (117 : UInt8), (118 : UInt8), (119 : UInt8), (120 : UInt8), (121 : UInt8), (122 : UInt8)] : ByteArray } (bits BinOp.and IntKind.u64 ((↑n : Int).fdiv ((2 : Int) ^ (4 : Nat))) (IntKind.u64.wrap (IntKind.u64.wrap (16 : Int) - (1 : Int)))), sbyte { data := #[(48 : UInt8), (49 : UInt8), (50 : UInt8), (51 : UInt8), (52 : UInt8), (53 : UInt8), (54 : UInt8), (55 : UInt8), (56 : UInt8), (57 : UInt8), (97 : UInt8), (98 : UInt8), (99 : UInt8), (100 : UInt8), (101 : UInt8), (102 : UInt8), (103 : UInt8), (104 : UInt8), (105 : UInt8), (106 : UInt8), (107 : UInt8), (108 : UInt8), (109 : UInt8), (110 : UInt8), (111 : UInt8), (112 : UInt8), (113 : UInt8), (114 : UInt8), (115 : UInt8), (116 : UInt8), (117 : UInt8), (118 : UInt8), (119 : UInt8), (120 : UInt8), (121 : UInt8), (122 : UInt8)] : ByteArray } (bits BinOp.and IntKind.u64 (↑n : Int) (IntKind.u64.wrap (IntKind.u64.wrap (16 : Int) - (1 : Int))))].length ∧ (0 : Int) ≤ IntKind.u64.wrap (4 : Int) ∧ (decide ((((↑n : Int).fdiv ((2 : Int) ^ (4 : Nat))).fdiv ((2 : Int) ^ (4 : Nat))).fdiv ((2 : Int) ^ (4 : Nat)) ≥ IntKind.u64.wrap (16 : Int)) = true → in64 ((65 : Int) - (1 : Int) - (1 : Int) - (1 : Int) - (1 : Int)) ∧ (0 : Int) ≤ bits BinOp.and IntKind.u64 ((((↑n : Int).fdiv ((2 : Int) ^ (4 : Nat))).fdiv ((2 : Int) ^ (4 : Nat))).fdiv ((2 : Int) ^ (4 : Nat))) (IntKind.u64.wrap (IntKind.u64.wrap (16 : Int) - (1 : Int))) ∧ bits BinOp.and IntKind.u64 ((((↑n : Int).fdiv ((2 : Int) ^ (4 : Nat))).fdiv ((2 : Int) ^ (4 : Nat))).fdiv ((2 : Int) ^ (4 : Nat))) (IntKind.u64.wrap (IntKind.u64.wrap (16 : Int) - (1 : Int))) < (↑((36 : Nat)) : Int) ∧ (0 : Int) ≤ (65 : Int) - (1 : Int) - (1 : Int) - (1 : Int) - (1 : Int) ∧ (65 : Int) - (1 : Int) - (1 : Int) - (1 : Int) - (1 : Int) < (↑(65 : Nat) : Int) ∧ (61 : Nat) < [(0 : Int), (0 : Int), (0 : Int), (0 : Int), (0 : Int), (0 : Int), (0 : Int), (0 : Int), (0 : Int), (0 : Int), (0 : Int), (0 : Int), (0 : Int), (0 : Int), (0 : Int), (0 : Int), (0 : Int), (0 : Int), (0 : Int), (0 : Int), (0 : Int), (0 : Int), (0 : Int), (0 : Int), (0 : Int), (0 : Int), (0 : Int), (0 : Int), (0 : Int), (0 : Int), (0 : Int), (0 : Int), (0 : Int), (0 : Int), (0 : Int), (0 : Int), (0 : Int), (0 : Int), (0 : Int), (0 : Int), (0 : Int), (0 : Int), (0 : Int), (0 : Int), (0 : Int), (0 : Int), (0 : Int), (0 : Int), (0 : Int), (0 : Int), (0 : Int), (0 : Int), (0 : Int), (0 : Int), (0 : Int), (0 : Int), (0 : Int), (0 : Int), (0 : Int), (0 : Int), (0 : Int), (0 : Int), sbyte { data := #[(48 : UInt8), (49 : UInt8), (50 : UInt8), (51 : UInt8), (52 : UInt8), (53 : UInt8), (54 : UInt8), (55 : UInt8), (56 : UInt8), (57 : UInt8), (97 : UInt8), (98 : UInt8), (99 : UInt8), (100 : UInt8), (101 : UInt8), (102 : UInt8), (103 : UInt8), (104 : UInt8), (105 : UInt8), (106 : UInt8), (107 : UInt8), (108 : UInt8), (109 : UInt8), (110 : UInt8), (111 : UInt8), (112 : UInt8), (113 : UInt8), (114 : UInt8), (115 : UInt8), (116 : UInt8), (117 : UInt8), (118 : UInt8), (119 : UInt8), (120 : UInt8), (121 : UInt8), (122 : UInt8)] : ByteArray } (bits BinOp.and IntKind.u64 (((↑n : Int).fdiv ((2 : Int) ^ (4 : Nat))).fdiv ((2 : Int) ^ (4 : Nat))) (IntKind.u64.wrap (IntKind.u64.wrap (16 : Int) - (1 : Int)))), sbyte { data := #[(48 : UInt8), (49 : UInt8), (50 : UInt8), (51 : UInt8), (52 : UInt8), (53 : UInt8), (54 : UInt8), (55 : UInt8), (56 : UInt8), (57 : UInt8), (97 : UInt8), (98 : UInt8), (99 : UInt8), (100 : UInt8), (101 : UInt8), (102 : UInt8), (103 : UInt8), (104 : UInt8), (105 : UInt8), (106 : UInt8), (107 : UInt8), (108 : UInt8), (109 : UInt8), (110 : UInt8), (111 : UInt8), (112 : UInt8), (113 : UInt8), (114 : UInt8), (115 : UInt8), (116 : UInt8), (117 : UInt8), (118 : UInt8), (119 : UInt8), (120 : UInt8), (121 : UInt8), (122 : UInt8)] : ByteArray } (bits BinOp.and IntKind.u64 ((↑n : Int).fdiv ((2 : Int) ^ (4 : Nat))) (IntKind.u64.wrap (IntKind.u64.wrap (16 : Int) - (1 : Int)))), sbyte { data := #[(48 : UInt8), (49 : UInt8), (50 : UInt8), (51 : UInt8), (52 : UInt8), (53 : UInt8), (54 : UInt8), (55 : UInt8), (56 : UInt8), (57 : UInt8), (97 : UInt8), (98 : UInt8), (99 : UInt8), (100 : UInt8), (101 : UInt8), (102 : UInt8), (103 : UInt8), (104 : UInt8), (105 : UInt8), (106 : UInt8), (107 : UInt8), (108 : UInt8), (109 : UInt8), (110 : UInt8), (111 : UInt8), (112 : UInt8), (113 : UInt8), (114 : UInt8), (115 : UInt8), (116 : UInt8), (117 : UInt8), (118 : UInt8), (119 : UInt8), (120 : UInt8), (121 : UInt8), (122 : UInt8)] : ByteArray } (bits BinOp.and IntKind.u64 (↑n : Int) (IntKind.u64.wrap (IntKind.u64.wrap (16 : Int) - (1 : Int))))].length ∧ (0 : Int) ≤ IntKind.u64.wrap (4 : Int) ∧ False) ∧ (decide ((((↑n : Int).fdiv ((2 : Int) ^ (4 : Nat))).fdiv ((2 : Int) ^ (4 : Nat))).fdiv ((2 : Int) ^ (4 : Nat)) ≥ IntKind.u64.wrap (16 : Int)) = false → in64 ((65 : Int) - (1 : Int) - (1 : Int) - (1 : Int) - (1 : Int)) ∧ (0 : Int) ≤ (((↑n : Int).fdiv ((2 : Int) ^ (4 : Nat))).fdiv ((2 : Int) ^ (4 : Nat))).fdiv ((2 : Int) ^ (4 : Nat)) ∧ (((↑n : Int).fdiv ((2 : Int) ^ (4 : Nat))).fdiv ((2 : Int) ^ (4 : Nat))).fdiv ((2 : Int) ^ (4 : Nat)) < (↑((36 : Nat)) : Int) ∧ (0 : Int) ≤ (65 : Int) - (1 : Int) - (1 : Int) - (1 : Int) - (1 : Int) ∧ (65 : Int) - (1 : Int) - (1 : Int) - (1 : Int) - (1 : Int) < (↑(65 : Nat) : Int) ∧ (61 : Nat) < [(0 : Int), (0 : Int), (0 : Int), (0 : Int), (0 : Int), (0 : Int), (0 : Int), (0 : Int), (0 : Int), (0 : Int), (0 : Int), (0 : Int), (0 : Int), (0 : Int), (0 : Int), (0 : Int), (0 : Int), (0 : Int), (0 : Int), (0 : Int), (0 : Int), (0 : Int), (0 : Int), (0 : Int), (0 : Int), (0 : Int), (0 : Int), (0 : Int), (0 : Int), (0 : Int), (0 : Int), (0 : Int), (0 : Int), (0 : Int), (0 : Int), (0 : Int), (0 : Int), (0 : Int), (0 : Int), (0 : Int), (0 : Int), (0 : Int), (0 : Int), (0 : Int), (0 : Int), (0 : Int), (0 : Int), (0 : Int), (0 : Int), (0 : Int), (0 : Int), (0 : Int), (0 : Int), (0 : Int), (0 : Int), (0 : Int), (0 : Int), (0 : Int), (0 : Int), (0 : Int), (0 : Int), (0 : Int), sbyte { data := #[(48 : UInt8), (49 : UInt8), (50 : UInt8), (51 : UInt8), (52 : UInt8), (53 : UInt8), (54 : UInt8), (55 : UInt8), (56 : UInt8), (57 : UInt8), (97 : UInt8), (98 : UInt8), (99 : UInt8), (100 : UInt8), (101 : UInt8), (102 : UInt8), (103 : UInt8), (104 : UInt8), (105 : UInt8), (106 : UInt8), (107 : UInt8), (108 : UInt8), (109 : UInt8), (110 : UInt8), (111 : UInt8), (112 : UInt8), (113 : UInt8), (114 : UInt8), (115 : UInt8), (116 : UInt8), (117 : UInt8), (118 : UInt8), (119 : UInt8), (120 : UInt8), (121 : UInt8), (122 : UInt8)] : ByteArray } (bits BinOp.and IntKind.u64 (((↑n : Int).fdiv ((2 : Int) ^ (4 : Nat))).fdiv ((2 : Int) ^ (4 : Nat))) (IntKind.u64.wrap (IntKind.u64.wrap (16 : Int) - (1 : Int)))), sbyte { data := #[(48 : UInt8), (49 : UInt8), (50 : UInt8), (51 : UInt8), (52 : UInt8), (53 : UInt8), (54 : UInt8), (55 : UInt8), (56 : UInt8), (57 : UInt8), (97 : UInt8), (98 : UInt8), (99 : UInt8), (100 : UInt8), (101 : UInt8), (102 : UInt8), (103 : UInt8), (104 : UInt8), (105 : UInt8), (106 : UInt8), (107 : UInt8), (108 : UInt8), (109 : UInt8), (110 : UInt8), (111 : UInt8), (112 : UInt8), (113 : UInt8), (114 : UInt8), (115 : UInt8), (116 : UInt8), (117 : UInt8), (118 : UInt8), (119 : UInt8), (120 : UInt8), (121 : UInt8), (122 : UInt8)] : ByteArray } (bits BinOp.and IntKind.u64 ((↑n : Int).fdiv ((2 : Int) ^ (4 : Nat))) (IntKind.u64.wrap (IntKind.u64.wrap (16 : Int) - (1 : Int)))), sbyte { data := #[(48 : UInt8), (49 : UInt8), (50 : UInt8), (51 : UInt8), (52 : UInt8), (53 : UInt8), (54 : UInt8), (55 : UInt8), (56 : UInt8), (57 : UInt8), (97 : UInt8), (98 : UInt8), (99 : UInt8), (100 : UInt8), (101 : UInt8), (102 : UInt8), (103 : UInt8), (104 : UInt8), (105 : UInt8), (106 : UInt8), (107 : UInt8), (108 : UInt8), (109 : UInt8), (110 : UInt8), (111 : UInt8), (112 : UInt8), (113 : UInt8), (114 : UInt8), (115 : UInt8), (116 : UInt8), (117 : UInt8), (118 : UInt8), (119 : UInt8), (120 : UInt8), (121 : UInt8), (122 : UInt8)] : ByteArray } (bits BinOp.and IntKind.u64 (↑n : Int) (IntKind.u64.wrap (IntKind.u64.wrap (16 : Int) - (1 : Int))))].length ∧ (0 : Int) ≤ (65 : Int) - (1 : Int) - (1 : Int) - (1 : Int) - (1 : Int) ∧ (65 : Int) - (1 : Int) - (1 : Int) - (1 : Int) - (1 : Int) ≤ (↑(65 : Nat) : Int) ∧ (↑(65 : Nat) : Int) ≤ (↑(65 : Nat) : Int) ∧ (65 : Nat) ≤ (65 : Nat) ∧ [X8 (sbyte { data := #[(48 : UInt8), (49 : UInt8), (50 : UInt8), (51 : UInt8), (52 : UInt8), (53 : UInt8), (54 : UInt8), (55 : UInt8), (56 : UInt8), (57 : UInt8), (97 : UInt8), (98 : UInt8), (99 : UInt8), (100 : UInt8), (101 : UInt8), (102 : UInt8), (103 : UInt8), (104 : UInt8), (105 : UInt8), (106 : UInt8), (107 : UInt8), (108 : UInt8), (109 : UInt8), (110 : UInt8), (111 : UInt8), (112 : UInt8), (113 : UInt8), (114 : UInt8), (115 : UInt8), (116 : UInt8), (117 : UInt8), (118 : UInt8), (119 : UInt8), (120 : UInt8), (121 : UInt8), (122 : UInt8)] : ByteArray } ((((↑n : Int).fdiv ((2 : Int) ^ (4 : Nat))).fdiv ((2 : Int) ^ (4 : Nat))).fdiv ((2 : Int) ^ (4 : Nat)))), X8 (sbyte { data := #[(48 : UInt8), (49 : UInt8), (50 : UInt8), (51 : UInt8), (52 : UInt8), (53 : UInt8), (54 : UInt8), (55 : UInt8), (56 : UInt8), (57 : UInt8), (97 : UInt8), (98 : UInt8), (99 : UInt8), (100 : UInt8), (101 : UInt8), (102 : UInt8), (103 : UInt8), (104 : UInt8), (105 : UInt8), (106 : UInt8), (107 : UInt8), (108 : UInt8), (109 : UInt8), (110 : UInt8), (111 : UInt8), (112 : UInt8), (113 : UInt8), (114 : UInt8), (115 : UInt8), (116 : UInt8), (117 : UInt8), (118 : UInt8), (119 : UInt8), (120 : UInt8), (121 : UInt8), (122 : UInt8)] : ByteArray } (bits BinOp.and IntKind.u64 (((↑n : Int).fdiv ((2 : Int) ^ (4 : Nat))).fdiv ((2 : Int) ^ (4 : Nat))) (IntKind.u64.wrap (IntKind.u64.wrap (16 : Int) - (1 : Int))))), X8 (sbyte { data := #[(48 : UInt8), (49 : UInt8), (50 : UInt8), (51 : UInt8), (52 : UInt8), (53 : UInt8), (54 : UInt8), (55 : UInt8), (56 : UInt8), (57 : UInt8), (97 : UInt8), (98 : UInt8), (99 : UInt8), (100 : UInt8), (101 : UInt8), (102 : UInt8), (103 : UInt8), (104 : UInt8), (105 : UInt8), (106 : UInt8), (107 : UInt8), (108 : UInt8), (109 : UInt8), (110 : UInt8), (111 : UInt8), (112 : UInt8), (113 : UInt8), (114 : UInt8), (115 : UInt8), (116 : UInt8), (117 : UInt8), (118 : UInt8), (119 : UInt8), (120 : UInt8), (121 : UInt8), (122 : UInt8)] : ByteArray } (bits BinOp.and IntKind.u64 ((↑n : Int).fdiv ((2 : Int) ^ (4 : Nat))) (IntKind.u64.wrap (IntKind.u64.wrap (16 : Int) - (1 : Int))))), X8 (sbyte { data := #[(48 : UInt8), (49 : UInt8), (50 : UInt8), (51 : UInt8), (52 : UInt8), (53 : UInt8), (54 : UInt8), (55 : UInt8), (56 : UInt8), (57 : UInt8), (97 : UInt8), (98 : UInt8), (99 : UInt8), (100 : UInt8), (101 : UInt8), (102 : UInt8), (103 : UInt8), (104 : UInt8), (105 : UInt8), (106 : UInt8), (107 : UInt8), (108 : UInt8), (109 : UInt8), (110 : UInt8), (111 : UInt8), (112 : UInt8), (113 : UInt8), (114 : UInt8), (115 : UInt8), (116 : UInt8), (117 : UInt8), (118 : UInt8), (119 : UInt8), (120 : UInt8), (121 : UInt8), (122 : UInt8)] : ByteArray } (bits BinOp.and IntKind.u64 (↑n : Int) (IntKind.u64.wrap (IntKind.u64.wrap (16 : Int) - (1 : Int)))))] = [X8 (↑{ toBitVec := BitVec.ofNat (8 : Nat) (sbyte { data := #[(48 : UInt8), (49 : UInt8), (50 : UInt8), (51 : UInt8), (52 : UInt8), (53 : UInt8), (54 : UInt8), (55 : UInt8), (56 : UInt8), (57 : UInt8), (97 : UInt8), (98 : UInt8), (99 : UInt8), (100 : UInt8), (101 : UInt8), (102 : UInt8), (103 : UInt8), (104 : UInt8), (105 : UInt8), (106 : UInt8), (107 : UInt8), (108 : UInt8), (109 : UInt8), (110 : UInt8), (111 : UInt8), (112 : UInt8), (113 : UInt8), (114 : UInt8), (115 : UInt8), (116 : UInt8), (117 : UInt8), (118 : UInt8), (119 : UInt8), (120 : UInt8), (121 : UInt8), (122 : UInt8)] : ByteArray } ((((↑n : Int).fdiv ((2 : Int) ^ (4 : Nat))).fdiv ((2 : Int) ^ (4 : Nat))).fdiv ((2 : Int) ^ (4 : Nat)))).toNat : UInt8 }.toNat : Int), X8 (↑{ toBitVec := BitVec.ofNat (8 : Nat) (sbyte { data := #[(48 : UInt8), (49 : UInt8), (50 : UInt8), (51 : UInt8), (52 : UInt8), (53 : UInt8), (54 : UInt8), (55 : UInt8), (56 : UInt8), (57 : UInt8), (97 : UInt8), (98 : UInt8), (99 : UInt8), (100 : UInt8), (101 : UInt8), (102 : UInt8), (103 : UInt8), (104 : UInt8), (105 : UInt8), (106 : UInt8), (107 : UInt8), (108 : UInt8), (109 : UInt8), (110 : UInt8), (111 : UInt8), (112 : UInt8), (113 : UInt8), (114 : UInt8), (115 : UInt8), (116 : UInt8), (117 : UInt8), (118 : UInt8), (119 : UInt8), (120 : UInt8), (121 : UInt8), (122 : UInt8)] : ByteArray } (bits BinOp.and IntKind.u64 (((↑n : Int).fdiv ((2 : Int) ^ (4 : Nat))).fdiv ((2 : Int) ^ (4 : Nat))) (IntKind.u64.wrap (IntKind.u64.wrap (16 : Int) - (1 : Int))))).toNat : UInt8 }.toNat : Int), X8 (↑{ toBitVec := BitVec.ofNat (8 : Nat) (sbyte { data := #[(48 : UInt8), (49 : UInt8), (50 : UInt8), (51 : UInt8), (52 : UInt8), (53 : UInt8), (54 : UInt8), (55 : UInt8), (56 : UInt8), (57 : UInt8), (97 : UInt8), (98 : UInt8), (99 : UInt8), (100 : UInt8), (101 : UInt8), (102 : UInt8), (103 : UInt8), (104 : UInt8), (105 : UInt8), (106 : UInt8), (107 : UInt8), (108 : UInt8), (109 : UInt8), (110 : UInt8), (111 : UInt8), (112 : UInt8), (113 : UInt8), (114 : UInt8), (115 : UInt8), (116 : UInt8), (117 : UInt8), (118 : UInt8), (119 : UInt8), (120 : UInt8), (121 : UInt8), (122 : UInt8)] : ByteArray } (bits BinOp.and IntKind.u64 ((↑n : Int).fdiv ((2 : Int) ^ (4 : Nat))) (IntKind.u64.wrap (IntKind.u64.wrap (16 : Int) - (1 : Int))))).toNat : UInt8 }.toNat : Int), X8 (↑{ toBitVec := BitVec.ofNat (8 : Nat) (sbyte { data := #[(48 : UInt8), (49 : UInt8), (50 : UInt8), (51 : UInt8), (52 : UInt8), (53 : UInt8), (54 : UInt8), (55 : UInt8), (56 : UInt8), (57 : UInt8), (97 : UInt8), (98 : UInt8), (99 : UInt8), (100 : UInt8), (101 : UInt8), (102 : UInt8), (103 : UInt8), (104 : UInt8), (105 : UInt8), (106 : UInt8), (107 : UInt8), (108 : UInt8), (109 : UInt8), (110 : UInt8), (111 : UInt8), (112 : UInt8), (113 : UInt8), (114 : UInt8), (115 : UInt8), (116 : UInt8), (117 : UInt8), (118 : UInt8), (119 : UInt8), (120 : UInt8), (121 : UInt8), (122 : UInt8)] : ByteArray } (bits BinOp.and IntKind.u64 (↑n : Int) (IntKind.u64.wrap (IntKind.u64.wrap (16 : Int) - (1 : Int))))).toNat : UInt8 }.toNat : Int)] ∧ Xnil = Xnil ∧ ofBytes [{ toBitVec := BitVec.ofNat (8 : Nat) (sbyte { data := #[(48 : UInt8), (49 : UInt8), (50 : UInt8), (51 : UInt8), (52 : UInt8), (53 : UInt8), (54 : UInt8), (55 : UInt8), (56 : UInt8), (57 : UInt8), (97 : UInt8), (98 : UInt8), (99 : UInt8), (100 : UInt8), (101 : UInt8), (102 : UInt8), (103 : UInt8), (104 : UInt8), (105 : UInt8), (106 : UInt8), (107 : UInt8), (108 : UInt8), (109 : UInt8), (110 : UInt8), (111 : UInt8), (112 : UInt8), (113 : UInt8), (114 : UInt8), (115 : UInt8), (116 : UInt8), (117 : UInt8), (118 : UInt8), (119 : UInt8), (120 : UInt8), (121 : UInt8), (122 : UInt8)] : ByteArray } ((((↑n : Int).fdiv ((2 : Int) ^ (4 : Nat))).fdiv ((2 : Int) ^ (4 : Nat))).fdiv ((2 : Int) ^ (4 : Nat)))).toNat : UInt8 }, { toBitVec := BitVec.ofNat (8 : Nat) (sbyte { data := #[(48 : UInt8), (49 : UInt8), (50 : UInt8), (51 : UInt8), (52 : UInt8), (53 : UInt8), (54 : UInt8), (55 : UInt8), (56 : UInt8), (57 : UInt8), (97 : UInt8), (98 : UInt8), (99 : UInt8), (100 : UInt8), (101 : UInt8), (102 : UInt8), (103 : UInt8), (104 : UInt8), (105 : UInt8), (106 : UInt8), (107 : UInt8), (108 : UInt8), (109 : UInt8), (110 : UInt8), (111 : UInt8), (112 : UInt8), (113 : UInt8), (114 : UInt8), (115 : UInt8), (116 : UInt8), (117 : UInt8), (118 : UInt8), (119 : UInt8), (120 : UInt8), (121 : UInt8), (122 : UInt8)] : ByteArray } (bits BinOp.and IntKind.u64 (((↑n : Int).fdiv ((2 : Int) ^ (4 : Nat))).fdiv ((2 : Int) ^ (4 : Nat))) (IntKind.u64.wrap (IntKind.u64.wrap (16 : Int) - (1 : Int))))).toNat : UInt8 }, { toBitVec := BitVec.ofNat (8 : Nat) (sbyte { data := #[(48 : UInt8), (49 : UInt8), (50 : UInt8), (51 : UInt8), (52 : UInt8), (53 : UInt8), (54 : UInt8), (55 : UInt8), (56 : UInt8), (57 : UInt8), (97 : UInt8), (98 : UInt8), (99 : UInt8), (100 : UInt8), (101 : UInt8), (102 : UInt8), (103 : UInt8), (104 : UInt8), (105 : UInt8), (106 : UInt8), (107 : UInt8), (108 : UInt8), (109 : UInt8), (110 : UInt8), (111 : UInt8), (112 : UInt8), (113 : UInt8), (114 : UInt8), (115 : UInt8), (116 : UInt8), (117 : UInt8), (118 : UInt8), (119 : UInt8), (120 : UInt8), (121 : UInt8), (122 : UInt8)] : ByteArray } (bits BinOp.and IntKind.u64 ((↑n : Int).fdiv ((2 : Int) ^ (4 : Nat))) (IntKind.u64.wrap (IntKind.u64.wrap (16 : Int) - (1 : Int))))).toNat : UInt8 }, { toBitVec := BitVec.ofNat (8 : Nat) (sbyte { data := #[(48 : UInt8), (49 : UInt8), (50 : UInt8), (51 : UInt8), (52 : UInt8), (53 : UInt8), (54 : UInt8), (55 : UInt8), (56 : UInt8), (57 : UInt8), (97 : UInt8), (98 : UInt8), (99 : UInt8), (100 : UInt8), (101 : UInt8), (102 : UInt8), (103 : UInt8), (104 : UInt8), (105 : UInt8), (106 : UInt8), (107 : UInt8), (108 : UInt8), (109 : UInt8), (110 : UInt8), (111 : UInt8), (112 : UInt8), (113 : UInt8), (114 : UInt8), (115 : UInt8), (116 : UInt8), (117 : UInt8), (118 : UInt8), (119 : UInt8), (120 : UInt8), (121 : UInt8), (122 : UInt8)] : ByteArray } (bits BinOp.and IntKind.u64 (↑n : Int) (IntKind.u64.wrap (IntKind.u64.wrap (16 : Int) - (1 : Int))))).toNat : UInt8 }] = hexB n ∧ True)) ∧ (decide (((↑n : Int).fdiv ((2 : Int) ^ (4 : Nat))).fdiv ((2 : Int) ^ (4 : Nat)) ≥ IntKind.u64.wrap (16 : Int)) = false → in64 ((65 : Int) - (1 : Int) - (1 : Int) - (1 : Int)) ∧ (0 : Int) ≤ ((↑n : Int).fdiv ((2 : Int) ^ (4 : Nat))).fdiv ((2 : Int) ^ (4 : Nat)) ∧ ((↑n : Int).fdiv ((2 : Int) ^ (4 : Nat))).fdiv ((2 : Int) ^ (4 : Nat)) < (↑((36 : Nat)) : Int) ∧ (0 : Int) ≤ (65 : Int) - (1 : Int) - (1 : Int) - (1 : Int) ∧ (65 : Int) - (1 : Int) - (1 : Int) - (1 : Int) < (↑(65 : Nat) : Int) ∧ (62 : Nat) < [(0 : Int), (0 : Int), (0 : Int), (0 : Int), (0 : Int), (0 : Int), (0 : Int), (0 : Int), (0 : Int), (0 : Int), (0 : Int), (0 : Int), (0 : Int), (0 : Int), (0 : Int), (0 : Int), (0 : Int), (0 : Int), (0 : Int), (0 : Int), (0 : Int), (0 : Int), (0 : Int), (0 : Int), (0 : Int), (0 : Int), (0 : Int), (0 : Int), (0 : Int), (0 : Int), (0 : Int), (0 : Int), (0 : Int), (0 : Int), (0 : Int), (0 : Int), (0 : Int), (0 : Int), (0 : Int), (0 : Int), (0 : Int), (0 : Int), (0 : Int), (0 : Int), (0 : Int), (0 : Int), (0 : Int), (0 : Int), (0 : Int), (0 : Int), (0 : Int), (0 : Int), (0 : Int), (0 : Int), (0 : Int), (0 : Int), (0 : Int), (0 : Int), (0 : Int), (0 : Int), (0 : Int), (0 : Int), (0 : Int), sbyte { data := #[(48 : UInt8), (49 : UInt8), (50 : UInt8), (51 : UInt8), (52 : UInt8), (53 : UInt8), (54 : UInt8), (55 : UInt8), (56 : UInt8), (57 : UInt8), (97 : UInt8), (98 : UInt8), (99 : UInt8), (100 : UInt8), (101 : UInt8), (102 : UInt8), (103 : UInt8), (104 : UInt8), (105 : UInt8), (106 : UInt8), (107 : UInt8), (108 : UInt8), (109 : UInt8), (110 : UInt8), (111 : UInt8), (112 : UInt8), (113 : UInt8), (114 : UInt8), (115 : UInt8), (116 : UInt8), (117 : UInt8), (118 : UInt8), (119 : UInt8), (120 : UInt8), (121 : UInt8), (122 : UInt8)] : ByteArray } (bits BinOp.and IntKind.u64 ((↑n : Int).fdiv ((2 : Int) ^ (4 : Nat))) (IntKind.u64.wrap (IntKind.u64.wrap (16 : Int) - (1 : Int)))), sbyte { data := #[(48 : UInt8), (49 : UInt8), (50 : UInt8), (51 : UInt8), (52 : UInt8), (53 : UInt8), (54 : UInt8), (55 : UInt8), (56 : UInt8), (57 : UInt8), (97 : UInt8), (98 : UInt8), (99 : UInt8), (100 : UInt8), (101 : UInt8), (102 : UInt8), (103 : UInt8), (104 : UInt8), (105 : UInt8), (106 : UInt8), (107 : UInt8), (108 : UInt8), (109 : UInt8), (110 : UInt8), (111 : UInt8), (112 : UInt8), (113 : UInt8), (114 : UInt8), (115 : UInt8), (116 : UInt8), (117 : UInt8), (118 : UInt8), (119 : UInt8), (120 : UInt8), (121 : UInt8), (122 : UInt8)] : ByteArray } (bits BinOp.and IntKind.u64 (↑n : Int) (IntKind.u64.wrap (IntKind.u64.wrap (16 : Int) - (1 : Int))))].length ∧ (0 : Int) ≤ (65 : Int) - (1 : Int) - (1 : Int) - (1 : Int) ∧ (65 : Int) - (1 : Int) - (1 : Int) - (1 : Int) ≤ (↑(65 : Nat) : Int) ∧ (↑(65 : Nat) : Int) ≤ (↑(65 : Nat) : Int) ∧ (65 : Nat) ≤ (65 : Nat) ∧ [X8 (sbyte { data := #[(48 : UInt8), (49 : UInt8), (50 : UInt8), (51 : UInt8), (52 : UInt8), (53 : UInt8), (54 : UInt8), (55 : UInt8), (56 : UInt8), (57 : UInt8), (97 : UInt8), (98 : UInt8), (99 : UInt8), (100 : UInt8), (101 : UInt8), (102 : UInt8), (103 : UInt8), (104 : UInt8), (105 : UInt8), (106 : UInt8), (107 : UInt8), (108 : UInt8), (109 : UInt8), (110 : UInt8), (111 : UInt8), (112 : UInt8), (113 : UInt8), (114 : UInt8), (115 : UInt8), (116 : UInt8), (117 : UInt8), (118 : UInt8), (119 : UInt8), (120 : UInt8), (121 : UInt8), (122 : UInt8)] : ByteArray } (((↑n : Int).fdiv ((2 : Int) ^ (4 : Nat))).fdiv ((2 : Int) ^ (4 : Nat)))), X8 (sbyte { data := #[(48 : UInt8), (49 : UInt8), (50 : UInt8), (51 : UInt8), (52 : UInt8), (53 : UInt8), (54 : UInt8), (55 : UInt8), (56 : UInt8), (57 : UInt8), (97 : UInt8), (98 : UInt8), (99 : UInt8), (100 : UInt8), (101 : UInt8), (102 : UInt8), (103 : UInt8), (104 : UInt8), (105 : UInt8), (106 : UInt8), (107 : UInt8), (108 : UInt8), (109 : UInt8), (110 : UInt8), (111 : UInt8), (112 : UInt8), (113 : UInt8), (114 : UInt8), (115 : UInt8), (116 : UInt8), (117 : UInt8), (118 : UInt8), (119 : UInt8), (120 : UInt8), (121 : UInt8), (122 : UInt8)] : ByteArray } (bits BinOp.and IntKind.u64 ((↑n : Int).fdiv ((2 : Int) ^ (4 : Nat))) (IntKind.u64.wrap (IntKind.u64.wrap (16 : Int) - (1 : Int))))), X8 (sbyte { data := #[(48 : UInt8), (49 : UInt8), (50 : UInt8), (51 : UInt8), (52 : UInt8), (53 : UInt8), (54 : UInt8), (55 : UInt8), (56 : UInt8), (57 : UInt8), (97 : UInt8), (98 : UInt8), (99 : UInt8), (100 : UInt8), (101 : UInt8), (102 : UInt8), (103 : UInt8), (104 : UInt8), (105 : UInt8), (106 : UInt8), (107 : UInt8), (108 : UInt8), (109 : UInt8), (110 : UInt8), (111 : UInt8), (112 : UInt8), (113 : UInt8), (114 : UInt8), (115 : UInt8), (116 : UInt8), (117 : UInt8), (118 : UInt8), (119 : UInt8), (120 : UInt8), (121 : UInt8), (122 : UInt8)] : ByteArray } (bits BinOp.and IntKind.u64 (↑n : Int) (IntKind.u64.wrap (IntKind.u64.wrap (16 : Int) - (1 : Int)))))] = [X8 (↑{ toBitVec := BitVec.ofNat (8 : Nat) (sbyte { data := #[(48 : UInt8), (49 : UInt8), (50 : UInt8), (51 : UInt8), (52 : UInt8), (53 : UInt8), (54 : UInt8), (55 : UInt8), (56 : UInt8), (57 : UInt8), (97 : UInt8), (98 : UInt8), (99 : UInt8), (100 : UInt8), (101 : UInt8), (102 : UInt8), (103 : UInt8), (104 : UInt8), (105 : UInt8), (106 : UInt8), (107 : UInt8), (108 : UInt8), (109 : UInt8), (110 : UInt8), (111 : UInt8), (112 : UInt8), (113 : UInt8), (114 : UInt8), (115 : UInt8), (116 : UInt8), (117 : UInt8), (118 : UInt8), (119 : UInt8), (120 : UInt8), (121 : UInt8), (122 : UInt8)] : ByteArray } (((↑n : Int).fdiv ((2 : Int) ^ (4 : Nat))).fdiv ((2 : Int) ^ (4 : Nat)))).toNat : UInt8 }.toNat : Int), X8 (↑{ toBitVec := BitVec.ofNat (8 : Nat) (sbyte { data := #[(48 : UInt8), (49 : UInt8), (50 : UInt8), (51 : UInt8), (52 : UInt8), (53 : UInt8), (54 : UInt8), (55 : UInt8), (56 : UInt8), (57 : UInt8), (97 : UInt8), (98 : UInt8), (99 : UInt8), (100 : UInt8), (101 : UInt8), (102 : UInt8), (103 : UInt8), (104 : UInt8), (105 : UInt8), (106 : UInt8), (107 : UInt8), (108 : UInt8), (109 : UInt8), (110 : UInt8), (111 : UInt8), (112 : UInt8), (113 : UInt8), (114 : UInt8), (115 : UInt8), (116 : UInt8), (117 : UInt8), (118 : UInt8), (119 : UInt8), (120 : UInt8), (121 : UInt8), (122 : UInt8)] : ByteArray } (bits BinOp.and IntKind.u64 ((↑n : Int).fdiv ((2 : Int) ^ (4 : Nat))) (IntKind.u64.wrap (IntKind.u64.wrap (16 : Int) - (1 : Int))))).toNat : UInt8 }.toNat : Int), X8 (↑{ toBitVec := BitVec.ofNat (8 : Nat) (sbyte { data := #[(48 : UInt8), (49 : UInt8), (50 : UInt8), (51 : UInt8), (52 : UInt8), (53 : UInt8), (54 : UInt8), (55 : UInt8), (56 : UInt8), (57 : UInt8), (97 : UInt8), (98 : UInt8), (99 : UInt8), (100 : UInt8), (101 : UInt8), (102 : UInt8), (103 : UInt8), (104 : UInt8), (105 : UInt8), (106 : UInt8), (107 : UInt8), (108 : UInt8), (109 : UInt8), (110 : UInt8), (111 : UInt8), (112 : UInt8), (113 : UInt8), (114 : UInt8), (115 : UInt8), (116 : UInt8), (117 : UInt8), (118 : UInt8), (119 : UInt8), (120 : UInt8), (121 : UInt8), (122 : UInt8)] : ByteArray } (bits BinOp.and IntKind.u64 (↑n : Int) (IntKind.u64.wrap (IntKind.u64.wrap (16 : Int) - (1 : Int))))).toNat : UInt8 }.toNat : Int)] ∧ Xnil = Xnil ∧ ofBytes [{ toBitVec := BitVec.ofNat (8 : Nat) (sbyte { data := #[(48 : UInt8), (49 : UInt8), (50 : UInt8), (51 : UInt8), (52 : UInt8), (53 : UInt8), (54 : UInt8), (55 : UInt8), (56 : UInt8), (57 : UInt8), (97 : UInt8), (98 : UInt8), (99 : UInt8), (100 : UInt8), (101 : UInt8), (102 : UInt8), (103 : UInt8), (104 : UInt8), (105 : UInt8), (106 : UInt8), (107 : UInt8), (108 : UInt8), (109 : UInt8), (110 : UInt8), (111 : UInt8), (112 : UInt8), (113 : UInt8), (114 : UInt8), (115 : UInt8), (116 : UInt8), (117 : UInt8), (118 : UInt8), (119 : UInt8), (120 : UInt8), (121 : UInt8), (122 : UInt8)] : ByteArray } (((↑n : Int).fdiv ((2 : Int) ^ (4 : Nat))).fdiv ((2 : Int) ^ (4 : Nat)))).toNat : UInt8 }, { toBitVec := BitVec.ofNat (8 : Nat) (sbyte { data := #[(48 : UInt8), (49 : UInt8), (50 : UInt8), (51 : UInt8), (52 : UInt8), (53 : UInt8), (54 : UInt8), (55 : UInt8), (56 : UInt8), (57 : UInt8), (97 : UInt8), (98 : UInt8), (99 : UInt8), (100 : UInt8), (101 : UInt8), (102 : UInt8), (103 : UInt8), (104 : UInt8), (105 : UInt8), (106 : UInt8), (107 : UInt8), (108 : UInt8), (109 : UInt8), (110 : UInt8), (111 : UInt8), (112 : UInt8), (113 : UInt8), (114 : UInt8), (115 : UInt8), (116 : UInt8), (117 : UInt8), (118 : UInt8), (119 : UInt8), (120 : UInt8), (121 : UInt8), (122 : UInt8)] : ByteArray } (bits BinOp.and IntKind.u64 ((↑n : Int).fdiv ((2 : Int) ^ (4 : Nat))) (IntKind.u64.wrap (IntKind.u64.wrap (16 : Int) - (1 : Int))))).toNat : UInt8 }, { toBitVec := BitVec.ofNat (8 : Nat) (sbyte { data := #[(48 : UInt8), (49 : UInt8), (50 : UInt8), (51 : UInt8), (52 : UInt8), (53 : UInt8), (54 : UInt8), (55 : UInt8), (56 : UInt8), (57 : UInt8), (97 : UInt8), (98 : UInt8), (99 : UInt8), (100 : UInt8), (101 : UInt8), (102 : UInt8), (103 : UInt8), (104 : UInt8), (105 : UInt8), (106 : UInt8), (107 : UInt8), (108 : UInt8), (109 : UInt8), (110 : UInt8), (111 : UInt8), (112 : UInt8), (113 : UInt8), (114 : UInt8), (115 : UInt8), (116 : UInt8), (117 : UInt8), (118 : UInt8), (119 : UInt8), (120 : UInt8), (121 : UInt8), (122 : UInt8)] : ByteArray } (bits BinOp.and IntKind.u64 (↑n : Int) (IntKind.u64.wrap (IntKind.u64.wrap (16 : Int) - (1 : Int))))).toNat : UInt8 }] = hexB n ∧ True)) ∧ (decide ((↑n : Int).fdiv ((2 : Int) ^ (4 : Nat)) ≥ IntKind.u64.wrap (16 : Int)) = false → in64 ((65 : Int) - (1 : Int) - (1 : Int)) ∧ (0 : Int) ≤ (↑n : Int).fdiv ((2 : Int) ^ (4 : Nat)) ∧ (↑n : Int).fdiv ((2 : Int) ^ (4 : Nat)) < (↑((36 : Nat)) : Int) ∧ (0 : Int) ≤ (65 : Int) - (1 : Int) - (1 : Int) ∧ (65 : Int) - (1 : Int) - (1 : Int) < (↑(65 : Nat) : Int) ∧ (63 : Nat) < [(0 : Int), (0 : Int), (0 : Int), (0 : Int), (0 : Int), (0 : Int), (0 : Int), (0 : Int), (0 : Int), (0 : Int), (0 : Int), (0 : Int), (0 : Int), (0 : Int), (0 : Int), (0 : Int), (0 : Int), (0 : Int), (0 : Int), (0 : Int), (0 : Int), (0 : Int), (0 : Int), (0 : Int), (0 : Int), (0 : Int), (0 : Int), (0 : Int), (0 : Int), (0 : Int), (0 : Int), (0 : Int), (0 : Int), (0 : Int), (0 : Int), (0 : Int), (0 : Int), (0 : Int), (0 : Int), (0 : Int), (0 : Int), (0 : Int), (0 : Int), (0 : Int), (0 : Int), (0 : Int), (0 : Int), (0 : Int), (0 : Int), (0 : Int), (0 : Int), (0 : Int), (0 : Int), (0 : Int), (0 : Int), (0 : Int), (0 : Int), (0 : Int), (0 : Int), (0 : Int), (0 : Int), (0 : Int), (0 : Int), (0 : Int), sbyte { data := #[(48 : UInt8), (49 : UInt8), (50 : UInt8), (51 : UInt8), (52 : UInt8), (53 : UInt8), (54 : UInt8), (55 : UInt8), (56 : UInt8), (57 : UInt8), (97 : UInt8), (98 : UInt8), (99 : UInt8), (100 : UInt8), (101 : UInt8), (102 : UInt8), (103 : UInt8), (104 : UInt8), (105 : UInt8), (106 : UInt8), (107 : UInt8), (108 : UInt8), (109 : UInt8), (110 : UInt8), (111 : UInt8), (112 : UInt8), (113 : UInt8), (114 : UInt8), (115 : UInt8), (116 : UInt8), (117 : UInt8), (118 : UInt8), (119 : UInt8), (120 : UInt8), (121 : UInt8), (122 : UInt8)] : ByteArray } (bits BinOp.and IntKind.u64 (↑n : Int) (IntKind.u64.wrap (IntKind.u64.wrap (16 : Int) - (1 : Int))))].length ∧ (0 : Int) ≤ (65 : Int) - (1 : Int) - (1 : Int) ∧ (65 : Int) - (1 : Int) - (1 : Int) ≤ (↑(65 : Nat) : Int) ∧ (↑(65 : Nat) : Int) ≤ (↑(65 : Nat) : Int) ∧ (65 : Nat) ≤ (65 : Nat) ∧ [X8 (sbyte { data := #[(48 : UInt8), (49 : UInt8), (50 : UInt8), (51 : UInt8), (52 : UInt8), (53 : UInt8), (54 : UInt8), (55 : UInt8), (56 : UInt8), (57 : UInt8), (97 : UInt8), (98 : UInt8), (99 : UInt8), (100 : UInt8), (101 : UInt8), (102 : UInt8), (103 : UInt8), (104 : UInt8), (105 : UInt8), (106 : UInt8), (107 : UInt8), (108 : UInt8), (109 : UInt8), (110 : UInt8), (111 : UInt8), (112 : UInt8), (113 : UInt8), (114 : UInt8), (115 : UInt8), (116 : UInt8), (117 : UInt8), (118 : UInt8), (119 : UInt8), (120 : UInt8), (121 : UInt8), (122 : UInt8)] : ByteArray } ((↑n : Int).fdiv ((2 : Int) ^ (4 : Nat)))), X8 (sbyte { data := #[(48 : UInt8), (49 : UInt8), (50 : UInt8), (51 : UInt8), (52 : UInt8), (53 : UInt8), (54 : UInt8), (55 : UInt8), (56 : UInt8), (57 : UInt8), (97 : UInt8), (98 : UInt8), (99 : UInt8), (100 : UInt8), (101 : UInt8), (102 : UInt8), (103 : UInt8), (104 : UInt8), (105 : UInt8), (106 : UInt8), (107 : UInt8), (108 : UInt8), (109 : UInt8), (110 : UInt8), (111 : UInt8), (112 : UInt8), (113 : UInt8), (114 : UInt8), (115 : UInt8), (116 : UInt8), (117 : UInt8), (118 : UInt8), (119 : UInt8), (120 : UInt8), (121 : UInt8), (122 : UInt8)] : ByteArray } (bits BinOp.and IntKind.u64 (↑n : Int) (IntKind.u64.wrap (IntKind.u64.wrap (16 : Int) - (1 : Int)))))] = [X8 (↑{ toBitVec := BitVec.ofNat (8 : Nat) (sbyte { data := #[(48 : UInt8), (49 : UInt8), (50 : UInt8), (51 : UInt8), (52 : UInt8), (53 : UInt8), (54 : UInt8), (55 : UInt8), (56 : UInt8), (57 : UInt8), (97 : UInt8), (98 : UInt8), (99 : UInt8), (100 : UInt8), (101 : UInt8), (102 : UInt8), (103 : UInt8), (104 : UInt8), (105 : UInt8), (106 : UInt8), (107 : UInt8), (108 : UInt8), (109 : UInt8), (110 : UInt8), (111 : UInt8), (112 : UInt8), (113 : UInt8), (114 : UInt8), (115 : UInt8), (116 : UInt8), (117 : UInt8), (118 : UInt8), (119 : UInt8), (120 : UInt8), (121 : UInt8), (122 : UInt8)] : ByteArray } ((↑n : Int).fdiv ((2 : Int) ^ (4 : Nat)))).toNat : UInt8 }.toNat : Int), X8 (↑{ toBitVec := BitVec.ofNat (8 : Nat) (sbyte { data := #[(48 : UInt8), (49 : UInt8), (50 : UInt8), (51 : UInt8), (52 : UInt8), (53 : UInt8), (54 : UInt8), (55 : UInt8), (56 : UInt8), (57 : UInt8), (97 : UInt8), (98 : UInt8), (99 : UInt8), (100 : UInt8), (101 : UInt8), (102 : UInt8), (103 : UInt8), (104 : UInt8), (105 : UInt8), (106 : UInt8), (107 : UInt8), (108 : UInt8), (109 : UInt8), (110 : UInt8), (111 : UInt8), (112 : UInt8), (113 : UInt8), (114 : UInt8), (115 : UInt8), (116 : UInt8), (117 : UInt8), (118 : UInt8), (119 : UInt8), (120 : UInt8), (121 : UInt8), (122 : UInt8)] : ByteArray } (bits BinOp.and IntKind.u64 (↑n : Int) (IntKind.u64.wrap (IntKind.u64.wrap (16 : Int) - (1 : Int))))).toNat : UInt8 }.toNat : Int)] ∧ Xnil = Xnil ∧ ofBytes [{ toBitVec := BitVec.ofNat (8 : Nat) (sbyte { data := #[(48 : UInt8), (49 : UInt8), (50 : UInt8), (51 : UInt8), (52 : UInt8), (53 : UInt8), (54 : UInt8), (55 : UInt8), (56 : UInt8), (57 : UInt8), (97 : UInt8), (98 : UInt8), (99 : UInt8), (100 : UInt8), (101 : UInt8), (102 : UInt8), (103 : UInt8), (104 : UInt8), (105 : UInt8), (106 : UInt8), (107 : UInt8), (108 : UInt8), (109 : UInt8), (110 : UInt8), (111 : UInt8), (112 : UInt8), (113 : UInt8), (114 : UInt8), (115 : UInt8), (116 : UInt8), (117 : UInt8), (118 : UInt8), (119 : UInt8), (120 : UInt8), (121 : UInt8), (122 : UInt8)] : ByteArray } ((↑n : Int).fdiv ((2 : Int) ^ (4 : Nat)))).toNat : UInt8 }, { toBitVec := BitVec.ofNat (8 : Nat) (sbyte { data := #[(48 : UInt8), (49 : UInt8), (50 : UInt8), (51 : UInt8), (52 : UInt8), (53 : UInt8), (54 : UInt8), (55 : UInt8), (56 : UInt8), (57 : UInt8), (97 : UInt8), (98 : UInt8), (99 : UInt8), (100 : UInt8), (101 : UInt8), (102 : UInt8), (103 : UInt8), (104 : UInt8), (105 : UInt8), (106 : UInt8), (107 : UInt8), (108 : UInt8), (109 : UInt8), (110 : UInt8), (111 : UInt8), (112 : UInt8), (113 : UInt8), (114 : UInt8), (115 : UInt8), (116 : UInt8), (117 : UInt8), (118 : UInt8), (119 : UInt8), (120 : UInt8), (121 : UInt8), (122 : UInt8)] : ByteArray } (bits BinOp.and IntKind.u64 (↑n : Int) (IntKind.u64.wrap (IntKind.u64.wrap (16 : Int) - (1 : Int))))).toNat : UInt8 }] = hexB n ∧ True)) ∧ (decide ((↑n : Int) ≥ IntKind.u64.wrap (16 : Int)) = false → in64 ((65 : Int) - (1 : Int)) ∧ (0 : Int) ≤ (↑n : Int) ∧ (↑n : Int) < (↑((36 : Nat)) : Int) ∧ (0 : Int) ≤ (65 : Int) - (1 : Int) ∧ (65 : Int) - (1 : Int) < (↑(65 : Nat) : Int) ∧ (64 : Nat) < (65 : Nat) ∧ (0 : Int) ≤ (65 : Int) - (1 : Int) ∧ (65 : Int) - (1 : Int) ≤ (↑(65 : Nat) : Int) ∧ (↑(65 : Nat) : Int) ≤ (↑(65 : Nat) : Int) ∧ (65 : Nat) ≤ (65 : Nat) ∧ [X8 (sbyte { data := #[(48 : UInt8), (49 : UInt8), (50 : UInt8), (51 : UInt8), (52 : UInt8), (53 : UInt8), (54 : UInt8), (55 : UInt8), (56 : UInt8), (57 : UInt8), (97 : UInt8), (98 : UInt8), (99 : UInt8), (100 : UInt8), (101 : UInt8), (102 : UInt8), (103 : UInt8), (104 : UInt8), (105 : UInt8), (106 : UInt8), (107 : UInt8), (108 : UInt8), (109 : UInt8), (110 : UInt8), (111 : UInt8), (112 : UInt8), (113 : UInt8), (114 : UInt8), (115 : UInt8), (116 : UInt8), (117 : UInt8), (118 : UInt8), (119 : UInt8), (120 : UInt8), (121 : UInt8), (122 : UInt8)] : ByteArray } (↑n : Int))] = [X8 (↑{ toBitVec := BitVec.ofNat (8 : Nat) (sbyte { data := #[(48 : UInt8), (49 : UInt8), (50 : UInt8), (51 : UInt8), (52 : UInt8), (53 : UInt8), (54 : UInt8), (55 : UInt8), (56 : UInt8), (57 : UInt8), (97 : UInt8), (98 : UInt8), (99 : UInt8), (100 : UInt8), (101 : UInt8), (102 : UInt8), (103 : UInt8), (104 : UInt8), (105 : UInt8), (106 : UInt8), (107 : UInt8), (108 : UInt8), (109 : UInt8), (110 : UInt8), (111 : UInt8), (112 : UInt8), (113 : UInt8), (114 : UInt8), (115 : UInt8), (116 : UInt8), (117 : UInt8), (118 : UInt8), (119 : UInt8), (120 : UInt8), (121 : UInt8), (122 : UInt8)] : ByteArray } (↑n : Int)).toNat : UInt8 }.toNat : Int)] ∧ Xnil = Xnil ∧ ofBytes [{ toBitVec := BitVec.ofNat (8 : Nat) (sbyte { data := #[(48 : UInt8), (49 : UInt8), (50 : UInt8), (51 : UInt8), (52 : UInt8), (53 : UInt8), (54 : UInt8), (55 : UInt8), (56 : UInt8), (57 : UInt8), (97 : UInt8), (98 : UInt8), (99 : UInt8), (100 : UInt8), (101 : UInt8), (102 : UInt8), (103 : UInt8), (104 : UInt8), (105 : UInt8), (106 : UInt8), (107 : UInt8), (108 : UInt8), (109 : UInt8), (110 : UInt8), (111 : UInt8), (112 : UInt8), (113 : UInt8), (114 : UInt8), (115 : UInt8), (116 : UInt8), (117 : UInt8), (118 : UInt8), (119 : UInt8), (120 : UInt8), (121 : UInt8), (122 : UInt8)] : ByteArray } (↑n : Int)).toNat : UInt8 }] = hexB n ∧ True))
theorem fbV_eq (n : Nat) : fbV n = (funC cxb Tryd.f45 (mkSc fbE (bodyOf Tryd.f45)) [Xnil, XU n, XI 16, XB false, XB false] (.tup [Xnil, XT (hexB n)])) := by kernel_rfl
def digs : ByteArray := ⟨#[48, 49, 50, 51, 52, 53, 54, 55, 56, 57, 97, 98, 99, 100, 101, 102, 103, 104, 105, 106, 107, 108, 109, 110, 111, 112, 113, 114, 115, 116, 117, 118, 119, 120, 121, 122]⟩
theorem w16 : IntKind.u64.wrap 16 = 16 := by kernel_rfl
theorem w15 : IntKind.u64.wrap (16 - 1) = 15 := by kernel_rfl
theorem wrapu_in {i : Int} (h0 : 0 ≤ i) (h1 : i < 18446744073709551616) : IntKind.u64.wrap i = i := by
  unfold IntKind.wrap
  simp [IntKind.signed, IntKind.bits]
  omega
theorem and15 (m : Nat) (h : m < 18446744073709551616) : bits .and .u64 (m : Int) 15 = ((m % 16 : Nat) : Int) := by
  show IntKind.u64.wrap ((BitVec.ofInt 64 (m : Int) &&& BitVec.ofInt 64 15).toNat : Int) = _
  have e : (BitVec.ofInt 64 (m : Int) &&& BitVec.ofInt 64 15).toNat = m % 16 := by
    rw [BitVec.toNat_and]
    have h1 : (BitVec.ofInt 64 (m : Int)).toNat = m := by
      rw [BitVec.toNat_ofInt]
      omega
    have h2 : (BitVec.ofInt 64 15).toNat = 15 := by decide
    rw [h1, h2]
    exact Nat.and_two_pow_sub_one_eq_mod m 4
  rw [e, wrapu_in (by omega) (by omega)]
theorem fdiv16 (m : Nat) : (m : Int).fdiv (2 ^ 4) = ((m / 16 : Nat) : Int) := by
  rw [Int.fdiv_eq_ediv_of_nonneg _ (by decide)]
  omega
theorem sb16 : ∀ k : Nat, k < 16 → sbyte digs (k : Int) = ((hexd k).toNat : Int) := by decide +kernel
theorem of8 (b : UInt8) : (⟨BitVec.ofNat 8 ((b.toNat : Int)).toNat⟩ : UInt8) = b := by
  rw [Int.toNat_natCast]
  exact UInt8.ofNat_toNat
theorem w4c : 0 ≤ IntKind.u64.wrap 4 := by decide +kernel
theorem hexL_1 (n : Nat) (h : n < 16) : hexL n = [hexd n] := if_pos h
theorem hexL_2 (n : Nat) (h : ¬ n < 16) (h2 : n < 256) : hexL n = [hexd (n / 16), hexd (n % 16)] := (if_neg h).trans (if_pos h2)
theorem hexL_3 (n : Nat) (h : ¬ n < 16) (h2 : ¬ n < 256) (h3 : n < 4096) : hexL n = [hexd (n / 256), hexd (n / 16 % 16), hexd (n % 16)] := (if_neg h).trans ((if_neg h2).trans (if_pos h3))
theorem hexL_4 (n : Nat) (h : ¬ n < 16) (h2 : ¬ n < 256) (h3 : ¬ n < 4096) : hexL n = [hexd (n / 4096), hexd (n / 256 % 16), hexd (n / 16 % 16), hexd (n % 16)] := (if_neg h).trans ((if_neg h2).trans (if_neg h3))
theorem fb_v (n : Nat) (hn : n < 65536) : fbV n := by
  unfold fbV
  have hd : (⟨#[48, 49, 50, 51, 52, 53, 54, 55, 56, 57, 97, 98, 99, 100, 101, 102, 103, 104, 105, 106, 107, 108, 109, 110, 111, 112, 113, 114, 115, 116, 117, 118, 119, 120, 121, 122]⟩ : ByteArray) = digs := rfl
  rw [hd]
  simp only [w16, w15, fdiv16]
  have a0 := and15 n (by omega)
  have a1 := and15 (n / 16) (by omega)
  have a2 := and15 (n / 16 / 16) (by omega)
  rw [a0, a1, a2]
  have s0 := sb16 (n % 16) (by omega)
  have s1 := sb16 (n / 16 % 16) (by omega)
  have s2 := sb16 (n / 16 / 16 % 16) (by omega)
  have e2 : n / 16 / 16 = n / 256 := by omega
  have e3 : n / 16 / 16 / 16 = n / 4096 := by omega
  rw [s0, s1, s2]
  refine ⟨fun h => absurd h (by decide), fun _ => ⟨trivial, trivial, fun h0 => ⟨by unfold in64; omega, by omega, by omega, by omega, by omega, by omega, w4c, fun h1 => ⟨by unfold in64; omega, by omega, by omega, by omega, by omega, by show 63 < 65; omega, w4c, fun h2 => ⟨by unfold in64; omega, by omega, by omega, by omega, by omega, by show 62 < 65; omega, w4c, fun h3 => ?_, fun h3 => ?_⟩, fun h2 => ?_⟩, fun h1 => ?_⟩, fun h0 => ?_⟩⟩
  · have : (16 : Int) ≤ ((n / 16 / 16 / 16 : Nat) : Int) := of_decide_eq_true h3
    omega
  · have k0 : (16 : Int) ≤ (n : Int) := of_decide_eq_true h0
    have k1 : (16 : Int) ≤ ((n / 16 : Nat) : Int) := of_decide_eq_true h1
    have k2 : (16 : Int) ≤ ((n / 16 / 16 : Nat) : Int) := of_decide_eq_true h2
    have s3 := sb16 (n / 16 / 16 / 16) (by omega)
    rw [s3]
    refine ⟨by unfold in64; omega, by omega, by omega, by omega, by omega, by show 61 < 65; omega, by omega, by omega, by omega, by omega, ?_, trivial, ?_, trivial⟩
    · simp only [of8]
    · simp only [of8]
      unfold hexB
      rw [hexL_4 n (by omega) (by omega) (by omega), e3, e2]
  · have k0 : (16 : Int) ≤ (n : Int) := of_decide_eq_true h0
    have k1 : (16 : Int) ≤ ((n / 16 : Nat) : Int) := of_decide_eq_true h1
    have k2 : ¬ (16 : Int) ≤ ((n / 16 / 16 : Nat) : Int) := of_decide_eq_false h2
    have s3 := sb16 (n / 16 / 16) (by omega)
    rw [s3]
    refine ⟨by unfold in64; omega, by omega, by omega, by omega, by omega, by show 62 < 65; omega, by omega, by omega, by omega, by omega, ?_, trivial, ?_, trivial⟩
    · simp only [of8]
    · simp only [of8]
      unfold hexB
      rw [hexL_3 n (by omega) (by omega) (by omega), e2]
  · have k0 : (16 : Int) ≤ (n : Int) := of_decide_eq_true h0
    have k1 : ¬ (16 : Int) ≤ ((n / 16 : Nat) : Int) := of_decide_eq_false h1
    have s3 := sb16 (n / 16) (by omega)
    rw [s3]
    refine ⟨by unfold in64; omega, by omega, by omega, by omega, by omega, by show 63 < 65; omega, by omega, by omega, by omega, by omega, ?_, trivial, ?_, trivial⟩
    · simp only [of8]
    · simp only [of8]
      unfold hexB
      rw [hexL_2 n (by omega) (by omega)]
  · have k0 : ¬ (16 : Int) ≤ (n : Int) := of_decide_eq_false h0
    have s3 := sb16 n (by omega)
    rw [s3]
    refine ⟨by unfold in64; omega, by omega, by omega, by omega, by omega, by omega, by omega, by omega, by omega, by omega, ?_, trivial, ?_, trivial⟩
    · simp only [of8]
    · simp only [of8]
      unfold hexB
      rw [hexL_1 n (by omega)]
theorem fb_ok : CTok Tryd.prog 45 fbC := ct_ok2 cxb_ok Tryd.func45 rfl (by decide) fun args cs v hC hc => by
  unfold fbC at hC
  split at hC
  · rename_i u b g a
    simp only [Option.some.injEq, Prod.mk.injEq] at hC
    obtain ⟨rfl, rfl⟩ := hC
    have h0 : 0 ≤ u := hc _ (by simp)
    have h1 : u < 65536 := hc _ (by simp)
    obtain rfl : b = 16 := hc _ (by simp)
    obtain rfl : g = false := hc _ (by simp)
    obtain rfl : a = false := hc _ (by simp)
    obtain ⟨n, rfl⟩ : ∃ n : Nat, u = n := ⟨u.toNat, by omega⟩
    exact ⟨[Xnil, XU n, XI 16, XB false, XB false], by kernel_rfl, rfl, rfl, fun _ _ _ h => h, rfl, exv (fbV_eq n) (fb_v n (by omega))⟩
  · cases hC
def cxc : Cx := { cxb with C := (45, fbC) :: cxb.C }
theorem cxc_ok : cxc.ok Tryd.prog := cxb_ok.addC fb_ok
def fmtC : CT := fun args => match args with
  | [.v (.p (.int .i64 u)), .v (.p (.int .i64 b))] => some ([0 ≤ u, u < 65536, b = 16], XT (hexB u.toNat))
  | _ => none
def fiE : Env := { dec := [2] }
def fiV (n : Nat) : Prop :=
  (((16 : Int) == (10 : Int)) = true → ((decide ((0 : Int) ≤ (↑n : Int)) && decide ((↑n : Int) < (100 : Int))) = true → False) ∧ ((decide ((0 : Int) ≤ (↑n : Int)) && decide ((↑n : Int) < (100 : Int))) = false → (decide ((↑n : Int) < (0 : Int)) = true → False) ∧ (decide ((↑n : Int) < (0 : Int)) = false → False))) ∧ (((16 : Int) == (10 : Int)) = false → (0 : Int) ≤ IntKind.u64.wrap (↑n : Int) ∧ IntKind.u64.wrap (↑n : Int) < (65536 : Int) ∧ (16 : Int) = (16 : Int) ∧ decide ((↑n : Int) < (0 : Int)) = false ∧ false = false ∧ hexB (IntKind.u64.wrap (↑n : Int)).toNat = hexB n)
theorem fiV_eq (n : Nat) : fiV n = (funC cxc Tryd.f35 .nil [XI n, XI 16] (XT (hexB n))) := by kernel_rfl
theorem fi_v (n : Nat) (hn : n < 65536) : fiV n := by
  unfold fiV
  have e : IntKind.u64.wrap (n : Int) = n := wrapu_in (by omega) (by omega)
  rw [e]
  exact ⟨fun h => absurd h (by decide), fun _ => ⟨by omega, by omega, rfl, decide_eq_false (by omega), rfl, rfl⟩⟩
theorem fmt_of {f : FuncId} (hf : CTok Tryd.prog f fmtC) : CTok Tryd.prog f fmtC := hf
theorem fi_ok : CTok Tryd.prog 35 fmtC := ct_ok2 cxc_ok Tryd.func35 rfl (by decide) fun args cs v hC hc => by
  unfold fmtC at hC
  split at hC
  · rename_i u b
    simp only [Option.some.injEq, Prod.mk.injEq] at hC
    obtain ⟨rfl, rfl⟩ := hC
    have h0 : 0 ≤ u := hc _ (by simp)
    have h1 : u < 65536 := hc _ (by simp)
    obtain rfl : b = 16 := hc _ (by simp)
    obtain ⟨n, rfl⟩ : ∃ n : Nat, u = n := ⟨u.toNat, by omega⟩
    exact ⟨[XI n, XI 16], by kernel_rfl, rfl, rfl, fun _ _ _ h => h, rfl, exv (fiV_eq n) (fi_v n (by omega))⟩
  · cases hC
def cxd : Cx := { cxc with C := (35, fmtC) :: cxc.C }
theorem cxd_ok : cxd.ok Tryd.prog := cxc_ok.addC fi_ok
def fmV (n : Nat) : Prop :=
  (0 : Int) ≤ (↑n : Int) ∧ (↑n : Int) < (65536 : Int) ∧ (16 : Int) = (16 : Int) ∧ hexB (↑n : Int).toNat = hexB n
theorem fmV_eq (n : Nat) : fmV n = (funC cxd Tryd.f26 .nil [XI n, XI 16] (XT (hexB n))) := by kernel_rfl
theorem fm_v (n : Nat) (hn : n < 65536) : fmV n := by
  unfold fmV
  exact ⟨by omega, by omega, rfl, rfl⟩
theorem fm_ok : CTok Tryd.prog 26 fmtC := ct_ok2 cxd_ok Tryd.func26 rfl (by decide) fun args cs v hC hc => by
  unfold fmtC at hC
  split at hC
  · rename_i u b
    simp only [Option.some.injEq, Prod.mk.injEq] at hC
    obtain ⟨rfl, rfl⟩ := hC
    have h0 : 0 ≤ u := hc _ (by simp)
    have h1 : u < 65536 := hc _ (by simp)
    obtain rfl : b = 16 := hc _ (by simp)
    obtain ⟨n, rfl⟩ : ∃ n : Nat, u = n := ⟨u.toNat, by omega⟩
    exact ⟨[XI n, XI 16], by kernel_rfl, rfl, rfl, fun _ _ _ h => h, rfl, exv (fmV_eq n) (fm_v n (by omega))⟩
  · cases hC
end Go.Proofs.YtghmlhdlkgjbeaaDoorAv
set_option linter.unusedVariables false
set_option linter.unusedSimpArgs false
set_option maxRecDepth 100000
namespace Go.Proofs.YtghmlhdlkgjbeaaDoorAv
open Go Go.RowKit
def lowC : CT := fun args => match args with
  | [.v (.p (.int .u8 x))] => some ([], .v (.p (.int .u8 (bits .or .u8 x 32))))
  | _ => none
def lowV (x : Int) : Prop :=
  bits BinOp.or IntKind.u8 x (32 : Int) = bits BinOp.or IntKind.u8 x (32 : Int)
theorem lowV_eq (x : Int) : lowV x = (funC cx0 Tryd.f49 .nil [X8 x] (X8 (bits .or .u8 x 32))) := by kernel_rfl
theorem low_v (x : Int) : lowV x := by
  unfold lowV
  rfl
theorem low_ok : CTok Tryd.prog 49 lowC := ct_ok2 cx0_ok Tryd.func49 rfl (by decide) fun args cs v hC hc => by
  unfold lowC at hC
  split at hC
  · rename_i x
    simp only [Option.some.injEq, Prod.mk.injEq] at hC
    obtain ⟨rfl, rfl⟩ := hC
    exact ⟨[X8 x], by kernel_rfl, rfl, rfl, fun _ _ _ h => h, rfl, exv (lowV_eq x) (low_v x)⟩
  · cases hC
def cxe : Cx := { cx0 with C := [(49, lowC)] }
theorem cxe_ok : cxe.ok Tryd.prog := cx0_ok.addC low_ok
/-- A sign's number in base 16; 99: it is none. -/
def hx (c : UInt8) : Nat := if 48 ≤ c.toNat ∧ c.toNat ≤ 57 then c.toNat - 48 else if 97 ≤ (c ||| 32).toNat ∧ (c ||| 32).toNat ≤ 102 then (c ||| 32).toNat - 87 else 99
/-- How it ends (0: well, 1: too great, 2: no number), and the number. -/
def pu (n : Nat) : List UInt8 → Nat × Nat
  | [] => (0, n)
  | c :: l => if hx c = 99 then (2, 0) else if 65535 < n * 16 + hx c then (1, 65535) else pu (n * 16 + hx c) l
def pu16 (s : ByteArray) : Nat × Nat := if s = ⟨#[]⟩ then (2, 0) else pu 0 s.data.toList
def eNum (k : Int) : XV := .v (.p (.iface 78 (.int .i64 k)))
def eNil : XV := .v (.p .nilIface)
def puAlts (r : Nat × Nat) : List (Prop × XV) := [(r.1 = 0, .tup [XU r.2, eNil]), (r.1 = 1, .tup [XU r.2, eNum 1]), (r.1 = 2, .tup [XU r.2, eNum 2])]
structure BX where
  i : Nat
  n : Nat
def puI (s : ByteArray) : Inv where
  σ := BX
  S := fun x => ⟨[(1, XI 16), (8, XB false), (10, XU 1152921504606846976), (11, XU 65535), (12, XB false), (13, XU x.n), (99, .sl 0 1 0 s.size), (100, XI s.size), (101, XI x.i)], [(0, .vec 5 false s.size 1 fun j => [X8 (sbyte s j)])], 1, false, []⟩
  inv := fun x => x.i ≤ s.size ∧ x.n ≤ 65535 ∧ pu x.n (s.data.toList.drop x.i) = pu16 s
  μ := fun x => s.size - x.i
def puE (s : ByteArray) : Env := { loops := [(3, puI s)], dec := [7, 22, 24, 29, 31, 57], gdec := [56] }
def puV (s : ByteArray) : Prop :=
  (decide (s = { data := #[] : ByteArray }) = true → (pu16 s).fst = (0 : Nat) ∧ (0 : Int) = (↑(pu16 s).snd : Int) ∧ XV.v (AV.p (Value.iface (78 : Nat) (Value.int IntKind.i64 (2 : Int)))) = XV.v (AV.p Value.nilIface) ∧ True ∨ (pu16 s).fst = (1 : Nat) ∧ (0 : Int) = (↑(pu16 s).snd : Int) ∧ XV.v (AV.p (Value.iface (78 : Nat) (Value.int IntKind.i64 (2 : Int)))) = XV.v (AV.p (Value.iface (78 : TypeId) (Value.int IntKind.i64 (1 : Int)))) ∧ True ∨ (pu16 s).fst = (2 : Nat) ∧ (0 : Int) = (↑(pu16 s).snd : Int) ∧ XV.v (AV.p (Value.iface (78 : Nat) (Value.int IntKind.i64 (2 : Int)))) = XV.v (AV.p (Value.iface (78 : TypeId) (Value.int IntKind.i64 (2 : Int)))) ∧ True ∨ False) ∧ (decide (s = { data := #[] : ByteArray }) = false → (0 : Int) ≤ IntKind.u64.wrap (16 : Int) ∧ (∃ (x : (puI s).σ), (x.i ≤ s.size ∧ x.n ≤ (65535 : Nat) ∧ pu x.n (List.drop x.i s.data.toList) = pu16 s) ∧ true = true ∧ (16 : Int) = (16 : Int) ∧ ((16 : Int) == (0 : Int)) = false ∧ (1152921504606846976 : Int) = (1152921504606846976 : Int) ∧ IntKind.u64.wrap (IntKind.u64.wrap ((1 : Int) * (2 : Int) ^ (16 : Nat)) - (1 : Int)) = (65535 : Int) ∧ false = false ∧ (0 : Int) = (↑x.n : Int) ∧ XV.sl (0 : Nat) (1 : Nat) (0 : Nat) s.size = XV.sl (0 : Nat) (1 : Nat) (0 : Nat) s.size ∧ (↑s.size : Int) = (↑s.size : Int) ∧ (0 : Int) = (↑x.i : Int) ∧ (((5 : TypeId) = (5 : TypeId) ∧ false = false ∧ (1 : Nat) = (1 : Nat)) ∧ s.size = s.size ∧ ∀ (j : Nat), j < s.size → [X8 (sbyte s (↑j : Int))] = [X8 (sbyte s (↑j : Int))]) ∧ True) ∧ ∀ (x : BX), x.i ≤ s.size ∧ x.n ≤ (65535 : Nat) ∧ pu x.n (List.drop x.i s.data.toList) = pu16 s → (decide ((↑x.i : Int) < (↑s.size : Int)) = true → (0 : Int) ≤ (↑x.i : Int) ∧ (↑x.i : Int) < (↑s.size : Int) ∧ (0 : Nat) + (↑x.i : Int).toNat < s.size ∧ ((sbyte s (↑((0 : Nat) + (↑x.i : Int).toNat) : Int) == (95 : Int) && false) = true → in64 ((↑x.i : Int) + (1 : Int)) ∧ ∃ (x' : (puI s).σ), (x'.i ≤ s.size ∧ x'.n ≤ (65535 : Nat) ∧ pu x'.n (List.drop x'.i s.data.toList) = pu16 s) ∧ s.size - x'.i < s.size - x.i ∧ true = true ∧ (16 : Int) = (16 : Int) ∧ false = false ∧ (1152921504606846976 : Int) = (1152921504606846976 : Int) ∧ (65535 : Int) = (65535 : Int) ∧ true = false ∧ (↑x.n : Int) = (↑x'.n : Int) ∧ XV.sl (0 : Nat) (1 : Nat) (0 : Nat) s.size = XV.sl (0 : Nat) (1 : Nat) (0 : Nat) s.size ∧ (↑s.size : Int) = (↑s.size : Int) ∧ (↑x.i : Int) + (1 : Int) = (↑x'.i : Int) ∧ (((5 : TypeId) = (5 : TypeId) ∧ false = false ∧ (1 : Nat) = (1 : Nat)) ∧ s.size = s.size ∧ ∀ (j : Nat), j < s.size → [X8 (sbyte s (↑j : Int))] = [X8 (sbyte s (↑j : Int))]) ∧ True) ∧ ((sbyte s (↑((0 : Nat) + (↑x.i : Int).toNat) : Int) == (95 : Int) && false) = false → (decide ((48 : Int) ≤ sbyte s (↑((0 : Nat) + (↑x.i : Int).toNat) : Int)) = true → decide ((48 : Int) ≤ sbyte s (↑((0 : Nat) + (↑x.i : Int).toNat) : Int)) = true) ∧ (decide ((48 : Int) ≤ sbyte s (↑((0 : Nat) + (↑x.i : Int).toNat) : Int)) = true → decide ((48 : Int) ≤ sbyte s (↑((0 : Nat) + (↑x.i : Int).toNat) : Int)) = true) ∧ ((decide ((48 : Int) ≤ sbyte s (↑((0 : Nat) + (↑x.i : Int).toNat) : Int)) && decide (sbyte s (↑((0 : Nat) + (↑x.i : Int).toNat) : Int) ≤ (57 : Int))) = true → (decide (IntKind.u8.wrap (sbyte s (↑((0 : Nat) + (↑x.i : Int).toNat) : Int) - (48 : Int)) ≥ IntKind.u8.wrap (16 : Int)) = true → (pu16 s).fst = (0 : Nat) ∧ (0 : Int) = (↑(pu16 s).snd : Int) ∧ XV.v (AV.p (Value.iface (78 : Nat) (Value.int IntKind.i64 (2 : Int)))) = XV.v (AV.p Value.nilIface) ∧ True ∨ (pu16 s).fst = (1 : Nat) ∧ (0 : Int) = (↑(pu16 s).snd : Int) ∧ XV.v (AV.p (Value.iface (78 : Nat) (Value.int IntKind.i64 (2 : Int)))) = XV.v (AV.p (Value.iface (78 : TypeId) (Value.int IntKind.i64 (1 : Int)))) ∧ True ∨ (pu16 s).fst = (2 : Nat) ∧ (0 : Int) = (↑(pu16 s).snd : Int) ∧ XV.v (AV.p (Value.iface (78 : Nat) (Value.int IntKind.i64 (2 : Int)))) = XV.v (AV.p (Value.iface (78 : TypeId) (Value.int IntKind.i64 (2 : Int)))) ∧ True ∨ False) ∧ (decide (IntKind.u8.wrap (sbyte s (↑((0 : Nat) + (↑x.i : Int).toNat) : Int) - (48 : Int)) ≥ IntKind.u8.wrap (16 : Int)) = false → (decide ((↑x.n : Int) ≥ (1152921504606846976 : Int)) = true → (pu16 s).fst = (0 : Nat) ∧ (65535 : Int) = (↑(pu16 s).snd : Int) ∧ XV.v (AV.p (Value.iface (78 : Nat) (Value.int IntKind.i64 (1 : Int)))) = XV.v (AV.p Value.nilIface) ∧ True ∨ (pu16 s).fst = (1 : Nat) ∧ (65535 : Int) = (↑(pu16 s).snd : Int) ∧ XV.v (AV.p (Value.iface (78 : Nat) (Value.int IntKind.i64 (1 : Int)))) = XV.v (AV.p (Value.iface (78 : TypeId) (Value.int IntKind.i64 (1 : Int)))) ∧ True ∨ (pu16 s).fst = (2 : Nat) ∧ (65535 : Int) = (↑(pu16 s).snd : Int) ∧ XV.v (AV.p (Value.iface (78 : Nat) (Value.int IntKind.i64 (1 : Int)))) = XV.v (AV.p (Value.iface (78 : TypeId) (Value.int IntKind.i64 (2 : Int)))) ∧ True ∨ False) ∧ (decide ((↑x.n : Int) ≥ (1152921504606846976 : Int)) = false → ((decide (IntKind.u64.wrap (IntKind.u64.wrap ((↑x.n : Int) * IntKind.u64.wrap (16 : Int)) + IntKind.u64.wrap (IntKind.u8.wrap (sbyte s (↑((0 : Nat) + (↑x.i : Int).toNat) : Int) - (48 : Int)))) < IntKind.u64.wrap ((↑x.n : Int) * IntKind.u64.wrap (16 : Int))) || decide (IntKind.u64.wrap (IntKind.u64.wrap ((↑x.n : Int) * IntKind.u64.wrap (16 : Int)) + IntKind.u64.wrap (IntKind.u8.wrap (sbyte s (↑((0 : Nat) + (↑x.i : Int).toNat) : Int) - (48 : Int)))) > (65535 : Int))) = true → (pu16 s).fst = (0 : Nat) ∧ (65535 : Int) = (↑(pu16 s).snd : Int) ∧ XV.v (AV.p (Value.iface (78 : Nat) (Value.int IntKind.i64 (1 : Int)))) = XV.v (AV.p Value.nilIface) ∧ True ∨ (pu16 s).fst = (1 : Nat) ∧ (65535 : Int) = (↑(pu16 s).snd : Int) ∧ XV.v (AV.p (Value.iface (78 : Nat) (Value.int IntKind.i64 (1 : Int)))) = XV.v (AV.p (Value.iface (78 : TypeId) (Value.int IntKind.i64 (1 : Int)))) ∧ True ∨ (pu16 s).fst = (2 : Nat) ∧ (65535 : Int) = (↑(pu16 s).snd : Int) ∧ XV.v (AV.p (Value.iface (78 : Nat) (Value.int IntKind.i64 (1 : Int)))) = XV.v (AV.p (Value.iface (78 : TypeId) (Value.int IntKind.i64 (2 : Int)))) ∧ True ∨ False) ∧ ((decide (IntKind.u64.wrap (IntKind.u64.wrap ((↑x.n : Int) * IntKind.u64.wrap (16 : Int)) + IntKind.u64.wrap (IntKind.u8.wrap (sbyte s (↑((0 : Nat) + (↑x.i : Int).toNat) : Int) - (48 : Int)))) < IntKind.u64.wrap ((↑x.n : Int) * IntKind.u64.wrap (16 : Int))) || decide (IntKind.u64.wrap (IntKind.u64.wrap ((↑x.n : Int) * IntKind.u64.wrap (16 : Int)) + IntKind.u64.wrap (IntKind.u8.wrap (sbyte s (↑((0 : Nat) + (↑x.i : Int).toNat) : Int) - (48 : Int)))) > (65535 : Int))) = false → in64 ((↑x.i : Int) + (1 : Int)) ∧ ∃ (x' : (puI s).σ), (x'.i ≤ s.size ∧ x'.n ≤ (65535 : Nat) ∧ pu x'.n (List.drop x'.i s.data.toList) = pu16 s) ∧ s.size - x'.i < s.size - x.i ∧ true = true ∧ (16 : Int) = (16 : Int) ∧ false = false ∧ (1152921504606846976 : Int) = (1152921504606846976 : Int) ∧ (65535 : Int) = (65535 : Int) ∧ false = false ∧ IntKind.u64.wrap (IntKind.u64.wrap ((↑x.n : Int) * IntKind.u64.wrap (16 : Int)) + IntKind.u64.wrap (IntKind.u8.wrap (sbyte s (↑((0 : Nat) + (↑x.i : Int).toNat) : Int) - (48 : Int)))) = (↑x'.n : Int) ∧ XV.sl (0 : Nat) (1 : Nat) (0 : Nat) s.size = XV.sl (0 : Nat) (1 : Nat) (0 : Nat) s.size ∧ (↑s.size : Int) = (↑s.size : Int) ∧ (↑x.i : Int) + (1 : Int) = (↑x'.i : Int) ∧ (((5 : TypeId) = (5 : TypeId) ∧ false = false ∧ (1 : Nat) = (1 : Nat)) ∧ s.size = s.size ∧ ∀ (j : Nat), j < s.size → [X8 (sbyte s (↑j : Int))] = [X8 (sbyte s (↑j : Int))]) ∧ True)))) ∧ ((decide ((48 : Int) ≤ sbyte s (↑((0 : Nat) + (↑x.i : Int).toNat) : Int)) && decide (sbyte s (↑((0 : Nat) + (↑x.i : Int).toNat) : Int) ≤ (57 : Int))) = false → ((decide ((97 : Int) ≤ bits BinOp.or IntKind.u8 (sbyte s (↑((0 : Nat) + (↑x.i : Int).toNat) : Int)) (32 : Int)) && decide (bits BinOp.or IntKind.u8 (sbyte s (↑((0 : Nat) + (↑x.i : Int).toNat) : Int)) (32 : Int) ≤ (122 : Int))) = true → (decide (IntKind.u8.wrap (IntKind.u8.wrap (bits BinOp.or IntKind.u8 (sbyte s (↑((0 : Nat) + (↑x.i : Int).toNat) : Int)) (32 : Int) - (97 : Int)) + (10 : Int)) ≥ IntKind.u8.wrap (16 : Int)) = true → (pu16 s).fst = (0 : Nat) ∧ (0 : Int) = (↑(pu16 s).snd : Int) ∧ XV.v (AV.p (Value.iface (78 : Nat) (Value.int IntKind.i64 (2 : Int)))) = XV.v (AV.p Value.nilIface) ∧ True ∨ (pu16 s).fst = (1 : Nat) ∧ (0 : Int) = (↑(pu16 s).snd : Int) ∧ XV.v (AV.p (Value.iface (78 : Nat) (Value.int IntKind.i64 (2 : Int)))) = XV.v (AV.p (Value.iface (78 : TypeId) (Value.int IntKind.i64 (1 : Int)))) ∧ True ∨ (pu16 s).fst = (2 : Nat) ∧ (0 : Int) = (↑(pu16 s).snd : Int) ∧ XV.v (AV.p (Value.iface (78 : Nat) (Value.int IntKind.i64 (2 : Int)))) = XV.v (AV.p (Value.iface (78 : TypeId) (Value.int IntKind.i64 (2 : Int)))) ∧ True ∨ False) ∧ (decide (IntKind.u8.wrap (IntKind.u8.wrap (bits BinOp.or IntKind.u8 (sbyte s (↑((0 : Nat) + (↑x.i : Int).toNat) : Int)) (32 : Int) - (97 : Int)) + (10 : Int)) ≥ IntKind.u8.wrap (16 : Int)) = false → (decide ((↑x.n : Int) ≥ (1152921504606846976 : Int)) = true → (pu16 s).fst = (0 : Nat) ∧ (65535 : Int) = (↑(pu16 s).snd : Int) ∧ XV.v (AV.p (Value.iface (78 : Nat) (Value.int IntKind.i64 (1 : Int)))) = XV.v (AV.p Value.nilIface) ∧ True ∨ (pu16 s).fst = (1 : Nat) ∧ (65535 : Int) = (↑(pu16 s).snd : Int) ∧ XV.v (AV.p (Value.iface (78 : Nat) (Value.int IntKind.i64 (1 : Int)))) = XV.v (AV.p (Value.iface (78 : TypeId) (Value.int IntKind.i64 (1 : Int)))) ∧ True ∨ (pu16 s).fst = (2 : Nat) ∧ (65535 : Int) = (↑(pu16 s).snd : Int) ∧ XV.v (AV.p (Value.iface (78 : Nat) (Value.int IntKind.i64 (1 : Int)))) = XV.v (AV.p (Value.iface (78 : TypeId) (Value.int IntKind.i64 (2 : Int)))) ∧ True ∨ False) ∧ (decide ((↑x.n : Int) ≥ (1152921504606846976 : Int)) = false → ((decide (IntKind.u64.wrap (IntKind.u64.wrap ((↑x.n : Int) * IntKind.u64.wrap (16 : Int)) + IntKind.u64.wrap (IntKind.u8.wrap (IntKind.u8.wrap (bits BinOp.or IntKind.u8 (sbyte s (↑((0 : Nat) + (↑x.i : Int).toNat) : Int)) (32 : Int) - (97 : Int)) + (10 : Int)))) < IntKind.u64.wrap ((↑x.n : Int) * IntKind.u64.wrap (16 : Int))) || decide (IntKind.u64.wrap (IntKind.u64.wrap ((↑x.n : Int) * IntKind.u64.wrap (16 : Int)) + IntKind.u64.wrap (IntKind.u8.wrap (IntKind.u8.wrap (bits BinOp.or IntKind.u8 (sbyte s (↑((0 : Nat) + (↑x.i : Int).toNat) : Int)) (32 : Int) - (97 : Int)) + (10 : Int)))) > (65535 : Int))) = true → (pu16 s).fst = (0 : Nat) ∧ (65535 : Int) = (↑(pu16 s).snd : Int) ∧ XV.v (AV.p (Value.iface (78 : Nat) (Value.int IntKind.i64 (1 : Int)))) = XV.v (AV.p Value.nilIface) ∧ True ∨ (pu16 s).fst = (1 : Nat) ∧ (65535 : Int) = (↑(pu16 s).snd : Int) ∧ XV.v (AV.p (Value.iface (78 : Nat) (Value.int IntKind.i64 (1 : Int)))) = XV.v (AV.p (Value.iface (78 : TypeId) (Value.int IntKind.i64 (1 : Int)))) ∧ True ∨ (pu16 s).fst = (2 : Nat) ∧ (65535 : Int) = (↑(pu16 s).snd : Int) ∧ XV.v (AV.p (Value.iface (78 : Nat) (Value.int IntKind.i64 (1 : Int)))) = XV.v (AV.p (Value.iface (78 : TypeId) (Value.int IntKind.i64 (2 : Int)))) ∧ True ∨ False) ∧ ((decide (IntKind.u64.wrap (IntKind.u64.wrap ((↑x.n : Int) * IntKind.u64.wrap (16 : Int)) + IntKind.u64.wrap (IntKind.u8.wrap (IntKind.u8.wrap (bits BinOp.or IntKind.u8 (sbyte s (↑((0 : Nat) + (↑x.i : Int).toNat) : Int)) (32 : Int) - (97 : Int)) + (10 : Int)))) < IntKind.u64.wrap ((↑x.n : Int) * IntKind.u64.wrap (16 : Int))) || decide (IntKind.u64.wrap (IntKind.u64.wrap ((↑x.n : Int) * IntKind.u64.wrap (16 : Int)) + IntKind.u64.wrap (IntKind.u8.wrap (IntKind.u8.wrap (bits BinOp.or IntKind.u8 (sbyte s (↑((0 : Nat) + (↑x.i : Int).toNat) : Int)) (32 : Int) - (97 : Int)) + (10 : Int)))) > (65535 : Int))) = false → in64 ((↑x.i : Int) + (1 : Int)) ∧ ∃ (x' : (puI s).σ), (x'.i ≤ s.size ∧ x'.n ≤ (65535 : Nat) ∧ pu x'.n (List.drop x'.i s.data.toList) = pu16 s) ∧ s.size - x'.i < s.size - x.i ∧ true = true ∧ (16 : Int) = (16 : Int) ∧ false = false ∧ (1152921504606846976 : Int) = (1152921504606846976 : Int) ∧ (65535 : Int) = (65535 : Int) ∧ false = false ∧ IntKind.u64.wrap (IntKind.u64.wrap ((↑x.n : Int) * IntKind.u64.wrap (16 : Int)) + IntKind.u64.wrap (IntKind.u8.wrap (IntKind.u8.wrap (bits BinOp.or IntKind.u8 (sbyte s (↑((0 : Nat) + (↑x.i : Int).toNat) : Int)) (32 : Int) - (97 : Int)) + (10 : Int)))) = (↑x'.n : Int) ∧ XV.sl (0 : Nat) (1 : Nat) (0 : Nat) s.size = XV.sl (0 : Nat) (1 : Nat) (0 : Nat) s.size ∧ (↑s.size : Int) = (↑s.size : Int) ∧ (↑x.i : Int) + (1 : Int) = (↑x'.i : Int) ∧ (((5 : TypeId) = (5 : TypeId) ∧ false = false ∧ (1 : Nat) = (1 : Nat)) ∧ s.size = s.size ∧ ∀ (j : Nat), j < s.size → [X8 (sbyte s (↑j : Int))] = [X8 (sbyte s (↑j : Int))]) ∧ True)))) ∧ ((decide ((97 : Int) ≤ bits BinOp.or IntKind.u8 (sbyte s (↑((0 : Nat) + (↑x.i : Int).toNat) : Int)) (32 : Int)) && decide (bits BinOp.or IntKind.u8 (sbyte s (↑((0 : Nat) + (↑x.i : Int).toNat) : Int)) (32 : Int) ≤ (122 : Int))) = false → (pu16 s).fst = (0 : Nat) ∧ (0 : Int) = (↑(pu16 s).snd : Int) ∧ XV.v (AV.p (Value.iface (78 : Nat) (Value.int IntKind.i64 (2 : Int)))) = XV.v (AV.p Value.nilIface) ∧ True ∨ (pu16 s).fst = (1 : Nat) ∧ (0 : Int) = (↑(pu16 s).snd : Int) ∧ XV.v (AV.p (Value.iface (78 : Nat) (Value.int IntKind.i64 (2 : Int)))) = XV.v (AV.p (Value.iface (78 : TypeId) (Value.int IntKind.i64 (1 : Int)))) ∧ True ∨ (pu16 s).fst = (2 : Nat) ∧ (0 : Int) = (↑(pu16 s).snd : Int) ∧ XV.v (AV.p (Value.iface (78 : Nat) (Value.int IntKind.i64 (2 : Int)))) = XV.v (AV.p (Value.iface (78 : TypeId) (Value.int IntKind.i64 (2 : Int)))) ∧ True ∨ False)))) ∧ (decide ((↑x.i : Int) < (↑s.size : Int)) = false → (pu16 s).fst = (0 : Nat) ∧ (↑x.n : Int) = (↑(pu16 s).snd : Int) ∧ XV.v (AV.p Value.nilIface) = XV.v (AV.p Value.nilIface) ∧ True ∨ (pu16 s).fst = (1 : Nat) ∧ (↑x.n : Int) = (↑(pu16 s).snd : Int) ∧ XV.v (AV.p Value.nilIface) = XV.v (AV.p (Value.iface (78 : TypeId) (Value.int IntKind.i64 (1 : Int)))) ∧ True ∨ (pu16 s).fst = (2 : Nat) ∧ (↑x.n : Int) = (↑(pu16 s).snd : Int) ∧ XV.v (AV.p Value.nilIface) = XV.v (AV.p (Value.iface (78 : TypeId) (Value.int IntKind.i64 (2 : Int)))) ∧ True ∨ False))
theorem puV_eq (s : ByteArray) : puV s = (funA cxe Tryd.f37 (mkSc (puE s) (bodyOf Tryd.f37)) [XT s, XI 16, XI 16] (puAlts (pu16 s))) := by kernel_rfl
theorem or32' : ∀ k : Nat, k < 256 → bits .or .u8 (k : Int) 32 = (((UInt8.ofNat k ||| 32 : UInt8).toNat : Nat) : Int) := by decide +kernel
theorem or32 (c : UInt8) : bits .or .u8 (c.toNat : Int) 32 = ((c ||| 32).toNat : Int) := by
  have h := or32' c.toNat (UInt8.toNat_lt c)
  rw [UInt8.ofNat_toNat] at h
  exact h
theorem hx_1 (c : UInt8) (h : 48 ≤ c.toNat ∧ c.toNat ≤ 57) : hx c = c.toNat - 48 := if_pos h
theorem hx_2 (c : UInt8) (h : ¬ (48 ≤ c.toNat ∧ c.toNat ≤ 57)) (h2 : 97 ≤ (c ||| 32).toNat ∧ (c ||| 32).toNat ≤ 102) : hx c = (c ||| 32).toNat - 87 := (if_neg h).trans (if_pos h2)
theorem hx_3 (c : UInt8) (h : ¬ (48 ≤ c.toNat ∧ c.toNat ≤ 57)) (h2 : ¬ (97 ≤ (c ||| 32).toNat ∧ (c ||| 32).toNat ≤ 102)) : hx c = 99 := (if_neg h).trans (if_neg h2)
theorem pu_cons (n : Nat) (c : UInt8) (l : List UInt8) : pu n (c :: l) = if hx c = 99 then (2, 0) else if 65535 < n * 16 + hx c then (1, 65535) else pu (n * 16 + hx c) l := rfl
theorem pu_v (s : ByteArray) (hs : s.size ≤ 1000000) : puV s := by
  unfold puV
  have w1 : IntKind.u8.wrap 16 = 16 := by kernel_rfl
  refine ⟨fun h => ?_, fun h => ?_⟩
  · have h : s = ⟨#[]⟩ := of_decide_eq_true h
    have e : pu16 s = (2, 0) := if_pos h
    rw [e]
    exact .inr (.inr (.inl ⟨rfl, rfl, rfl, trivial⟩))
  have hne : s ≠ ⟨#[]⟩ := of_decide_eq_false h
  refine ⟨by decide +kernel, ⟨⟨0, 0⟩, ⟨Nat.zero_le _, by decide, ?_⟩, ?_⟩, ?_⟩
  · show pu 0 (s.data.toList.drop 0) = pu16 s
    rw [List.drop_zero]
    exact (if_neg hne).symm
  · exact ⟨rfl, rfl, by kernel_rfl, rfl, by kernel_rfl, rfl, rfl, rfl, rfl, rfl, ⟨⟨rfl, rfl, rfl⟩, rfl, fun _ _ => rfl⟩, trivial⟩
  rintro ⟨xi, xn⟩ ⟨hi, hn, hrec⟩
  have hi : xi ≤ s.size := hi
  have hn : xn ≤ 65535 := hn
  have hrec : pu xn (s.data.toList.drop xi) = pu16 s := hrec
  refine ⟨fun h => ?_, fun h => ?_⟩
  · have hlt : xi < s.size := by
      have : (xi : Int) < (s.size : Int) := of_decide_eq_true h
      omega
    have hlt' : xi < s.data.toList.length := by rw [← size_data]; exact hlt
    have hd : s.data.toList.drop xi = s.data.toList.getD xi 0 :: s.data.toList.drop (xi + 1) := by
      rw [List.drop_eq_getElem_cons hlt', List.getD_eq_getElem?_getD, List.getElem?_eq_getElem hlt']
      rfl
    rw [hd, pu_cons] at hrec
    have ec : sbyte s ((0 + (xi : Int).toNat : Nat) : Int) = ((s.data.toList.getD xi 0).toNat : Int) := by
      unfold sbyte
      rw [show ((0 + (xi : Int).toNat : Nat) : Int).toNat = xi by omega]
    generalize s.data.toList.getD xi 0 = c at hrec ec
    have hc := UInt8.toNat_lt c
    have h64 : in64 ((xi : Int) + 1) := by unfold in64; omega
    dsimp only
    rw [ec, or32]
    generalize hk : (c ||| 32).toNat = k
    have hk8 : k < 256 := by rw [← hk]; exact UInt8.toNat_lt _
    have w2 : IntKind.u64.wrap ((xn : Int) * IntKind.u64.wrap 16) = ((xn * 16 : Nat) : Int) := by
      rw [w16, wrapu_in (by omega) (by omega)]
      omega
    have syn : hx c = 99 → pu16 s = (2, 0) := fun e => by rw [← hrec, if_pos e]
    have rng : hx c ≠ 99 → 65535 < xn * 16 + hx c → pu16 s = (1, 65535) := fun e e2 => by rw [← hrec, if_neg e, if_pos e2]
    have nxt : hx c ≠ 99 → ¬ 65535 < xn * 16 + hx c → pu (xn * 16 + hx c) (s.data.toList.drop (xi + 1)) = pu16 s := fun e e2 => by rw [← hrec, if_neg e, if_neg e2]
    have body : ∀ (d : Int) (dd : Nat), d = (dd : Int) → hx c ≠ 99 → hx c = dd → dd < 256 →
        IntKind.u64.wrap (IntKind.u64.wrap ((xn : Int) * IntKind.u64.wrap 16) + IntKind.u64.wrap d) = ((xn * 16 + dd : Nat) : Int) := fun d dd e1 e2 e3 e4 => by
      rw [w2, e1, wrapu_in (i := (dd : Int)) (by omega) (by omega), wrapu_in (by omega) (by omega)]
      omega
    refine ⟨by omega, by omega, by omega, fun h0 => absurd h0 (by simp), fun _ => ⟨fun h => h, fun h => h, fun hA => ?_, fun hA => ⟨fun hB => ?_, fun hB => ?_⟩⟩⟩
    · have hA' : 48 ≤ c.toNat ∧ c.toNat ≤ 57 := by
        simp only [Bool.and_eq_true, decide_eq_true_eq] at hA
        omega
      have e := hx_1 c hA'
      have ew : IntKind.u8.wrap ((c.toNat : Int) - 48) = ((c.toNat - 48 : Nat) : Int) := by
        rw [wrap8_in (by omega) (by omega)]
        omega
      have hb := body _ _ ew (by omega) e (by omega)
      rw [hb, ew, w1, w2]
      refine ⟨fun h1 => ?_, fun _ => ⟨fun h1 => ?_, fun _ => ⟨fun h1 => ?_, fun h1 => ⟨h64, ⟨xi + 1, xn * 16 + (c.toNat - 48)⟩, ?_⟩⟩⟩⟩
      · have := of_decide_eq_true h1
        omega
      · have := of_decide_eq_true h1
        omega
      · have h1 : 65535 < xn * 16 + (c.toNat - 48) := by
          simp only [Bool.or_eq_true, decide_eq_true_eq] at h1
          omega
        rw [rng (by omega) (by omega)]
        exact .inr (.inl ⟨rfl, rfl, rfl, trivial⟩)
      · have h1 : ¬ 65535 < xn * 16 + (c.toNat - 48) := by
          simp only [Bool.or_eq_false_iff, decide_eq_false_iff_not] at h1
          omega
        have h2 := nxt (by omega) (by omega)
        rw [e] at h2
        exact ⟨⟨hlt, by show xn * 16 + (c.toNat - 48) ≤ 65535; omega, h2⟩, by show s.size - (xi + 1) < s.size - xi; omega, rfl, rfl, rfl, rfl, rfl, rfl, rfl, rfl, rfl, rfl, ⟨⟨rfl, rfl, rfl⟩, rfl, fun _ _ => rfl⟩, trivial⟩
    · have hA' : ¬ (48 ≤ c.toNat ∧ c.toNat ≤ 57) := by
        intro h
        rw [decide_eq_true (by omega), decide_eq_true (by omega)] at hA
        exact absurd hA (by decide)
      have hB' : 97 ≤ k ∧ k ≤ 122 := by
        simp only [Bool.and_eq_true, decide_eq_true_eq] at hB
        omega
      have ew : IntKind.u8.wrap (IntKind.u8.wrap ((k : Int) - 97) + 10) = ((k - 87 : Nat) : Int) := by
        rw [wrap8_in (n := (k : Int) - 97) (by omega) (by omega), wrap8_in (by omega) (by omega)]
        omega
      by_cases hk2 : k ≤ 102
      · have e := hx_2 c hA' (by rw [hk]; omega)
        rw [hk] at e
        have hb := body _ _ ew (by omega) e (by omega)
        rw [hb, ew, w1, w2]
        refine ⟨fun h1 => ?_, fun _ => ⟨fun h1 => ?_, fun _ => ⟨fun h1 => ?_, fun h1 => ⟨h64, ⟨xi + 1, xn * 16 + (k - 87)⟩, ?_⟩⟩⟩⟩
        · have := of_decide_eq_true h1
          omega
        · have := of_decide_eq_true h1
          omega
        · have h1 : 65535 < xn * 16 + (k - 87) := by
            simp only [Bool.or_eq_true, decide_eq_true_eq] at h1
            omega
          rw [rng (by omega) (by omega)]
          exact .inr (.inl ⟨rfl, rfl, rfl, trivial⟩)
        · have h1 : ¬ 65535 < xn * 16 + (k - 87) := by
            simp only [Bool.or_eq_false_iff, decide_eq_false_iff_not] at h1
            omega
          have h2 := nxt (by omega) (by omega)
          rw [e] at h2
          exact ⟨⟨hlt, by show xn * 16 + (k - 87) ≤ 65535; omega, h2⟩, by show s.size - (xi + 1) < s.size - xi; omega, rfl, rfl, rfl, rfl, rfl, rfl, rfl, rfl, rfl, rfl, ⟨⟨rfl, rfl, rfl⟩, rfl, fun _ _ => rfl⟩, trivial⟩
      · have e := hx_3 c hA' (by rw [hk]; omega)
        rw [ew, w1]
        refine ⟨fun _ => ?_, fun h1 => ?_⟩
        · rw [syn e]
          exact .inr (.inr (.inl ⟨rfl, rfl, rfl, trivial⟩))
        · have : ¬ ((k - 87 : Nat) : Int) ≥ 16 := of_decide_eq_false h1
          omega
    · have hA' : ¬ (48 ≤ c.toNat ∧ c.toNat ≤ 57) := by
        intro h
        rw [decide_eq_true (by omega), decide_eq_true (by omega)] at hA
        exact absurd hA (by decide)
      have e := hx_3 c hA' (by
        intro h
        rw [hk] at h
        rw [decide_eq_true (by omega), decide_eq_true (by omega)] at hB
        exact absurd hB (by decide))
      rw [syn e]
      exact .inr (.inr (.inl ⟨rfl, rfl, rfl, trivial⟩))
  · have hge : xi = s.size := by
      have : ¬ (xi : Int) < (s.size : Int) := of_decide_eq_false h
      omega
    rw [hge, List.drop_eq_nil_of_le (by rw [← size_data]; exact Nat.le_refl _)] at hrec
    have e : pu16 s = (0, xn) := hrec.symm
    rw [e]
    exact .inl ⟨rfl, rfl, rfl, trivial⟩
def p10 (s : ByteArray) : Nat × Nat := match Lib.parseUintB 8 s.data.toList with
  | .ok u => (0, u)
  | .range => (1, 255)
  | _ => (2, 0)
def puC : AT := fun args => match args with
  | [.v (.p (.string s)), .v (.p (.int .i64 b)), .v (.p (.int .i64 k))] => match decide (b = 16) with
    | true => some ([s.size ≤ 1000000, k = 16], puAlts (pu16 s))
    | false => some ([s.size ≤ 1000000, b = 10, k = 8], puAlts (p10 s))
  | _ => none
def puC16 : AT := fun args => match args with
  | [.v (.p (.string s)), .v (.p (.int .i64 b)), .v (.p (.int .i64 k))] => match decide (b = 16) with
    | true => some ([s.size ≤ 1000000, k = 16], puAlts (pu16 s))
    | false => none
  | _ => none
def puC10 : AT := fun args => match args with
  | [.v (.p (.string s)), .v (.p (.int .i64 b)), .v (.p (.int .i64 k))] => match decide (b = 16) with
    | true => none
    | false => some ([s.size ≤ 1000000, b = 10, k = 8], puAlts (p10 s))
  | _ => none
theorem puAlts_pd (r : Nat × Nat) : ∀ a ∈ puAlts r, a.2.pd = true := by
  intro a ha
  unfold puAlts at ha
  simp only [List.mem_cons, List.not_mem_nil, or_false] at ha
  rcases ha with rfl | rfl | rfl <;> rfl
theorem pu16_ok : ATok Tryd.prog 37 puC16 := at_ok cxe_ok Tryd.func37 rfl (by decide) fun args cs v hC hc => by
  unfold puC16 at hC
  split at hC
  · rename_i s b k
    split at hC
    · rename_i hb
      obtain rfl : b = 16 := of_decide_eq_true hb
      simp only [Option.some.injEq, Prod.mk.injEq] at hC
      obtain ⟨rfl, rfl⟩ := hC
      have h1 : s.size ≤ 1000000 := hc _ (by simp)
      obtain rfl : k = 16 := hc _ (by simp)
      exact ⟨[XT s, XI 16, XI 16], by kernel_rfl, rfl, rfl, fun _ _ _ h => h, puAlts_pd _, mkSc (puE s) (bodyOf Tryd.f37), by rw [← puV_eq s]; exact pu_v s h1⟩
    · cases hC
  · cases hC
theorem at8_ret (s : ByteArray) : ∃ a ∈ puAlts (p10 s), a.1 ∧ ∀ (L : GH) (w : World), VS L w (toAV a.2) (Lib.uintTupleM 78 255 (Lib.parseUintB 8 s.data.toList)) := by
  unfold p10
  generalize Lib.parseUintB 8 s.data.toList = r
  split
  · refine ⟨_, .head _, rfl, fun L w => ?_⟩
    simp only [toAV, toAVL, VS]
    exact ⟨[_, _], rfl, by simp [VSL, VS, eNil, toAV]⟩
  · refine ⟨_, .tail _ (.head _), rfl, fun L w => ?_⟩
    simp only [toAV, toAVL, VS]
    exact ⟨[_, _], rfl, by simp [VSL, VS, eNum, toAV]⟩
  · rename_i h1 h2
    refine ⟨_, .tail _ (.tail _ (.head _)), rfl, fun L w => ?_⟩
    cases r with
    | ok u => exact absurd rfl (h1 u)
    | range => exact absurd rfl h2
    | _ =>
      simp only [toAV, toAVL, VS]
      exact ⟨[_, _], rfl, by simp [VSL, VS, eNum, toAV]⟩
theorem pu10_ok : ATok Tryd.prog 37 puC10 := at_lib Tryd.func37 rfl (by decide) fun args cs v hC hc => by
  unfold puC10 at hC
  split at hC
  · rename_i s b k
    split at hC
    · cases hC
    · simp only [Option.some.injEq, Prod.mk.injEq] at hC
      obtain ⟨rfl, rfl⟩ := hC
      have h1 : s.size ≤ 1000000 := hc _ (by simp)
      obtain rfl : b = 10 := hc _ (by simp)
      obtain rfl : k = 8 := hc _ (by simp)
      refine ⟨rfl, puAlts_pd _, fun L w xs hg hfr hv => ?_⟩
      have := VSL_map_p (l := [.string s, .int .i64 10, .int .i64 8]) (xs := xs) (show VSL L w [AV.p (.string s), AV.p (.int .i64 10), AV.p (.int .i64 8)] xs from hv)
      subst this
      obtain ⟨a, ha, hp, hvs⟩ := at8_ret s
      refine (Tryd.internal_strconv_ParseUint_10_at8 s (by omega) w).mono fun e w' ⟨he, hw⟩ => ⟨a, ha, hp, _, he, hvs L w', ?_⟩
      rcases hw with rfl | rfl
      · exact Below.refl _ _
      · exact Lib.bytesWorld_below w 5 s
  · cases hC
theorem puC_or (args : List XV) : puC args = puC16 args ∨ puC args = puC10 args := by
  unfold puC puC16 puC10
  split
  · split
    · exact .inl rfl
    · exact .inr rfl
  · exact .inl rfl
theorem atok_or {P : Program} {f : FuncId} {C C1 C2 : AT} (h1 : ATok P f C1) (h2 : ATok P f C2) (h : ∀ args, C args = C1 args ∨ C args = C2 args) : ATok P f C :=
  ⟨h1.1, fun args cs alts hC hc => by
    rcases h args with e | e
    · exact h1.2 args cs alts (e ▸ hC) hc
    · exact h2.2 args cs alts (e ▸ hC) hc⟩
theorem puN_ok : ATok Tryd.prog 37 puC := atok_or pu16_ok pu10_ok puC_or
/-- An error told. -/
def eSome : XV := .v (.iface 81 .top)
def teC : AT := fun args => match args with
  | [.v (.p (.string fn)), .v (.p (.string s)), .v (.p (.int .i64 b)), .v (.p (.int .i64 k)), .v (.p (.iface t (.int .i64 c)))] => some ([s.size ≤ 1000000, t = 78, c = 1 ∨ c = 2], [(True, eSome)])
  | _ => none
theorem glb_ifc {L : GH} {w : World} (hg : Glb L w) {g : Nat} (hm : (g, [GV.ifc]) ∈ glbT) : ∃ ev, w.cell? ⟨g, 0, none⟩ = some ev ∧ (ev = .nilIface ∨ ∃ te pe, ev = .iface te pe) := by
  obtain ⟨-, -, h, -⟩ := hg g [GV.ifc] hm
  obtain ⟨x, hx, hi, -⟩ := h 0 .ifc rfl
  exact ⟨x, hx, hi⟩
theorem te_ok : ATok Tryd.prog 38 teC := at_lib Tryd.func38 rfl (by decide) fun args cs v hC hc => by
  unfold teC at hC
  split at hC
  · rename_i fn s b k t c
    simp only [Option.some.injEq, Prod.mk.injEq] at hC
    obtain ⟨rfl, rfl⟩ := hC
    have h1 : s.size ≤ 1000000 := hc _ (by simp)
    obtain rfl : t = 78 := hc _ (by simp)
    have h3 : c = 1 ∨ c = 2 := hc _ (by simp)
    refine ⟨rfl, fun a ha => by obtain rfl := List.mem_singleton.1 ha; rfl, fun L w xs hg hfr hv => ?_⟩
    have := VSL_map_p (l := [.string fn, .string s, .int .i64 b, .int .i64 k, .iface 78 (.int .i64 c)]) (xs := xs) (show VSL L w [AV.p (.string fn), AV.p (.string s), AV.p (.int .i64 b), AV.p (.int .i64 k), AV.p (.iface 78 (.int .i64 c))] xs from hv)
    subst this
    obtain ⟨ev1, g1, k1⟩ := glb_ifc hg (g := 1) (by simp [glbT])
    obtain ⟨ev2, g2, k2⟩ := glb_ifc hg (g := 2) (by simp [glbT])
    rcases h3 with rfl | rfl
    · refine (Tryd.strconv_toError_range fn s b k ev2 w (by omega) g2 k2).mono fun e w' ⟨N, he, _, _, hw⟩ => ⟨_, .head _, trivial, _, he, ?_, hw⟩
      exact ⟨_, rfl, trivial⟩
    · refine (Tryd.strconv_toError_syntax fn s b k ev1 w (by omega) g1 k1).mono fun e w' ⟨N, he, _, _, hw⟩ => ⟨_, .head _, trivial, _, he, ?_, hw⟩
      exact ⟨_, rfl, trivial⟩
  · cases hC
end Go.Proofs.YtghmlhdlkgjbeaaDoorAv
set_option linter.unusedVariables false
set_option linter.unusedSimpArgs false
set_option maxRecDepth 100000
namespace Go.Proofs.YtghmlhdlkgjbeaaDoorAv
open Go Go.RowKit
def byteO : XV → Option Int
  | .v (.p (.int .u8 i)) => some i
  | _ => none
def byteD (x : XV) : Int := (byteO x).getD 0
theorem byteO_eq {x : XV} {i : Int} (h : byteO x = some i) : x = X8 i := by
  unfold byteO at h
  split at h
  · rw [Option.some.inj h]
  · cases h
def allX8 : List XV → Bool
  | [] => true
  | x :: l => match byteO x with | some _ => allX8 l | none => false
/-- An address, by its bytes. -/
def adr (g : Nat → Int) : XV := .agg [X8 (g 0), X8 (g 1), X8 (g 2), X8 (g 3), X8 (g 4), X8 (g 5), X8 (g 6), X8 (g 7), X8 (g 8), X8 (g 9), X8 (g 10), X8 (g 11), X8 (g 12), X8 (g 13), X8 (g 14), X8 (g 15)]
def dAd : Dc (Nat → Int) := ⟨fun x => match x with
  | .agg cs => match Nat.beq (xlen cs) 16 && allX8 cs with
    | true => some ([], fun i => byteD (xget cs i))
    | false => none
  | _ => none, adr⟩
theorem allX8_get : ∀ (l : List XV) (i : Nat), allX8 l = true → i < l.length → xget l i = X8 (byteD (xget l i))
  | x :: l, i, h, hi => by
    unfold allX8 at h
    split at h
    · rename_i b hb
      cases i with
      | zero =>
        show x = X8 (byteD x)
        unfold byteD
        rw [hb]
        exact byteO_eq hb
      | succ i => exact allX8_get l i h (by simpa using hi)
    · cases h
theorem dAd_eq : DcEq dAd := fun x cs a h _ => by
  simp only [dAd] at h
  split at h
  · rename_i l
    split at h
    · rename_i hl
      simp only [Option.some.injEq, Prod.mk.injEq] at h
      obtain ⟨-, rfl⟩ := h
      simp only [Bool.and_eq_true, beqN, decide_eq_true_eq] at hl
      obtain ⟨h1, h2⟩ := hl
      rw [xlen_eq] at h1
      have e : l = [X8 (byteD (xget l 0)), X8 (byteD (xget l 1)), X8 (byteD (xget l 2)), X8 (byteD (xget l 3)), X8 (byteD (xget l 4)), X8 (byteD (xget l 5)), X8 (byteD (xget l 6)), X8 (byteD (xget l 7)), X8 (byteD (xget l 8)), X8 (byteD (xget l 9)), X8 (byteD (xget l 10)), X8 (byteD (xget l 11)), X8 (byteD (xget l 12)), X8 (byteD (xget l 13)), X8 (byteD (xget l 14)), X8 (byteD (xget l 15))] := by
        rcases l with _ | ⟨a0, _ | ⟨a1, _ | ⟨a2, _ | ⟨a3, _ | ⟨a4, _ | ⟨a5, _ | ⟨a6, _ | ⟨a7, _ | ⟨a8, _ | ⟨a9, _ | ⟨a10, _ | ⟨a11, _ | ⟨a12, _ | ⟨a13, _ | ⟨a14, _ | ⟨a15, _ | ⟨a16, l⟩⟩⟩⟩⟩⟩⟩⟩⟩⟩⟩⟩⟩⟩⟩⟩⟩
        case cons.cons.cons.cons.cons.cons.cons.cons.cons.cons.cons.cons.cons.cons.cons.cons.nil =>
          simp only [List.cons.injEq, and_true]
          exact ⟨allX8_get _ 0 h2 (by show 0 < 16; omega), allX8_get _ 1 h2 (by show 1 < 16; omega), allX8_get _ 2 h2 (by show 2 < 16; omega), allX8_get _ 3 h2 (by show 3 < 16; omega), allX8_get _ 4 h2 (by show 4 < 16; omega), allX8_get _ 5 h2 (by show 5 < 16; omega), allX8_get _ 6 h2 (by show 6 < 16; omega), allX8_get _ 7 h2 (by show 7 < 16; omega), allX8_get _ 8 h2 (by show 8 < 16; omega), allX8_get _ 9 h2 (by show 9 < 16; omega), allX8_get _ 10 h2 (by show 10 < 16; omega), allX8_get _ 11 h2 (by show 11 < 16; omega), allX8_get _ 12 h2 (by show 12 < 16; omega), allX8_get _ 13 h2 (by show 13 < 16; omega), allX8_get _ 14 h2 (by show 14 < 16; omega), allX8_get _ 15 h2 (by show 15 < 16; omega)⟩
        all_goals (exfalso; simp at h1; try omega)
      refine ⟨?_, rfl, ?_⟩
      · show (XV.agg l).pd = true
        rw [e]
        rfl
      · show toAV (XV.agg l) = toAV (adr fun i => byteD (xget l i))
        exact congrArg (fun l => toAV (XV.agg l)) e
    · cases h
  · cases h
def is4 (g : Nat → Int) : Bool := g 0 == 0 && (g 1 == 0 && (g 2 == 0 && (g 3 == 0 && (g 4 == 0 && (g 5 == 0 && (g 6 == 0 && (g 7 == 0 && (g 8 == 0 && (g 9 == 0 && (g 10 == 255 && (g 11 == 255 && true)))))))))))
def is4V (g : Nat → Int) : Prop :=
  (0 : Int) ≤ (0 : Int) ∧ (0 : Int) ≤ (12 : Int) ∧ (12 : Int) ≤ (↑(16 : Nat) : Int) ∧ (12 : Nat) ≤ (12 : Nat) ∧ (g (0 : Nat) == (0 : Int) && (g (1 : Nat) == (0 : Int) && (g (2 : Nat) == (0 : Int) && (g (3 : Nat) == (0 : Int) && (g (4 : Nat) == (0 : Int) && (g (5 : Nat) == (0 : Int) && (g (6 : Nat) == (0 : Int) && (g (7 : Nat) == (0 : Int) && (g (8 : Nat) == (0 : Int) && (g (9 : Nat) == (0 : Int) && (g (10 : Nat) == (255 : Int) && (g (11 : Nat) == (255 : Int) && true)))))))))))) = is4 g
theorem is4V_eq (g : Nat → Int) : is4V g = (funC cx0 Tryd.f14 .nil [adr g] (XB (is4 g))) := by kernel_rfl
def v4 (a b c d : Int) : Nat → Int := fun i => [0, 0, 0, 0, 0, 0, 0, 0, 0, 0, 255, 255, a, b, c, d].getD i 0
def v4V (a b c d : Int) : Prop :=
  (0 : Int) = v4 a b c d (0 : Nat) ∧ (0 : Int) = v4 a b c d (1 : Nat) ∧ (0 : Int) = v4 a b c d (2 : Nat) ∧ (0 : Int) = v4 a b c d (3 : Nat) ∧ (0 : Int) = v4 a b c d (4 : Nat) ∧ (0 : Int) = v4 a b c d (5 : Nat) ∧ (0 : Int) = v4 a b c d (6 : Nat) ∧ (0 : Int) = v4 a b c d (7 : Nat) ∧ (0 : Int) = v4 a b c d (8 : Nat) ∧ (0 : Int) = v4 a b c d (9 : Nat) ∧ (255 : Int) = v4 a b c d (10 : Nat) ∧ (255 : Int) = v4 a b c d (11 : Nat) ∧ a = v4 a b c d (12 : Nat) ∧ b = v4 a b c d (13 : Nat) ∧ c = v4 a b c d (14 : Nat) ∧ d = v4 a b c d (15 : Nat) ∧ True
theorem v4V_eq (a b c d : Int) : v4V a b c d = (funC cx0 Tryd.f15 .nil [X8 a, X8 b, X8 c, X8 d] (adr (v4 a b c d))) := by kernel_rfl
structure IX where
  i : Nat
/-- The bits by which two bytes part, from the first one on. -/
def shB (x y : Int) : Nat → Bool := fun k => bits .and .u8 ((bits .xor .u8 x y).fdiv (2 ^ (min k 8))) 1 == 1
def shF (g h : Nat → Int) : Nat → Nat → Int
  | 0, _ => 128
  | m + 1, i => shG (g i) (h i) (shF g h m (i + 1)) i 8
where shG (x y : Int) (r : Int) (i : Nat) : Nat → Int
  | 0 => r
  | k + 1 => if shB x y k = true then 8 * (i : Int) + 7 - k else shG x y r i k
def shI (g h : Nat → Int) : Inv where
  σ := IX
  S := fun x => ⟨[(2, .ptr 0 0 0 0), (3, .ptr 1 0 0 0), (7, XI x.i)], [(0, .one 23 true (adr g).cells), (1, .one 23 true (adr h).cells)], 2, false, []⟩
  inv := fun x => x.i ≤ 16 ∧ shF g h (16 - x.i) x.i = shF g h 16 0
  μ := fun x => 16 - x.i
def shJ (g h : Nat → Int) (p : IX) : Inv where
  σ := IX
  S := fun x => ⟨[(2, .ptr 0 0 0 0), (3, .ptr 1 0 0 0), (5, XI p.i), (6, XI ((x.i : Int) - 1)), (7, XI p.i)], [(0, .one 23 true (adr g).cells), (1, .one 23 true (adr h).cells)], 2, false, []⟩
  inv := fun x => x.i ≤ 8 ∧ shF.shG (g p.i) (h p.i) (shF g h (15 - p.i) (p.i + 1)) p.i x.i = shF g h 16 0
  μ := fun x => x.i
def shE (g h : Nat → Int) : Env := { loops := [(0, shI g h)], loopsP := [(2, ⟨IX, shJ g h⟩)] }
def shV (g h : Nat → Int) : Prop :=
  (∃ (x : (shI g h).σ), (x.i ≤ (16 : Nat) ∧ shF g h ((16 : Nat) - x.i) x.i = shF g h (16 : Nat) (0 : Nat)) ∧ true = true ∧ XV.ptr (0 : Nat) (0 : Nat) (0 : Nat) (0 : Nat) = XV.ptr (0 : Nat) (0 : Nat) (0 : Nat) (0 : Nat) ∧ XV.ptr ((0 : Nat) + (1 : Nat)) (0 : Nat) (0 : Nat) (0 : Nat) = XV.ptr (1 : Nat) (0 : Nat) (0 : Nat) (0 : Nat) ∧ (0 : Int) = (↑x.i : Int) ∧ (((23 : Nat) = (23 : TypeId) ∧ true = true) ∧ g (0 : Nat) = g (0 : Nat) ∧ g (1 : Nat) = g (1 : Nat) ∧ g (2 : Nat) = g (2 : Nat) ∧ g (3 : Nat) = g (3 : Nat) ∧ g (4 : Nat) = g (4 : Nat) ∧ g (5 : Nat) = g (5 : Nat) ∧ g (6 : Nat) = g (6 : Nat) ∧ g (7 : Nat) = g (7 : Nat) ∧ g (8 : Nat) = g (8 : Nat) ∧ g (9 : Nat) = g (9 : Nat) ∧ g (10 : Nat) = g (10 : Nat) ∧ g (11 : Nat) = g (11 : Nat) ∧ g (12 : Nat) = g (12 : Nat) ∧ g (13 : Nat) = g (13 : Nat) ∧ g (14 : Nat) = g (14 : Nat) ∧ g (15 : Nat) = g (15 : Nat) ∧ True) ∧ (((23 : Nat) = (23 : TypeId) ∧ true = true) ∧ h (0 : Nat) = h (0 : Nat) ∧ h (1 : Nat) = h (1 : Nat) ∧ h (2 : Nat) = h (2 : Nat) ∧ h (3 : Nat) = h (3 : Nat) ∧ h (4 : Nat) = h (4 : Nat) ∧ h (5 : Nat) = h (5 : Nat) ∧ h (6 : Nat) = h (6 : Nat) ∧ h (7 : Nat) = h (7 : Nat) ∧ h (8 : Nat) = h (8 : Nat) ∧ h (9 : Nat) = h (9 : Nat) ∧ h (10 : Nat) = h (10 : Nat) ∧ h (11 : Nat) = h (11 : Nat) ∧ h (12 : Nat) = h (12 : Nat) ∧ h (13 : Nat) = h (13 : Nat) ∧ h (14 : Nat) = h (14 : Nat) ∧ h (15 : Nat) = h (15 : Nat) ∧ True) ∧ True) ∧ ∀ (x : IX), x.i ≤ (16 : Nat) ∧ shF g h ((16 : Nat) - x.i) x.i = shF g h (16 : Nat) (0 : Nat) → (decide ((↑x.i : Int) < (16 : Int)) = true → ∃ (p : { α := IX, J := shJ g h : InvP }.α), (∃ (x_1 : ({ α := IX, J := shJ g h : InvP }.J p).σ), (x_1.i ≤ (8 : Nat) ∧ shF.shG (g p.i) (h p.i) (shF g h ((15 : Nat) - p.i) (p.i + (1 : Nat))) p.i x_1.i = shF g h (16 : Nat) (0 : Nat)) ∧ true = true ∧ XV.ptr (0 : Nat) (0 : Nat) (0 : Nat) (0 : Nat) = XV.ptr (0 : Nat) (0 : Nat) (0 : Nat) (0 : Nat) ∧ XV.ptr (1 : Nat) (0 : Nat) (0 : Nat) (0 : Nat) = XV.ptr (1 : Nat) (0 : Nat) (0 : Nat) (0 : Nat) ∧ (↑x.i : Int) = (↑p.i : Int) ∧ (7 : Int) = (↑x_1.i : Int) - (1 : Int) ∧ (↑x.i : Int) = (↑p.i : Int) ∧ (((23 : TypeId) = (23 : TypeId) ∧ true = true) ∧ g (0 : Nat) = g (0 : Nat) ∧ g (1 : Nat) = g (1 : Nat) ∧ g (2 : Nat) = g (2 : Nat) ∧ g (3 : Nat) = g (3 : Nat) ∧ g (4 : Nat) = g (4 : Nat) ∧ g (5 : Nat) = g (5 : Nat) ∧ g (6 : Nat) = g (6 : Nat) ∧ g (7 : Nat) = g (7 : Nat) ∧ g (8 : Nat) = g (8 : Nat) ∧ g (9 : Nat) = g (9 : Nat) ∧ g (10 : Nat) = g (10 : Nat) ∧ g (11 : Nat) = g (11 : Nat) ∧ g (12 : Nat) = g (12 : Nat) ∧ g (13 : Nat) = g (13 : Nat) ∧ g (14 : Nat) = g (14 : Nat) ∧ g (15 : Nat) = g (15 : Nat) ∧ True) ∧ (((23 : TypeId) = (23 : TypeId) ∧ true = true) ∧ h (0 : Nat) = h (0 : Nat) ∧ h (1 : Nat) = h (1 : Nat) ∧ h (2 : Nat) = h (2 : Nat) ∧ h (3 : Nat) = h (3 : Nat) ∧ h (4 : Nat) = h (4 : Nat) ∧ h (5 : Nat) = h (5 : Nat) ∧ h (6 : Nat) = h (6 : Nat) ∧ h (7 : Nat) = h (7 : Nat) ∧ h (8 : Nat) = h (8 : Nat) ∧ h (9 : Nat) = h (9 : Nat) ∧ h (10 : Nat) = h (10 : Nat) ∧ h (11 : Nat) = h (11 : Nat) ∧ h (12 : Nat) = h (12 : Nat) ∧ h (13 : Nat) = h (13 : Nat) ∧ h (14 : Nat) = h (14 : Nat) ∧ h (15 : Nat) = h (15 : Nat) ∧ True) ∧ True) ∧ ∀ (x_1 : IX), x_1.i ≤ (8 : Nat) ∧ shF.shG (g p.i) (h p.i) (shF g h ((15 : Nat) - p.i) (p.i + (1 : Nat))) p.i x_1.i = shF g h (16 : Nat) (0 : Nat) → (decide ((↑x_1.i : Int) - (1 : Int) ≥ (0 : Int)) = true → (0 : Int) ≤ (↑p.i : Int) ∧ (↑p.i : Int) < (↑(16 : Nat) : Int) ∧ (↑p.i : Int).toNat < [g (0 : Nat), g (1 : Nat), g (2 : Nat), g (3 : Nat), g (4 : Nat), g (5 : Nat), g (6 : Nat), g (7 : Nat), g (8 : Nat), g (9 : Nat), g (10 : Nat), g (11 : Nat), g (12 : Nat), g (13 : Nat), g (14 : Nat), g (15 : Nat)].length ∧ (0 : Int) ≤ (↑p.i : Int) ∧ (↑p.i : Int) < (↑(16 : Nat) : Int) ∧ (↑p.i : Int).toNat < [h (0 : Nat), h (1 : Nat), h (2 : Nat), h (3 : Nat), h (4 : Nat), h (5 : Nat), h (6 : Nat), h (7 : Nat), h (8 : Nat), h (9 : Nat), h (10 : Nat), h (11 : Nat), h (12 : Nat), h (13 : Nat), h (14 : Nat), h (15 : Nat)].length ∧ (0 : Int) ≤ (↑x_1.i : Int) - (1 : Int) ∧ ((bits BinOp.and IntKind.u8 ((bits BinOp.xor IntKind.u8 ([g (0 : Nat), g (1 : Nat), g (2 : Nat), g (3 : Nat), g (4 : Nat), g (5 : Nat), g (6 : Nat), g (7 : Nat), g (8 : Nat), g (9 : Nat), g (10 : Nat), g (11 : Nat), g (12 : Nat), g (13 : Nat), g (14 : Nat), g (15 : Nat)].getD (↑p.i : Int).toNat (0 : Int)) ([h (0 : Nat), h (1 : Nat), h (2 : Nat), h (3 : Nat), h (4 : Nat), h (5 : Nat), h (6 : Nat), h (7 : Nat), h (8 : Nat), h (9 : Nat), h (10 : Nat), h (11 : Nat), h (12 : Nat), h (13 : Nat), h (14 : Nat), h (15 : Nat)].getD (↑p.i : Int).toNat (0 : Int))).fdiv ((2 : Int) ^ min ((↑x_1.i : Int) - (1 : Int)).toNat ((8 : Nat)))) (1 : Int) == (1 : Int)) = true → in64 ((8 : Int) * (↑p.i : Int)) ∧ in64 ((8 : Int) * (↑p.i : Int) + (7 : Int)) ∧ in64 ((8 : Int) * (↑p.i : Int) + (7 : Int) - ((↑x_1.i : Int) - (1 : Int))) ∧ (8 : Int) * (↑p.i : Int) + (7 : Int) - ((↑x_1.i : Int) - (1 : Int)) = shF g h (16 : Nat) (0 : Nat)) ∧ ((bits BinOp.and IntKind.u8 ((bits BinOp.xor IntKind.u8 ([g (0 : Nat), g (1 : Nat), g (2 : Nat), g (3 : Nat), g (4 : Nat), g (5 : Nat), g (6 : Nat), g (7 : Nat), g (8 : Nat), g (9 : Nat), g (10 : Nat), g (11 : Nat), g (12 : Nat), g (13 : Nat), g (14 : Nat), g (15 : Nat)].getD (↑p.i : Int).toNat (0 : Int)) ([h (0 : Nat), h (1 : Nat), h (2 : Nat), h (3 : Nat), h (4 : Nat), h (5 : Nat), h (6 : Nat), h (7 : Nat), h (8 : Nat), h (9 : Nat), h (10 : Nat), h (11 : Nat), h (12 : Nat), h (13 : Nat), h (14 : Nat), h (15 : Nat)].getD (↑p.i : Int).toNat (0 : Int))).fdiv ((2 : Int) ^ min ((↑x_1.i : Int) - (1 : Int)).toNat ((8 : Nat)))) (1 : Int) == (1 : Int)) = false → in64 ((↑x_1.i : Int) - (1 : Int) - (1 : Int)) ∧ ∃ (x' : ({ α := IX, J := shJ g h : InvP }.J p).σ), (x'.i ≤ (8 : Nat) ∧ shF.shG (g p.i) (h p.i) (shF g h ((15 : Nat) - p.i) (p.i + (1 : Nat))) p.i x'.i = shF g h (16 : Nat) (0 : Nat)) ∧ x'.i < x_1.i ∧ true = true ∧ XV.ptr (0 : Nat) (0 : Nat) (0 : Nat) (0 : Nat) = XV.ptr (0 : Nat) (0 : Nat) (0 : Nat) (0 : Nat) ∧ XV.ptr (1 : Nat) (0 : Nat) (0 : Nat) (0 : Nat) = XV.ptr (1 : Nat) (0 : Nat) (0 : Nat) (0 : Nat) ∧ (↑p.i : Int) = (↑p.i : Int) ∧ (↑x_1.i : Int) - (1 : Int) - (1 : Int) = (↑x'.i : Int) - (1 : Int) ∧ (↑p.i : Int) = (↑p.i : Int) ∧ (((23 : TypeId) = (23 : TypeId) ∧ true = true) ∧ g (0 : Nat) = g (0 : Nat) ∧ g (1 : Nat) = g (1 : Nat) ∧ g (2 : Nat) = g (2 : Nat) ∧ g (3 : Nat) = g (3 : Nat) ∧ g (4 : Nat) = g (4 : Nat) ∧ g (5 : Nat) = g (5 : Nat) ∧ g (6 : Nat) = g (6 : Nat) ∧ g (7 : Nat) = g (7 : Nat) ∧ g (8 : Nat) = g (8 : Nat) ∧ g (9 : Nat) = g (9 : Nat) ∧ g (10 : Nat) = g (10 : Nat) ∧ g (11 : Nat) = g (11 : Nat) ∧ g (12 : Nat) = g (12 : Nat) ∧ g (13 : Nat) = g (13 : Nat) ∧ g (14 : Nat) = g (14 : Nat) ∧ g (15 : Nat) = g (15 : Nat) ∧ True) ∧ (((23 : TypeId) = (23 : TypeId) ∧ true = true) ∧ h (0 : Nat) = h (0 : Nat) ∧ h (1 : Nat) = h (1 : Nat) ∧ h (2 : Nat) = h (2 : Nat) ∧ h (3 : Nat) = h (3 : Nat) ∧ h (4 : Nat) = h (4 : Nat) ∧ h (5 : Nat) = h (5 : Nat) ∧ h (6 : Nat) = h (6 : Nat) ∧ h (7 : Nat) = h (7 : Nat) ∧ h (8 : Nat) = h (8 : Nat) ∧ h (9 : Nat) = h (9 : Nat) ∧ h (10 : Nat) = h (10 : Nat) ∧ h (11 : Nat) = h (11 : Nat) ∧ h (12 : Nat) = h (12 : Nat) ∧ h (13 : Nat) = h (13 : Nat) ∧ h (14 : Nat) = h (14 : Nat) ∧ h (15 : Nat) = h (15 : Nat) ∧ True) ∧ True)) ∧ (decide ((↑x_1.i : Int) - (1 : Int) ≥ (0 : Int)) = false → in64 ((↑p.i : Int) + (1 : Int)) ∧ ∃ (x' : (shI g h).σ), (x'.i ≤ (16 : Nat) ∧ shF g h ((16 : Nat) - x'.i) x'.i = shF g h (16 : Nat) (0 : Nat)) ∧ (16 : Nat) - x'.i < (16 : Nat) - x.i ∧ true = true ∧ XV.ptr (0 : Nat) (0 : Nat) (0 : Nat) (0 : Nat) = XV.ptr (0 : Nat) (0 : Nat) (0 : Nat) (0 : Nat) ∧ XV.ptr (1 : Nat) (0 : Nat) (0 : Nat) (0 : Nat) = XV.ptr (1 : Nat) (0 : Nat) (0 : Nat) (0 : Nat) ∧ (↑p.i : Int) + (1 : Int) = (↑x'.i : Int) ∧ (((23 : TypeId) = (23 : TypeId) ∧ true = true) ∧ g (0 : Nat) = g (0 : Nat) ∧ g (1 : Nat) = g (1 : Nat) ∧ g (2 : Nat) = g (2 : Nat) ∧ g (3 : Nat) = g (3 : Nat) ∧ g (4 : Nat) = g (4 : Nat) ∧ g (5 : Nat) = g (5 : Nat) ∧ g (6 : Nat) = g (6 : Nat) ∧ g (7 : Nat) = g (7 : Nat) ∧ g (8 : Nat) = g (8 : Nat) ∧ g (9 : Nat) = g (9 : Nat) ∧ g (10 : Nat) = g (10 : Nat) ∧ g (11 : Nat) = g (11 : Nat) ∧ g (12 : Nat) = g (12 : Nat) ∧ g (13 : Nat) = g (13 : Nat) ∧ g (14 : Nat) = g (14 : Nat) ∧ g (15 : Nat) = g (15 : Nat) ∧ True) ∧ (((23 : TypeId) = (23 : TypeId) ∧ true = true) ∧ h (0 : Nat) = h (0 : Nat) ∧ h (1 : Nat) = h (1 : Nat) ∧ h (2 : Nat) = h (2 : Nat) ∧ h (3 : Nat) = h (3 : Nat) ∧ h (4 : Nat) = h (4 : Nat) ∧ h (5 : Nat) = h (5 : Nat) ∧ h (6 : Nat) = h (6 : Nat) ∧ h (7 : Nat) = h (7 : Nat) ∧ h (8 : Nat) = h (8 : Nat) ∧ h (9 : Nat) = h (9 : Nat) ∧ h (10 : Nat) = h (10 : Nat) ∧ h (11 : Nat) = h (11 : Nat) ∧ h (12 : Nat) = h (12 : Nat) ∧ h (13 : Nat) = h (13 : Nat) ∧ h (14 : Nat) = h (14 : Nat) ∧ h (15 : Nat) = h (15 : Nat) ∧ True) ∧ True)) ∧ (decide ((↑x.i : Int) < (16 : Int)) = false → (128 : Int) = shF g h (16 : Nat) (0 : Nat))
theorem shV_eq (g h : Nat → Int) : shV g h = (funC cx0 Tryd.f16 (mkSc (shE g h) (bodyOf Tryd.f16)) [adr g, adr h] (XI (shF g h 16 0))) := by kernel_rfl
theorem is4_v (g : Nat → Int) : is4V g := ⟨by omega, by omega, by omega, by omega, rfl⟩
theorem is4_ok : CTok Tryd.prog 14 (C1 dAd (fun _ => []) fun g => XB (is4 g)) := C1_ok cx0_ok Tryd.func14 rfl (by decide) dAd_eq.ok (by kernel_rfl) (fun _ => rfl) fun g _ => exv (is4V_eq g) (is4_v g)
theorem v4_v (a b c d : Int) : v4V a b c d := ⟨rfl, rfl, rfl, rfl, rfl, rfl, rfl, rfl, rfl, rfl, rfl, rfl, rfl, rfl, rfl, rfl, trivial⟩
def v4C : CT := fun args => match args with
  | [.v (.p (.int .u8 a)), .v (.p (.int .u8 b)), .v (.p (.int .u8 c)), .v (.p (.int .u8 d))] => some ([], adr (v4 a b c d))
  | _ => none
theorem v4_ok : CTok Tryd.prog 15 v4C := ct_ok2 cx0_ok Tryd.func15 rfl (by decide) fun args cs v hC hc => by
  unfold v4C at hC
  split at hC
  · rename_i a b c d
    simp only [Option.some.injEq, Prod.mk.injEq] at hC
    obtain ⟨rfl, rfl⟩ := hC
    exact ⟨[X8 a, X8 b, X8 c, X8 d], by kernel_rfl, rfl, rfl, fun _ _ _ h => h, rfl, exv (v4V_eq a b c d) (v4_v a b c d)⟩
  · cases hC
theorem get16 (g : Nat → Int) : ∀ j, j < 16 → [g 0, g 1, g 2, g 3, g 4, g 5, g 6, g 7, g 8, g 9, g 10, g 11, g 12, g 13, g 14, g 15].getD j 0 = g j
  | 0, _ => rfl | 1, _ => rfl | 2, _ => rfl | 3, _ => rfl | 4, _ => rfl | 5, _ => rfl | 6, _ => rfl | 7, _ => rfl
  | 8, _ => rfl | 9, _ => rfl | 10, _ => rfl | 11, _ => rfl | 12, _ => rfl | 13, _ => rfl | 14, _ => rfl | 15, _ => rfl
  | n + 16, h => absurd h (by omega)
theorem sh_v (g h : Nat → Int) : shV g h := by
  unfold shV
  refine ⟨⟨⟨0⟩, ⟨Nat.zero_le _, rfl⟩, by and_intros <;> first | with_reducible rfl | exact rfl | trivial⟩, ?_⟩
  rintro ⟨i⟩ ⟨hi, hrec⟩
  have hi : i ≤ 16 := hi
  have hrec : shF g h (16 - i) i = shF g h 16 0 := hrec
  refine ⟨fun h1 => ?_, fun h1 => ?_⟩
  · have hlt : i < 16 := by
      have : (i : Int) < 16 := of_decide_eq_true h1
      omega
    have hg : ∀ e, e = (i : Int).toNat → [g 0, g 1, g 2, g 3, g 4, g 5, g 6, g 7, g 8, g 9, g 10, g 11, g 12, g 13, g 14, g 15].getD e 0 = g i := fun e he => by rw [he]; exact get16 g i hlt
    have hh : ∀ e, e = (i : Int).toNat → [h 0, h 1, h 2, h 3, h 4, h 5, h 6, h 7, h 8, h 9, h 10, h 11, h 12, h 13, h 14, h 15].getD e 0 = h i := fun e he => by rw [he]; exact get16 h i hlt
    rw [show 16 - i = (15 - i) + 1 by omega, shF] at hrec
    refine ⟨⟨i⟩, ⟨⟨8⟩, ⟨Nat.le_refl _, hrec⟩, ?_⟩, ?_⟩
    · exact ⟨rfl, rfl, rfl, rfl, rfl, rfl, by and_intros <;> first | with_reducible rfl | trivial, by and_intros <;> first | with_reducible rfl | trivial, trivial⟩
    · rintro ⟨k⟩ ⟨hk, hr⟩
      have hk : k ≤ 8 := hk
      have hr : shF.shG (g i) (h i) (shF g h (15 - i) (i + 1)) i k = shF g h 16 0 := hr
      refine ⟨fun h2 => ?_, fun h2 => ?_⟩
      · have hk1 : 1 ≤ k := by
          have : (k : Int) - 1 ≥ 0 := of_decide_eq_true h2
          omega
        obtain ⟨j, rfl⟩ : ∃ j, k = j + 1 := ⟨k - 1, by omega⟩
        rw [shF.shG] at hr
        dsimp only
        rw [hg _ rfl, hh _ rfl]
        have ek : (((j + 1 : Nat) : Int) - 1).toNat = j := by omega
        rw [ek]
        refine ⟨by omega, by omega, by show _ < 16; omega, by omega, by omega, by show _ < 16; omega, by omega, fun h3 => ?_, fun h3 => ⟨by unfold in64; omega, ⟨j⟩, ⟨by show j ≤ 8; omega, ?_⟩, by show j < j + 1; omega, ?_⟩⟩
        · have h3' : shB (g i) (h i) j = true := h3
          rw [if_pos h3'] at hr
          refine ⟨by unfold in64; omega, by unfold in64; omega, by unfold in64; omega, ?_⟩
          rw [← hr]
          omega
        · have h3' : ¬ shB (g i) (h i) j = true := fun e => Bool.noConfusion (h3.symm.trans e)
          rw [if_neg h3'] at hr
          exact hr
        · refine ⟨rfl, rfl, rfl, rfl, ?_, rfl, by and_intros <;> first | with_reducible rfl | trivial, by and_intros <;> first | with_reducible rfl | trivial, trivial⟩
          show ((j + 1 : Nat) : Int) - 1 - 1 = (j : Int) - 1
          omega
      · have hk0 : k = 0 := by
          have : ¬ (k : Int) - 1 ≥ 0 := of_decide_eq_false h2
          omega
        rw [hk0, shF.shG] at hr
        refine ⟨by unfold in64; dsimp only; omega, ⟨i + 1⟩, ⟨by show i + 1 ≤ 16; omega, ?_⟩, by show 16 - (i + 1) < 16 - i; omega, ?_⟩
        · show shF g h (16 - (i + 1)) (i + 1) = _
          rw [show 16 - (i + 1) = 15 - i by omega]
          exact hr
        · exact ⟨rfl, rfl, rfl, rfl, by and_intros <;> first | with_reducible rfl | trivial, by and_intros <;> first | with_reducible rfl | trivial, trivial⟩
  · have hge : i = 16 := by
      have : ¬ (i : Int) < 16 := of_decide_eq_false h1
      omega
    rw [hge, Nat.sub_self, shF] at hrec
    exact hrec
theorem sh_ok : CTok Tryd.prog 16 (C2 dAd dAd (fun _ _ => []) fun g h => XI (shF g h 16 0)) := C2_ok cx0_ok Tryd.func16 rfl (by decide) dAd_eq.ok dAd_eq.ok (by kernel_rfl) (fun _ _ => rfl) fun g h _ => exv (shV_eq g h) (sh_v g h)
end Go.Proofs.YtghmlhdlkgjbeaaDoorAv
set_option linter.unusedVariables false
set_option linter.unusedSimpArgs false
set_option maxRecDepth 100000
namespace Go.Proofs.YtghmlhdlkgjbeaaDoorAv
open Go Go.RowKit
def cxf : Cx := { cx0 with L := [(37, itA puC), (38, itA teC)] }
theorem cxf_ok : cxf.ok Tryd.prog := (cx0_ok.addL (itA_ok te_ok)).addL (itA_ok puN_ok)
def ppE : Env := { dec := [3] }
def cxg : Cx := { cxf with C := [(15, v4C), (27, splitC), (29, cutC)], L := (28, inl cxf Tryd.f28 fun _ _ => mkSc ppE (bodyOf Tryd.f28)) :: cxf.L }
theorem cxg_ok : cxg.ok Tryd.prog := (((cxf_ok.addL (inl_ok cxf_ok Tryd.func28 rfl (by decide) _)).addC cut_ok).addC split_ok).addC v4_ok
def pcs (l : List ByteArray) (i : Nat) : ByteArray := l.getD i ⟨#[]⟩
/-- What the first i pieces lay. -/
def fourF (l : List ByteArray) (i : Nat) : Nat → Int := fun k => if k < i then IntKind.u8.wrap ((p10 (pcs l k)).2 : Int) else 0
def zeroA : Nat → Int := fun _ => 0
def fourOk (l : List ByteArray) : Nat → Bool
  | 0 => true
  | i + 1 => fourOk l i && decide ((p10 (pcs l i)).1 = 0)
def fourP (s : ByteArray) : List ByteArray := splitS s ⟨#[46]⟩
def four (s : ByteArray) : (Nat → Int) × Bool := if (fourP s).length = 4 ∧ fourOk (fourP s) 4 = true then (v4 (fourF (fourP s) 4 0) (fourF (fourP s) 4 1) (fourF (fourP s) 4 2) (fourF (fourP s) 4 3), true) else (zeroA, false)
def foI (s : ByteArray) : Inv where
  σ := IX
  S := fun x => ⟨[(2, .ptr 0 0 0 0), (3, XB false), (5, .ptr 1 0 0 0), (16, strsL (fourP s)), (17, XI (fourP s).length), (18, XI x.i)],
    [(0, .one 23 true [X8 0, X8 0, X8 0, X8 0, X8 0, X8 0, X8 0, X8 0, X8 0, X8 0, X8 0, X8 0, X8 0, X8 0, X8 0, X8 0]), (1, .one 31 true [X8 (fourF (fourP s) x.i 0), X8 (fourF (fourP s) x.i 1), X8 (fourF (fourP s) x.i 2), X8 (fourF (fourP s) x.i 3)])], 2, false, []⟩
  inv := fun x => x.i ≤ (fourP s).length ∧ fourOk (fourP s) x.i = true
  μ := fun x => (fourP s).length - x.i
def foE (s : ByteArray) : Env := { loops := [(0, foI s)], dec := [10] }
def foV (s : ByteArray) : Prop :=
  s.size < (4294967281 : Nat) ∧ (1 : Nat) ≤ (1 : Nat) ∧ (((↑(splitS s { data := #[(46 : UInt8)] : ByteArray }).length : Int) != (4 : Int)) = true → ((0 : Int) = (four s).fst (0 : Nat) ∧ (0 : Int) = (four s).fst (1 : Nat) ∧ (0 : Int) = (four s).fst (2 : Nat) ∧ (0 : Int) = (four s).fst (3 : Nat) ∧ (0 : Int) = (four s).fst (4 : Nat) ∧ (0 : Int) = (four s).fst (5 : Nat) ∧ (0 : Int) = (four s).fst (6 : Nat) ∧ (0 : Int) = (four s).fst (7 : Nat) ∧ (0 : Int) = (four s).fst (8 : Nat) ∧ (0 : Int) = (four s).fst (9 : Nat) ∧ (0 : Int) = (four s).fst (10 : Nat) ∧ (0 : Int) = (four s).fst (11 : Nat) ∧ (0 : Int) = (four s).fst (12 : Nat) ∧ (0 : Int) = (four s).fst (13 : Nat) ∧ (0 : Int) = (four s).fst (14 : Nat) ∧ (0 : Int) = (four s).fst (15 : Nat) ∧ True) ∧ false = (four s).snd ∧ True) ∧ (((↑(splitS s { data := #[(46 : UInt8)] : ByteArray }).length : Int) != (4 : Int)) = false → (∃ (x : (foI s).σ), (x.i ≤ (fourP s).length ∧ fourOk (fourP s) x.i = true) ∧ true = true ∧ XV.ptr (0 : Nat) (0 : Nat) (0 : Nat) (0 : Nat) = XV.ptr (0 : Nat) (0 : Nat) (0 : Nat) (0 : Nat) ∧ false = false ∧ XV.ptr ((0 : Nat) + (1 : Nat)) (0 : Nat) (0 : Nat) (0 : Nat) = XV.ptr (1 : Nat) (0 : Nat) (0 : Nat) (0 : Nat) ∧ ((XV.fz (splitS s { data := #[(46 : UInt8)] : ByteArray }).length (1 : Nat) fun (i : Nat) => [XT ((splitS s { data := #[(46 : UInt8)] : ByteArray }).getD i { data := #[] : ByteArray })]) = XV.fz (fourP s).length (1 : Nat) fun (i : Nat) => [XT ((fourP s).getD i { data := #[] : ByteArray })]) ∧ (↑(splitS s { data := #[(46 : UInt8)] : ByteArray }).length : Int) = (↑(fourP s).length : Int) ∧ (0 : Int) = (↑x.i : Int) ∧ (((23 : Nat) = (23 : TypeId) ∧ true = true) ∧ (0 : Int) = (0 : Int) ∧ (0 : Int) = (0 : Int) ∧ (0 : Int) = (0 : Int) ∧ (0 : Int) = (0 : Int) ∧ (0 : Int) = (0 : Int) ∧ (0 : Int) = (0 : Int) ∧ (0 : Int) = (0 : Int) ∧ (0 : Int) = (0 : Int) ∧ (0 : Int) = (0 : Int) ∧ (0 : Int) = (0 : Int) ∧ (0 : Int) = (0 : Int) ∧ (0 : Int) = (0 : Int) ∧ (0 : Int) = (0 : Int) ∧ (0 : Int) = (0 : Int) ∧ (0 : Int) = (0 : Int) ∧ (0 : Int) = (0 : Int) ∧ True) ∧ (((31 : Nat) = (31 : TypeId) ∧ true = true) ∧ (0 : Int) = fourF (fourP s) x.i (0 : Nat) ∧ (0 : Int) = fourF (fourP s) x.i (1 : Nat) ∧ (0 : Int) = fourF (fourP s) x.i (2 : Nat) ∧ (0 : Int) = fourF (fourP s) x.i (3 : Nat) ∧ True) ∧ True) ∧ ∀ (x : IX), x.i ≤ (fourP s).length ∧ fourOk (fourP s) x.i = true → (decide ((↑x.i : Int) < (↑(fourP s).length : Int)) = true → (0 : Int) ≤ (↑x.i : Int) ∧ (↑x.i : Int) < (↑(fourP s).length : Int) ∧ ((fourP s).getD (↑x.i : Int).toNat { data := #[] : ByteArray }).size ≤ (1000000 : Nat) ∧ (10 : Int) = (10 : Int) ∧ (8 : Int) = (8 : Int) ∧ ((p10 ((fourP s).getD (↑x.i : Int).toNat { data := #[] : ByteArray })).fst = (0 : Nat) → (0 : Int) ≤ (↑x.i : Int) ∧ (↑x.i : Int) < (↑(4 : Nat) : Int) ∧ (↑x.i : Int).toNat < [fourF (fourP s) x.i (0 : Nat), fourF (fourP s) x.i (1 : Nat), fourF (fourP s) x.i (2 : Nat), fourF (fourP s) x.i (3 : Nat)].length ∧ in64 ((↑x.i : Int) + (1 : Int)) ∧ ∃ (x' : (foI s).σ), (x'.i ≤ (fourP s).length ∧ fourOk (fourP s) x'.i = true) ∧ (fourP s).length - x'.i < (fourP s).length - x.i ∧ true = true ∧ XV.ptr (0 : Nat) (0 : Nat) (0 : Nat) (0 : Nat) = XV.ptr (0 : Nat) (0 : Nat) (0 : Nat) (0 : Nat) ∧ false = false ∧ XV.ptr (1 : Nat) (0 : Nat) (0 : Nat) (0 : Nat) = XV.ptr (1 : Nat) (0 : Nat) (0 : Nat) (0 : Nat) ∧ ((XV.fz (fourP s).length (1 : Nat) fun (i : Nat) => [XT ((fourP s).getD i { data := #[] : ByteArray })]) = XV.fz (fourP s).length (1 : Nat) fun (i : Nat) => [XT ((fourP s).getD i { data := #[] : ByteArray })]) ∧ (↑(fourP s).length : Int) = (↑(fourP s).length : Int) ∧ (↑x.i : Int) + (1 : Int) = (↑x'.i : Int) ∧ (((23 : TypeId) = (23 : TypeId) ∧ true = true) ∧ (0 : Int) = (0 : Int) ∧ (0 : Int) = (0 : Int) ∧ (0 : Int) = (0 : Int) ∧ (0 : Int) = (0 : Int) ∧ (0 : Int) = (0 : Int) ∧ (0 : Int) = (0 : Int) ∧ (0 : Int) = (0 : Int) ∧ (0 : Int) = (0 : Int) ∧ (0 : Int) = (0 : Int) ∧ (0 : Int) = (0 : Int) ∧ (0 : Int) = (0 : Int) ∧ (0 : Int) = (0 : Int) ∧ (0 : Int) = (0 : Int) ∧ (0 : Int) = (0 : Int) ∧ (0 : Int) = (0 : Int) ∧ (0 : Int) = (0 : Int) ∧ True) ∧ (((31 : TypeId) = (31 : TypeId) ∧ true = true) ∧ (bif (↑x.i : Int).toNat.beq (0 : Nat) then IntKind.u8.wrap (↑(p10 ((fourP s).getD (↑x.i : Int).toNat { data := #[] : ByteArray })).snd : Int) else fourF (fourP s) x.i (0 : Nat)) = fourF (fourP s) x'.i (0 : Nat) ∧ (bif (↑x.i : Int).toNat.beq ((1 : Nat)) then IntKind.u8.wrap (↑(p10 ((fourP s).getD (↑x.i : Int).toNat { data := #[] : ByteArray })).snd : Int) else fourF (fourP s) x.i (1 : Nat)) = fourF (fourP s) x'.i (1 : Nat) ∧ (bif (↑x.i : Int).toNat.beq ((2 : Nat)) then IntKind.u8.wrap (↑(p10 ((fourP s).getD (↑x.i : Int).toNat { data := #[] : ByteArray })).snd : Int) else fourF (fourP s) x.i (2 : Nat)) = fourF (fourP s) x'.i (2 : Nat) ∧ (bif (↑x.i : Int).toNat.beq ((3 : Nat)) then IntKind.u8.wrap (↑(p10 ((fourP s).getD (↑x.i : Int).toNat { data := #[] : ByteArray })).snd : Int) else fourF (fourP s) x.i (3 : Nat)) = fourF (fourP s) x'.i (3 : Nat) ∧ True) ∧ True) ∧ ((p10 ((fourP s).getD (↑x.i : Int).toNat { data := #[] : ByteArray })).fst = (1 : Nat) → ((fourP s).getD (↑x.i : Int).toNat { data := #[] : ByteArray }).size ≤ (1000000 : Nat) ∧ (78 : TypeId) = (78 : TypeId) ∧ ((1 : Int) = (1 : Int) ∨ (1 : Int) = (2 : Int)) ∧ (True → ((0 : Int) = (four s).fst (0 : Nat) ∧ (0 : Int) = (four s).fst (1 : Nat) ∧ (0 : Int) = (four s).fst (2 : Nat) ∧ (0 : Int) = (four s).fst (3 : Nat) ∧ (0 : Int) = (four s).fst (4 : Nat) ∧ (0 : Int) = (four s).fst (5 : Nat) ∧ (0 : Int) = (four s).fst (6 : Nat) ∧ (0 : Int) = (four s).fst (7 : Nat) ∧ (0 : Int) = (four s).fst (8 : Nat) ∧ (0 : Int) = (four s).fst (9 : Nat) ∧ (0 : Int) = (four s).fst (10 : Nat) ∧ (0 : Int) = (four s).fst (11 : Nat) ∧ (0 : Int) = (four s).fst (12 : Nat) ∧ (0 : Int) = (four s).fst (13 : Nat) ∧ (0 : Int) = (four s).fst (14 : Nat) ∧ (0 : Int) = (four s).fst (15 : Nat) ∧ True) ∧ false = (four s).snd ∧ True) ∧ True) ∧ ((p10 ((fourP s).getD (↑x.i : Int).toNat { data := #[] : ByteArray })).fst = (2 : Nat) → ((fourP s).getD (↑x.i : Int).toNat { data := #[] : ByteArray }).size ≤ (1000000 : Nat) ∧ (78 : TypeId) = (78 : TypeId) ∧ ((2 : Int) = (1 : Int) ∨ (2 : Int) = (2 : Int)) ∧ (True → ((0 : Int) = (four s).fst (0 : Nat) ∧ (0 : Int) = (four s).fst (1 : Nat) ∧ (0 : Int) = (four s).fst (2 : Nat) ∧ (0 : Int) = (four s).fst (3 : Nat) ∧ (0 : Int) = (four s).fst (4 : Nat) ∧ (0 : Int) = (four s).fst (5 : Nat) ∧ (0 : Int) = (four s).fst (6 : Nat) ∧ (0 : Int) = (four s).fst (7 : Nat) ∧ (0 : Int) = (four s).fst (8 : Nat) ∧ (0 : Int) = (four s).fst (9 : Nat) ∧ (0 : Int) = (four s).fst (10 : Nat) ∧ (0 : Int) = (four s).fst (11 : Nat) ∧ (0 : Int) = (four s).fst (12 : Nat) ∧ (0 : Int) = (four s).fst (13 : Nat) ∧ (0 : Int) = (four s).fst (14 : Nat) ∧ (0 : Int) = (four s).fst (15 : Nat) ∧ True) ∧ false = (four s).snd ∧ True) ∧ True) ∧ True) ∧ (decide ((↑x.i : Int) < (↑(fourP s).length : Int)) = false → (0 : Int) ≤ (0 : Int) ∧ (0 : Int) < (↑(4 : Nat) : Int) ∧ (0 : Nat) < [fourF (fourP s) x.i (0 : Nat), fourF (fourP s) x.i (1 : Nat), fourF (fourP s) x.i (2 : Nat), fourF (fourP s) x.i (3 : Nat)].length ∧ (0 : Int) ≤ (1 : Int) ∧ (1 : Int) < (↑(4 : Nat) : Int) ∧ (1 : Nat) < [fourF (fourP s) x.i (0 : Nat), fourF (fourP s) x.i (1 : Nat), fourF (fourP s) x.i (2 : Nat), fourF (fourP s) x.i (3 : Nat)].length ∧ (0 : Int) ≤ (2 : Int) ∧ (2 : Int) < (↑(4 : Nat) : Int) ∧ (2 : Nat) < [fourF (fourP s) x.i (0 : Nat), fourF (fourP s) x.i (1 : Nat), fourF (fourP s) x.i (2 : Nat), fourF (fourP s) x.i (3 : Nat)].length ∧ (0 : Int) ≤ (3 : Int) ∧ (3 : Int) < (↑(4 : Nat) : Int) ∧ (3 : Nat) < [fourF (fourP s) x.i (0 : Nat), fourF (fourP s) x.i (1 : Nat), fourF (fourP s) x.i (2 : Nat), fourF (fourP s) x.i (3 : Nat)].length ∧ (v4 ([fourF (fourP s) x.i (0 : Nat), fourF (fourP s) x.i (1 : Nat), fourF (fourP s) x.i (2 : Nat), fourF (fourP s) x.i (3 : Nat)].getD ((0 : Nat)) (0 : Int)) ([fourF (fourP s) x.i (0 : Nat), fourF (fourP s) x.i (1 : Nat), fourF (fourP s) x.i (2 : Nat), fourF (fourP s) x.i (3 : Nat)].getD ((1 : Nat)) (0 : Int)) ([fourF (fourP s) x.i (0 : Nat), fourF (fourP s) x.i (1 : Nat), fourF (fourP s) x.i (2 : Nat), fourF (fourP s) x.i (3 : Nat)].getD ((2 : Nat)) (0 : Int)) ([fourF (fourP s) x.i (0 : Nat), fourF (fourP s) x.i (1 : Nat), fourF (fourP s) x.i (2 : Nat), fourF (fourP s) x.i (3 : Nat)].getD ((3 : Nat)) (0 : Int)) (0 : Nat) = (four s).fst (0 : Nat) ∧ v4 ([fourF (fourP s) x.i (0 : Nat), fourF (fourP s) x.i (1 : Nat), fourF (fourP s) x.i (2 : Nat), fourF (fourP s) x.i (3 : Nat)].getD ((0 : Nat)) (0 : Int)) ([fourF (fourP s) x.i (0 : Nat), fourF (fourP s) x.i (1 : Nat), fourF (fourP s) x.i (2 : Nat), fourF (fourP s) x.i (3 : Nat)].getD ((1 : Nat)) (0 : Int)) ([fourF (fourP s) x.i (0 : Nat), fourF (fourP s) x.i (1 : Nat), fourF (fourP s) x.i (2 : Nat), fourF (fourP s) x.i (3 : Nat)].getD ((2 : Nat)) (0 : Int)) ([fourF (fourP s) x.i (0 : Nat), fourF (fourP s) x.i (1 : Nat), fourF (fourP s) x.i (2 : Nat), fourF (fourP s) x.i (3 : Nat)].getD ((3 : Nat)) (0 : Int)) (1 : Nat) = (four s).fst (1 : Nat) ∧ v4 ([fourF (fourP s) x.i (0 : Nat), fourF (fourP s) x.i (1 : Nat), fourF (fourP s) x.i (2 : Nat), fourF (fourP s) x.i (3 : Nat)].getD ((0 : Nat)) (0 : Int)) ([fourF (fourP s) x.i (0 : Nat), fourF (fourP s) x.i (1 : Nat), fourF (fourP s) x.i (2 : Nat), fourF (fourP s) x.i (3 : Nat)].getD ((1 : Nat)) (0 : Int)) ([fourF (fourP s) x.i (0 : Nat), fourF (fourP s) x.i (1 : Nat), fourF (fourP s) x.i (2 : Nat), fourF (fourP s) x.i (3 : Nat)].getD ((2 : Nat)) (0 : Int)) ([fourF (fourP s) x.i (0 : Nat), fourF (fourP s) x.i (1 : Nat), fourF (fourP s) x.i (2 : Nat), fourF (fourP s) x.i (3 : Nat)].getD ((3 : Nat)) (0 : Int)) (2 : Nat) = (four s).fst (2 : Nat) ∧ v4 ([fourF (fourP s) x.i (0 : Nat), fourF (fourP s) x.i (1 : Nat), fourF (fourP s) x.i (2 : Nat), fourF (fourP s) x.i (3 : Nat)].getD ((0 : Nat)) (0 : Int)) ([fourF (fourP s) x.i (0 : Nat), fourF (fourP s) x.i (1 : Nat), fourF (fourP s) x.i (2 : Nat), fourF (fourP s) x.i (3 : Nat)].getD ((1 : Nat)) (0 : Int)) ([fourF (fourP s) x.i (0 : Nat), fourF (fourP s) x.i (1 : Nat), fourF (fourP s) x.i (2 : Nat), fourF (fourP s) x.i (3 : Nat)].getD ((2 : Nat)) (0 : Int)) ([fourF (fourP s) x.i (0 : Nat), fourF (fourP s) x.i (1 : Nat), fourF (fourP s) x.i (2 : Nat), fourF (fourP s) x.i (3 : Nat)].getD ((3 : Nat)) (0 : Int)) (3 : Nat) = (four s).fst (3 : Nat) ∧ v4 ([fourF (fourP s) x.i (0 : Nat), fourF (fourP s) x.i (1 : Nat), fourF (fourP s) x.i (2 : Nat), fourF (fourP s) x.i (3 : Nat)].getD ((0 : Nat)) (0 : Int)) ([fourF (fourP s) x.i (0 : Nat), fourF (fourP s) x.i (1 : Nat), fourF (fourP s) x.i (2 : Nat), fourF (fourP s) x.i (3 : Nat)].getD ((1 : Nat)) (0 : Int)) ([fourF (fourP s) x.i (0 : Nat), fourF (fourP s) x.i (1 : Nat), fourF (fourP s) x.i (2 : Nat), fourF (fourP s) x.i (3 : Nat)].getD ((2 : Nat)) (0 : Int)) ([fourF (fourP s) x.i (0 : Nat), fourF (fourP s) x.i (1 : Nat), fourF (fourP s) x.i (2 : Nat), fourF (fourP s) x.i (3 : Nat)].getD ((3 : Nat)) (0 : Int)) (4 : Nat) = (four s).fst (4 : Nat) ∧ v4 ([fourF (fourP s) x.i (0 : Nat), fourF (fourP s) x.i (1 : Nat), fourF (fourP s) x.i (2 : Nat), fourF (fourP s) x.i (3 : Nat)].getD ((0 : Nat)) (0 : Int)) ([fourF (fourP s) x.i (0 : Nat), fourF (fourP s) x.i (1 : Nat), fourF (fourP s) x.i (2 : Nat), fourF (fourP s) x.i (3 : Nat)].getD ((1 : Nat)) (0 : Int)) ([fourF (fourP s) x.i (0 : Nat), fourF (fourP s) x.i (1 : Nat), fourF (fourP s) x.i (2 : Nat), fourF (fourP s) x.i (3 : Nat)].getD ((2 : Nat)) (0 : Int)) ([fourF (fourP s) x.i (0 : Nat), fourF (fourP s) x.i (1 : Nat), fourF (fourP s) x.i (2 : Nat), fourF (fourP s) x.i (3 : Nat)].getD ((3 : Nat)) (0 : Int)) (5 : Nat) = (four s).fst (5 : Nat) ∧ v4 ([fourF (fourP s) x.i (0 : Nat), fourF (fourP s) x.i (1 : Nat), fourF (fourP s) x.i (2 : Nat), fourF (fourP s) x.i (3 : Nat)].getD ((0 : Nat)) (0 : Int)) ([fourF (fourP s) x.i (0 : Nat), fourF (fourP s) x.i (1 : Nat), fourF (fourP s) x.i (2 : Nat), fourF (fourP s) x.i (3 : Nat)].getD ((1 : Nat)) (0 : Int)) ([fourF (fourP s) x.i (0 : Nat), fourF (fourP s) x.i (1 : Nat), fourF (fourP s) x.i (2 : Nat), fourF (fourP s) x.i (3 : Nat)].getD ((2 : Nat)) (0 : Int)) ([fourF (fourP s) x.i (0 : Nat), fourF (fourP s) x.i (1 : Nat), fourF (fourP s) x.i (2 : Nat), fourF (fourP s) x.i (3 : Nat)].getD ((3 : Nat)) (0 : Int)) (6 : Nat) = (four s).fst (6 : Nat) ∧ v4 ([fourF (fourP s) x.i (0 : Nat), fourF (fourP s) x.i (1 : Nat), fourF (fourP s) x.i (2 : Nat), fourF (fourP s) x.i (3 : Nat)].getD ((0 : Nat)) (0 : Int)) ([fourF (fourP s) x.i (0 : Nat), fourF (fourP s) x.i (1 : Nat), fourF (fourP s) x.i (2 : Nat), fourF (fourP s) x.i (3 : Nat)].getD ((1 : Nat)) (0 : Int)) ([fourF (fourP s) x.i (0 : Nat), fourF (fourP s) x.i (1 : Nat), fourF (fourP s) x.i (2 : Nat), fourF (fourP s) x.i (3 : Nat)].getD ((2 : Nat)) (0 : Int)) ([fourF (fourP s) x.i (0 : Nat), fourF (fourP s) x.i (1 : Nat), fourF (fourP s) x.i (2 : Nat), fourF (fourP s) x.i (3 : Nat)].getD ((3 : Nat)) (0 : Int)) (7 : Nat) = (four s).fst (7 : Nat) ∧ v4 ([fourF (fourP s) x.i (0 : Nat), fourF (fourP s) x.i (1 : Nat), fourF (fourP s) x.i (2 : Nat), fourF (fourP s) x.i (3 : Nat)].getD ((0 : Nat)) (0 : Int)) ([fourF (fourP s) x.i (0 : Nat), fourF (fourP s) x.i (1 : Nat), fourF (fourP s) x.i (2 : Nat), fourF (fourP s) x.i (3 : Nat)].getD ((1 : Nat)) (0 : Int)) ([fourF (fourP s) x.i (0 : Nat), fourF (fourP s) x.i (1 : Nat), fourF (fourP s) x.i (2 : Nat), fourF (fourP s) x.i (3 : Nat)].getD ((2 : Nat)) (0 : Int)) ([fourF (fourP s) x.i (0 : Nat), fourF (fourP s) x.i (1 : Nat), fourF (fourP s) x.i (2 : Nat), fourF (fourP s) x.i (3 : Nat)].getD ((3 : Nat)) (0 : Int)) (8 : Nat) = (four s).fst (8 : Nat) ∧ v4 ([fourF (fourP s) x.i (0 : Nat), fourF (fourP s) x.i (1 : Nat), fourF (fourP s) x.i (2 : Nat), fourF (fourP s) x.i (3 : Nat)].getD ((0 : Nat)) (0 : Int)) ([fourF (fourP s) x.i (0 : Nat), fourF (fourP s) x.i (1 : Nat), fourF (fourP s) x.i (2 : Nat), fourF (fourP s) x.i (3 : Nat)].getD ((1 : Nat)) (0 : Int)) ([fourF (fourP s) x.i (0 : Nat), fourF (fourP s) x.i (1 : Nat), fourF (fourP s) x.i (2 : Nat), fourF (fourP s) x.i (3 : Nat)].getD ((2 : Nat)) (0 : Int)) ([fourF (fourP s) x.i (0 : Nat), fourF (fourP s) x.i (1 : Nat), fourF (fourP s) x.i (2 : Nat), fourF (fourP s) x.i (3 : Nat)].getD ((3 : Nat)) (0 : Int)) (9 : Nat) = (four s).fst (9 : Nat) ∧ v4 ([fourF (fourP s) x.i (0 : Nat), fourF (fourP s) x.i (1 : Nat), fourF (fourP s) x.i (2 : Nat), fourF (fourP s) x.i (3 : Nat)].getD ((0 : Nat)) (0 : Int)) ([fourF (fourP s) x.i (0 : Nat), fourF (fourP s) x.i (1 : Nat), fourF (fourP s) x.i (2 : Nat), fourF (fourP s) x.i (3 : Nat)].getD ((1 : Nat)) (0 : Int)) ([fourF (fourP s) x.i (0 : Nat), fourF (fourP s) x.i (1 : Nat), fourF (fourP s) x.i (2 : Nat), fourF (fourP s) x.i (3 : Nat)].getD ((2 : Nat)) (0 : Int)) ([fourF (fourP s) x.i (0 : Nat), fourF (fourP s) x.i (1 : Nat), fourF (fourP s) x.i (2 : Nat), fourF (fourP s) x.i (3 : Nat)].getD ((3 : Nat)) (0 : Int)) (10 : Nat) = (four s).fst (10 : Nat) ∧ v4 ([fourF (fourP s) x.i (0 : Nat), fourF (fourP s) x.i (1 : Nat), fourF (fourP s) x.i (2 : Nat), fourF (fourP s) x.i (3 : Nat)].getD ((0 : Nat)) (0 : Int)) ([fourF (fourP s) x.i (0 : Nat), fourF (fourP s) x.i (1 : Nat), fourF (fourP s) x.i (2 : Nat), fourF (fourP s) x.i (3 : Nat)].getD ((1 : Nat)) (0 : Int)) ([fourF (fourP s) x.i (0 : Nat), fourF (fourP s) x.i (1 : Nat), fourF (fourP s) x.i (2 : Nat), fourF (fourP s) x.i (3 : Nat)].getD ((2 : Nat)) (0 : Int)) ([fourF (fourP s) x.i (0 : Nat), fourF (fourP s) x.i (1 : Nat), fourF (fourP s) x.i (2 : Nat), fourF (fourP s) x.i (3 : Nat)].getD ((3 : Nat)) (0 : Int)) (11 : Nat) = (four s).fst (11 : Nat) ∧ v4 ([fourF (fourP s) x.i (0 : Nat), fourF (fourP s) x.i (1 : Nat), fourF (fourP s) x.i (2 : Nat), fourF (fourP s) x.i (3 : Nat)].getD ((0 : Nat)) (0 : Int)) ([fourF (fourP s) x.i (0 : Nat), fourF (fourP s) x.i (1 : Nat), fourF (fourP s) x.i (2 : Nat), fourF (fourP s) x.i (3 : Nat)].getD ((1 : Nat)) (0 : Int)) ([fourF (fourP s) x.i (0 : Nat), fourF (fourP s) x.i (1 : Nat), fourF (fourP s) x.i (2 : Nat), fourF (fourP s) x.i (3 : Nat)].getD ((2 : Nat)) (0 : Int)) ([fourF (fourP s) x.i (0 : Nat), fourF (fourP s) x.i (1 : Nat), fourF (fourP s) x.i (2 : Nat), fourF (fourP s) x.i (3 : Nat)].getD ((3 : Nat)) (0 : Int)) (12 : Nat) = (four s).fst (12 : Nat) ∧ v4 ([fourF (fourP s) x.i (0 : Nat), fourF (fourP s) x.i (1 : Nat), fourF (fourP s) x.i (2 : Nat), fourF (fourP s) x.i (3 : Nat)].getD ((0 : Nat)) (0 : Int)) ([fourF (fourP s) x.i (0 : Nat), fourF (fourP s) x.i (1 : Nat), fourF (fourP s) x.i (2 : Nat), fourF (fourP s) x.i (3 : Nat)].getD ((1 : Nat)) (0 : Int)) ([fourF (fourP s) x.i (0 : Nat), fourF (fourP s) x.i (1 : Nat), fourF (fourP s) x.i (2 : Nat), fourF (fourP s) x.i (3 : Nat)].getD ((2 : Nat)) (0 : Int)) ([fourF (fourP s) x.i (0 : Nat), fourF (fourP s) x.i (1 : Nat), fourF (fourP s) x.i (2 : Nat), fourF (fourP s) x.i (3 : Nat)].getD ((3 : Nat)) (0 : Int)) (13 : Nat) = (four s).fst (13 : Nat) ∧ v4 ([fourF (fourP s) x.i (0 : Nat), fourF (fourP s) x.i (1 : Nat), fourF (fourP s) x.i (2 : Nat), fourF (fourP s) x.i (3 : Nat)].getD ((0 : Nat)) (0 : Int)) ([fourF (fourP s) x.i (0 : Nat), fourF (fourP s) x.i (1 : Nat), fourF (fourP s) x.i (2 : Nat), fourF (fourP s) x.i (3 : Nat)].getD ((1 : Nat)) (0 : Int)) ([fourF (fourP s) x.i (0 : Nat), fourF (fourP s) x.i (1 : Nat), fourF (fourP s) x.i (2 : Nat), fourF (fourP s) x.i (3 : Nat)].getD ((2 : Nat)) (0 : Int)) ([fourF (fourP s) x.i (0 : Nat), fourF (fourP s) x.i (1 : Nat), fourF (fourP s) x.i (2 : Nat), fourF (fourP s) x.i (3 : Nat)].getD ((3 : Nat)) (0 : Int)) (14 : Nat) = (four s).fst (14 : Nat) ∧ v4 ([fourF (fourP s) x.i (0 : Nat), fourF (fourP s) x.i (1 : Nat), fourF (fourP s) x.i (2 : Nat), fourF (fourP s) x.i (3 : Nat)].getD ((0 : Nat)) (0 : Int)) ([fourF (fourP s) x.i (0 : Nat), fourF (fourP s) x.i (1 : Nat), fourF (fourP s) x.i (2 : Nat), fourF (fourP s) x.i (3 : Nat)].getD ((1 : Nat)) (0 : Int)) ([fourF (fourP s) x.i (0 : Nat), fourF (fourP s) x.i (1 : Nat), fourF (fourP s) x.i (2 : Nat), fourF (fourP s) x.i (3 : Nat)].getD ((2 : Nat)) (0 : Int)) ([fourF (fourP s) x.i (0 : Nat), fourF (fourP s) x.i (1 : Nat), fourF (fourP s) x.i (2 : Nat), fourF (fourP s) x.i (3 : Nat)].getD ((3 : Nat)) (0 : Int)) (15 : Nat) = (four s).fst (15 : Nat) ∧ True) ∧ true = (four s).snd ∧ True))
theorem foV_eq (s : ByteArray) : foV s = (funC cxg Tryd.f21 (mkSc (foE s) (bodyOf Tryd.f21)) [XT s] (.tup [adr (four s).1, XB (four s).2])) := by kernel_rfl
theorem pieces_size (s : ByteArray) (c : UInt8) (i : Nat) : (pcs (splitS s ⟨#[c]⟩) i).size ≤ s.size := by
  unfold pcs
  rw [List.getD_eq_getElem?_getD]
  cases h : (splitS s ⟨#[c]⟩)[i]? with
  | none => exact Nat.zero_le _
  | some x =>
    have hx := List.mem_of_getElem? h
    rw [splitS_one] at hx
    obtain ⟨y, hy, rfl⟩ := List.mem_map.1 hx
    have := split1_each c _ y hy
    show (mk8 y).size ≤ _
    rw [mk8_size, size_data s]
    exact this
theorem fourF_succ (l : List ByteArray) (i k : Nat) : (bif i.beq k then IntKind.u8.wrap ((p10 (pcs l i)).2 : Int) else fourF l i k) = fourF l (i + 1) k := by
  unfold fourF
  rw [beqN]
  by_cases e : i = k
  · subst e
    rw [decide_eq_true rfl, cond_true, if_pos (by omega)]
  · rw [decide_eq_false e, cond_false]
    by_cases h : k < i
    · rw [if_pos h, if_pos (by omega)]
    · rw [if_neg h, if_neg (by omega)]
theorem fourOk_le (l : List ByteArray) : ∀ m, fourOk l m = true → ∀ k, k < m → (p10 (pcs l k)).1 = 0
  | m + 1, h, k, hk => by
    unfold fourOk at h
    simp only [Bool.and_eq_true, decide_eq_true_eq] at h
    by_cases e : k = m
    · rw [e]; exact h.2
    · exact fourOk_le l m h.1 k (by omega)
theorem fo_v (s : ByteArray) (hs : s.size ≤ 1000000) : foV s := by
  unfold foV
  have bad : ¬ ((fourP s).length = 4 ∧ fourOk (fourP s) 4 = true) → four s = (zeroA, false) := fun h => if_neg h
  refine ⟨by omega, by omega, fun h => ?_, fun h => ⟨⟨⟨0⟩, ⟨Nat.zero_le _, rfl⟩, ?_⟩, ?_⟩⟩
  · have hn : (fourP s).length ≠ 4 := by
      intro e
      have h : ((fourP s).length : Int) != 4 := h
      rw [e] at h
      exact absurd h (by decide)
    rw [bad (fun e => hn e.1)]
    exact ⟨⟨rfl, rfl, rfl, rfl, rfl, rfl, rfl, rfl, rfl, rfl, rfl, rfl, rfl, rfl, rfl, rfl, trivial⟩, rfl, trivial⟩
  · and_intros <;> first | with_reducible rfl | exact rfl | trivial
  have hn : (fourP s).length = 4 := by
    have h : (((fourP s).length : Int) != 4) = false := h
    have h : ((fourP s).length : Int) = 4 := by simpa using h
    omega
  rintro ⟨i⟩ ⟨hi, hok⟩
  have hi : i ≤ (fourP s).length := hi
  have hok : fourOk (fourP s) i = true := hok
  refine ⟨fun h1 => ?_, fun h1 => ?_⟩
  · have hlt : i < 4 := by
      have : (i : Int) < ((fourP s).length : Int) := of_decide_eq_true h1
      omega
    have hsz := pieces_size s 46 i
    have hsz' : (pcs (fourP s) i).size ≤ 1000000 := by
      have : (pcs (fourP s) i).size ≤ s.size := hsz
      omega
    have stop : (p10 (pcs (fourP s) i)).1 ≠ 0 → four s = (zeroA, false) := fun h => bad fun e => h (fourOk_le _ 4 e.2 i hlt)
    refine ⟨by omega, by dsimp only; omega, hsz', rfl, rfl, fun h2 => ?_, fun h2 => ⟨hsz', rfl, .inl rfl, fun _ => ?_, trivial⟩, fun h2 => ⟨hsz', rfl, .inr rfl, fun _ => ?_, trivial⟩, trivial⟩
    · refine ⟨by omega, by dsimp only; omega, by show i < 4; omega, by unfold in64; dsimp only; omega, ⟨i + 1⟩, ⟨by show i + 1 ≤ _; omega, ?_⟩, by show _ - (i + 1) < _ - i; omega, rfl, rfl, rfl, rfl, rfl, rfl, rfl, ⟨⟨rfl, rfl⟩, rfl, rfl, rfl, rfl, rfl, rfl, rfl, rfl, rfl, rfl, rfl, rfl, rfl, rfl, rfl, rfl, trivial⟩, ⟨⟨rfl, rfl⟩, fourF_succ _ i 0, fourF_succ _ i 1, fourF_succ _ i 2, fourF_succ _ i 3, trivial⟩, trivial⟩
      show (fourOk (fourP s) i && decide ((p10 (pcs (fourP s) i)).1 = 0)) = true
      have h2' : (p10 (pcs (fourP s) i)).1 = 0 := h2
      rw [hok, h2']
      rfl
    · have h2' : (p10 (pcs (fourP s) i)).1 = 1 := h2
      rw [stop (by omega)]
      exact ⟨⟨rfl, rfl, rfl, rfl, rfl, rfl, rfl, rfl, rfl, rfl, rfl, rfl, rfl, rfl, rfl, rfl, trivial⟩, rfl, trivial⟩
    · have h2' : (p10 (pcs (fourP s) i)).1 = 2 := h2
      rw [stop (by omega)]
      exact ⟨⟨rfl, rfl, rfl, rfl, rfl, rfl, rfl, rfl, rfl, rfl, rfl, rfl, rfl, rfl, rfl, rfl, trivial⟩, rfl, trivial⟩
  · have hge : i = 4 := by
      have : ¬ (i : Int) < ((fourP s).length : Int) := of_decide_eq_false h1
      omega
    subst hge
    have e : four s = (v4 (fourF (fourP s) 4 0) (fourF (fourP s) 4 1) (fourF (fourP s) 4 2) (fourF (fourP s) 4 3), true) := if_pos ⟨hn, hok⟩
    rw [e]
    exact ⟨by omega, by omega, by show 0 < 4; omega, by omega, by omega, by show 1 < 4; omega, by omega, by omega, by show 2 < 4; omega, by omega, by omega, by show 3 < 4; omega, ⟨rfl, rfl, rfl, rfl, rfl, rfl, rfl, rfl, rfl, rfl, rfl, rfl, rfl, rfl, rfl, rfl, trivial⟩, rfl, trivial⟩
theorem fo_ok : CTok Tryd.prog 21 (C1 dStr (fun s => [s.size ≤ 1000000]) fun s => .tup [adr (four s).1, XB (four s).2]) := C1_ok cxg_ok Tryd.func21 rfl (by decide) dStr_eq.ok (by kernel_rfl) (fun _ => rfl) fun s hc => exv (foV_eq s) (fo_v s (hc _ (by simp)))
end Go.Proofs.YtghmlhdlkgjbeaaDoorAv
