/- addr: Print's contract, Parse. -/
import Derived.Test.YtghmlhdlkgjbeaaDoorAdF
set_option linter.unusedVariables false
set_option linter.unusedSimpArgs false
set_option maxRecDepth 100000
namespace Go.Proofs.YtghmlhdlkgjbeaaDoorAv
open Go Go.RowKit
/-- Sixteen bytes. -/
def b16 (g : Nat → Int) : Prop := ∀ k, k < 16 → 0 ≤ g k ∧ g k ≤ 255
def prnC : CT := C1 dAL (fun g => [b16 g]) fun g => XT (prn g)
theorem pr_ok : CTok Tryd.prog 13 prnC := C1_ok cxp_ok Tryd.func13 rfl (by decide) dAL_eq.ok (by kernel_rfl) (fun _ => rfl) fun g hc => exv (prV_eq g) (pr_v g (hc (b16 g) (.head _)))
def foC : CT := C1 dStr (fun s => [s.size ≤ 1000000]) fun s => .tup [adr (four s).1, XB (four s).2]
def siC : CT := C1 dStr (fun s => [s.size ≤ 1000000]) fun s => .tup [adr (six s).1, XB (six s).2]
def cxq : Cx := { cx0 with C := [(21, foC), (22, siC), (13, prnC)] }
theorem cxq_ok : cxq.ok Tryd.prog := ((cx0_ok.addC pr_ok).addC si_ok).addC fo_ok
/-- The address that a text is read as, right or not. -/
def parB (s : ByteArray) : Nat → Int := if (four s).2 = true then (four s).1 else (six s).1
def parOk (s : ByteArray) : Bool := ((four s).2 || (six s).2) && decide (prn (parB s) = s)
def parA (s : ByteArray) : Nat → Int := if parOk s = true then parB s else zeroA
def parN (s : ByteArray) : Int := if parOk s = true then 0 else 5
def paV (s : ByteArray) : Prop :=
  s.size ≤ (1000000 : Nat) ∧ ((!(four s).snd) = true → s.size ≤ (1000000 : Nat) ∧ ((!!(six s).snd) = true → b16 fun (i : Nat) => [(six s).fst (0 : Nat), (six s).fst (1 : Nat), (six s).fst (2 : Nat), (six s).fst (3 : Nat), (six s).fst (4 : Nat), (six s).fst (5 : Nat), (six s).fst (6 : Nat), (six s).fst (7 : Nat), (six s).fst (8 : Nat), (six s).fst (9 : Nat), (six s).fst (10 : Nat), (six s).fst (11 : Nat), (six s).fst (12 : Nat), (six s).fst (13 : Nat), (six s).fst (14 : Nat), (six s).fst (15 : Nat)].getD i (0 : Int)) ∧ ((!(six s).snd || !decide ((prn fun (i : Nat) => [(six s).fst (0 : Nat), (six s).fst (1 : Nat), (six s).fst (2 : Nat), (six s).fst (3 : Nat), (six s).fst (4 : Nat), (six s).fst (5 : Nat), (six s).fst (6 : Nat), (six s).fst (7 : Nat), (six s).fst (8 : Nat), (six s).fst (9 : Nat), (six s).fst (10 : Nat), (six s).fst (11 : Nat), (six s).fst (12 : Nat), (six s).fst (13 : Nat), (six s).fst (14 : Nat), (six s).fst (15 : Nat)].getD i (0 : Int)) = s)) = true → ((0 : Int) = parA s (0 : Nat) ∧ (0 : Int) = parA s (1 : Nat) ∧ (0 : Int) = parA s (2 : Nat) ∧ (0 : Int) = parA s (3 : Nat) ∧ (0 : Int) = parA s (4 : Nat) ∧ (0 : Int) = parA s (5 : Nat) ∧ (0 : Int) = parA s (6 : Nat) ∧ (0 : Int) = parA s (7 : Nat) ∧ (0 : Int) = parA s (8 : Nat) ∧ (0 : Int) = parA s (9 : Nat) ∧ (0 : Int) = parA s (10 : Nat) ∧ (0 : Int) = parA s (11 : Nat) ∧ (0 : Int) = parA s (12 : Nat) ∧ (0 : Int) = parA s (13 : Nat) ∧ (0 : Int) = parA s (14 : Nat) ∧ (0 : Int) = parA s (15 : Nat) ∧ True) ∧ (5 : Int) = parN s ∧ True) ∧ ((!(six s).snd || !decide ((prn fun (i : Nat) => [(six s).fst (0 : Nat), (six s).fst (1 : Nat), (six s).fst (2 : Nat), (six s).fst (3 : Nat), (six s).fst (4 : Nat), (six s).fst (5 : Nat), (six s).fst (6 : Nat), (six s).fst (7 : Nat), (six s).fst (8 : Nat), (six s).fst (9 : Nat), (six s).fst (10 : Nat), (six s).fst (11 : Nat), (six s).fst (12 : Nat), (six s).fst (13 : Nat), (six s).fst (14 : Nat), (six s).fst (15 : Nat)].getD i (0 : Int)) = s)) = false → ((six s).fst (0 : Nat) = parA s (0 : Nat) ∧ (six s).fst (1 : Nat) = parA s (1 : Nat) ∧ (six s).fst (2 : Nat) = parA s (2 : Nat) ∧ (six s).fst (3 : Nat) = parA s (3 : Nat) ∧ (six s).fst (4 : Nat) = parA s (4 : Nat) ∧ (six s).fst (5 : Nat) = parA s (5 : Nat) ∧ (six s).fst (6 : Nat) = parA s (6 : Nat) ∧ (six s).fst (7 : Nat) = parA s (7 : Nat) ∧ (six s).fst (8 : Nat) = parA s (8 : Nat) ∧ (six s).fst (9 : Nat) = parA s (9 : Nat) ∧ (six s).fst (10 : Nat) = parA s (10 : Nat) ∧ (six s).fst (11 : Nat) = parA s (11 : Nat) ∧ (six s).fst (12 : Nat) = parA s (12 : Nat) ∧ (six s).fst (13 : Nat) = parA s (13 : Nat) ∧ (six s).fst (14 : Nat) = parA s (14 : Nat) ∧ (six s).fst (15 : Nat) = parA s (15 : Nat) ∧ True) ∧ (0 : Int) = parN s ∧ True)) ∧ ((!(four s).snd) = false → ((!!(four s).snd) = true → b16 fun (i : Nat) => [(four s).fst (0 : Nat), (four s).fst (1 : Nat), (four s).fst (2 : Nat), (four s).fst (3 : Nat), (four s).fst (4 : Nat), (four s).fst (5 : Nat), (four s).fst (6 : Nat), (four s).fst (7 : Nat), (four s).fst (8 : Nat), (four s).fst (9 : Nat), (four s).fst (10 : Nat), (four s).fst (11 : Nat), (four s).fst (12 : Nat), (four s).fst (13 : Nat), (four s).fst (14 : Nat), (four s).fst (15 : Nat)].getD i (0 : Int)) ∧ ((!(four s).snd || !decide ((prn fun (i : Nat) => [(four s).fst (0 : Nat), (four s).fst (1 : Nat), (four s).fst (2 : Nat), (four s).fst (3 : Nat), (four s).fst (4 : Nat), (four s).fst (5 : Nat), (four s).fst (6 : Nat), (four s).fst (7 : Nat), (four s).fst (8 : Nat), (four s).fst (9 : Nat), (four s).fst (10 : Nat), (four s).fst (11 : Nat), (four s).fst (12 : Nat), (four s).fst (13 : Nat), (four s).fst (14 : Nat), (four s).fst (15 : Nat)].getD i (0 : Int)) = s)) = true → ((0 : Int) = parA s (0 : Nat) ∧ (0 : Int) = parA s (1 : Nat) ∧ (0 : Int) = parA s (2 : Nat) ∧ (0 : Int) = parA s (3 : Nat) ∧ (0 : Int) = parA s (4 : Nat) ∧ (0 : Int) = parA s (5 : Nat) ∧ (0 : Int) = parA s (6 : Nat) ∧ (0 : Int) = parA s (7 : Nat) ∧ (0 : Int) = parA s (8 : Nat) ∧ (0 : Int) = parA s (9 : Nat) ∧ (0 : Int) = parA s (10 : Nat) ∧ (0 : Int) = parA s (11 : Nat) ∧ (0 : Int) = parA s (12 : Nat) ∧ (0 : Int) = parA s (13 : Nat) ∧ (0 : Int) = parA s (14 : Nat) ∧ (0 : Int) = parA s (15 : Nat) ∧ True) ∧ (5 : Int) = parN s ∧ True) ∧ ((!(four s).snd || !decide ((prn fun (i : Nat) => [(four s).fst (0 : Nat), (four s).fst (1 : Nat), (four s).fst (2 : Nat), (four s).fst (3 : Nat), (four s).fst (4 : Nat), (four s).fst (5 : Nat), (four s).fst (6 : Nat), (four s).fst (7 : Nat), (four s).fst (8 : Nat), (four s).fst (9 : Nat), (four s).fst (10 : Nat), (four s).fst (11 : Nat), (four s).fst (12 : Nat), (four s).fst (13 : Nat), (four s).fst (14 : Nat), (four s).fst (15 : Nat)].getD i (0 : Int)) = s)) = false → ((four s).fst (0 : Nat) = parA s (0 : Nat) ∧ (four s).fst (1 : Nat) = parA s (1 : Nat) ∧ (four s).fst (2 : Nat) = parA s (2 : Nat) ∧ (four s).fst (3 : Nat) = parA s (3 : Nat) ∧ (four s).fst (4 : Nat) = parA s (4 : Nat) ∧ (four s).fst (5 : Nat) = parA s (5 : Nat) ∧ (four s).fst (6 : Nat) = parA s (6 : Nat) ∧ (four s).fst (7 : Nat) = parA s (7 : Nat) ∧ (four s).fst (8 : Nat) = parA s (8 : Nat) ∧ (four s).fst (9 : Nat) = parA s (9 : Nat) ∧ (four s).fst (10 : Nat) = parA s (10 : Nat) ∧ (four s).fst (11 : Nat) = parA s (11 : Nat) ∧ (four s).fst (12 : Nat) = parA s (12 : Nat) ∧ (four s).fst (13 : Nat) = parA s (13 : Nat) ∧ (four s).fst (14 : Nat) = parA s (14 : Nat) ∧ (four s).fst (15 : Nat) = parA s (15 : Nat) ∧ True) ∧ (0 : Int) = parN s ∧ True))
theorem paV_eq (s : ByteArray) : paV s = (funC cxq Tryd.f12 .nil [XT s] (.tup [adr (parA s), XI (parN s)])) := by kernel_rfl
theorem wrap8 (n : Int) : 0 ≤ IntKind.u8.wrap n ∧ IntKind.u8.wrap n ≤ 255 := by
  have e : IntKind.u8.wrap n = n % 256 := by simp [IntKind.wrap, IntKind.bits, IntKind.signed]
  rw [e]
  omega
theorem zero_b : b16 zeroA := fun k _ => ⟨Int.le_refl 0, by show (0 : Int) ≤ 255; omega⟩
theorem fourF_b (l : List ByteArray) (i k : Nat) : 0 ≤ fourF l i k ∧ fourF l i k ≤ 255 := by
  unfold fourF
  split
  · exact wrap8 _
  · omega
theorem v4_b (a b c d : Int) (ha : 0 ≤ a ∧ a ≤ 255) (hb : 0 ≤ b ∧ b ≤ 255) (hc : 0 ≤ c ∧ c ≤ 255) (hd : 0 ≤ d ∧ d ≤ 255) : b16 (v4 a b c d) := fun k hk => by
  have h0 : (0 : Int) ≤ 0 ∧ (0 : Int) ≤ 255 := by omega
  have h1 : (0 : Int) ≤ 255 ∧ (255 : Int) ≤ 255 := by omega
  rcases k with _ | _ | _ | _ | _ | _ | _ | _ | _ | _ | _ | _ | _ | _ | _ | _ | k
  case zero => exact h0
  case succ.succ.succ.succ.succ.succ.succ.succ.succ.succ.succ.succ.succ.succ.succ.succ => exact absurd hk (by omega)
  all_goals first | exact h0 | exact h1 | exact ha | exact hb | exact hc | exact hd
theorem four_b (s : ByteArray) : b16 (four s).1 := by
  unfold four
  split
  · exact v4_b _ _ _ _ (fourF_b _ _ _) (fourF_b _ _ _) (fourF_b _ _ _) (fourF_b _ _ _)
  · exact zero_b
theorem sixA_b (p : LR) : ∀ i k, 0 ≤ sixA p i k ∧ sixA p i k ≤ 255
  | 0, k => ⟨Int.le_refl 0, by show (0 : Int) ≤ 255; omega⟩
  | i + 1, k => by
    rw [sixA]
    dsimp only
    split
    · exact wrap8 _
    · split
      · exact wrap8 _
      · exact sixA_b p i k
theorem six_b (s : ByteArray) : b16 (six s).1 := by
  unfold six
  split
  · exact fun k _ => sixA_b _ _ k
  · exact zero_b
theorem parB_b (s : ByteArray) : b16 (parB s) := by
  unfold parB
  split
  · exact four_b s
  · exact six_b s
theorem parA_b (s : ByteArray) : b16 (parA s) := by
  unfold parA
  split
  · exact parB_b s
  · exact zero_b
/-- Print looks at the sixteen bytes alone. -/
theorem gp_ext {a b : Nat → Int} (h : ∀ k, k < 16 → a k = b k) (j : Nat) (hj : j < 8) : gp a j = gp b j := by
  unfold gp
  rw [h _ (by omega), h _ (by omega)]
theorem zrun_ext {a b : Nat → Int} (h : ∀ k, k < 16 → a k = b k) : ∀ f i, zrun a f i = zrun b f i
  | 0, i => rfl
  | f + 1, i => by
    rw [zrun, zrun, zrun_ext h f (i + 1)]
    by_cases hi : i < 8
    · rw [gp_ext h i hi]
    · rw [if_neg (fun e => hi e.1), if_neg (fun e => hi e.1)]
theorem best_ext {a b : Nat → Int} (h : ∀ k, k < 16 → a k = b k) : ∀ n, best a n = best b n
  | 0 => rfl
  | n + 1 => by rw [best, best, best_ext h n, zrun_ext h]
theorem prT_ext {a b : Nat → Int} (h : ∀ k, k < 16 → a k = b k) (c r : Int) : ∀ n, n ≤ 8 → prT a c r n = prT b c r n
  | 0, _ => rfl
  | n + 1, hn => by rw [prT, prT, prT_ext h c r n (by omega), gp_ext h n (by omega)]
theorem is4_ext {a b : Nat → Int} (h : ∀ k, k < 16 → a k = b k) : is4 a = is4 b := by
  unfold is4
  rw [h 0 (by omega), h 1 (by omega), h 2 (by omega), h 3 (by omega), h 4 (by omega), h 5 (by omega), h 6 (by omega), h 7 (by omega), h 8 (by omega), h 9 (by omega), h 10 (by omega), h 11 (by omega)]
theorem prn_ext {a b : Nat → Int} (h : ∀ k, k < 16 → a k = b k) : prn a = prn b := by
  unfold prn
  rw [is4_ext h, best_ext h, prT_ext h _ _ 8 (Nat.le_refl _)]
  have e : (List.range 4).map (prF a) = (List.range 4).map (prF b) := by
    apply List.map_congr_left
    intro i hi
    have := List.mem_range.1 hi
    unfold prF
    rw [h _ (by omega)]
  rw [e]
theorem prn_l (g : Nat → Int) : (prn fun i => [g 0, g 1, g 2, g 3, g 4, g 5, g 6, g 7, g 8, g 9, g 10, g 11, g 12, g 13, g 14, g 15].getD i 0) = prn g := prn_ext fun k hk => get16 g k hk
theorem b16_l {g : Nat → Int} (h : b16 g) : b16 fun i => [g 0, g 1, g 2, g 3, g 4, g 5, g 6, g 7, g 8, g 9, g 10, g 11, g 12, g 13, g 14, g 15].getD i 0 := fun k hk => by
  dsimp only
  rw [get16 g k hk]
  exact h k hk
theorem pa_v (s : ByteArray) (hs : s.size ≤ 1000000) : paV s := by
  unfold paV
  rw [prn_l (six s).1, prn_l (four s).1]
  have key : ∀ g : Nat → Int, parB s = g → ∀ ok : Bool, ((four s).2 || (six s).2) = ok →
      ((!ok || !decide (prn g = s)) = true → parA s = zeroA ∧ parN s = 5) ∧ ((!ok || !decide (prn g = s)) = false → parA s = g ∧ parN s = 0) := fun g hg ok hok => by
    have e : (!ok || !decide (prn g = s)) = !parOk s := by
      unfold parOk
      rw [hg, hok]
      cases ok <;> cases decide (prn g = s) <;> rfl
    rw [e]
    unfold parA parN
    cases parOk s
    · exact ⟨fun _ => ⟨rfl, rfl⟩, fun h => Bool.noConfusion h⟩
    · exact ⟨fun h => Bool.noConfusion h, fun _ => ⟨hg, rfl⟩⟩
  refine ⟨hs, fun h => ⟨hs, fun _ => b16_l (six_b s), fun h2 => ?_, fun h2 => ?_⟩, fun h => ⟨fun _ => b16_l (four_b s), fun h2 => ?_, fun h2 => ?_⟩⟩
  · have h : (four s).2 = false := by cases e : (four s).2 with | false => rfl | true => rw [e] at h; cases h
    obtain ⟨e1, e2⟩ := (key (six s).1 (if_neg (by rw [h]; decide)) (six s).2 (by rw [h]; rfl)).1 h2
    rw [e1, e2]
    and_intros <;> first | rfl | trivial
  · have h : (four s).2 = false := by cases e : (four s).2 with | false => rfl | true => rw [e] at h; cases h
    obtain ⟨e1, e2⟩ := (key (six s).1 (if_neg (by rw [h]; decide)) (six s).2 (by rw [h]; rfl)).2 h2
    rw [e1, e2]
    and_intros <;> first | rfl | trivial
  · have h : (four s).2 = true := by cases e : (four s).2 with | true => rfl | false => rw [e] at h; cases h
    obtain ⟨e1, e2⟩ := (key (four s).1 (if_pos h) (four s).2 (by rw [h]; rfl)).1 h2
    rw [e1, e2]
    and_intros <;> first | rfl | trivial
  · have h : (four s).2 = true := by cases e : (four s).2 with | true => rfl | false => rw [e] at h; cases h
    obtain ⟨e1, e2⟩ := (key (four s).1 (if_pos h) (four s).2 (by rw [h]; rfl)).2 h2
    rw [e1, e2]
    and_intros <;> first | rfl | trivial
def parC : CT := C1 dStr (fun s => [s.size ≤ 1000000]) fun s => .tup [adr (parA s), XI (parN s)]
theorem pa_ok : CTok Tryd.prog 12 parC := C1_ok cxq_ok Tryd.func12 rfl (by decide) dStr_eq.ok (by kernel_rfl) (fun _ => rfl) fun s hc => exv (paV_eq s) (pa_v s (hc _ (by simp)))
end Go.Proofs.YtghmlhdlkgjbeaaDoorAv
