/- Own texts, put together: CaA; CaB; CaC; CaD; PnP; PnB; PnQ; PnR; PnC; PnS; PnT; CaP; CaQ; CaE; CaS; CaRowB. -/
import Derived.Test.YthomfpdigmeheaaDoorMgE
import Derived.Lib.ValidLaws
set_option linter.unusedVariables false
set_option linter.unusedSimpArgs false
set_option maxRecDepth 100000
namespace Go.Proofs.YthomfpdigmeheaaDoorAv
open Go Go.RowKit
def hasSufB (s p : ByteArray) : Bool := Lib.hasSuffix s.data.toList p.data.toList
def hasSufC : CT := C2 dStr dStr (fun s _ => [s.size ≤ 1000000000]) fun s p => XB (hasSufB s p)
theorem hasSuf_ok : CTok Tryd.prog 14 hasSufC := by
  refine ct_str2 Tryd.func14 rfl (by decide) (fun a b => by simp [XV.pd]) fun s p hc L w hg hfr => ?_
  have hs : s.size ≤ 1000000000 := hc _ (by simp)
  refine (Tryd.strings_HasSuffix s p w (by omega)).mono fun e w' ⟨he, hw⟩ => ⟨_, he, ?_, Below.same' hw⟩
  simp [toAV, VS, hasSufB]
/-- Does a text stand in a list, ahead of place i? -/
def knT (o : List ByteArray) (s : ByteArray) : Nat → Bool
  | 0 => false
  | i + 1 => knT o s i || decide (s = o.getD i ⟨#[]⟩)
def addT (o : List ByteArray) (s : ByteArray) : List ByteArray := if knT o s o.length = false ∧ s.size ≤ 253 then o ++ [s] else o
def seqT (n : Nat) (f : Nat → List XV) : List ByteArray := (List.range n).map fun j => strD (xget (f j) 0)
def rowT (o : List ByteArray) : XRow := .vec 9 true o.length 1 fun j => [XT (o.getD j ⟨#[]⟩)]
def oneT (s : ByteArray) : XV := .fz 1 1 fun _ => [XT s]
def caS (o : List ByteArray) (s : ByteArray) (i : Nat) : List ByteArray := if i = 0 then o else addT o s
def caI0 (o : List ByteArray) (s : ByteArray) : Inv where
  σ := IL
  S := fun x => ⟨[(1, .ptr 0 0 0 0), (8, oneT s), (9, XI 1), (10, XI x.i)], [(0, .one 22 true [.sl 1 1 0 (caS o s x.i).length]), (1, rowT (caS o s x.i))], 2, true, []⟩
  inv := fun x => x.i ≤ 1
  μ := fun x => 1 - x.i
def caI (o : List ByteArray) (s : ByteArray) (y : IL) : Inv where
  σ := IL
  S := fun x => ⟨[(1, .ptr 0 0 0 0), (4, XT s), (5, XB (knT (caS o s y.i) s x.i)), (8, oneT s), (9, XI 1), (10, XI y.i), (14, .sl 1 1 0 (caS o s y.i).length), (15, XI (caS o s y.i).length), (16, XI x.i)], [(0, .one 22 true [.sl 1 1 0 (caS o s y.i).length]), (1, rowT (caS o s y.i))], 2, true, []⟩
  inv := fun x => x.i ≤ (caS o s y.i).length
  μ := fun x => (caS o s y.i).length - x.i
def caE (o : List ByteArray) (s : ByteArray) : Env := { loops := [(0, caI0 o s)], loopsP := [(2, ⟨IL, caI o s⟩)] }
def addV (o : List ByteArray) (s : ByteArray) : Prop :=
  (∃ (x : (caI0 o s).σ), x.i.le (1 : Nat) ∧ true = true ∧ XV.ptr (0 : Nat) (0 : Nat) (0 : Nat) (0 : Nat) = XV.ptr (0 : Nat) (0 : Nat) (0 : Nat) (0 : Nat) ∧ ((XV.fz (1 : Nat) (1 : Nat) fun (x : Nat) => [XT s]) = XV.fz (1 : Nat) (1 : Nat) fun (x : Nat) => [XT s]) ∧ (↑(1 : Nat) : Int) = (1 : Int) ∧ (0 : Int) = (↑x.i : Int) ∧ (((22 : TypeId) = (22 : TypeId) ∧ true = true) ∧ XV.sl (1 : Nat) (1 : Nat) (0 : Nat) o.length = XV.sl (1 : Nat) (1 : Nat) (0 : Nat) (caS o s x.i).length ∧ True) ∧ (((9 : TypeId) = (9 : TypeId) ∧ true = true ∧ (1 : Nat) = (1 : Nat)) ∧ o.length = (caS o s x.i).length ∧ ∀ (j : Nat), j < o.length → [XT (o.getD j { data := #[] : ByteArray })] = [XT ((caS o s x.i).getD j { data := #[] : ByteArray })]) ∧ True) ∧ ∀ (x : IL), x.i.le (1 : Nat) → (decide ((↑x.i : Int) < (1 : Int)) = true → (0 : Int) ≤ (↑x.i : Int) ∧ (↑x.i : Int) < (↑(1 : Nat) : Int) ∧ ∃ (p : { α := IL, J := caI o s : InvP }.α), (∃ (x_1 : ({ α := IL, J := caI o s : InvP }.J p).σ), x_1.i.le (caS o s p.i).length ∧ true = true ∧ XV.ptr (0 : Nat) (0 : Nat) (0 : Nat) (0 : Nat) = XV.ptr (0 : Nat) (0 : Nat) (0 : Nat) (0 : Nat) ∧ s = s ∧ false = knT (caS o s p.i) s x_1.i ∧ ((XV.fz (1 : Nat) (1 : Nat) fun (x : Nat) => [XT s]) = XV.fz (1 : Nat) (1 : Nat) fun (x : Nat) => [XT s]) ∧ (1 : Int) = (1 : Int) ∧ (↑x.i : Int) = (↑p.i : Int) ∧ XV.sl (1 : Nat) (1 : Nat) (0 : Nat) (caS o s x.i).length = XV.sl (1 : Nat) (1 : Nat) (0 : Nat) (caS o s p.i).length ∧ (↑(caS o s x.i).length : Int) = (↑(caS o s p.i).length : Int) ∧ (0 : Int) = (↑x_1.i : Int) ∧ (((22 : TypeId) = (22 : TypeId) ∧ true = true) ∧ XV.sl (1 : Nat) (1 : Nat) (0 : Nat) (caS o s x.i).length = XV.sl (1 : Nat) (1 : Nat) (0 : Nat) (caS o s p.i).length ∧ True) ∧ (((9 : TypeId) = (9 : TypeId) ∧ true = true ∧ (1 : Nat) = (1 : Nat)) ∧ (caS o s x.i).length = (caS o s p.i).length ∧ ∀ (j : Nat), j < (caS o s x.i).length → [XT ((caS o s x.i).getD j { data := #[] : ByteArray })] = [XT ((caS o s p.i).getD j { data := #[] : ByteArray })]) ∧ True) ∧ ∀ (x_1 : IL), x_1.i.le (caS o s p.i).length → (decide ((↑x_1.i : Int) < (↑(caS o s p.i).length : Int)) = true → (0 : Int) ≤ (↑x_1.i : Int) ∧ (↑x_1.i : Int) < (↑(caS o s p.i).length : Int) ∧ (0 : Nat) + (↑x_1.i : Int).toNat < (caS o s p.i).length ∧ in64 ((↑x_1.i : Int) + (1 : Int)) ∧ ∃ (x' : ({ α := IL, J := caI o s : InvP }.J p).σ), x'.i.le (caS o s p.i).length ∧ (caS o s p.i).length - x'.i < (caS o s p.i).length - x_1.i ∧ true = true ∧ XV.ptr (0 : Nat) (0 : Nat) (0 : Nat) (0 : Nat) = XV.ptr (0 : Nat) (0 : Nat) (0 : Nat) (0 : Nat) ∧ s = s ∧ (knT (caS o s p.i) s x_1.i || decide (s = (caS o s p.i).getD ((0 : Nat) + (↑x_1.i : Int).toNat) { data := #[] : ByteArray })) = knT (caS o s p.i) s x'.i ∧ ((XV.fz (1 : Nat) (1 : Nat) fun (x : Nat) => [XT s]) = XV.fz (1 : Nat) (1 : Nat) fun (x : Nat) => [XT s]) ∧ (1 : Int) = (1 : Int) ∧ (↑p.i : Int) = (↑p.i : Int) ∧ XV.sl (1 : Nat) (1 : Nat) (0 : Nat) (caS o s p.i).length = XV.sl (1 : Nat) (1 : Nat) (0 : Nat) (caS o s p.i).length ∧ (↑(caS o s p.i).length : Int) = (↑(caS o s p.i).length : Int) ∧ (↑x_1.i : Int) + (1 : Int) = (↑x'.i : Int) ∧ (((22 : TypeId) = (22 : TypeId) ∧ true = true) ∧ XV.sl (1 : Nat) (1 : Nat) (0 : Nat) (caS o s p.i).length = XV.sl (1 : Nat) (1 : Nat) (0 : Nat) (caS o s p.i).length ∧ True) ∧ (((9 : TypeId) = (9 : TypeId) ∧ true = true ∧ (1 : Nat) = (1 : Nat)) ∧ (caS o s p.i).length = (caS o s p.i).length ∧ ∀ (j : Nat), j < (caS o s p.i).length → [XT ((caS o s p.i).getD j { data := #[] : ByteArray })] = [XT ((caS o s p.i).getD j { data := #[] : ByteArray })]) ∧ True) ∧ (decide ((↑x_1.i : Int) < (↑(caS o s p.i).length : Int)) = false → ((!knT (caS o s p.i) s x_1.i && decide ((↑s.size : Int) ≤ (253 : Int))) = true → (caS o s p.i).length = (caS o s p.i).length ∧ ((caS o s p.i).length + (1 : Nat)) * (16 : Nat) ≤ (140737488355328 : Nat) ∧ (caS o s p.i).length + (1 : Nat) ≤ (140737488355328 : Nat) ∧ in64 ((↑p.i : Int) + (1 : Int)) ∧ ∃ (x' : (caI0 o s).σ), x'.i.le (1 : Nat) ∧ (1 : Nat) - x'.i < (1 : Nat) - x.i ∧ true = true ∧ XV.ptr (0 : Nat) (0 : Nat) (0 : Nat) (0 : Nat) = XV.ptr (0 : Nat) (0 : Nat) (0 : Nat) (0 : Nat) ∧ ((XV.fz (1 : Nat) (1 : Nat) fun (x : Nat) => [XT s]) = XV.fz (1 : Nat) (1 : Nat) fun (x : Nat) => [XT s]) ∧ (1 : Int) = (1 : Int) ∧ (↑p.i : Int) + (1 : Int) = (↑x'.i : Int) ∧ (((22 : TypeId) = (22 : TypeId) ∧ true = true) ∧ XV.sl (1 : Nat) (1 : Nat) (0 : Nat) ((caS o s p.i).length + (1 : Nat)) = XV.sl (1 : Nat) (1 : Nat) (0 : Nat) (caS o s x'.i).length ∧ True) ∧ (((9 : TypeId) = (9 : TypeId) ∧ true = true ∧ (1 : Nat) = (1 : Nat)) ∧ (caS o s p.i).length + (1 : Nat) = (caS o s x'.i).length ∧ ∀ (j : Nat), j < (caS o s p.i).length + (1 : Nat) → [XT (bif j.blt (caS o s p.i).length then (caS o s p.i).getD j { data := #[] : ByteArray } else s)] = [XT ((caS o s x'.i).getD j { data := #[] : ByteArray })]) ∧ True) ∧ ((!knT (caS o s p.i) s x_1.i && decide ((↑s.size : Int) ≤ (253 : Int))) = false → in64 ((↑p.i : Int) + (1 : Int)) ∧ ∃ (x' : (caI0 o s).σ), x'.i.le (1 : Nat) ∧ (1 : Nat) - x'.i < (1 : Nat) - x.i ∧ true = true ∧ XV.ptr (0 : Nat) (0 : Nat) (0 : Nat) (0 : Nat) = XV.ptr (0 : Nat) (0 : Nat) (0 : Nat) (0 : Nat) ∧ ((XV.fz (1 : Nat) (1 : Nat) fun (x : Nat) => [XT s]) = XV.fz (1 : Nat) (1 : Nat) fun (x : Nat) => [XT s]) ∧ (1 : Int) = (1 : Int) ∧ (↑p.i : Int) + (1 : Int) = (↑x'.i : Int) ∧ (((22 : TypeId) = (22 : TypeId) ∧ true = true) ∧ XV.sl (1 : Nat) (1 : Nat) (0 : Nat) (caS o s p.i).length = XV.sl (1 : Nat) (1 : Nat) (0 : Nat) (caS o s x'.i).length ∧ True) ∧ (((9 : TypeId) = (9 : TypeId) ∧ true = true ∧ (1 : Nat) = (1 : Nat)) ∧ (caS o s p.i).length = (caS o s x'.i).length ∧ ∀ (j : Nat), j < (caS o s p.i).length → [XT ((caS o s p.i).getD j { data := #[] : ByteArray })] = [XT ((caS o s x'.i).getD j { data := #[] : ByteArray })]) ∧ True))) ∧ (decide ((↑x.i : Int) < (1 : Int)) = false → ((22 : TypeId) = (22 : TypeId) ∧ true = true ∧ (9 : TypeId) = (9 : TypeId) ∧ true = true ∧ (1 : Nat) = (1 : Nat) ∧ (1 : Nat) = (1 : Nat)) ∧ (caS o s x.i).length = (caS o s x.i).length ∧ (caS o s x.i).length = (addT o s).length ∧ ∀ (j : Nat), j < (addT o s).length → [XT ((caS o s x.i).getD j { data := #[] : ByteArray })] = [XT ((addT o s).getD j { data := #[] : ByteArray })])
theorem addV_eq (o : List ByteArray) (s : ByteArray) : addV o s = (funB cx0 Tryd.f15 (mkSc (caE o s) (bodyOf Tryd.f15)) 22 9 1 o.length (fun j => [XT (o.getD j ⟨#[]⟩)]) (oneT s) (addT o s).length (fun j => [XT ((addT o s).getD j ⟨#[]⟩)])) := by kernel_rfl
theorem caS0 (o : List ByteArray) (s : ByteArray) : caS o s 0 = o := rfl
theorem caS1 (o : List ByteArray) (s : ByteArray) : caS o s 1 = addT o s := rfl
theorem le_one {i : Nat} (h : i ≤ 1) (h2 : ¬ (i : Int) < 1) : i = 1 := by omega
theorem add_v (o : List ByteArray) (s : ByteArray) (ho : o.length ≤ 1000) : addV o s := by
  unfold addV
  refine ⟨⟨⟨0⟩, Nat.zero_le _, rfl, rfl, rfl, rfl, rfl, ⟨⟨rfl, rfl⟩, rfl, trivial⟩, ⟨⟨rfl, rfl, rfl⟩, rfl, fun _ _ => rfl⟩, trivial⟩, ?_⟩
  rintro ⟨i⟩ hi
  have hi : i ≤ 1 := hi
  refine ⟨fun h => ?_, fun h => ?_⟩
  · have h : (i : Int) < 1 := of_decide_eq_true h
    obtain rfl : i = 0 := by omega
    refine ⟨by decide, by decide, ⟨0⟩, ⟨⟨0⟩, Nat.zero_le _, rfl, rfl, rfl, rfl, rfl, rfl, rfl, rfl, rfl, rfl, ⟨⟨rfl, rfl⟩, rfl, trivial⟩, ⟨⟨rfl, rfl, rfl⟩, rfl, fun _ _ => rfl⟩, trivial⟩, ?_⟩
    rintro ⟨j⟩ hj
    have hj : j ≤ o.length := hj
    refine ⟨fun h2 => ?_, fun h2 => ?_⟩
    · have h2 : (j : Int) < o.length := of_decide_eq_true h2
      refine ⟨(show (0 : Int) ≤ (j : Int) by omega), h2, (show 0 + (j : Int).toNat < o.length by omega), (show in64 ((j : Int) + 1) by unfold in64; omega), ⟨j + 1⟩, (show j + 1 ≤ o.length by omega), (show o.length - (j + 1) < o.length - j by omega), rfl, rfl, rfl, ?_, rfl, rfl, rfl, rfl, rfl, rfl, ⟨⟨rfl, rfl⟩, rfl, trivial⟩, ⟨⟨rfl, rfl, rfl⟩, rfl, fun _ _ => rfl⟩, trivial⟩
      show (knT o s j || decide (s = o.getD (0 + (j : Int).toNat) ⟨#[]⟩)) = knT o s (j + 1)
      rw [show 0 + (j : Int).toNat = j by omega]
      rfl
    · have h2 : ¬ (j : Int) < o.length := of_decide_eq_false h2
      obtain rfl : j = o.length := by omega
      refine ⟨fun h3 => ?_, fun h3 => ?_⟩
      · have h3 : (!knT o s o.length && decide ((s.size : Int) ≤ 253)) = true := h3
        rw [Bool.and_eq_true, Bool.not_eq_true', decide_eq_true_eq] at h3
        have e : addT o s = o ++ [s] := by unfold addT; rw [if_pos ⟨h3.1, by omega⟩]
        refine ⟨rfl, (show (o.length + 1) * 16 ≤ 140737488355328 by omega), (show o.length + 1 ≤ 140737488355328 by omega), (show in64 (((0 : Nat) : Int) + 1) by unfold in64; omega), ⟨1⟩, Nat.le_refl _, by decide, rfl, rfl, rfl, rfl, rfl, ⟨⟨rfl, rfl⟩, ?_, trivial⟩, ⟨⟨rfl, rfl, rfl⟩, ?_, fun k hk => ?_⟩, trivial⟩
        · show XV.sl 1 1 0 (o.length + 1) = XV.sl 1 1 0 (addT o s).length
          rw [e, List.length_append]; rfl
        · show o.length + 1 = (addT o s).length
          rw [e, List.length_append]; rfl
        · show [XT (bif k.blt o.length then o.getD k ⟨#[]⟩ else s)] = [XT ((addT o s).getD k ⟨#[]⟩)]
          rw [e, row_app2 o s ⟨#[]⟩ k hk]
      · have h3 : (!knT o s o.length && decide ((s.size : Int) ≤ 253)) = false := h3
        have e : addT o s = o := by
          unfold addT
          rw [if_neg]
          rintro ⟨h4, h5⟩
          rw [h4, decide_eq_true (show (s.size : Int) ≤ 253 by omega)] at h3
          cases h3
        refine ⟨(show in64 (((0 : Nat) : Int) + 1) by unfold in64; omega), ⟨1⟩, Nat.le_refl _, by decide, rfl, rfl, rfl, rfl, rfl, ⟨⟨rfl, rfl⟩, ?_, trivial⟩, ⟨⟨rfl, rfl, rfl⟩, ?_, fun k hk => ?_⟩, trivial⟩
        · show XV.sl 1 1 0 o.length = XV.sl 1 1 0 (addT o s).length
          rw [e]
        · show o.length = (addT o s).length
          rw [e]
        · show [XT (o.getD k ⟨#[]⟩)] = [XT ((addT o s).getD k ⟨#[]⟩)]
          rw [e]
  · have h : ¬ (i : Int) < 1 := of_decide_eq_false h
    obtain rfl : i = 1 := le_one hi h
    exact ⟨⟨rfl, rfl, rfl, rfl, rfl, rfl⟩, rfl, rfl, fun _ _ => rfl⟩
def adC : SvT := fun n f rest => match rest with
  | [.fz 1 1 h] => some ([∀ j, j < n → f j = [XT (strD (xget (f j) 0))], h 0 = [XT (strD (xget (h 0) 0))], n ≤ 1000], (addT (seqT n f) (strD (xget (h 0) 0))).length, fun j => [XT ((addT (seqT n f) (strD (xget (h 0) 0))).getD j ⟨#[]⟩)])
  | _ => none
theorem seqT_len (n : Nat) (f : Nat → List XV) : (seqT n f).length = n := by simp [seqT]
theorem seqT_get (n : Nat) (f : Nat → List XV) (j : Nat) (h : j < n) : (seqT n f).getD j ⟨#[]⟩ = strD (xget (f j) 0) := by
  unfold seqT
  rw [List.getD_eq_getElem?_getD, List.getElem?_map, List.getElem?_range h]; rfl
theorem seqT_of (o : List ByteArray) : seqT o.length (fun j => [XT (o.getD j ⟨#[]⟩)]) = o := by
  apply List.ext_getElem?
  intro j
  unfold seqT
  rw [List.getElem?_map]
  by_cases hj : j < o.length
  · rw [List.getElem?_range hj, List.getElem?_eq_getElem hj]
    simp only [Option.map_some]
    show some (o.getD j ⟨#[]⟩) = _
    rw [List.getD_eq_getElem?_getD, List.getElem?_eq_getElem hj]
    rfl
  · rw [List.getElem?_eq_none (by simpa using hj), List.getElem?_eq_none (by omega)]; rfl
theorem toAV_one {h : Nat → List XV} {s : ByteArray} (k : h 0 = [XT s]) : toAV (oneT s) = toAV (.fz 1 1 h) := by
  unfold oneT
  simp only [toAV]
  congr 1
  refine vecOf_congr fun j hj => ?_
  obtain rfl : j = 0 := by omega
  rw [k]
theorem add_ok : ITok Tryd.prog 15 (itB 22 9 1 adC) := sb_ok cx0_ok Tryd.func15 rfl (by decide) fun n f x cs m g hC hc => by
  unfold adC at hC
  split at hC
  · rename_i h heq
    obtain rfl := (List.cons.inj heq).1
    simp only [Option.some.injEq, Prod.mk.injEq] at hC
    obtain ⟨rfl, rfl, rfl⟩ := hC
    have c1 := hc _ (.head _)
    have c2 : h 0 = [XT (strD (xget (h 0) 0))] := hc _ (.tail _ (.head _))
    have c3 : n ≤ 1000 := hc _ (.tail _ (.tail _ (.head _)))
    have hv := add_v (seqT n f) (strD (xget (h 0) 0)) (by rw [seqT_len]; exact c3)
    obtain ⟨sc, hr⟩ := exvB (addV_eq (seqT n f) (strD (xget (h 0) 0))) hv
    rw [seqT_len] at hr
    exact ⟨by kernel_rfl, rfl, oneT (strD (xget (h 0) 0)), fun j => [XT ((seqT n f).getD j ⟨#[]⟩)], rfl, toAV_one c2, fun j hj => by
      show f j = [XT ((seqT n f).getD j ⟨#[]⟩)]
      rw [seqT_get n f j hj]; exact c1 j hj, sc, hr⟩
  · cases hC
end Go.Proofs.YthomfpdigmeheaaDoorAv
set_option linter.unusedVariables false
set_option linter.unusedSimpArgs false
set_option maxRecDepth 100000
namespace Go.Proofs.YthomfpdigmeheaaDoorAv
open Go Go.RowKit
/-- The names with the first i search domains. -/
def lsN (g : Nat → ByteArray) (n : ByteArray) (o : List ByteArray) : Nat → List ByteArray
  | 0 => o
  | i + 1 => addT (lsN g n o i) (n ++ ⟨#[46]⟩ ++ g i)
def lsE (d : Int) (n : ByteArray) : List ByteArray := if d ≤ cntB n ⟨#[46]⟩ then addT [] n else []
def canL (q : Sq ByteArray) (d : Int) (s : ByteArray) : List ByteArray × Int :=
  if (toA s).2 ≠ 0 then ([], (toA s).2)
  else if hasSufB s ⟨#[46]⟩ = true then ([(toA s).1], 0)
  else (addT (lsN q.g (toA s).1 (lsE d (toA s).1) q.n) (toA s).1, 0)
/-- A list's length, kept closed. -/
def lenT (o : List ByteArray) : Nat := o.length
def fzT (o : List ByteArray) : XV := .fz (lenT o) 1 fun j => [XT (o.getD j ⟨#[]⟩)]
abbrev sqT (q : Sq ByteArray) : XV := .fz q.n 1 fun i => [XT (q.g i)]
def lsI (q : Sq ByteArray) (d : Int) (s : ByteArray) : Inv where
  σ := IL
  S := fun x => ⟨[(6, XT (toA s).1), (8, .ptr 1 0 0 0), (9, .clo 15 1), (37, sqT q), (38, XI q.n), (39, XI x.i)], [(1, .one 22 true [.sl 2 1 0 (lsN q.g (toA s).1 (lsE d (toA s).1) x.i).length]), (2, rowT (lsN q.g (toA s).1 (lsE d (toA s).1) x.i))], 3, false, []⟩
  inv := fun x => x.i ≤ q.n
  μ := fun x => q.n - x.i
def lsV (q : Sq ByteArray) (d : Int) (s : ByteArray) : Env := { loops := [(0, lsI q d s)], own := [(9, [(8, 9, 1)])], frzc := [(17, [(8, 0)])] }
def cxk : Cx := { cx0 with C := [(9, toAC), (11, dotC), (14, hasSufC)], L := [(15, itB 22 9 1 adC)] }
def lstV (q : Sq ByteArray) (d : Int) (s : ByteArray) : Prop :=
  (((toA s).snd != (0 : Int)) = true → lenT (canL q d s).fst = (0 : Nat) ∧ (toA s).snd = (canL q d s).snd ∧ True) ∧ (((toA s).snd != (0 : Int)) = false → s.size ≤ (1000000000 : Nat) ∧ (hasSufB s { data := #[(46 : UInt8)] : ByteArray } = true → ((1 : Nat) = (1 : Nat) ∧ (1 : Nat) = lenT (canL q d s).fst ∧ ∀ (j : Nat), j < (1 : Nat) → [XT ((toA s).fst)] = [XT ((canL q d s).fst.getD j { data := #[] : ByteArray })]) ∧ (0 : Int) = (canL q d s).snd ∧ True) ∧ (hasSufB s { data := #[(46 : UInt8)] : ByteArray } = false → (decide (cntB (toA s).fst { data := #[(46 : UInt8)] : ByteArray } ≥ d) = true → (0 : Nat) = (0 : Nat) ∧ (∀ (j : Nat), j < (0 : Nat) → [] = [XT ({ data := #[] : ByteArray })]) ∧ [XT ((toA s).fst)] = [XT ((toA s).fst)] ∧ (0 : Nat) ≤ (1000 : Nat) ∧ (∃ (x : (lsI q d s).σ), x.i.le q.n ∧ true = true ∧ (toA s).fst = (toA s).fst ∧ XV.ptr ((0 : Nat) + (1 : Nat)) (0 : Nat) (0 : Nat) (0 : Nat) = XV.ptr (1 : Nat) (0 : Nat) (0 : Nat) (0 : Nat) ∧ XV.clo (15 : Nat) ((0 : Nat) + (1 : Nat)) = XV.clo (15 : Nat) (1 : Nat) ∧ (XV.fz q.n (1 : Nat) fun (i : Nat) => [XT (q.g i)]) = sqT q ∧ (↑q.n : Int) = (↑q.n : Int) ∧ (0 : Int) = (↑x.i : Int) ∧ (((22 : TypeId) = (22 : TypeId) ∧ true = true) ∧ XV.sl ((0 : Nat) + (1 : Nat) + (1 : Nat)) (1 : Nat) (0 : Nat) (addT (seqT (0 : Nat) fun (x : Nat) => []) (toA s).fst).length = XV.sl (2 : Nat) (1 : Nat) (0 : Nat) (lsN q.g (toA s).fst (lsE d (toA s).fst) x.i).length ∧ True) ∧ (((9 : TypeId) = (9 : TypeId) ∧ true = true ∧ (1 : Nat) = (1 : Nat)) ∧ (addT (seqT (0 : Nat) fun (x : Nat) => []) (toA s).fst).length = (lsN q.g (toA s).fst (lsE d (toA s).fst) x.i).length ∧ ∀ (j : Nat), j < (addT (seqT (0 : Nat) fun (x : Nat) => []) (toA s).fst).length → [XT ((addT (seqT (0 : Nat) fun (x : Nat) => []) (toA s).fst).getD j { data := #[] : ByteArray })] = [XT ((lsN q.g (toA s).fst (lsE d (toA s).fst) x.i).getD j { data := #[] : ByteArray })]) ∧ True) ∧ ∀ (x : IL), x.i.le q.n → (decide ((↑x.i : Int) < (↑q.n : Int)) = true → (0 : Int) ≤ (↑x.i : Int) ∧ (↑x.i : Int) < (↑q.n : Int) ∧ (toA s).fst.size + (1 : Nat) ≤ (9223372036854775807 : Nat) ∧ ((toA s).fst ++ { data := #[(46 : UInt8)] : ByteArray }).size + (q.g (↑x.i : Int).toNat).size ≤ (9223372036854775807 : Nat) ∧ (lsN q.g (toA s).fst (lsE d (toA s).fst) x.i).length = (lsN q.g (toA s).fst (lsE d (toA s).fst) x.i).length ∧ (∀ (j : Nat), j < (lsN q.g (toA s).fst (lsE d (toA s).fst) x.i).length → [XT ((lsN q.g (toA s).fst (lsE d (toA s).fst) x.i).getD j { data := #[] : ByteArray })] = [XT ((lsN q.g (toA s).fst (lsE d (toA s).fst) x.i).getD j { data := #[] : ByteArray })]) ∧ [XT ((toA s).fst ++ { data := #[(46 : UInt8)] : ByteArray } ++ q.g (↑x.i : Int).toNat)] = [XT ((toA s).fst ++ { data := #[(46 : UInt8)] : ByteArray } ++ q.g (↑x.i : Int).toNat)] ∧ (lsN q.g (toA s).fst (lsE d (toA s).fst) x.i).length ≤ (1000 : Nat) ∧ in64 ((↑x.i : Int) + (1 : Int)) ∧ ∃ (x' : (lsI q d s).σ), x'.i.le q.n ∧ q.n - x'.i < q.n - x.i ∧ true = true ∧ (toA s).fst = (toA s).fst ∧ XV.ptr (1 : Nat) (0 : Nat) (0 : Nat) (0 : Nat) = XV.ptr (1 : Nat) (0 : Nat) (0 : Nat) (0 : Nat) ∧ XV.clo (15 : Nat) (1 : Nat) = XV.clo (15 : Nat) (1 : Nat) ∧ (XV.fz q.n (1 : Nat) fun (i : Nat) => [XT (q.g i)]) = sqT q ∧ (↑q.n : Int) = (↑q.n : Int) ∧ (↑x.i : Int) + (1 : Int) = (↑x'.i : Int) ∧ (((22 : TypeId) = (22 : TypeId) ∧ true = true) ∧ XV.sl (2 : Nat) (1 : Nat) (0 : Nat) (addT (seqT (lsN q.g (toA s).fst (lsE d (toA s).fst) x.i).length fun (j : Nat) => [XT ((lsN q.g (toA s).fst (lsE d (toA s).fst) x.i).getD j { data := #[] : ByteArray })]) ((toA s).fst ++ { data := #[(46 : UInt8)] : ByteArray } ++ q.g (↑x.i : Int).toNat)).length = XV.sl (2 : Nat) (1 : Nat) (0 : Nat) (lsN q.g (toA s).fst (lsE d (toA s).fst) x'.i).length ∧ True) ∧ (((9 : TypeId) = (9 : TypeId) ∧ true = true ∧ (1 : Nat) = (1 : Nat)) ∧ (addT (seqT (lsN q.g (toA s).fst (lsE d (toA s).fst) x.i).length fun (j : Nat) => [XT ((lsN q.g (toA s).fst (lsE d (toA s).fst) x.i).getD j { data := #[] : ByteArray })]) ((toA s).fst ++ { data := #[(46 : UInt8)] : ByteArray } ++ q.g (↑x.i : Int).toNat)).length = (lsN q.g (toA s).fst (lsE d (toA s).fst) x'.i).length ∧ ∀ (j : Nat), j < (addT (seqT (lsN q.g (toA s).fst (lsE d (toA s).fst) x.i).length fun (j : Nat) => [XT ((lsN q.g (toA s).fst (lsE d (toA s).fst) x.i).getD j { data := #[] : ByteArray })]) ((toA s).fst ++ { data := #[(46 : UInt8)] : ByteArray } ++ q.g (↑x.i : Int).toNat)).length → [XT ((addT (seqT (lsN q.g (toA s).fst (lsE d (toA s).fst) x.i).length fun (j : Nat) => [XT ((lsN q.g (toA s).fst (lsE d (toA s).fst) x.i).getD j { data := #[] : ByteArray })]) ((toA s).fst ++ { data := #[(46 : UInt8)] : ByteArray } ++ q.g (↑x.i : Int).toNat)).getD j { data := #[] : ByteArray })] = [XT ((lsN q.g (toA s).fst (lsE d (toA s).fst) x'.i).getD j { data := #[] : ByteArray })]) ∧ True) ∧ (decide ((↑x.i : Int) < (↑q.n : Int)) = false → (lsN q.g (toA s).fst (lsE d (toA s).fst) x.i).length = (lsN q.g (toA s).fst (lsE d (toA s).fst) x.i).length ∧ (∀ (j : Nat), j < (lsN q.g (toA s).fst (lsE d (toA s).fst) x.i).length → [XT ((lsN q.g (toA s).fst (lsE d (toA s).fst) x.i).getD j { data := #[] : ByteArray })] = [XT ((lsN q.g (toA s).fst (lsE d (toA s).fst) x.i).getD j { data := #[] : ByteArray })]) ∧ [XT ((toA s).fst)] = [XT ((toA s).fst)] ∧ (lsN q.g (toA s).fst (lsE d (toA s).fst) x.i).length ≤ (1000 : Nat) ∧ (addT (seqT (lsN q.g (toA s).fst (lsE d (toA s).fst) x.i).length fun (j : Nat) => [XT ((lsN q.g (toA s).fst (lsE d (toA s).fst) x.i).getD j { data := #[] : ByteArray })]) (toA s).fst).length = (addT (seqT (lsN q.g (toA s).fst (lsE d (toA s).fst) x.i).length fun (j : Nat) => [XT ((lsN q.g (toA s).fst (lsE d (toA s).fst) x.i).getD j { data := #[] : ByteArray })]) (toA s).fst).length ∧ ((1 : Nat) = (1 : Nat) ∧ (addT (seqT (lsN q.g (toA s).fst (lsE d (toA s).fst) x.i).length fun (j : Nat) => [XT ((lsN q.g (toA s).fst (lsE d (toA s).fst) x.i).getD j { data := #[] : ByteArray })]) (toA s).fst).length = lenT (canL q d s).fst ∧ ∀ (j : Nat), j < (addT (seqT (lsN q.g (toA s).fst (lsE d (toA s).fst) x.i).length fun (j : Nat) => [XT ((lsN q.g (toA s).fst (lsE d (toA s).fst) x.i).getD j { data := #[] : ByteArray })]) (toA s).fst).length → [XT ((addT (seqT (lsN q.g (toA s).fst (lsE d (toA s).fst) x.i).length fun (j : Nat) => [XT ((lsN q.g (toA s).fst (lsE d (toA s).fst) x.i).getD j { data := #[] : ByteArray })]) (toA s).fst).getD j { data := #[] : ByteArray })] = [XT ((canL q d s).fst.getD j { data := #[] : ByteArray })]) ∧ (0 : Int) = (canL q d s).snd ∧ True)) ∧ (decide (cntB (toA s).fst { data := #[(46 : UInt8)] : ByteArray } ≥ d) = false → (∃ (x : (lsI q d s).σ), x.i.le q.n ∧ true = true ∧ (toA s).fst = (toA s).fst ∧ XV.ptr ((0 : Nat) + (1 : Nat)) (0 : Nat) (0 : Nat) (0 : Nat) = XV.ptr (1 : Nat) (0 : Nat) (0 : Nat) (0 : Nat) ∧ XV.clo (15 : Nat) ((0 : Nat) + (1 : Nat)) = XV.clo (15 : Nat) (1 : Nat) ∧ (XV.fz q.n (1 : Nat) fun (i : Nat) => [XT (q.g i)]) = sqT q ∧ (↑q.n : Int) = (↑q.n : Int) ∧ (0 : Int) = (↑x.i : Int) ∧ (((22 : Nat) = (22 : TypeId) ∧ true = true) ∧ XV.sl ((0 : Nat) + (1 : Nat) + (1 : Nat)) (1 : Nat) (0 : Nat) (0 : Nat) = XV.sl (2 : Nat) (1 : Nat) (0 : Nat) (lsN q.g (toA s).fst (lsE d (toA s).fst) x.i).length ∧ True) ∧ (((9 : Nat) = (9 : TypeId) ∧ true = true ∧ (1 : Nat) = (1 : Nat)) ∧ (0 : Nat) = (lsN q.g (toA s).fst (lsE d (toA s).fst) x.i).length ∧ ∀ (j : Nat), j < (0 : Nat) → [] = [XT ((lsN q.g (toA s).fst (lsE d (toA s).fst) x.i).getD j { data := #[] : ByteArray })]) ∧ True) ∧ ∀ (x : IL), x.i.le q.n → (decide ((↑x.i : Int) < (↑q.n : Int)) = true → (0 : Int) ≤ (↑x.i : Int) ∧ (↑x.i : Int) < (↑q.n : Int) ∧ (toA s).fst.size + (1 : Nat) ≤ (9223372036854775807 : Nat) ∧ ((toA s).fst ++ { data := #[(46 : UInt8)] : ByteArray }).size + (q.g (↑x.i : Int).toNat).size ≤ (9223372036854775807 : Nat) ∧ (lsN q.g (toA s).fst (lsE d (toA s).fst) x.i).length = (lsN q.g (toA s).fst (lsE d (toA s).fst) x.i).length ∧ (∀ (j : Nat), j < (lsN q.g (toA s).fst (lsE d (toA s).fst) x.i).length → [XT ((lsN q.g (toA s).fst (lsE d (toA s).fst) x.i).getD j { data := #[] : ByteArray })] = [XT ((lsN q.g (toA s).fst (lsE d (toA s).fst) x.i).getD j { data := #[] : ByteArray })]) ∧ [XT ((toA s).fst ++ { data := #[(46 : UInt8)] : ByteArray } ++ q.g (↑x.i : Int).toNat)] = [XT ((toA s).fst ++ { data := #[(46 : UInt8)] : ByteArray } ++ q.g (↑x.i : Int).toNat)] ∧ (lsN q.g (toA s).fst (lsE d (toA s).fst) x.i).length ≤ (1000 : Nat) ∧ in64 ((↑x.i : Int) + (1 : Int)) ∧ ∃ (x' : (lsI q d s).σ), x'.i.le q.n ∧ q.n - x'.i < q.n - x.i ∧ true = true ∧ (toA s).fst = (toA s).fst ∧ XV.ptr (1 : Nat) (0 : Nat) (0 : Nat) (0 : Nat) = XV.ptr (1 : Nat) (0 : Nat) (0 : Nat) (0 : Nat) ∧ XV.clo (15 : Nat) (1 : Nat) = XV.clo (15 : Nat) (1 : Nat) ∧ (XV.fz q.n (1 : Nat) fun (i : Nat) => [XT (q.g i)]) = sqT q ∧ (↑q.n : Int) = (↑q.n : Int) ∧ (↑x.i : Int) + (1 : Int) = (↑x'.i : Int) ∧ (((22 : TypeId) = (22 : TypeId) ∧ true = true) ∧ XV.sl (2 : Nat) (1 : Nat) (0 : Nat) (addT (seqT (lsN q.g (toA s).fst (lsE d (toA s).fst) x.i).length fun (j : Nat) => [XT ((lsN q.g (toA s).fst (lsE d (toA s).fst) x.i).getD j { data := #[] : ByteArray })]) ((toA s).fst ++ { data := #[(46 : UInt8)] : ByteArray } ++ q.g (↑x.i : Int).toNat)).length = XV.sl (2 : Nat) (1 : Nat) (0 : Nat) (lsN q.g (toA s).fst (lsE d (toA s).fst) x'.i).length ∧ True) ∧ (((9 : TypeId) = (9 : TypeId) ∧ true = true ∧ (1 : Nat) = (1 : Nat)) ∧ (addT (seqT (lsN q.g (toA s).fst (lsE d (toA s).fst) x.i).length fun (j : Nat) => [XT ((lsN q.g (toA s).fst (lsE d (toA s).fst) x.i).getD j { data := #[] : ByteArray })]) ((toA s).fst ++ { data := #[(46 : UInt8)] : ByteArray } ++ q.g (↑x.i : Int).toNat)).length = (lsN q.g (toA s).fst (lsE d (toA s).fst) x'.i).length ∧ ∀ (j : Nat), j < (addT (seqT (lsN q.g (toA s).fst (lsE d (toA s).fst) x.i).length fun (j : Nat) => [XT ((lsN q.g (toA s).fst (lsE d (toA s).fst) x.i).getD j { data := #[] : ByteArray })]) ((toA s).fst ++ { data := #[(46 : UInt8)] : ByteArray } ++ q.g (↑x.i : Int).toNat)).length → [XT ((addT (seqT (lsN q.g (toA s).fst (lsE d (toA s).fst) x.i).length fun (j : Nat) => [XT ((lsN q.g (toA s).fst (lsE d (toA s).fst) x.i).getD j { data := #[] : ByteArray })]) ((toA s).fst ++ { data := #[(46 : UInt8)] : ByteArray } ++ q.g (↑x.i : Int).toNat)).getD j { data := #[] : ByteArray })] = [XT ((lsN q.g (toA s).fst (lsE d (toA s).fst) x'.i).getD j { data := #[] : ByteArray })]) ∧ True) ∧ (decide ((↑x.i : Int) < (↑q.n : Int)) = false → (lsN q.g (toA s).fst (lsE d (toA s).fst) x.i).length = (lsN q.g (toA s).fst (lsE d (toA s).fst) x.i).length ∧ (∀ (j : Nat), j < (lsN q.g (toA s).fst (lsE d (toA s).fst) x.i).length → [XT ((lsN q.g (toA s).fst (lsE d (toA s).fst) x.i).getD j { data := #[] : ByteArray })] = [XT ((lsN q.g (toA s).fst (lsE d (toA s).fst) x.i).getD j { data := #[] : ByteArray })]) ∧ [XT ((toA s).fst)] = [XT ((toA s).fst)] ∧ (lsN q.g (toA s).fst (lsE d (toA s).fst) x.i).length ≤ (1000 : Nat) ∧ (addT (seqT (lsN q.g (toA s).fst (lsE d (toA s).fst) x.i).length fun (j : Nat) => [XT ((lsN q.g (toA s).fst (lsE d (toA s).fst) x.i).getD j { data := #[] : ByteArray })]) (toA s).fst).length = (addT (seqT (lsN q.g (toA s).fst (lsE d (toA s).fst) x.i).length fun (j : Nat) => [XT ((lsN q.g (toA s).fst (lsE d (toA s).fst) x.i).getD j { data := #[] : ByteArray })]) (toA s).fst).length ∧ ((1 : Nat) = (1 : Nat) ∧ (addT (seqT (lsN q.g (toA s).fst (lsE d (toA s).fst) x.i).length fun (j : Nat) => [XT ((lsN q.g (toA s).fst (lsE d (toA s).fst) x.i).getD j { data := #[] : ByteArray })]) (toA s).fst).length = lenT (canL q d s).fst ∧ ∀ (j : Nat), j < (addT (seqT (lsN q.g (toA s).fst (lsE d (toA s).fst) x.i).length fun (j : Nat) => [XT ((lsN q.g (toA s).fst (lsE d (toA s).fst) x.i).getD j { data := #[] : ByteArray })]) (toA s).fst).length → [XT ((addT (seqT (lsN q.g (toA s).fst (lsE d (toA s).fst) x.i).length fun (j : Nat) => [XT ((lsN q.g (toA s).fst (lsE d (toA s).fst) x.i).getD j { data := #[] : ByteArray })]) (toA s).fst).getD j { data := #[] : ByteArray })] = [XT ((canL q d s).fst.getD j { data := #[] : ByteArray })]) ∧ (0 : Int) = (canL q d s).snd ∧ True))))
theorem lstV_eq (q : Sq ByteArray) (d : Int) (s : ByteArray) : lstV q d s = (funC cxk Tryd.f10 (mkSc (lsV q d s) (bodyOf Tryd.f10)) [.agg [Xnil, sqT q, XI d, XI 0, XI 0], XT s] (.tup [fzT (canL q d s).1, XI (canL q d s).2])) := by kernel_rfl
theorem addT_len (o : List ByteArray) (s : ByteArray) : (addT o s).length ≤ o.length + 1 := by
  unfold addT
  split
  · rw [List.length_append]; exact Nat.le_refl _
  · omega
theorem lsN_len (g : Nat → ByteArray) (n : ByteArray) (o : List ByteArray) : ∀ i, (lsN g n o i).length ≤ o.length + i
  | 0 => Nat.le_refl _
  | i + 1 => by
    rw [lsN]
    have h1 := addT_len (lsN g n o i) (n ++ ⟨#[46]⟩ ++ g i)
    have h2 := lsN_len g n o i
    omega
theorem lsE_len (d : Int) (n : ByteArray) : (lsE d n).length ≤ 1 := by
  unfold lsE
  split
  · exact addT_len [] n
  · exact Nat.zero_le _
theorem lst_v (q : Sq ByteArray) (d : Int) (s : ByteArray) (hq : q.n ≤ 900) (hg : ∀ i, i < q.n → (q.g i).size ≤ 1000000000000000000) : lstV q d s := by
  unfold lstV
  have hl := lsN_len q.g (toA s).1 (lsE d (toA s).1)
  have hl1 := lsE_len d (toA s).1
  have e0 : seqT 0 (fun _ => []) = [] := rfl
  refine ⟨fun h => ?_, fun h => ?_⟩
  · have h : (toA s).2 ≠ 0 := by simpa using h
    have e : canL q d s = ([], (toA s).2) := by rw [canL, if_pos h]
    rw [e]
    exact ⟨rfl, rfl, trivial⟩
  have h : (toA s).2 = 0 := by simpa using h
  obtain ⟨t1, t2, -⟩ := toA_len h
  refine ⟨by omega, fun h2 => ?_, fun h2 => ?_⟩
  · have e : canL q d s = ([(toA s).1], 0) := by rw [canL, if_neg (by rw [h]; simp), if_pos h2]
    rw [e]
    refine ⟨⟨rfl, rfl, fun j hj => ?_⟩, rfl, trivial⟩
    obtain rfl : j = 0 := by omega
    rfl
  have e : canL q d s = (addT (lsN q.g (toA s).1 (lsE d (toA s).1) q.n) (toA s).1, 0) := by rw [canL, if_neg (by rw [h]; simp), if_neg (by rw [h2]; simp)]
  rw [e]
  generalize (toA s).1 = n at *
  refine ⟨fun h3 => ?_, fun h3 => ?_⟩
  · have h3 : cntB n ⟨#[46]⟩ ≥ d := of_decide_eq_true h3
    have hE : lsE d n = addT [] n := by unfold lsE; rw [if_pos h3]
    rw [e0]
    refine ⟨rfl, fun j hj => absurd hj (Nat.not_lt_zero _), rfl, by decide, ⟨⟨0⟩, Nat.zero_le _, rfl, rfl, rfl, rfl, rfl, rfl, rfl, ⟨⟨rfl, rfl⟩, ?_, trivial⟩, ⟨⟨rfl, rfl, rfl⟩, ?_, fun j hj => ?_⟩, trivial⟩, ?_⟩
    · show XV.sl 2 1 0 (addT [] n).length = XV.sl 2 1 0 (lsE d n).length
      rw [hE]
    · show (addT [] n).length = (lsE d n).length
      rw [hE]
    · show [XT ((addT [] n).getD j ⟨#[]⟩)] = [XT ((lsE d n).getD j ⟨#[]⟩)]
      rw [hE]
    rintro ⟨i⟩ hi
    have hi : i ≤ q.n := hi
    have hli := hl i
    dsimp only
    rw [seqT_of]
    refine ⟨fun k => ?_, fun k => ?_⟩
    · have k : (i : Int) < q.n := of_decide_eq_true k
      have hgi := hg i (by omega)
      rw [Int.toNat_natCast]
      have ez : (n ++ (⟨#[46]⟩ : ByteArray)).size = n.size + 1 := by rw [ByteArray.size_append]; rfl
      refine ⟨by omega, k, by omega, by omega, rfl, fun _ _ => rfl, rfl, by omega, by unfold in64; omega, ⟨i + 1⟩, (show i + 1 ≤ q.n by omega), (show q.n - (i + 1) < q.n - i by omega), rfl, rfl, rfl, rfl, rfl, rfl, rfl, ⟨⟨rfl, rfl⟩, rfl, trivial⟩, ⟨⟨rfl, rfl, rfl⟩, rfl, fun _ _ => rfl⟩, trivial⟩
    · have k : ¬ (i : Int) < q.n := of_decide_eq_false k
      obtain rfl : i = q.n := by omega
      exact ⟨rfl, fun _ _ => rfl, rfl, by omega, rfl, ⟨rfl, rfl, fun _ _ => rfl⟩, rfl, trivial⟩
  · have h3 : ¬ cntB n ⟨#[46]⟩ ≥ d := of_decide_eq_false h3
    have hE : lsE d n = [] := by unfold lsE; rw [if_neg h3]
    refine ⟨⟨⟨0⟩, Nat.zero_le _, rfl, rfl, rfl, rfl, rfl, rfl, rfl, ⟨⟨rfl, rfl⟩, ?_, trivial⟩, ⟨⟨rfl, rfl, rfl⟩, ?_, fun j hj => absurd hj (Nat.not_lt_zero _)⟩, trivial⟩, ?_⟩
    · show XV.sl 2 1 0 0 = XV.sl 2 1 0 (lsE d n).length
      rw [hE]; rfl
    · show 0 = (lsE d n).length
      rw [hE]; rfl
    rintro ⟨i⟩ hi
    have hi : i ≤ q.n := hi
    have hli := hl i
    dsimp only
    rw [seqT_of]
    refine ⟨fun k => ?_, fun k => ?_⟩
    · have k : (i : Int) < q.n := of_decide_eq_true k
      have hgi := hg i (by omega)
      rw [Int.toNat_natCast]
      have ez : (n ++ (⟨#[46]⟩ : ByteArray)).size = n.size + 1 := by rw [ByteArray.size_append]; rfl
      refine ⟨by omega, k, by omega, by omega, rfl, fun _ _ => rfl, rfl, by omega, by unfold in64; omega, ⟨i + 1⟩, (show i + 1 ≤ q.n by omega), (show q.n - (i + 1) < q.n - i by omega), rfl, rfl, rfl, rfl, rfl, rfl, rfl, ⟨⟨rfl, rfl⟩, rfl, trivial⟩, ⟨⟨rfl, rfl, rfl⟩, rfl, fun _ _ => rfl⟩, trivial⟩
    · have k : ¬ (i : Int) < q.n := of_decide_eq_false k
      obtain rfl : i = q.n := by omega
      exact ⟨rfl, fun _ _ => rfl, rfl, by omega, rfl, ⟨rfl, rfl, fun _ _ => rfl⟩, rfl, trivial⟩
theorem cxk_ok : cxk.ok Tryd.prog := (((cx0_ok.addC hasSuf_ok).addC dot_ok).addC toA_ok).addL add_ok
/-- A configuration, of which the search domains and the number of points count. -/
structure CF where
  q : Sq ByteArray
  d : Int
def dCf : Dc CF := ⟨fun x => match x with
  | .agg [a, q, d, t, u] => match nilO a, dStrs.dec q, intO d, intO t, intO u with
    | true, some (cs, s), some n, some t', some u' => some (cs ++ [t' = 0, u' = 0], ⟨s, n⟩)
    | _, _, _, _, _ => none
  | _ => none, fun c => .agg [Xnil, dStrs.enc c.q, XI c.d, XI 0, XI 0]⟩
theorem dCf_ok : DcOk dCf := fun x cs c h hc => by
  simp only [dCf] at h
  split at h
  · rename_i a q d t u
    split at h
    · rename_i cs' s n t' u' h1 h2 h3 h4 h5
      simp only [Option.some.injEq, Prod.mk.injEq] at h
      obtain ⟨rfl, rfl⟩ := h
      obtain rfl := nilO_eq h1
      obtain rfl := intO_eq h3
      obtain rfl := intO_eq h4
      obtain rfl := intO_eq h5
      have g1 : t' = 0 := hc _ (List.mem_append_right _ (.head _))
      have g2 : u' = 0 := hc _ (List.mem_append_right _ (.tail _ (.head _)))
      subst g1 g2
      obtain ⟨k1, k2, k3⟩ := dSl_ok (sz := 1) (r := fun l => strD (xget l 0)) (e := fun s => [XT s]) (d := ⟨#[]⟩) q cs' s h2 (fun p hp => hc p (List.mem_append_left _ hp))
      refine ⟨by simp [XV.pd, pdL, k1], by simp only [dCf, XV.pd, pdL]; rw [show dStrs.enc s = (dSl 1 (fun l => strD (xget l 0)) (fun s => [XT s]) ⟨#[]⟩).enc s from rfl, k2]; rfl, fun L w z hz => ?_⟩
      simp only [dCf, toAV, toAVL, VS] at hz ⊢
      obtain ⟨vs, hz, hv⟩ := hz
      refine ⟨vs, hz, ?_⟩
      match vs, hv with
      | [v1, v2, v3, v4, v5], hv =>
        simp only [VSL] at hv ⊢
        exact ⟨hv.1, k3 L w v2 hv.2.1, hv.2.2.1, hv.2.2.2.1, hv.2.2.2.2.1, trivial⟩
      | [], hv => simp [VSL] at hv
      | [_], hv => simp [VSL] at hv
      | [_, _], hv => simp [VSL] at hv
      | [_, _, _], hv => simp [VSL] at hv
      | [_, _, _, _], hv => simp [VSL] at hv
      | _ :: _ :: _ :: _ :: _ :: _ :: _, hv => simp [VSL] at hv
    · cases h
  · cases h
def lstC : CT := C2 dCf dStr (fun c s => [c.q.n ≤ 900, ∀ i, i < c.q.n → (c.q.g i).size ≤ 1000000000000000000]) fun c s => .tup [fzT (canL c.q c.d s).1, XI (canL c.q c.d s).2]
theorem lst_ok : CTok Tryd.prog 10 lstC := C2_ok cxk_ok Tryd.func10 rfl (by decide) dCf_ok dStr_eq.ok (by kernel_rfl) (fun _ _ => rfl) fun c s hc => exv (lstV_eq c.q c.d s) (lst_v c.q c.d s (hc _ (.head _)) (hc _ (.tail _ (.head _))))
end Go.Proofs.YthomfpdigmeheaaDoorAv
set_option linter.unusedVariables false
set_option linter.unusedSimpArgs false
set_option maxRecDepth 100000
namespace Go.Proofs.YthomfpdigmeheaaDoorAv
open Go Go.RowKit
def cxq : Cx := { cx0 with C := [(9, toAC), (11, dotC), (10, lstC)] }
theorem cxq_ok : cxq.ok Tryd.prog := ((cx0_ok.addC lst_ok).addC dot_ok).addC toA_ok
def cfitV  : Prop :=
  (∀ (i : Nat), i < (1 : Nat) → [XT ({ data := #[(98 : UInt8)] : ByteArray })] = [XT ({ data := #[(98 : UInt8)] : ByteArray })]) ∧ (0 : Int) = (0 : Int) ∧ (0 : Int) = (0 : Int) ∧ (1 : Nat) ≤ (900 : Nat) ∧ (∀ (i : Nat), i < (1 : Nat) → { data := #[(98 : UInt8)] : ByteArray }.size ≤ (1000000000000000000 : Nat)) ∧ (((canL { n := (1 : Nat), g := fun (i : Nat) => { data := #[(98 : UInt8)] : ByteArray } : Sq ByteArray } (1 : Int) { data := #[(97 : UInt8)] : ByteArray }).snd == (0 : Int) && (↑(lenT (canL { q := { n := (1 : Nat), g := fun (i : Nat) => (fun (l : List XV) => strD (xget l (0 : Nat))) (bsF (1 : Nat) (xpartsV (fun (x : Operand) => XV.st [] none (xev (({ s := xslots (0 : Nat) [], h := [], nx := (0 : Nat) : XS }.put { dst := some (0 : Nat), op := Op.assign (Operand.const (Value.bool false)), type := (4 : Nat), pos := "law.go:11", after := #[], guard := none : Oper }.dst ((fun (x : Operand) => XV.st [] none (xev { s := xslots (0 : Nat) [], h := [], nx := (0 : Nat) : XS }.s x)) (Operand.const (Value.bool false))).snd).wr none).s x)) #[((0 : Nat), Operand.const (Value.string { data := #[(98 : UInt8)] : ByteArray }))].toList).snd i) : Sq ByteArray }, d := (1 : Int) : CF }.q { q := { n := (1 : Nat), g := fun (i : Nat) => (fun (l : List XV) => strD (xget l (0 : Nat))) (bsF (1 : Nat) (xpartsV (fun (x : Operand) => XV.st [] none (xev (({ s := xslots (0 : Nat) [], h := [], nx := (0 : Nat) : XS }.put { dst := some (0 : Nat), op := Op.assign (Operand.const (Value.bool false)), type := (4 : Nat), pos := "law.go:11", after := #[], guard := none : Oper }.dst ((fun (x : Operand) => XV.st [] none (xev { s := xslots (0 : Nat) [], h := [], nx := (0 : Nat) : XS }.s x)) (Operand.const (Value.bool false))).snd).wr none).s x)) #[((0 : Nat), Operand.const (Value.string { data := #[(98 : UInt8)] : ByteArray }))].toList).snd i) : Sq ByteArray }, d := (1 : Int) : CF }.d { data := #[(97 : UInt8)] : ByteArray }).fst) : Int) == (2 : Int)) = true → (0 : Int) ≤ (0 : Int)) ∧ (((canL { n := (1 : Nat), g := fun (i : Nat) => { data := #[(98 : UInt8)] : ByteArray } : Sq ByteArray } (1 : Int) { data := #[(97 : UInt8)] : ByteArray }).snd == (0 : Int) && (↑(lenT (canL { q := { n := (1 : Nat), g := fun (i : Nat) => (fun (l : List XV) => strD (xget l (0 : Nat))) (bsF (1 : Nat) (xpartsV (fun (x : Operand) => XV.st [] none (xev (({ s := xslots (0 : Nat) [], h := [], nx := (0 : Nat) : XS }.put { dst := some (0 : Nat), op := Op.assign (Operand.const (Value.bool false)), type := (4 : Nat), pos := "law.go:11", after := #[], guard := none : Oper }.dst ((fun (x : Operand) => XV.st [] none (xev { s := xslots (0 : Nat) [], h := [], nx := (0 : Nat) : XS }.s x)) (Operand.const (Value.bool false))).snd).wr none).s x)) #[((0 : Nat), Operand.const (Value.string { data := #[(98 : UInt8)] : ByteArray }))].toList).snd i) : Sq ByteArray }, d := (1 : Int) : CF }.q { q := { n := (1 : Nat), g := fun (i : Nat) => (fun (l : List XV) => strD (xget l (0 : Nat))) (bsF (1 : Nat) (xpartsV (fun (x : Operand) => XV.st [] none (xev (({ s := xslots (0 : Nat) [], h := [], nx := (0 : Nat) : XS }.put { dst := some (0 : Nat), op := Op.assign (Operand.const (Value.bool false)), type := (4 : Nat), pos := "law.go:11", after := #[], guard := none : Oper }.dst ((fun (x : Operand) => XV.st [] none (xev { s := xslots (0 : Nat) [], h := [], nx := (0 : Nat) : XS }.s x)) (Operand.const (Value.bool false))).snd).wr none).s x)) #[((0 : Nat), Operand.const (Value.string { data := #[(98 : UInt8)] : ByteArray }))].toList).snd i) : Sq ByteArray }, d := (1 : Int) : CF }.d { data := #[(97 : UInt8)] : ByteArray }).fst) : Int) == (2 : Int)) = true → (0 : Int) < (↑(lenT (canL { q := { n := (1 : Nat), g := fun (i : Nat) => (fun (l : List XV) => strD (xget l (0 : Nat))) (bsF (1 : Nat) (xpartsV (fun (x : Operand) => XV.st [] none (xev (({ s := xslots (0 : Nat) [], h := [], nx := (0 : Nat) : XS }.put { dst := some (0 : Nat), op := Op.assign (Operand.const (Value.bool false)), type := (4 : Nat), pos := "law.go:11", after := #[], guard := none : Oper }.dst ((fun (x : Operand) => XV.st [] none (xev { s := xslots (0 : Nat) [], h := [], nx := (0 : Nat) : XS }.s x)) (Operand.const (Value.bool false))).snd).wr none).s x)) #[((0 : Nat), Operand.const (Value.string { data := #[(98 : UInt8)] : ByteArray }))].toList).snd i) : Sq ByteArray }, d := (1 : Int) : CF }.q { q := { n := (1 : Nat), g := fun (i : Nat) => (fun (l : List XV) => strD (xget l (0 : Nat))) (bsF (1 : Nat) (xpartsV (fun (x : Operand) => XV.st [] none (xev (({ s := xslots (0 : Nat) [], h := [], nx := (0 : Nat) : XS }.put { dst := some (0 : Nat), op := Op.assign (Operand.const (Value.bool false)), type := (4 : Nat), pos := "law.go:11", after := #[], guard := none : Oper }.dst ((fun (x : Operand) => XV.st [] none (xev { s := xslots (0 : Nat) [], h := [], nx := (0 : Nat) : XS }.s x)) (Operand.const (Value.bool false))).snd).wr none).s x)) #[((0 : Nat), Operand.const (Value.string { data := #[(98 : UInt8)] : ByteArray }))].toList).snd i) : Sq ByteArray }, d := (1 : Int) : CF }.d { data := #[(97 : UInt8)] : ByteArray }).fst) : Int)) ∧ (((canL { n := (1 : Nat), g := fun (i : Nat) => { data := #[(98 : UInt8)] : ByteArray } : Sq ByteArray } (1 : Int) { data := #[(97 : UInt8)] : ByteArray }).snd == (0 : Int) && (↑(lenT (canL { q := { n := (1 : Nat), g := fun (i : Nat) => (fun (l : List XV) => strD (xget l (0 : Nat))) (bsF (1 : Nat) (xpartsV (fun (x : Operand) => XV.st [] none (xev (({ s := xslots (0 : Nat) [], h := [], nx := (0 : Nat) : XS }.put { dst := some (0 : Nat), op := Op.assign (Operand.const (Value.bool false)), type := (4 : Nat), pos := "law.go:11", after := #[], guard := none : Oper }.dst ((fun (x : Operand) => XV.st [] none (xev { s := xslots (0 : Nat) [], h := [], nx := (0 : Nat) : XS }.s x)) (Operand.const (Value.bool false))).snd).wr none).s x)) #[((0 : Nat), Operand.const (Value.string { data := #[(98 : UInt8)] : ByteArray }))].toList).snd i) : Sq ByteArray }, d := (1 : Int) : CF }.q { q := { n := (1 : Nat), g := fun (i : Nat) => (fun (l : List XV) => strD (xget l (0 : Nat))) (bsF (1 : Nat) (xpartsV (fun (x : Operand) => XV.st [] none (xev (({ s := xslots (0 : Nat) [], h := [], nx := (0 : Nat) : XS }.put { dst := some (0 : Nat), op := Op.assign (Operand.const (Value.bool false)), type := (4 : Nat), pos := "law.go:11", after := #[], guard := none : Oper }.dst ((fun (x : Operand) => XV.st [] none (xev { s := xslots (0 : Nat) [], h := [], nx := (0 : Nat) : XS }.s x)) (Operand.const (Value.bool false))).snd).wr none).s x)) #[((0 : Nat), Operand.const (Value.string { data := #[(98 : UInt8)] : ByteArray }))].toList).snd i) : Sq ByteArray }, d := (1 : Int) : CF }.d { data := #[(97 : UInt8)] : ByteArray }).fst) : Int) == (2 : Int) && decide ((canL { n := (1 : Nat), g := fun (i : Nat) => { data := #[(98 : UInt8)] : ByteArray } : Sq ByteArray } (1 : Int) { data := #[(97 : UInt8)] : ByteArray }).fst.getD ((0 : Nat)) { data := #[] : ByteArray } = { data := #[(97 : UInt8), (46 : UInt8), (98 : UInt8)] : ByteArray })) = true → (0 : Int) ≤ (1 : Int)) ∧ (((canL { n := (1 : Nat), g := fun (i : Nat) => { data := #[(98 : UInt8)] : ByteArray } : Sq ByteArray } (1 : Int) { data := #[(97 : UInt8)] : ByteArray }).snd == (0 : Int) && (↑(lenT (canL { q := { n := (1 : Nat), g := fun (i : Nat) => (fun (l : List XV) => strD (xget l (0 : Nat))) (bsF (1 : Nat) (xpartsV (fun (x : Operand) => XV.st [] none (xev (({ s := xslots (0 : Nat) [], h := [], nx := (0 : Nat) : XS }.put { dst := some (0 : Nat), op := Op.assign (Operand.const (Value.bool false)), type := (4 : Nat), pos := "law.go:11", after := #[], guard := none : Oper }.dst ((fun (x : Operand) => XV.st [] none (xev { s := xslots (0 : Nat) [], h := [], nx := (0 : Nat) : XS }.s x)) (Operand.const (Value.bool false))).snd).wr none).s x)) #[((0 : Nat), Operand.const (Value.string { data := #[(98 : UInt8)] : ByteArray }))].toList).snd i) : Sq ByteArray }, d := (1 : Int) : CF }.q { q := { n := (1 : Nat), g := fun (i : Nat) => (fun (l : List XV) => strD (xget l (0 : Nat))) (bsF (1 : Nat) (xpartsV (fun (x : Operand) => XV.st [] none (xev (({ s := xslots (0 : Nat) [], h := [], nx := (0 : Nat) : XS }.put { dst := some (0 : Nat), op := Op.assign (Operand.const (Value.bool false)), type := (4 : Nat), pos := "law.go:11", after := #[], guard := none : Oper }.dst ((fun (x : Operand) => XV.st [] none (xev { s := xslots (0 : Nat) [], h := [], nx := (0 : Nat) : XS }.s x)) (Operand.const (Value.bool false))).snd).wr none).s x)) #[((0 : Nat), Operand.const (Value.string { data := #[(98 : UInt8)] : ByteArray }))].toList).snd i) : Sq ByteArray }, d := (1 : Int) : CF }.d { data := #[(97 : UInt8)] : ByteArray }).fst) : Int) == (2 : Int) && decide ((canL { n := (1 : Nat), g := fun (i : Nat) => { data := #[(98 : UInt8)] : ByteArray } : Sq ByteArray } (1 : Int) { data := #[(97 : UInt8)] : ByteArray }).fst.getD ((0 : Nat)) { data := #[] : ByteArray } = { data := #[(97 : UInt8), (46 : UInt8), (98 : UInt8)] : ByteArray })) = true → (1 : Int) < (↑(lenT (canL { q := { n := (1 : Nat), g := fun (i : Nat) => (fun (l : List XV) => strD (xget l (0 : Nat))) (bsF (1 : Nat) (xpartsV (fun (x : Operand) => XV.st [] none (xev (({ s := xslots (0 : Nat) [], h := [], nx := (0 : Nat) : XS }.put { dst := some (0 : Nat), op := Op.assign (Operand.const (Value.bool false)), type := (4 : Nat), pos := "law.go:11", after := #[], guard := none : Oper }.dst ((fun (x : Operand) => XV.st [] none (xev { s := xslots (0 : Nat) [], h := [], nx := (0 : Nat) : XS }.s x)) (Operand.const (Value.bool false))).snd).wr none).s x)) #[((0 : Nat), Operand.const (Value.string { data := #[(98 : UInt8)] : ByteArray }))].toList).snd i) : Sq ByteArray }, d := (1 : Int) : CF }.q { q := { n := (1 : Nat), g := fun (i : Nat) => (fun (l : List XV) => strD (xget l (0 : Nat))) (bsF (1 : Nat) (xpartsV (fun (x : Operand) => XV.st [] none (xev (({ s := xslots (0 : Nat) [], h := [], nx := (0 : Nat) : XS }.put { dst := some (0 : Nat), op := Op.assign (Operand.const (Value.bool false)), type := (4 : Nat), pos := "law.go:11", after := #[], guard := none : Oper }.dst ((fun (x : Operand) => XV.st [] none (xev { s := xslots (0 : Nat) [], h := [], nx := (0 : Nat) : XS }.s x)) (Operand.const (Value.bool false))).snd).wr none).s x)) #[((0 : Nat), Operand.const (Value.string { data := #[(98 : UInt8)] : ByteArray }))].toList).snd i) : Sq ByteArray }, d := (1 : Int) : CF }.d { data := #[(97 : UInt8)] : ByteArray }).fst) : Int)) ∧ (((canL { n := (1 : Nat), g := fun (i : Nat) => { data := #[(98 : UInt8)] : ByteArray } : Sq ByteArray } (1 : Int) { data := #[(97 : UInt8)] : ByteArray }).snd == (0 : Int) && (↑(lenT (canL { q := { n := (1 : Nat), g := fun (i : Nat) => (fun (l : List XV) => strD (xget l (0 : Nat))) (bsF (1 : Nat) (xpartsV (fun (x : Operand) => XV.st [] none (xev (({ s := xslots (0 : Nat) [], h := [], nx := (0 : Nat) : XS }.put { dst := some (0 : Nat), op := Op.assign (Operand.const (Value.bool false)), type := (4 : Nat), pos := "law.go:11", after := #[], guard := none : Oper }.dst ((fun (x : Operand) => XV.st [] none (xev { s := xslots (0 : Nat) [], h := [], nx := (0 : Nat) : XS }.s x)) (Operand.const (Value.bool false))).snd).wr none).s x)) #[((0 : Nat), Operand.const (Value.string { data := #[(98 : UInt8)] : ByteArray }))].toList).snd i) : Sq ByteArray }, d := (1 : Int) : CF }.q { q := { n := (1 : Nat), g := fun (i : Nat) => (fun (l : List XV) => strD (xget l (0 : Nat))) (bsF (1 : Nat) (xpartsV (fun (x : Operand) => XV.st [] none (xev (({ s := xslots (0 : Nat) [], h := [], nx := (0 : Nat) : XS }.put { dst := some (0 : Nat), op := Op.assign (Operand.const (Value.bool false)), type := (4 : Nat), pos := "law.go:11", after := #[], guard := none : Oper }.dst ((fun (x : Operand) => XV.st [] none (xev { s := xslots (0 : Nat) [], h := [], nx := (0 : Nat) : XS }.s x)) (Operand.const (Value.bool false))).snd).wr none).s x)) #[((0 : Nat), Operand.const (Value.string { data := #[(98 : UInt8)] : ByteArray }))].toList).snd i) : Sq ByteArray }, d := (1 : Int) : CF }.d { data := #[(97 : UInt8)] : ByteArray }).fst) : Int) == (2 : Int) && decide ((canL { n := (1 : Nat), g := fun (i : Nat) => { data := #[(98 : UInt8)] : ByteArray } : Sq ByteArray } (1 : Int) { data := #[(97 : UInt8)] : ByteArray }).fst.getD ((0 : Nat)) { data := #[] : ByteArray } = { data := #[(97 : UInt8), (46 : UInt8), (98 : UInt8)] : ByteArray }) && decide ((canL { n := (1 : Nat), g := fun (i : Nat) => { data := #[(98 : UInt8)] : ByteArray } : Sq ByteArray } (1 : Int) { data := #[(97 : UInt8)] : ByteArray }).fst.getD ((1 : Nat)) { data := #[] : ByteArray } = { data := #[(97 : UInt8)] : ByteArray })) = true → (0 : Int) ≤ (0 : Int)) ∧ (((canL { n := (1 : Nat), g := fun (i : Nat) => { data := #[(98 : UInt8)] : ByteArray } : Sq ByteArray } (1 : Int) { data := #[(97 : UInt8)] : ByteArray }).snd == (0 : Int) && (↑(lenT (canL { q := { n := (1 : Nat), g := fun (i : Nat) => (fun (l : List XV) => strD (xget l (0 : Nat))) (bsF (1 : Nat) (xpartsV (fun (x : Operand) => XV.st [] none (xev (({ s := xslots (0 : Nat) [], h := [], nx := (0 : Nat) : XS }.put { dst := some (0 : Nat), op := Op.assign (Operand.const (Value.bool false)), type := (4 : Nat), pos := "law.go:11", after := #[], guard := none : Oper }.dst ((fun (x : Operand) => XV.st [] none (xev { s := xslots (0 : Nat) [], h := [], nx := (0 : Nat) : XS }.s x)) (Operand.const (Value.bool false))).snd).wr none).s x)) #[((0 : Nat), Operand.const (Value.string { data := #[(98 : UInt8)] : ByteArray }))].toList).snd i) : Sq ByteArray }, d := (1 : Int) : CF }.q { q := { n := (1 : Nat), g := fun (i : Nat) => (fun (l : List XV) => strD (xget l (0 : Nat))) (bsF (1 : Nat) (xpartsV (fun (x : Operand) => XV.st [] none (xev (({ s := xslots (0 : Nat) [], h := [], nx := (0 : Nat) : XS }.put { dst := some (0 : Nat), op := Op.assign (Operand.const (Value.bool false)), type := (4 : Nat), pos := "law.go:11", after := #[], guard := none : Oper }.dst ((fun (x : Operand) => XV.st [] none (xev { s := xslots (0 : Nat) [], h := [], nx := (0 : Nat) : XS }.s x)) (Operand.const (Value.bool false))).snd).wr none).s x)) #[((0 : Nat), Operand.const (Value.string { data := #[(98 : UInt8)] : ByteArray }))].toList).snd i) : Sq ByteArray }, d := (1 : Int) : CF }.d { data := #[(97 : UInt8)] : ByteArray }).fst) : Int) == (2 : Int) && decide ((canL { n := (1 : Nat), g := fun (i : Nat) => { data := #[(98 : UInt8)] : ByteArray } : Sq ByteArray } (1 : Int) { data := #[(97 : UInt8)] : ByteArray }).fst.getD ((0 : Nat)) { data := #[] : ByteArray } = { data := #[(97 : UInt8), (46 : UInt8), (98 : UInt8)] : ByteArray }) && decide ((canL { n := (1 : Nat), g := fun (i : Nat) => { data := #[(98 : UInt8)] : ByteArray } : Sq ByteArray } (1 : Int) { data := #[(97 : UInt8)] : ByteArray }).fst.getD ((1 : Nat)) { data := #[] : ByteArray } = { data := #[(97 : UInt8)] : ByteArray })) = true → (0 : Int) < (↑(lenT (canL { q := { n := (1 : Nat), g := fun (i : Nat) => (fun (l : List XV) => strD (xget l (0 : Nat))) (bsF (1 : Nat) (xpartsV (fun (x : Operand) => XV.st [] none (xev (({ s := xslots (0 : Nat) [], h := [], nx := (0 : Nat) : XS }.put { dst := some (0 : Nat), op := Op.assign (Operand.const (Value.bool false)), type := (4 : Nat), pos := "law.go:11", after := #[], guard := none : Oper }.dst ((fun (x : Operand) => XV.st [] none (xev { s := xslots (0 : Nat) [], h := [], nx := (0 : Nat) : XS }.s x)) (Operand.const (Value.bool false))).snd).wr none).s x)) #[((0 : Nat), Operand.const (Value.string { data := #[(98 : UInt8)] : ByteArray }))].toList).snd i) : Sq ByteArray }, d := (1 : Int) : CF }.q { q := { n := (1 : Nat), g := fun (i : Nat) => (fun (l : List XV) => strD (xget l (0 : Nat))) (bsF (1 : Nat) (xpartsV (fun (x : Operand) => XV.st [] none (xev (({ s := xslots (0 : Nat) [], h := [], nx := (0 : Nat) : XS }.put { dst := some (0 : Nat), op := Op.assign (Operand.const (Value.bool false)), type := (4 : Nat), pos := "law.go:11", after := #[], guard := none : Oper }.dst ((fun (x : Operand) => XV.st [] none (xev { s := xslots (0 : Nat) [], h := [], nx := (0 : Nat) : XS }.s x)) (Operand.const (Value.bool false))).snd).wr none).s x)) #[((0 : Nat), Operand.const (Value.string { data := #[(98 : UInt8)] : ByteArray }))].toList).snd i) : Sq ByteArray }, d := (1 : Int) : CF }.d { data := #[(97 : UInt8)] : ByteArray }).fst) : Int)) ∧ ((canL { n := (1 : Nat), g := fun (i : Nat) => { data := #[(98 : UInt8)] : ByteArray } : Sq ByteArray } (1 : Int) { data := #[(97 : UInt8)] : ByteArray }).snd == (0 : Int) && (↑(lenT (canL { q := { n := (1 : Nat), g := fun (i : Nat) => (fun (l : List XV) => strD (xget l (0 : Nat))) (bsF (1 : Nat) (xpartsV (fun (x : Operand) => XV.st [] none (xev (({ s := xslots (0 : Nat) [], h := [], nx := (0 : Nat) : XS }.put { dst := some (0 : Nat), op := Op.assign (Operand.const (Value.bool false)), type := (4 : Nat), pos := "law.go:11", after := #[], guard := none : Oper }.dst ((fun (x : Operand) => XV.st [] none (xev { s := xslots (0 : Nat) [], h := [], nx := (0 : Nat) : XS }.s x)) (Operand.const (Value.bool false))).snd).wr none).s x)) #[((0 : Nat), Operand.const (Value.string { data := #[(98 : UInt8)] : ByteArray }))].toList).snd i) : Sq ByteArray }, d := (1 : Int) : CF }.q { q := { n := (1 : Nat), g := fun (i : Nat) => (fun (l : List XV) => strD (xget l (0 : Nat))) (bsF (1 : Nat) (xpartsV (fun (x : Operand) => XV.st [] none (xev (({ s := xslots (0 : Nat) [], h := [], nx := (0 : Nat) : XS }.put { dst := some (0 : Nat), op := Op.assign (Operand.const (Value.bool false)), type := (4 : Nat), pos := "law.go:11", after := #[], guard := none : Oper }.dst ((fun (x : Operand) => XV.st [] none (xev { s := xslots (0 : Nat) [], h := [], nx := (0 : Nat) : XS }.s x)) (Operand.const (Value.bool false))).snd).wr none).s x)) #[((0 : Nat), Operand.const (Value.string { data := #[(98 : UInt8)] : ByteArray }))].toList).snd i) : Sq ByteArray }, d := (1 : Int) : CF }.d { data := #[(97 : UInt8)] : ByteArray }).fst) : Int) == (2 : Int) && decide ((canL { n := (1 : Nat), g := fun (i : Nat) => { data := #[(98 : UInt8)] : ByteArray } : Sq ByteArray } (1 : Int) { data := #[(97 : UInt8)] : ByteArray }).fst.getD ((0 : Nat)) { data := #[] : ByteArray } = { data := #[(97 : UInt8), (46 : UInt8), (98 : UInt8)] : ByteArray }) && decide ((canL { n := (1 : Nat), g := fun (i : Nat) => { data := #[(98 : UInt8)] : ByteArray } : Sq ByteArray } (1 : Int) { data := #[(97 : UInt8)] : ByteArray }).fst.getD ((1 : Nat)) { data := #[] : ByteArray } = { data := #[(97 : UInt8)] : ByteArray }) && cntB ((canL { n := (1 : Nat), g := fun (i : Nat) => { data := #[(98 : UInt8)] : ByteArray } : Sq ByteArray } (1 : Int) { data := #[(97 : UInt8)] : ByteArray }).fst.getD ((0 : Nat)) { data := #[] : ByteArray }) { data := #[(46 : UInt8)] : ByteArray } == (1 : Int)) = true
theorem cfitV_eq  : cfitV  = (funC cxq Tryd.f8 .nil [] (XB true)) := by kernel_rfl
theorem cfit_v : cfitV := by
  unfold cfitV
  exact ⟨fun _ _ => rfl, rfl, rfl, by decide, fun _ _ => by decide, by decide +kernel⟩
theorem cfit_ok : CTok Tryd.prog 8 (C0 [] (XB true)) := C0_ok cxq_ok Tryd.func8 rfl (by decide) rfl fun _ => exv cfitV_eq cfit_v
def cxw : Cx := { cx0 with C := [(8, C0 [] (XB true)), (9, toAC), (11, dotC), (10, lstC)] }
theorem cxw_ok : cxw.ok Tryd.prog := cxq_ok.addC cfit_ok
def cnI (s : ByteArray) (q : Sq ByteArray) : Inv where
  σ := IL
  S := fun x => ⟨[(0, XT s), (21, sqT q), (22, XI q.n), (23, XI x.i)], [], 0, false, []⟩
  inv := fun x => x.i ≤ q.n
  μ := fun x => q.n - x.i
def cnE (s : ByteArray) (q : Sq ByteArray) : Env := { loops := [(0, cnI s q)] }
def noneV (s : ByteArray) (q : Sq ByteArray) : Prop :=
  ((!true) = true → false = true) ∧ ((!true) = false → ((decide ((↑s.size : Int) > (600 : Int)) || decide ((↑q.n : Int) > (10 : Int))) = true → true = true) ∧ ((decide ((↑s.size : Int) > (600 : Int)) || decide ((↑q.n : Int) > (10 : Int))) = false → (∃ (x : (cnI s q).σ), x.i.le q.n ∧ true = true ∧ s = s ∧ (XV.fz q.n (1 : Nat) fun (i : Nat) => [XT (q.g i)]) = sqT q ∧ (↑q.n : Int) = (↑q.n : Int) ∧ (0 : Int) = (↑x.i : Int) ∧ True) ∧ ∀ (x : IL), x.i.le q.n → (decide ((↑x.i : Int) < (↑q.n : Int)) = true → (0 : Int) ≤ (↑x.i : Int) ∧ (↑x.i : Int) < (↑q.n : Int) ∧ (decide ((↑(q.g (↑x.i : Int).toNat).size : Int) > (300 : Int)) = true → true = true) ∧ (decide ((↑(q.g (↑x.i : Int).toNat).size : Int) > (300 : Int)) = false → in64 ((↑x.i : Int) + (1 : Int)) ∧ ∃ (x' : (cnI s q).σ), x'.i.le q.n ∧ q.n - x'.i < q.n - x.i ∧ true = true ∧ s = s ∧ (XV.fz q.n (1 : Nat) fun (i : Nat) => [XT (q.g i)]) = sqT q ∧ (↑q.n : Int) = (↑q.n : Int) ∧ (↑x.i : Int) + (1 : Int) = (↑x'.i : Int) ∧ True)) ∧ (decide ((↑x.i : Int) < (↑q.n : Int)) = false → (0 : Int) = (0 : Int) ∧ (0 : Int) = (0 : Int) ∧ (0 : Nat) ≤ (900 : Nat) ∧ (∀ (i : Nat), i < (0 : Nat) → { data := #[] : ByteArray }.size ≤ (1000000000000000000 : Nat)) ∧ (((toA s).snd != (0 : Int)) = true → ((canL { n := (0 : Nat), g := fun (x : Nat) => { data := #[] : ByteArray } : Sq ByteArray } (1 : Int) s).snd == (toA s).snd && (↑(lenT (canL { n := (0 : Nat), g := fun (x : Nat) => { data := #[] : ByteArray } : Sq ByteArray } (1 : Int) s).fst) : Int) == (0 : Int)) = true) ∧ (((toA s).snd != (0 : Int)) = false → ((canL { n := (0 : Nat), g := fun (x : Nat) => { data := #[] : ByteArray } : Sq ByteArray } (1 : Int) s).snd == (0 : Int) && (↑(lenT (canL { n := (0 : Nat), g := fun (x : Nat) => { data := #[] : ByteArray } : Sq ByteArray } (1 : Int) s).fst) : Int) == (1 : Int)) = true))))
theorem noneV_eq (s : ByteArray) (q : Sq ByteArray) : noneV s q = (funC cxw Tryd.f7 (mkSc (cnE s q) (bodyOf Tryd.f7)) [XT s, sqT q] (XB true)) := by kernel_rfl
def caG (q : Sq ByteArray) (i : Nat) : Prop := ∀ j, j < i → toA (q.g j) = (q.g j, 0)
def caH (o : List ByteArray) (n : ByteArray) (i : Nat) : Prop := ∀ j, j < i → toA (o.getD j ⟨#[]⟩) = (o.getD j ⟨#[]⟩, 0)
def naI0 (q : Sq ByteArray) (s : ByteArray) : Inv where
  σ := IL
  S := fun x => ⟨[(0, sqT q), (1, XT s), (27, sqT q), (28, XI q.n), (29, XI x.i)], [], 0, false, []⟩
  inv := fun x => x.i ≤ q.n ∧ caG q x.i
  μ := fun x => q.n - x.i
def naI2 (q : Sq ByteArray) (s : ByteArray) : Inv where
  σ := IL
  S := fun x => ⟨[(0, sqT q), (9, fzT (canL q 1 s).1), (11, XT (toA s).1), (60, fzT (canL q 1 s).1), (61, XI (lenT (canL q 1 s).1)), (62, XI x.i)], [], 0, false, []⟩
  inv := fun x => x.i ≤ lenT (canL q 1 s).1
  μ := fun x => lenT (canL q 1 s).1 - x.i
def naE (q : Sq ByteArray) (s : ByteArray) : Env := { loops := [(0, naI0 q s), (2, naI2 q s)] }
def namsV (q : Sq ByteArray) (s : ByteArray) : Prop :=
  ((!true) = true → false = true) ∧ ((!true) = false → ((decide ((↑q.n : Int) > (12 : Int)) || decide ((↑s.size : Int) > (600 : Int))) = true → true = true) ∧ ((decide ((↑q.n : Int) > (12 : Int)) || decide ((↑s.size : Int) > (600 : Int))) = false → (∃ (x : (naI0 q s).σ), (x.i ≤ q.n ∧ caG q x.i) ∧ true = true ∧ (XV.fz q.n (1 : Nat) fun (i : Nat) => [XT (q.g i)]) = sqT q ∧ s = s ∧ (XV.fz q.n (1 : Nat) fun (i : Nat) => [XT (q.g i)]) = sqT q ∧ (↑q.n : Int) = (↑q.n : Int) ∧ (0 : Int) = (↑x.i : Int) ∧ True) ∧ ∀ (x : IL), x.i ≤ q.n ∧ caG q x.i → (decide ((↑x.i : Int) < (↑q.n : Int)) = true → (0 : Int) ≤ (↑x.i : Int) ∧ (↑x.i : Int) < (↑q.n : Int) ∧ (((toA (q.g (↑x.i : Int).toNat)).snd != (0 : Int) || !decide ((toA (q.g (↑x.i : Int).toNat)).fst = q.g (↑x.i : Int).toNat)) = true → true = true) ∧ (((toA (q.g (↑x.i : Int).toNat)).snd != (0 : Int) || !decide ((toA (q.g (↑x.i : Int).toNat)).fst = q.g (↑x.i : Int).toNat)) = false → in64 ((↑x.i : Int) + (1 : Int)) ∧ ∃ (x' : (naI0 q s).σ), (x'.i ≤ q.n ∧ caG q x'.i) ∧ q.n - x'.i < q.n - x.i ∧ true = true ∧ (XV.fz q.n (1 : Nat) fun (i : Nat) => [XT (q.g i)]) = sqT q ∧ s = s ∧ (XV.fz q.n (1 : Nat) fun (i : Nat) => [XT (q.g i)]) = sqT q ∧ (↑q.n : Int) = (↑q.n : Int) ∧ (↑x.i : Int) + (1 : Int) = (↑x'.i : Int) ∧ True)) ∧ (decide ((↑x.i : Int) < (↑q.n : Int)) = false → (∀ (i : Nat), i < q.n → [XT (q.g i)] = [XT (q.g i)]) ∧ (0 : Int) = (0 : Int) ∧ (0 : Int) = (0 : Int) ∧ q.n ≤ (900 : Nat) ∧ (∀ (i : Nat), i < q.n → (q.g i).size ≤ (1000000000000000000 : Nat)) ∧ (((canL q (1 : Int) s).snd != (0 : Int)) = true → true = true) ∧ (((canL q (1 : Int) s).snd != (0 : Int)) = false → (∃ (x : (naI2 q s).σ), x.i.le (lenT (canL q (1 : Int) s).fst) ∧ true = true ∧ (XV.fz q.n (1 : Nat) fun (i : Nat) => [XT (q.g i)]) = sqT q ∧ ((XV.fz (lenT (canL q (1 : Int) s).fst) (1 : Nat) fun (j : Nat) => [XT ((canL q (1 : Int) s).fst.getD j { data := #[] : ByteArray })]) = XV.fz (lenT (canL q (1 : Int) s).fst) (1 : Nat) fun (j : Nat) => [XT ((canL q (1 : Int) s).fst.getD j { data := #[] : ByteArray })]) ∧ (toA s).fst = (toA s).fst ∧ ((XV.fz (lenT (canL q (1 : Int) s).fst) (1 : Nat) fun (j : Nat) => [XT ((canL q (1 : Int) s).fst.getD j { data := #[] : ByteArray })]) = XV.fz (lenT (canL q (1 : Int) s).fst) (1 : Nat) fun (j : Nat) => [XT ((canL q (1 : Int) s).fst.getD j { data := #[] : ByteArray })]) ∧ (↑(lenT (canL q (1 : Int) s).fst) : Int) = (↑(lenT (canL q (1 : Int) s).fst) : Int) ∧ (0 : Int) = (↑x.i : Int) ∧ True) ∧ ∀ (x : IL), x.i.le (lenT (canL q (1 : Int) s).fst) → (decide ((↑x.i : Int) < (↑(lenT (canL q (1 : Int) s).fst) : Int)) = true → (0 : Int) ≤ (↑x.i : Int) ∧ (↑x.i : Int) < (↑(lenT (canL q (1 : Int) s).fst) : Int) ∧ ((!((toA ((canL q (1 : Int) s).fst.getD (↑x.i : Int).toNat { data := #[] : ByteArray })).snd != (0 : Int) || !decide ((toA ((canL q (1 : Int) s).fst.getD (↑x.i : Int).toNat { data := #[] : ByteArray })).fst = (canL q (1 : Int) s).fst.getD (↑x.i : Int).toNat { data := #[] : ByteArray }) || decide ((↑((canL q (1 : Int) s).fst.getD (↑x.i : Int).toNat { data := #[] : ByteArray }).size : Int) < (↑(toA s).fst.size : Int)))) = true → (0 : Int) ≤ (0 : Int)) ∧ ((!((toA ((canL q (1 : Int) s).fst.getD (↑x.i : Int).toNat { data := #[] : ByteArray })).snd != (0 : Int) || !decide ((toA ((canL q (1 : Int) s).fst.getD (↑x.i : Int).toNat { data := #[] : ByteArray })).fst = (canL q (1 : Int) s).fst.getD (↑x.i : Int).toNat { data := #[] : ByteArray }) || decide ((↑((canL q (1 : Int) s).fst.getD (↑x.i : Int).toNat { data := #[] : ByteArray }).size : Int) < (↑(toA s).fst.size : Int)))) = true → (0 : Int) ≤ (↑(toA s).fst.size : Int)) ∧ ((!((toA ((canL q (1 : Int) s).fst.getD (↑x.i : Int).toNat { data := #[] : ByteArray })).snd != (0 : Int) || !decide ((toA ((canL q (1 : Int) s).fst.getD (↑x.i : Int).toNat { data := #[] : ByteArray })).fst = (canL q (1 : Int) s).fst.getD (↑x.i : Int).toNat { data := #[] : ByteArray }) || decide ((↑((canL q (1 : Int) s).fst.getD (↑x.i : Int).toNat { data := #[] : ByteArray }).size : Int) < (↑(toA s).fst.size : Int)))) = true → (↑(toA s).fst.size : Int) ≤ (↑((canL q (1 : Int) s).fst.getD (↑x.i : Int).toNat { data := #[] : ByteArray }).size : Int)) ∧ (((toA ((canL q (1 : Int) s).fst.getD (↑x.i : Int).toNat { data := #[] : ByteArray })).snd != (0 : Int) || !decide ((toA ((canL q (1 : Int) s).fst.getD (↑x.i : Int).toNat { data := #[] : ByteArray })).fst = (canL q (1 : Int) s).fst.getD (↑x.i : Int).toNat { data := #[] : ByteArray }) || decide ((↑((canL q (1 : Int) s).fst.getD (↑x.i : Int).toNat { data := #[] : ByteArray }).size : Int) < (↑(toA s).fst.size : Int)) || !decide (((canL q (1 : Int) s).fst.getD (↑x.i : Int).toNat { data := #[] : ByteArray }).extract ((0 : Nat)) (↑(toA s).fst.size : Int).toNat = (toA s).fst)) = true → false = true) ∧ (((toA ((canL q (1 : Int) s).fst.getD (↑x.i : Int).toNat { data := #[] : ByteArray })).snd != (0 : Int) || !decide ((toA ((canL q (1 : Int) s).fst.getD (↑x.i : Int).toNat { data := #[] : ByteArray })).fst = (canL q (1 : Int) s).fst.getD (↑x.i : Int).toNat { data := #[] : ByteArray }) || decide ((↑((canL q (1 : Int) s).fst.getD (↑x.i : Int).toNat { data := #[] : ByteArray }).size : Int) < (↑(toA s).fst.size : Int)) || !decide (((canL q (1 : Int) s).fst.getD (↑x.i : Int).toNat { data := #[] : ByteArray }).extract ((0 : Nat)) (↑(toA s).fst.size : Int).toNat = (toA s).fst)) = false → in64 ((↑x.i : Int) + (1 : Int)) ∧ ∃ (x' : (naI2 q s).σ), x'.i.le (lenT (canL q (1 : Int) s).fst) ∧ lenT (canL q (1 : Int) s).fst - x'.i < lenT (canL q (1 : Int) s).fst - x.i ∧ true = true ∧ (XV.fz q.n (1 : Nat) fun (i : Nat) => [XT (q.g i)]) = sqT q ∧ ((XV.fz (lenT (canL q (1 : Int) s).fst) (1 : Nat) fun (j : Nat) => [XT ((canL q (1 : Int) s).fst.getD j { data := #[] : ByteArray })]) = XV.fz (lenT (canL q (1 : Int) s).fst) (1 : Nat) fun (j : Nat) => [XT ((canL q (1 : Int) s).fst.getD j { data := #[] : ByteArray })]) ∧ (toA s).fst = (toA s).fst ∧ ((XV.fz (lenT (canL q (1 : Int) s).fst) (1 : Nat) fun (j : Nat) => [XT ((canL q (1 : Int) s).fst.getD j { data := #[] : ByteArray })]) = XV.fz (lenT (canL q (1 : Int) s).fst) (1 : Nat) fun (j : Nat) => [XT ((canL q (1 : Int) s).fst.getD j { data := #[] : ByteArray })]) ∧ (↑(lenT (canL q (1 : Int) s).fst) : Int) = (↑(lenT (canL q (1 : Int) s).fst) : Int) ∧ (↑x.i : Int) + (1 : Int) = (↑x'.i : Int) ∧ True)) ∧ (decide ((↑x.i : Int) < (↑(lenT (canL q (1 : Int) s).fst) : Int)) = false → (decide ((↑(lenT (canL q (1 : Int) s).fst) : Int) ≥ (1 : Int)) = true → in64 ((↑q.n : Int) + (1 : Int))) ∧ (decide ((↑(lenT (canL q (1 : Int) s).fst) : Int) ≥ (1 : Int)) && decide ((↑(lenT (canL q (1 : Int) s).fst) : Int) ≤ (↑q.n : Int) + (1 : Int))) = true)))))
theorem namsV_eq (q : Sq ByteArray) (s : ByteArray) : namsV q s = (funC cxw Tryd.f4 (mkSc (naE q s) (bodyOf Tryd.f4)) [sqT q, XT s] (XB true)) := by kernel_rfl
end Go.Proofs.YthomfpdigmeheaaDoorAv
set_option linter.unusedVariables false
set_option linter.unusedSimpArgs false
set_option maxRecDepth 100000
namespace Go.Proofs.YthomfpdigmeheaaDoorAv
open Go Go.RowKit
/-- Pieces "abcdefghi.", i times. -/
def loP : Nat → ByteArray
  | 0 => ⟨#[]⟩
  | i + 1 => loP i ++ ⟨#[97, 98, 99, 100, 101, 102, 103, 104, 105, 46]⟩
def loN (n : Int) : Int := bits .and .i64 n 63 + 180
def loD : ByteArray := ⟨#[48, 49, 50, 51, 52, 53, 54, 55, 56, 57, 46, 48, 49, 50, 51, 52, 53, 54, 55, 56, 57, 46, 48, 49, 50, 51, 52, 53, 54, 55, 56, 57]⟩
def loQ : Sq ByteArray := ⟨2, fun i => [loD, ⟨#[121]⟩].getD i ⟨#[]⟩⟩
/-- The name of so many signs. -/
def loT (m : Nat) : ByteArray := if sbyte ((loP ((m + 9) / 10)).extract 0 m) (((m : Nat) : Int) - 1) == 46 then ((loP ((m + 9) / 10)).extract 0 m).extract 0 (m - 1) ++ ⟨#[120]⟩ else (loP ((m + 9) / 10)).extract 0 m
def loL (m : Nat) : List ByteArray := (canL loQ 99 (loT m)).1
def loI (n : Int) : Inv where
  σ := IL
  S := fun x => ⟨[(0, XI (loN n)), (3, XT (loP x.i))], [], 0, false, []⟩
  inv := fun x => 10 * (x.i : Int) < loN n + 10
  μ := fun x => ((loN n).toNat + 10 - 10 * x.i)
def loC (n : Int) : Inv where
  σ := IL
  S := fun _ => ⟨[(0, XI (loN n)), (3, XT (loT (loN n).toNat))], [], 0, false, []⟩
  inv := fun _ => True
  μ := fun _ => 0
def loC2 (n : Int) : Inv where
  σ := IL
  S := fun _ => ⟨[(0, XI (loN n)), (3, XT (loT (loN n).toNat)), (4, XT loD), (5, .fz (lenT (loL (loN n).toNat)) 1 fun j => [XT ((loL (loN n).toNat).getD j ⟨#[]⟩)]), (6, XI 0)], [], 0, false, []⟩
  inv := fun _ => True
  μ := fun _ => 0
def loE (n : Int) : Env := { loops := [(0, loI n)], cuts := [(10, loC n), (12, loC2 n)] }
def longV (n : Int) : Prop :=
  ((!true) = true → false = true) ∧ ((!true) = false → in64 (bits BinOp.and IntKind.i64 n (63 : Int) + (180 : Int)) ∧ (∃ (x : (loI n).σ), (loN n + (10 : Int) - ((10 : Int) * (↑x.i : Int) + (1 : Int))).NonNeg ∧ true = true ∧ bits BinOp.and IntKind.i64 n (63 : Int) + (180 : Int) = loN n ∧ { data := #[] : ByteArray } = loP x.i ∧ True) ∧ ∀ (x : IL), (loN n + (10 : Int) - ((10 : Int) * (↑x.i : Int) + (1 : Int))).NonNeg → (decide ((↑(loP x.i).size : Int) < loN n) = true → (loP x.i).size + (10 : Nat) ≤ (9223372036854775807 : Nat) ∧ ∃ (x' : (loI n).σ), (loN n + (10 : Int) - ((10 : Int) * (↑x'.i : Int) + (1 : Int))).NonNeg ∧ (loN n).toNat + (10 : Nat) - (10 : Nat) * x'.i < (loN n).toNat + (10 : Nat) - (10 : Nat) * x.i ∧ true = true ∧ loN n = loN n ∧ loP x.i ++ { data := #[(97 : UInt8), (98 : UInt8), (99 : UInt8), (100 : UInt8), (101 : UInt8), (102 : UInt8), (103 : UInt8), (104 : UInt8), (105 : UInt8), (46 : UInt8)] : ByteArray } = loP x'.i ∧ True) ∧ (decide ((↑(loP x.i).size : Int) < loN n) = false → (0 : Int) ≤ (0 : Int) ∧ (0 : Int) ≤ loN n ∧ loN n ≤ (↑(loP x.i).size : Int) ∧ (in64 (loN n - (1 : Int)) ∧ (0 : Int) ≤ loN n - (1 : Int) ∧ loN n - (1 : Int) < (↑((loP x.i).extract ((0 : Nat)) (loN n).toNat).size : Int) ∧ ((sbyte ((loP x.i).extract ((0 : Nat)) (loN n).toNat) (loN n - (1 : Int)) == (46 : Int)) = true → in64 (loN n - (1 : Int)) ∧ (0 : Int) ≤ (0 : Int) ∧ (0 : Int) ≤ loN n - (1 : Int) ∧ loN n - (1 : Int) ≤ (↑((loP x.i).extract ((0 : Nat)) (loN n).toNat).size : Int) ∧ (((loP x.i).extract ((0 : Nat)) (loN n).toNat).extract ((0 : Nat)) (loN n - (1 : Int)).toNat).size + (1 : Nat) ≤ (9223372036854775807 : Nat) ∧ ∃ (x_1 : (loC n).σ), True ∧ true = true ∧ loN n = loN n ∧ ((loP x.i).extract ((0 : Nat)) (loN n).toNat).extract ((0 : Nat)) (loN n - (1 : Int)).toNat ++ { data := #[(120 : UInt8)] : ByteArray } = loT (loN n).toNat ∧ True) ∧ ((sbyte ((loP x.i).extract ((0 : Nat)) (loN n).toNat) (loN n - (1 : Int)) == (46 : Int)) = false → ∃ (x_1 : (loC n).σ), True ∧ true = true ∧ loN n = loN n ∧ (loP x.i).extract ((0 : Nat)) (loN n).toNat = loT (loN n).toNat ∧ True)) ∧ ∀ (x : IL), True → ((∀ (i : Nat), i < (2 : Nat) → [XT ([{ data := #[(48 : UInt8), (49 : UInt8), (50 : UInt8), (51 : UInt8), (52 : UInt8), (53 : UInt8), (54 : UInt8), (55 : UInt8), (56 : UInt8), (57 : UInt8), (46 : UInt8), (48 : UInt8), (49 : UInt8), (50 : UInt8), (51 : UInt8), (52 : UInt8), (53 : UInt8), (54 : UInt8), (55 : UInt8), (56 : UInt8), (57 : UInt8), (46 : UInt8), (48 : UInt8), (49 : UInt8), (50 : UInt8), (51 : UInt8), (52 : UInt8), (53 : UInt8), (54 : UInt8), (55 : UInt8), (56 : UInt8), (57 : UInt8)] : ByteArray }, { data := #[(121 : UInt8)] : ByteArray }].getD i { data := #[] : ByteArray })] = [XT ([{ data := #[(48 : UInt8), (49 : UInt8), (50 : UInt8), (51 : UInt8), (52 : UInt8), (53 : UInt8), (54 : UInt8), (55 : UInt8), (56 : UInt8), (57 : UInt8), (46 : UInt8), (48 : UInt8), (49 : UInt8), (50 : UInt8), (51 : UInt8), (52 : UInt8), (53 : UInt8), (54 : UInt8), (55 : UInt8), (56 : UInt8), (57 : UInt8), (46 : UInt8), (48 : UInt8), (49 : UInt8), (50 : UInt8), (51 : UInt8), (52 : UInt8), (53 : UInt8), (54 : UInt8), (55 : UInt8), (56 : UInt8), (57 : UInt8)] : ByteArray }, { data := #[(121 : UInt8)] : ByteArray }].getD i { data := #[] : ByteArray })]) ∧ (0 : Int) = (0 : Int) ∧ (0 : Int) = (0 : Int) ∧ (2 : Nat) ≤ (900 : Nat) ∧ (∀ (i : Nat), i < (2 : Nat) → ([{ data := #[(48 : UInt8), (49 : UInt8), (50 : UInt8), (51 : UInt8), (52 : UInt8), (53 : UInt8), (54 : UInt8), (55 : UInt8), (56 : UInt8), (57 : UInt8), (46 : UInt8), (48 : UInt8), (49 : UInt8), (50 : UInt8), (51 : UInt8), (52 : UInt8), (53 : UInt8), (54 : UInt8), (55 : UInt8), (56 : UInt8), (57 : UInt8), (46 : UInt8), (48 : UInt8), (49 : UInt8), (50 : UInt8), (51 : UInt8), (52 : UInt8), (53 : UInt8), (54 : UInt8), (55 : UInt8), (56 : UInt8), (57 : UInt8)] : ByteArray }, { data := #[(121 : UInt8)] : ByteArray }].getD i { data := #[] : ByteArray }).size ≤ (1000000000000000000 : Nat)) ∧ ∃ (x : (loC2 n).σ), True ∧ true = true ∧ loN n = loN n ∧ loT (loN n).toNat = loT (loN n).toNat ∧ { data := #[(48 : UInt8), (49 : UInt8), (50 : UInt8), (51 : UInt8), (52 : UInt8), (53 : UInt8), (54 : UInt8), (55 : UInt8), (56 : UInt8), (57 : UInt8), (46 : UInt8), (48 : UInt8), (49 : UInt8), (50 : UInt8), (51 : UInt8), (52 : UInt8), (53 : UInt8), (54 : UInt8), (55 : UInt8), (56 : UInt8), (57 : UInt8), (46 : UInt8), (48 : UInt8), (49 : UInt8), (50 : UInt8), (51 : UInt8), (52 : UInt8), (53 : UInt8), (54 : UInt8), (55 : UInt8), (56 : UInt8), (57 : UInt8)] : ByteArray } = { data := #[(48 : UInt8), (49 : UInt8), (50 : UInt8), (51 : UInt8), (52 : UInt8), (53 : UInt8), (54 : UInt8), (55 : UInt8), (56 : UInt8), (57 : UInt8), (46 : UInt8), (48 : UInt8), (49 : UInt8), (50 : UInt8), (51 : UInt8), (52 : UInt8), (53 : UInt8), (54 : UInt8), (55 : UInt8), (56 : UInt8), (57 : UInt8), (46 : UInt8), (48 : UInt8), (49 : UInt8), (50 : UInt8), (51 : UInt8), (52 : UInt8), (53 : UInt8), (54 : UInt8), (55 : UInt8), (56 : UInt8), (57 : UInt8)] : ByteArray } ∧ ((XV.fz (lenT (canL { n := (2 : Nat), g := fun (i : Nat) => [{ data := #[(48 : UInt8), (49 : UInt8), (50 : UInt8), (51 : UInt8), (52 : UInt8), (53 : UInt8), (54 : UInt8), (55 : UInt8), (56 : UInt8), (57 : UInt8), (46 : UInt8), (48 : UInt8), (49 : UInt8), (50 : UInt8), (51 : UInt8), (52 : UInt8), (53 : UInt8), (54 : UInt8), (55 : UInt8), (56 : UInt8), (57 : UInt8), (46 : UInt8), (48 : UInt8), (49 : UInt8), (50 : UInt8), (51 : UInt8), (52 : UInt8), (53 : UInt8), (54 : UInt8), (55 : UInt8), (56 : UInt8), (57 : UInt8)] : ByteArray }, { data := #[(121 : UInt8)] : ByteArray }].getD i { data := #[] : ByteArray } : Sq ByteArray } (99 : Int) (loT (loN n).toNat)).fst) (1 : Nat) fun (j : Nat) => [XT ((canL { n := (2 : Nat), g := fun (i : Nat) => [{ data := #[(48 : UInt8), (49 : UInt8), (50 : UInt8), (51 : UInt8), (52 : UInt8), (53 : UInt8), (54 : UInt8), (55 : UInt8), (56 : UInt8), (57 : UInt8), (46 : UInt8), (48 : UInt8), (49 : UInt8), (50 : UInt8), (51 : UInt8), (52 : UInt8), (53 : UInt8), (54 : UInt8), (55 : UInt8), (56 : UInt8), (57 : UInt8), (46 : UInt8), (48 : UInt8), (49 : UInt8), (50 : UInt8), (51 : UInt8), (52 : UInt8), (53 : UInt8), (54 : UInt8), (55 : UInt8), (56 : UInt8), (57 : UInt8)] : ByteArray }, { data := #[(121 : UInt8)] : ByteArray }].getD i { data := #[] : ByteArray } : Sq ByteArray } (99 : Int) (loT (loN n).toNat)).fst.getD j { data := #[] : ByteArray })]) = XV.fz (lenT (loL (loN n).toNat)) (1 : Nat) fun (j : Nat) => [XT ((loL (loN n).toNat).getD j { data := #[] : ByteArray })]) ∧ (canL { n := (2 : Nat), g := fun (i : Nat) => [{ data := #[(48 : UInt8), (49 : UInt8), (50 : UInt8), (51 : UInt8), (52 : UInt8), (53 : UInt8), (54 : UInt8), (55 : UInt8), (56 : UInt8), (57 : UInt8), (46 : UInt8), (48 : UInt8), (49 : UInt8), (50 : UInt8), (51 : UInt8), (52 : UInt8), (53 : UInt8), (54 : UInt8), (55 : UInt8), (56 : UInt8), (57 : UInt8), (46 : UInt8), (48 : UInt8), (49 : UInt8), (50 : UInt8), (51 : UInt8), (52 : UInt8), (53 : UInt8), (54 : UInt8), (55 : UInt8), (56 : UInt8), (57 : UInt8)] : ByteArray }, { data := #[(121 : UInt8)] : ByteArray }].getD i { data := #[] : ByteArray } : Sq ByteArray } (99 : Int) (loT (loN n).toNat)).snd = (0 : Int) ∧ True) ∧ ∀ (x : IL), True → (((0 : Int) != (0 : Int)) = true → false = true) ∧ (((0 : Int) != (0 : Int)) = false → in64 (loN n + (1 : Int)) ∧ in64 (loN n + (1 : Int) + (↑((32 : Nat)) : Int)) ∧ (decide (loN n + (1 : Int) + (↑((32 : Nat)) : Int) ≤ (253 : Int)) = true → in64 ((1 : Int) + (1 : Int)) ∧ in64 (loN n + (2 : Int)) ∧ (decide (loN n + (2 : Int) ≤ (253 : Int)) = true → in64 ((1 : Int) + (1 : Int) + (1 : Int)) ∧ (((↑(lenT (loL (loN n).toNat)) : Int) == (1 : Int) + (1 : Int) + (1 : Int)) = true → in64 ((↑(lenT (loL (loN n).toNat)) : Int) - (1 : Int))) ∧ (((↑(lenT (loL (loN n).toNat)) : Int) == (1 : Int) + (1 : Int) + (1 : Int)) = true → (0 : Int) ≤ (↑(lenT (loL (loN n).toNat)) : Int) - (1 : Int)) ∧ (((↑(lenT (loL (loN n).toNat)) : Int) == (1 : Int) + (1 : Int) + (1 : Int)) = true → (↑(lenT (loL (loN n).toNat)) : Int) - (1 : Int) < (↑(lenT (loL (loN n).toNat)) : Int)) ∧ ((↑(lenT (loL (loN n).toNat)) : Int) == (1 : Int) + (1 : Int) + (1 : Int) && decide ((loL (loN n).toNat).getD ((↑(lenT (loL (loN n).toNat)) : Int) - (1 : Int)).toNat { data := #[] : ByteArray } = loT (loN n).toNat)) = true) ∧ (decide (loN n + (2 : Int) ≤ (253 : Int)) = false → (((↑(lenT (loL (loN n).toNat)) : Int) == (1 : Int) + (1 : Int)) = true → in64 ((↑(lenT (loL (loN n).toNat)) : Int) - (1 : Int))) ∧ (((↑(lenT (loL (loN n).toNat)) : Int) == (1 : Int) + (1 : Int)) = true → (0 : Int) ≤ (↑(lenT (loL (loN n).toNat)) : Int) - (1 : Int)) ∧ (((↑(lenT (loL (loN n).toNat)) : Int) == (1 : Int) + (1 : Int)) = true → (↑(lenT (loL (loN n).toNat)) : Int) - (1 : Int) < (↑(lenT (loL (loN n).toNat)) : Int)) ∧ ((↑(lenT (loL (loN n).toNat)) : Int) == (1 : Int) + (1 : Int) && decide ((loL (loN n).toNat).getD ((↑(lenT (loL (loN n).toNat)) : Int) - (1 : Int)).toNat { data := #[] : ByteArray } = loT (loN n).toNat)) = true)) ∧ (decide (loN n + (1 : Int) + (↑((32 : Nat)) : Int) ≤ (253 : Int)) = false → in64 (loN n + (2 : Int)) ∧ (decide (loN n + (2 : Int) ≤ (253 : Int)) = true → in64 ((1 : Int) + (1 : Int)) ∧ (((↑(lenT (loL (loN n).toNat)) : Int) == (1 : Int) + (1 : Int)) = true → in64 ((↑(lenT (loL (loN n).toNat)) : Int) - (1 : Int))) ∧ (((↑(lenT (loL (loN n).toNat)) : Int) == (1 : Int) + (1 : Int)) = true → (0 : Int) ≤ (↑(lenT (loL (loN n).toNat)) : Int) - (1 : Int)) ∧ (((↑(lenT (loL (loN n).toNat)) : Int) == (1 : Int) + (1 : Int)) = true → (↑(lenT (loL (loN n).toNat)) : Int) - (1 : Int) < (↑(lenT (loL (loN n).toNat)) : Int)) ∧ ((↑(lenT (loL (loN n).toNat)) : Int) == (1 : Int) + (1 : Int) && decide ((loL (loN n).toNat).getD ((↑(lenT (loL (loN n).toNat)) : Int) - (1 : Int)).toNat { data := #[] : ByteArray } = loT (loN n).toNat)) = true) ∧ (decide (loN n + (2 : Int) ≤ (253 : Int)) = false → (((↑(lenT (loL (loN n).toNat)) : Int) == (1 : Int)) = true → in64 ((↑(lenT (loL (loN n).toNat)) : Int) - (1 : Int))) ∧ (((↑(lenT (loL (loN n).toNat)) : Int) == (1 : Int)) = true → (0 : Int) ≤ (↑(lenT (loL (loN n).toNat)) : Int) - (1 : Int)) ∧ (((↑(lenT (loL (loN n).toNat)) : Int) == (1 : Int)) = true → (↑(lenT (loL (loN n).toNat)) : Int) - (1 : Int) < (↑(lenT (loL (loN n).toNat)) : Int)) ∧ ((↑(lenT (loL (loN n).toNat)) : Int) == (1 : Int) && decide ((loL (loN n).toNat).getD ((↑(lenT (loL (loN n).toNat)) : Int) - (1 : Int)).toNat { data := #[] : ByteArray } = loT (loN n).toNat)) = true)))))
theorem longV_eq (n : Int) : longV n = (funC cxw Tryd.f6 (mkSc (loE n) (bodyOf Tryd.f6)) [XI n] (XB true)) := by kernel_rfl
end Go.Proofs.YthomfpdigmeheaaDoorAv
set_option linter.unusedVariables false
set_option linter.unusedSimpArgs false
set_option maxRecDepth 100000
namespace Go.Proofs.YthomfpdigmeheaaDoorAv
open Go Go.RowKit
def toB (x : Int) : UInt8 := UInt8.ofNat x.toNat
theorem toB_nat {x : Int} (h0 : 0 ≤ x) (h1 : x < 256) : ((toB x).toNat : Int) = x := by
  unfold toB
  rw [UInt8.toNat_ofNat']
  omega
theorem vlu_dgt {x : Int} (h0 : 0 ≤ x) (h1 : x < 36) : vlu ((toB (dgt x)).toNat : Int) = x := by
  have h := dgt_rng x h0 h1
  rw [toB_nat (by omega) (by omega)]
  unfold dgt vlu
  split
  · rw [if_pos (by omega)]; omega
  · rw [if_neg (by omega), if_neg (by omega), if_pos (by omega)]; omega
/-- A number's digits are read as that number. -/
theorem dig_dec (b : Int) (rest : List UInt8) : ∀ (f : Nat) (q i w k : Int), 0 ≤ q → q < 10 ^ f → 0 ≤ i → 1 ≤ w → w ≤ 70000001 → i + q * w ≤ 2000000 → dnG b ((nmG b (f + 1) q k).map toB ++ rest) i w k = some (rest, i + q * w) := by
  intro f
  induction f with
  | zero =>
    intro q i w k h0 h1 hi hw hw1 hb
    have ht := thr_rng k b
    have hq : q = 0 := by simp at h1; omega
    subst hq
    have e : nmG b (0 + 1) 0 k = [dgt 0] := by rw [nmG, if_pos (by omega)]
    rw [e, List.map_singleton, List.singleton_append, dnG, vlu_dgt (Int.le_refl _) (by decide), if_neg (by omega), if_pos (by omega)]
  | succ f ih =>
    intro q i w k h0 h1 hi hw hw1 hb
    have ht := thr_rng k b
    have hqw : 0 ≤ q * w := Int.mul_nonneg h0 (by omega)
    by_cases h : q < thr k b
    · have e : nmG b (f + 1 + 1) q k = [dgt q] := by rw [nmG, if_pos h]
      rw [e, List.map_singleton, List.singleton_append, dnG, vlu_dgt h0 (by omega), if_neg (by omega), if_pos h]
    · rw [nmG_no h, List.map_cons, List.cons_append, dnG]
      generalize htt : thr k b = t at *
      have r1 : 0 ≤ (q - t) % (36 - t) := Int.emod_nonneg _ (by omega)
      have r2 : (q - t) % (36 - t) < 36 - t := Int.emod_lt_of_pos _ (by omega)
      have r3 : 0 ≤ (q - t) / (36 - t) := Int.ediv_nonneg (by omega) (by omega)
      have r5 : (36 - t) * ((q - t) / (36 - t)) + (q - t) % (36 - t) = q - t := Int.mul_ediv_add_emod _ _
      have r4 : (q - t) / (36 - t) < 10 ^ f := by
        rw [Int.pow_succ] at h1
        have hp0 : (0 : Int) ≤ 10 ^ f := Int.le_of_lt (Int.pow_pos (by decide))
        apply Int.ediv_lt_of_lt_mul (by omega)
        generalize (10 : Int) ^ f = z at *
        have : z * 10 ≤ z * (36 - t) := Int.mul_le_mul_of_nonneg_left (by omega) hp0
        omega
      rw [vlu_dgt (by omega) (by omega), if_neg (by omega), if_neg (by omega)]
      have hw2 : w * (36 - t) ≤ w * 35 := Int.mul_le_mul_of_nonneg_left (by omega) (by omega)
      have hw3 : w * 1 ≤ w * (36 - t) := Int.mul_le_mul_of_nonneg_left (by omega) (by omega)
      have hw4 : w * 1 ≤ w * q := Int.mul_le_mul_of_nonneg_left (by omega) (by omega)
      have hw5 : w * q = q * w := Int.mul_comm _ _
      have hx0 : 0 ≤ (t + (q - t) % (36 - t)) * w := Int.mul_nonneg (by omega) (by omega)
      have he : i + (t + (q - t) % (36 - t)) * w + (q - t) / (36 - t) * (w * (36 - t)) = i + q * w := by
        have e1 : (q - t) / (36 - t) * (w * (36 - t)) = ((36 - t) * ((q - t) / (36 - t))) * w := by
          rw [Int.mul_comm w, ← Int.mul_assoc, Int.mul_comm ((q - t) / (36 - t))]
        rw [e1, Int.add_assoc, ← Int.add_mul]
        congr 2
        omega
      have hd := ih ((q - t) / (36 - t)) (i + (t + (q - t) % (36 - t)) * w) (w * (36 - t)) (k + 36) r3 r4 (by omega) (by omega) (by omega) (by omega)
      rw [hd, he]
theorem num_dec (b q i : Int) (rest : List UInt8) (h0 : 0 ≤ q) (hi : 0 ≤ i) (hb : i + q ≤ 2000000) : dnG b ((num q b).map toB ++ rest) i 1 36 = some (rest, i + q) := by
  have := dig_dec b rest 18 q i 1 36 h0 (by omega) hi (Int.le_refl _) (by decide) (by omega)
  rw [Int.mul_one] at this
  exact this
/-- A digit's sign. -/
def digP (x : Int) : Prop := (48 ≤ x ∧ x ≤ 57) ∨ (97 ≤ x ∧ x ≤ 122)
theorem dgt_P (d : Int) (h0 : 0 ≤ d) (h1 : d < 36) : digP (dgt d) := by
  unfold dgt digP
  split <;> omega
theorem nmG_P (b : Int) : ∀ (f : Nat) (q k : Int), 0 ≤ q → ∀ x ∈ nmG b f q k, digP x
  | 0, q, k, _, x, hx => by simp [nmG] at hx
  | f + 1, q, k, h0, x, hx => by
    have ht := thr_rng k b
    by_cases h : q < thr k b
    · rw [nmG, if_pos h] at hx
      obtain rfl := List.mem_singleton.1 hx
      exact dgt_P q h0 (by omega)
    · rw [nmG_no h] at hx
      rcases List.mem_cons.1 hx with rfl | hx
      · have r1 : 0 ≤ (q - thr k b) % (36 - thr k b) := Int.emod_nonneg _ (by omega)
        have r2 : (q - thr k b) % (36 - thr k b) < 36 - thr k b := Int.emod_lt_of_pos _ (by omega)
        exact dgt_P _ (by omega) (by omega)
      · exact nmG_P b f _ _ (Int.ediv_nonneg (by omega) (by omega)) x hx
theorem num_P (q b : Int) (h0 : 0 ≤ q) : ∀ x ∈ num q b, digP x := nmG_P b 19 q 36 h0
theorem num_ne (q b : Int) : num q b ≠ [] := by
  intro h
  unfold num at h
  rw [nmG] at h
  split at h <;> cases h
/-! A round, beside what is read -/
/-- What stands there, at place i of a round for m. -/
def dcc (l : List Int) (m : Int) (i : Nat) : List Int := (l.take i).filter (fun r => decide (r ≤ m)) ++ (l.drop i).filter (fun r => decide (r < m))
def dcl (l : List Int) (m : Int) (i : Nat) : Nat := ((l.take i).filter (fun r => decide (r ≤ m))).length
/-- The decoder, led along. -/
def Led (e0 : List Int) (k : Nat) (dg : List Int) (n i b : Int) (o : List Int) : Prop := ∀ f rest, dcG (f + k) (dg.map toB ++ rest) 128 0 72 e0 = dcG f rest n i b o
structure RI (l e1 e0 : List Int) (h0 m : Int) (i : Nat) (s : ES) (n j : Int) (k : Nat) (dg : List Int) : Prop where
  fo : s.o = e1 ++ dg
  fh : s.h = (dcc l m i).length
  led : Led e0 k dg n j s.b (dcc l m i)
  key : n * (s.h + 1) + j + s.d = m * (s.h + 1) + dcl l m i
  fj : 0 ≤ j ∧ j ≤ s.h
  fd : 0 ≤ s.d
  fn : 128 ≤ n ∧ n ≤ m
  st : (j == 0) = (s.h == h0)
  fh0 : h0 ≤ s.h
  fk : k ≤ dg.length
  dig : ∀ x ∈ dg, digP x
theorem filt_len (l : List Int) (p : Int → Bool) : (l.filter p).length ≤ l.length := List.length_filter_le _ _
theorem dcc_len (l : List Int) (m : Int) (i : Nat) : (dcc l m i).length ≤ l.length := by
  unfold dcc
  rw [List.length_append]
  have h1 := filt_len (l.take i) (fun r => decide (r ≤ m))
  have h2 := filt_len (l.drop i) (fun r => decide (r < m))
  rw [List.length_take] at h1
  rw [List.length_drop] at h2
  omega
theorem dcl_le (l : List Int) (m : Int) (i : Nat) : dcl l m i ≤ (dcc l m i).length := by
  unfold dcl dcc
  rw [List.length_append]; omega
theorem take_at (l : List Int) (i : Nat) (h : i < l.length) : l.take (i + 1) = l.take i ++ [l.getD i 0] := take_snoc' l i 0 h
theorem drop_at (l : List Int) (i : Nat) (h : i < l.length) : l.drop i = l.getD i 0 :: l.drop (i + 1) := by
  rw [List.drop_eq_getElem_cons h, List.getD_eq_getElem?_getD, List.getElem?_eq_getElem h]
  rfl
theorem dcc_same (l : List Int) (m : Int) (i : Nat) (h : i < l.length) (h1 : l.getD i 0 ≠ m) : dcc l m (i + 1) = dcc l m i := by
  unfold dcc
  rw [take_at l i h, drop_at l i h, List.filter_append, List.append_assoc]
  congr 1
  generalize l.getD i 0 = r at *
  by_cases e : r < m
  · rw [List.filter_cons_of_pos (by simp; omega), List.filter_cons_of_pos (by simp; omega)]; rfl
  · rw [List.filter_cons_of_neg (by simp; omega), List.filter_cons_of_neg (by simp; omega)]; rfl
theorem dcl_step (l : List Int) (m : Int) (i : Nat) (h : i < l.length) : dcl l m (i + 1) = if l.getD i 0 ≤ m then dcl l m i + 1 else dcl l m i := by
  unfold dcl
  rw [take_at l i h, List.filter_append, List.length_append]
  generalize l.getD i 0 = r at *
  by_cases e : r ≤ m
  · rw [if_pos e, List.filter_cons_of_pos (by simpa using e)]; rfl
  · rw [if_neg e, List.filter_cons_of_neg (by simpa using e)]; rfl
theorem dcc_ins (l : List Int) (m : Int) (i : Nat) (h : i < l.length) (h1 : l.getD i 0 = m) : dcc l m (i + 1) = (dcc l m i).take (dcl l m i) ++ m :: (dcc l m i).drop (dcl l m i) := by
  unfold dcc dcl
  rw [take_at l i h, drop_at l i h, h1, List.filter_append]
  have e1 : [m].filter (fun r => decide (r ≤ m)) = [m] := by simp
  have e2 : (m :: l.drop (i + 1)).filter (fun r => decide (r < m)) = (l.drop (i + 1)).filter (fun r => decide (r < m)) := by
    rw [List.filter_cons_of_neg (by simp)]
  rw [e1, e2, List.take_left', List.drop_left']
  · rw [List.append_assoc]; rfl
  · rfl
  · rfl
theorem RI.step {l e1 e0 : List Int} {h0 m : Int} {i : Nat} {s : ES} {n j : Int} {k : Nat} {dg : List Int} (hl : l.length ≤ 63) (hm : m ≤ 2000) (hi : i < l.length) (R : RI l e1 e0 h0 m i s n j k dg) :
    ∃ n' j' k' dg', RI l e1 e0 h0 m (i + 1) (stp h0 m s (l.getD i 0)) n' j' k' dg' := by
  have hcl := dcl_le l m i
  have hdl := dcc_len l m i
  obtain ⟨r1, r2, r3, r4, ⟨r5, r6⟩, r7, ⟨r8, r9⟩, r10, r11, r12, r13⟩ := R
  have hst := dcl_step l m i hi
  rcases Int.lt_trichotomy (l.getD i 0) m with h | h | h
  · rw [stp_lt _ _ _ _ h]
    have e := dcc_same l m i hi (by omega)
    rw [if_pos (by omega)] at hst
    exact ⟨n, j, k, dg, r1, by rw [e]; exact r2, by rw [e]; exact r3, by show n * (s.h + 1) + j + (s.d + 1) = m * (s.h + 1) + (dcl l m (i + 1) : Nat); rw [hst]; omega, ⟨r5, r6⟩, by show 0 ≤ s.d + 1; omega, ⟨r8, r9⟩, r10, r11, r12, r13⟩
  · rw [stp_eq _ _ _ _ h]
    have e := dcc_ins l m i hi h
    rw [if_pos (by omega)] at hst
    have hel : (dcc l m (i + 1)).length = (dcc l m i).length + 1 := by
      rw [e, List.length_append, List.length_cons, List.length_take, List.length_drop]; omega
    have hp0 : 0 ≤ (m - n) * (s.h + 1) := Int.mul_nonneg (by omega) (by omega)
    have hp1 : (m - n) * (s.h + 1) ≤ 2000 * 64 := Int.mul_le_mul (by omega) (by omega) (by omega) (by decide)
    have hkey : j + s.d = (m - n) * (s.h + 1) + dcl l m i := by rw [Int.sub_mul]; omega
    refine ⟨m, dcl l m i + 1, k + 1, dg ++ num s.d s.b, ?_, ?_, ?_, ?_, ⟨by omega, ?_⟩, Int.le_refl _, ⟨by omega, Int.le_refl _⟩, ?_, ?_, ?_, ?_⟩
    · show s.o ++ _ = _; rw [r1, List.append_assoc]
    · show s.h + 1 = _; rw [hel]; omega
    · intro f rest
      have h1 := r3 (f + 1) ((num s.d s.b).map toB ++ rest)
      rw [List.map_append, List.append_assoc, show f + (k + 1) = f + 1 + k by omega, h1]
      obtain ⟨c, t, ht⟩ : ∃ c t, (num s.d s.b).map toB = c :: t := by
        cases hn : num s.d s.b with
        | nil => exact absurd hn (num_ne _ _)
        | cons a t => exact ⟨toB a, t.map toB, rfl⟩
      have hnd := num_dec s.b s.d j rest r7 r5 (by omega)
      rw [ht, List.cons_append, dcG_cons, ← List.cons_append, ← ht, hnd, dcN]
      have hlen : ((dcc l m i).length : Int) = s.h := r2.symm
      have hq : (j + s.d) / ((dcc l m i).length + 1) = m - n := by
        rw [hlen, hkey, Int.add_comm, Int.add_mul_ediv_right _ _ (by omega), Int.ediv_eq_zero_of_lt (by omega) (by omega)]; omega
      have hr : (j + s.d) % ((dcc l m i).length + 1) = dcl l m i := by
        rw [hlen, hkey, Int.add_comm, Int.add_mul_emod_self_right, Int.emod_eq_of_lt (by omega) (by omega)]
      rw [hq, hr, if_neg]
      · rw [show n + (m - n) = m by omega, show j + s.d - j = s.d by omega, hlen, r10, e, Int.toNat_natCast]
      · unfold badR; omega
    · show m * (s.h + 1 + 1) + (dcl l m i + 1 : Int) + 0 = m * (s.h + 1 + 1) + (dcl l m (i + 1) : Nat)
      rw [hst]; omega
    · show (dcl l m i : Int) + 1 ≤ s.h + 1; omega
    · have a1 : ((dcl l m i : Int) + 1 == 0) = false := by rw [beq_eq_false_iff_ne]; omega
      have a2 : (s.h + 1 == h0) = false := by rw [beq_eq_false_iff_ne]; omega
      rw [a1]; exact a2.symm
    · show h0 ≤ s.h + 1; omega
    · rw [List.length_append]
      have : 1 ≤ (num s.d s.b).length := by
        cases hn : num s.d s.b with
        | nil => exact absurd hn (num_ne _ _)
        | cons a t => simp
      omega
    · intro x hx
      rcases List.mem_append.1 hx with hx | hx
      · exact r13 x hx
      · exact num_P _ _ r7 x hx
  · rw [stp_gt _ _ _ _ h]
    have e := dcc_same l m i hi (by omega)
    rw [if_neg (by omega)] at hst
    exact ⟨n, j, k, dg, r1, by rw [e]; exact r2, by rw [e]; exact r3, by rw [hst]; exact r4, ⟨r5, r6⟩, r7, ⟨r8, r9⟩, r10, r11, r12, r13⟩
theorem fol_RI {l e1 e0 : List Int} {h0 m : Int} (hl : l.length ≤ 63) (hm : m ≤ 2000) (s : ES) : ∀ i, i ≤ l.length → (∃ n j k dg, RI l e1 e0 h0 m 0 s n j k dg) → ∃ n j k dg, RI l e1 e0 h0 m i (fol (fun j => l.getD j 0) h0 m s i) n j k dg
  | 0, _, h => h
  | i + 1, hi, h => by
    obtain ⟨n, j, k, dg, R⟩ := fol_RI hl hm s i (by omega) h
    exact R.step hl hm (by omega)
/-- At a round's head. -/
structure HI (l e1 e0 : List Int) (h0 m : Int) (s : ES) (n j : Int) (k : Nat) (dg : List Int) : Prop where
  fo : s.o = e1 ++ dg
  fh : s.h = (l.filter (fun r => decide (r < m))).length
  led : Led e0 k dg n j s.b (l.filter (fun r => decide (r < m)))
  key : n * (s.h + 1) + j + s.d = m * (s.h + 1)
  fj : 0 ≤ j ∧ j ≤ s.h
  fd : 0 ≤ s.d
  fn : 128 ≤ n ∧ n ≤ m
  st : (j == 0) = (s.h == h0)
  fh0 : h0 ≤ s.h
  fk : k ≤ dg.length
  dig : ∀ x ∈ dg, digP x
theorem dcc_zero (l : List Int) (m : Int) : dcc l m 0 = l.filter (fun r => decide (r < m)) := by simp [dcc]
theorem dcc_full (l : List Int) (m : Int) : dcc l m l.length = l.filter (fun r => decide (r ≤ m)) := by simp [dcc]
theorem dcl_full (l : List Int) (m : Int) : dcl l m l.length = (l.filter (fun r => decide (r ≤ m))).length := by simp [dcl]
theorem filt_eq {l : List Int} {a b : Int} (h : ∀ r ∈ l, r < a ↔ r < b) : l.filter (fun r => decide (r < a)) = l.filter (fun r => decide (r < b)) := by
  apply List.filter_congr
  intro r hr
  rw [decide_eq_decide]
  exact h r hr
/-- A whole round. -/
theorem HI.round {l e1 e0 : List Int} {h0 m : Int} {s : ES} {n j : Int} {k : Nat} {dg : List Int} (hl : l.length ≤ 63) (H : HI l e1 e0 h0 m s n j k dg) (m' : Int) (hmm : m ≤ m') (hm : m' ≤ 2000) (hno : ∀ r ∈ l, r < m ∨ m' ≤ r) :
    ∃ n' j' k' dg', HI l e1 e0 h0 (m' + 1) { fol (fun j => l.getD j 0) h0 m' { s with d := s.d + (m' - m) * (s.h + 1) } l.length with d := (fol (fun j => l.getD j 0) h0 m' { s with d := s.d + (m' - m) * (s.h + 1) } l.length).d + 1 } n' j' k' dg' := by
  obtain ⟨q1, q2, q3, q4, ⟨q5, q6⟩, q7, ⟨q8, q9⟩, q10, q11, q12, q13⟩ := H
  have hp0 : 0 ≤ (m' - m) * (s.h + 1) := Int.mul_nonneg (by omega) (by omega)
  have hf : l.filter (fun r => decide (r < m)) = l.filter (fun r => decide (r < m')) := filt_eq fun r hr => by
    rcases hno r hr with h | h <;> omega
  have R0 : RI l e1 e0 h0 m' 0 { s with d := s.d + (m' - m) * (s.h + 1) } n j k dg := ⟨q1, by rw [dcc_zero, ← hf]; exact q2, by rw [dcc_zero, ← hf]; exact q3, by
      show n * (s.h + 1) + j + (s.d + (m' - m) * (s.h + 1)) = m' * (s.h + 1) + ((dcl l m' 0 : Nat) : Int)
      have : dcl l m' 0 = 0 := by simp [dcl]
      rw [this, Int.sub_mul]; omega, ⟨q5, q6⟩, by show 0 ≤ s.d + _; omega, ⟨q8, by omega⟩, q10, q11, q12, q13⟩
  obtain ⟨n', j', k', dg', R⟩ := fol_RI hl hm { s with d := s.d + (m' - m) * (s.h + 1) } l.length (Nat.le_refl _) ⟨n, j, k, dg, R0⟩
  generalize fol (fun j => l.getD j 0) h0 m' { s with d := s.d + (m' - m) * (s.h + 1) } l.length = t at R ⊢
  obtain ⟨p1, p2, p3, p4, p5, p6, ⟨p7, p8⟩, p9, p10, p11, p12⟩ := R
  have hfe : l.filter (fun r => decide (r ≤ m')) = l.filter (fun r => decide (r < m' + 1)) := by
    apply List.filter_congr
    intro r _
    rw [decide_eq_decide]; omega
  rw [dcc_full, hfe] at p2 p3
  rw [dcl_full, hfe] at p4
  refine ⟨n', j', k', dg', p1, p2, p3, ?_, p5, by show 0 ≤ t.d + 1; omega, ⟨p7, by omega⟩, p9, p10, p11, p12⟩
  show n' * (t.h + 1) + j' + (t.d + 1) = (m' + 1) * (t.h + 1)
  rw [Int.add_mul]
  omega
theorem filt_all {l : List Int} {p : Int → Bool} (h : l.length ≤ (l.filter p).length) : l.filter p = l := by
  rw [List.filter_eq_self]
  intro a ha
  have := List.length_filter_lt_length_iff_exists (p := p) (l := l)
  cases hp : p a
  · exact absurd ((this).2 ⟨a, ha, by rw [hp]; decide⟩) (by omega)
  · rfl
theorem encG_RI {l e1 e0 : List Int} {h0 : Int} (hl : l.length ≤ 63) (hg : ∀ r ∈ l, 0 ≤ r ∧ r < 2000) : ∀ (f : Nat) (m : Int) (s : ES) (n j : Int) (k : Nat) (dg : List Int), OK2 ⟨l.length, fun j => l.getD j 0⟩ h0 ⟨m, s, f⟩ → HI l e1 e0 h0 m s n j k dg → ∀ o, encG (fun j => l.getD j 0) l.length h0 f m s = (o, 0) →
    ∃ k' dg', o = e1 ++ dg' ∧ k' ≤ dg'.length ∧ (∀ x ∈ dg', digP x) ∧ ∀ f', dcG (f' + k') (dg'.map toB) 128 0 72 e0 = some l := by
  have hg' : ∀ i, i < l.length → 0 ≤ l.getD i 0 ∧ l.getD i 0 < 2000 := fun i hi => by
    rw [List.getD_eq_getElem?_getD, List.getElem?_eq_getElem hi]
    exact hg _ (List.getElem_mem hi)
  have fin : ∀ (m : Int) (s : ES) (n j : Int) (k : Nat) (dg : List Int), HI l e1 e0 h0 m s n j k dg → ¬ s.h < l.length → ∀ o, (s.o, (0 : Int)) = (o, 0) → ∃ k' dg', o = e1 ++ dg' ∧ k' ≤ dg'.length ∧ (∀ x ∈ dg', digP x) ∧ ∀ f', dcG (f' + k') (dg'.map toB) 128 0 72 e0 = some l := by
    intro m s n j k dg H h2 o ho
    have ho : s.o = o := congrArg Prod.fst ho
    have hfl : l.filter (fun r => decide (r < m)) = l := filt_all (by have := H.fh; omega)
    refine ⟨k, dg, ho ▸ H.fo, H.fk, H.dig, fun f' => ?_⟩
    have := H.led f' []
    rw [List.append_nil, hfl] at this
    rw [this]
    cases f' <;> rfl
  intro f
  induction f with
  | zero =>
    intro m s n j k dg hK H o ho
    by_cases h3 : s.o.length > 63
    · rw [encG_stop h3] at ho; exact absurd (show (2 : Int) = 0 from congrArg Prod.snd ho) (by decide)
    · have h1 := hK.f.1
      have h2 : ¬ s.h < l.length := by
        have h1 : (l.length : Int) - s.h ≤ (0 : Nat) := h1
        omega
      rw [encG_end h3 h2] at ho
      exact fin m s n j k dg H h2 o ho
  | succ f ih =>
    intro m s n j k dg hK H o ho
    by_cases h3 : s.o.length > 63
    · rw [encG_stop h3] at ho; exact absurd (show (2 : Int) = 0 from congrArg Prod.snd ho) (by decide)
    · by_cases h2 : s.h < l.length
      · rw [encG_go h3 h2] at ho
        obtain ⟨K', m0, m1, m2⟩ := hK.step (q := ⟨l.length, fun j => l.getD j 0⟩) (by show l.length ≤ 2000; omega) (fun i hi => by have := hg' i hi; exact ⟨this.1, by show l.getD i 0 ≤ 1114111; omega⟩) h2 h3
        dsimp only at K' m0 m1 m2
        have hm2000 : mnr (fun j => l.getD j 0) m l.length ≤ 2000 := by
          have hkh : s.h = clt (fun j => l.getD j 0) m l.length := hK.h
          obtain ⟨jx, hj1, hj2⟩ := clt_ex (fun j => l.getD j 0) m l.length (by omega)
          have := hg' jx hj1
          rcases m2 jx hj1 with h | h
          · have hj2 : m ≤ l.getD jx 0 := hj2
            have h : l.getD jx 0 < m := h
            omega
          · have h : mnr (fun j => l.getD j 0) m l.length ≤ l.getD jx 0 := h
            omega
        obtain ⟨n', j', k', dg', H'⟩ := H.round hl (mnr (fun j => l.getD j 0) m l.length) m0 hm2000 fun r hr => by
          obtain ⟨i, hi, rfl⟩ := List.getElem_of_mem hr
          have this : l.getD i 0 < m ∨ mnr (fun j => l.getD j 0) m l.length ≤ l.getD i 0 := m2 i hi
          rw [List.getD_eq_getElem?_getD, List.getElem?_eq_getElem hi] at this
          exact this
        exact ih _ _ _ _ _ _ K' H' o ho
      · rw [encG_end h3 h2] at ho
        exact fin m s n j k dg H h2 o ho
theorem eo0_filt (l : List Int) : ∀ i, i ≤ l.length → eo0 (fun j => l.getD j 0) i = (l.take i).filter (fun r => decide (r < 128))
  | 0, _ => rfl
  | i + 1, h => by
    rw [eo0, eo0_filt l i (by omega), take_at l i (by omega), List.filter_append]
    by_cases e : l.getD i 0 < 128
    · rw [if_pos e, List.filter_cons_of_pos (by simpa using e)]; rfl
    · rw [if_neg e, List.filter_cons_of_neg (by simpa using e)]; simp
theorem encR_RI {l : List Int} (hl : l.length ≤ 63) (hg : ∀ r ∈ l, 0 ≤ r ∧ r < 2000) {o : List Int} (ho : encR (fun j => l.getD j 0) l.length = (o, 0)) :
    ∃ k' dg', o = eo1 (fun j => l.getD j 0) l.length ++ dg' ∧ k' ≤ dg'.length ∧ (∀ x ∈ dg', digP x) ∧ ∀ f', dcG (f' + k') (dg'.map toB) 128 0 72 (eo0 (fun j => l.getD j 0) l.length) = some l := by
  have hg' : ∀ i, i < l.length → 0 ≤ l.getD i 0 ∧ l.getD i 0 ≤ 1114111 := fun i hi => by
    rw [List.getD_eq_getElem?_getD, List.getElem?_eq_getElem hi]
    have := hg _ (List.getElem_mem hi)
    exact ⟨this.1, by show l[i] ≤ _; omega⟩
  have he := eo0_filt l l.length (Nat.le_refl _)
  rw [List.take_length] at he
  refine encG_RI hl hg l.length 128 ⟨(eo0 (fun j => l.getD j 0) l.length).length, 0, 72, eo1 (fun j => l.getD j 0) l.length⟩ 128 0 0 [] (OK2.start (q := ⟨l.length, fun j => l.getD j 0⟩) (by show l.length ≤ 2000; omega) hg') ⟨by simp, by rw [he], ?_, by show (128 : Int) * (((eo0 _ _).length : Int) + 1) + 0 + 0 = 128 * (((eo0 _ _).length : Int) + 1); omega, ⟨Int.le_refl _, by show (0 : Int) ≤ ((eo0 (fun j => l.getD j 0) l.length).length : Int); omega⟩, Int.le_refl _, ⟨Int.le_refl _, Int.le_refl _⟩, by simp, Int.le_refl _, Nat.le_refl _, fun x hx => by simp at hx⟩ o ho
  intro f rest
  rw [← he]
  rfl
end Go.Proofs.YthomfpdigmeheaaDoorAv
set_option linter.unusedVariables false
set_option linter.unusedSimpArgs false
set_option maxRecDepth 100000
namespace Go.Proofs.YthomfpdigmeheaaDoorAv
open Go Go.RowKit
/-- A label beyond ASCII. -/
def aN (t : List UInt8) : List UInt8 × Int := ((ascL (rns (mk8 t))).1.data.toList, (ascL (rns (mk8 t))).2)
def aS (t : List UInt8) : List UInt8 × Int :=
  if plaL t then
    if rgtL t = false then ([], 1)
    else if xnL.isPrefixOf t then (t, (uL t).2) else (t, 0)
  else if validB (mk8 t) = false then ([], 1)
  else aN t
theorem low_mk8 (x : List UInt8) : lowT (mk8 x) = mk8 (x.map lowc) := by
  rw [← data_mk8 (lowT (mk8 x)), lowT_list, mk8_data]
theorem aL_aS (x : List UInt8) : aL x = aS (x.map lowc) := by
  unfold aL lf
  rw [ascR, low_mk8, ascS, pla_list, rgt_list, hasPre_list, mk8_data, aS]
  split
  · split
    · rfl
    · split
      · rfl
      · rfl
  · split
    · rfl
    · rfl
theorem eR_snd (F : List UInt8 → List UInt8 × Int) (l : List (List UInt8)) : (eR F l).2 = ee (fun x => (F x).2) l := by
  rw [eR]
  split
  · rfl
  · rename_i h; simp at h; exact h.symm
theorem eR_congr {F G : List UInt8 → List UInt8 × Int} {l : List (List UInt8)} (h : ∀ x ∈ l, F x = G x) : eR F l = eR G l := by
  have e1 : ee (fun x => (F x).2) l = ee (fun x => (G x).2) l := ee_congr fun x hx => by rw [h x hx]
  have e2 : l.map (fun x => (F x).1) = l.map fun x => (G x).1 := List.map_congr_left fun x hx => by rw [h x hx]
  rw [eR, eR, e1, e2]
theorem eR_map (F : List UInt8 → List UInt8 × Int) (g : List UInt8 → List UInt8) (l : List (List UInt8)) : eR F (l.map g) = eR (fun x => F (g x)) l := by
  rw [eR, eR, ee_map, List.map_map]
  rfl
theorem eR_ok {F : List UInt8 → List UInt8 × Int} {l : List (List UInt8)} (h : ee (fun x => (F x).2) l = 0) : eR F l = (join46 (l.map fun x => (F x).1), 0) := by rw [eR, if_neg (by rw [h]; simp)]
theorem eR_err {F : List UInt8 → List UInt8 × Int} {l : List (List UInt8)} (h : ee (fun x => (F x).2) l ≠ 0) : eR F l = ([], ee (fun x => (F x).2) l) := by rw [eR, if_pos h]
/-- A name that is not too long, by its labels. -/
def tL (l : List (List UInt8)) : List UInt8 × Int := if (eR aL l).2 = 0 ∧ (eR aL l).1.length > 253 then ([], 2) else eR aL l
theorem tA_tL {s : List UInt8} (h : s.length ≤ 1012) : tA s = tL (LL s) := by rw [tA, if_neg (by omega), tL]
theorem LL_no {s : List UInt8} (h : ∀ t, s ≠ t ++ [46]) : LL s = split1 46 s := by unfold LL; rw [trim46_no h]
theorem no_dot {s : ByteArray} (h : (!decide (s = ⟨#[]⟩) && sbyte s ((s.size : Int) - 1) == 46) = false) : ∀ t, s.data.toList ≠ t ++ [46] := by
  intro t ht
  have hl : s.data.toList.length = t.length + 1 := by rw [ht, List.length_append]; rfl
  have hs : s.size = t.length + 1 := by rw [size_data]; exact hl
  have e1 : decide (s = ⟨#[]⟩) = false := by rw [emp_iff, decide_eq_false_iff_not]; omega
  have e2 : sbyte s ((s.size : Int) - 1) = 46 := by
    unfold sbyte
    rw [show ((s.size : Int) - 1).toNat = t.length by omega, ht, List.getD_eq_getElem?_getD]
    simp
  rw [e1, e2] at h
  cases h
theorem upc_ne {f : UInt8 → UInt8} (hf : ∀ c, f c = 46 ↔ c = 46) {s : List UInt8} (h : ∀ t, s ≠ t ++ [46]) : ∀ t, s.map f ≠ t ++ [46] := by
  intro t ht
  obtain ⟨a, b, e1, e2, e3⟩ := List.map_eq_append_iff.1 ht
  obtain ⟨c, rfl, e4⟩ : ∃ c, b = [c] ∧ f c = 46 := by
    cases b with
    | nil => simp at e3
    | cons c b =>
      cases b with
      | nil => exact ⟨c, rfl, by simpa using e3⟩
      | cons _ _ => simp at e3
  rw [(hf c).1 e4] at e1
  exact h a e1
end Go.Proofs.YthomfpdigmeheaaDoorAv
set_option linter.unusedVariables false
set_option linter.unusedSimpArgs false
set_option maxRecDepth 100000
namespace Go.Proofs.YthomfpdigmeheaaDoorAv
open Go Go.RowKit
theorem lastB_full (s : ByteArray) : (lastB s 45 = -1 ∧ ∀ j : Nat, j < s.size → sbyte s j ≠ 45) ∨ ∃ i : Nat, i < s.size ∧ lastB s 45 = i ∧ sbyte s i = 45 ∧ ∀ j : Nat, i < j → j < s.size → sbyte s j ≠ 45 := by
  have hb : ∀ j : Nat, j < s.size → ((s.data[j]!).toNat : Int) = sbyte s j := fun j hj => by
    unfold sbyte
    rw [size_data] at hj
    rw [Int.toNat_natCast, List.getD_eq_getElem?_getD, List.getElem?_eq_getElem hj]
    have h1' : j < s.data.size := by simpa using hj
    rw [getElem!_pos s.data j h1']
    rfl
  rcases Lib.lastIndexByte_spec s 45 with ⟨h, h2⟩ | ⟨i, h1, h2, h3, h4⟩
  · exact .inl ⟨h, fun j hj => by rw [← hb j hj]; exact h2 j hj⟩
  · exact .inr ⟨i, h1, h2, by rw [← hb i h1]; exact h3, fun j hj hj2 => by rw [← hb j hj2]; exact h4 j hj hj2⟩
theorem txtO_byte {o : List Int} (h : oOK o) (j : Nat) (hj : j < o.length) : sbyte (txtO o) j = o.getD j 0 := by
  unfold sbyte
  rw [Int.toNat_natCast, txtO_list, List.getD_eq_getElem?_getD, List.getElem?_map, List.getElem?_eq_getElem hj, List.getD_eq_getElem?_getD, List.getElem?_eq_getElem hj]
  have := h _ (List.getElem_mem hj)
  simp only [Option.map_some, Option.getD_some]
  rw [UInt8.toNat_ofNat']
  omega
theorem map_toB_nat {o : List Int} (h : oOK o) : (o.map toB).map (fun c => (c.toNat : Int)) = o := by
  rw [List.map_map]
  conv => rhs; rw [← List.map_id o]
  apply List.map_congr_left
  intro x hx
  have := h x hx
  exact toB_nat this.1 (by omega)
theorem eqf_refl : ∀ l : List UInt8, Lib.equalFold l l = true
  | [] => rfl
  | c :: l => by
    rw [Lib.equalFold, eqf_refl l, Bool.and_true]
    unfold Lib.foldEq
    simp
/-- Encode gives each rune a sign of its own. -/
theorem fol_len (g : Nat → Int) (h0 m : Int) (s : ES) (h : s.h ≤ s.o.length) : ∀ i, (fol g h0 m s i).h ≤ (fol g h0 m s i).o.length
  | 0 => h
  | i + 1 => by
    have ih := fol_len g h0 m s h i
    have e : fol g h0 m s (i + 1) = stp h0 m (fol g h0 m s i) (g i) := rfl
    rw [e]
    rcases Int.lt_trichotomy (g i) m with k | k | k
    · rw [stp_lt _ _ _ _ k]; exact ih
    · rw [stp_eq _ _ _ _ k]
      have : 1 ≤ (num (fol g h0 m s i).d (fol g h0 m s i).b).length := by
        cases hn : num (fol g h0 m s i).d (fol g h0 m s i).b with
        | nil => exact absurd hn (num_ne _ _)
        | cons a t => simp
      show (fol g h0 m s i).h + 1 ≤ (((fol g h0 m s i).o ++ num (fol g h0 m s i).d (fol g h0 m s i).b).length : Int)
      rw [List.length_append]; omega
    · rw [stp_gt _ _ _ _ k]; exact ih
theorem encG_len {q : Sq Int} {h0 : Int} (hn : q.n ≤ 2000) (hg : ∀ i, i < q.n → 0 ≤ q.g i ∧ q.g i ≤ 1114111) : ∀ (f : Nat) (n : Int) (s : ES), OK2 q h0 ⟨n, s, f⟩ → s.h ≤ s.o.length → ∀ o, encG q.g q.n h0 f n s = (o, 0) → q.n ≤ o.length := by
  intro f
  induction f with
  | zero =>
    intro n s hK h o ho
    by_cases h3 : s.o.length > 63
    · rw [encG_stop h3] at ho; exact absurd (show (2 : Int) = 0 from congrArg Prod.snd ho) (by decide)
    · have h1 := hK.f.1
      have h2 : ¬ s.h < q.n := by
        have h1 : (q.n : Int) - s.h ≤ (0 : Nat) := h1
        omega
      rw [encG_end h3 h2] at ho
      have : s.o = o := congrArg Prod.fst ho
      rw [← this]; omega
  | succ f ih =>
    intro n s hK h o ho
    by_cases h3 : s.o.length > 63
    · rw [encG_stop h3] at ho; exact absurd (show (2 : Int) = 0 from congrArg Prod.snd ho) (by decide)
    · by_cases h2 : s.h < q.n
      · rw [encG_go h3 h2] at ho
        exact ih _ _ (hK.step hn hg h2 h3).1 (fol_len q.g h0 (mnr q.g n q.n) { s with d := s.d + (mnr q.g n q.n - n) * (s.h + 1) } h q.n) o ho
      · rw [encG_end h3 h2] at ho
        have : s.o = o := congrArg Prod.fst ho
        rw [← this]; omega
theorem encR_len {l : List Int} (hl : l.length ≤ 2000) (hg : ∀ r ∈ l, 0 ≤ r ∧ r ≤ 1114111) {o : List Int} (ho : encR (fun j => l.getD j 0) l.length = (o, 0)) : l.length ≤ o.length := by
  have hg' : ∀ i, i < l.length → 0 ≤ l.getD i 0 ∧ l.getD i 0 ≤ 1114111 := fun i hi => by
    rw [List.getD_eq_getElem?_getD, List.getElem?_eq_getElem hi]
    exact hg _ (List.getElem_mem hi)
  have hs := OK2.start (q := ⟨l.length, fun j => l.getD j 0⟩) hl hg'
  refine encG_len (q := ⟨l.length, fun j => l.getD j 0⟩) hl hg' _ _ _ hs ?_ o ho
  show ((eo0 (fun j => l.getD j 0) l.length).length : Int) ≤ ((eo1 (fun j => l.getD j 0) l.length).length : Int)
  unfold eo1
  split
  · rw [List.length_append]; omega
  · omega
/-- What Encode writes is read as the runes. -/
theorem decR_enc {l : List Int} (hl : l.length ≤ 63) (hg : ∀ r ∈ l, 0 ≤ r ∧ r < 2000) {o : List Int} (ho : encR (fun j => l.getD j 0) l.length = (o, 0)) : decR (txtO o) = (l, 0) := by
  have hg' : ∀ i, i < l.length → 0 ≤ l.getD i 0 ∧ l.getD i 0 ≤ 1114111 := fun i hi => by
    rw [List.getD_eq_getElem?_getD, List.getElem?_eq_getElem hi]
    have := hg _ (List.getElem_mem hi)
    exact ⟨this.1, by show l[i] ≤ _; omega⟩
  obtain ⟨k', dg, e1, e2, e3, e4⟩ := encR_RI hl hg ho
  have hok := encR_ok (q := ⟨l.length, fun j => l.getD j 0⟩) (by show l.length ≤ 2000; omega) hg'
  dsimp only at hok
  rw [ho] at hok
  obtain ⟨o1, o2⟩ := hok
  dsimp only at o1 o2
  have hsz := txtO_size o
  have hdg : ∀ x ∈ dg, x ≠ 45 := fun x hx => by rcases e3 x hx with h | h <;> omega
  generalize he0 : eo0 (fun j => l.getD j 0) l.length = e0 at *
  have hby : ∀ j : Nat, j < o.length → sbyte (txtO o) j = o.getD j 0 := fun j hj => txtO_byte o1 j hj
  have fin : ∀ p : Nat, lst (txtO o) p = dg.map toB → dcG ((txtO o).size + 1) (lst (txtO o) p) 128 0 72 e0 = some l := fun p hp => by
    rw [hp, hsz, show o.length + 1 = (o.length + 1 - k') + k' by
      have : dg.length ≤ o.length := by rw [e1, List.length_append]; omega
      omega]
    exact e4 _
  have done : decK (txtO o) (some l) = (l, 0) := by
    rw [decK, if_neg]
    rw [ho]
    rintro (h | h)
    · exact h rfl
    · have : eqfB (txtO o) (txtO o) = true := eqf_refl _
      rw [this] at h; cases h
  have hpr : ∀ m : Nat, m ≤ o.length → ¬ ∃ j, j < m ∧ sbyte (txtO o) (j : Nat) ≥ 128 := by
    rintro m hm ⟨j, h1, h2⟩
    rw [hby j (by omega)] at h2
    have := o1 (o.getD j 0) (by rw [List.getD_eq_getElem?_getD, List.getElem?_eq_getElem (by omega)]; exact List.getElem_mem _)
    omega
  rw [decR, if_neg (by omega)]
  have hu : eo1 (fun j => l.getD j 0) l.length = if 0 < e0.length then e0 ++ [45] else e0 := by unfold eo1; rw [he0]
  rw [hu] at e1
  by_cases h0 : 0 < e0.length
  · rw [if_pos h0] at e1
    have eo : o = e0 ++ 45 :: dg := by rw [e1, List.append_assoc]; rfl
    have hp : e0.length < o.length := by rw [eo, List.length_append, List.length_cons]; omega
    have hat : sbyte (txtO o) (e0.length : Nat) = 45 := by
      rw [hby _ hp, eo, List.getD_eq_getElem?_getD, List.getElem?_append_right (Nat.le_refl _)]; simp
    have hafter : ∀ j : Nat, e0.length < j → j < (txtO o).size → sbyte (txtO o) j ≠ 45 := fun j h1 h2 => by
      rw [hsz] at h2
      rw [hby j h2, eo, List.getD_eq_getElem?_getD, List.getElem?_append_right (by omega), show j - e0.length = (j - e0.length - 1) + 1 by omega, List.getElem?_cons_succ]
      rw [eo, List.length_append, List.length_cons] at h2
      rw [List.getElem?_eq_getElem (by omega)]
      exact hdg _ (List.getElem_mem _)
    have hL : lastB (txtO o) 45 = e0.length := by
      rcases lastB_full (txtO o) with ⟨h1, h2⟩ | ⟨i, h1, h2, h3, h4⟩
      · exact absurd hat (h2 e0.length (by omega))
      · rcases Nat.lt_trichotomy i e0.length with k | k | k
        · exact absurd hat (h4 e0.length k (by omega))
        · rw [h2, k]
        · exact absurd h3 (hafter i k h1)
    have him : (imax (lastB (txtO o) 45) 0).toNat = e0.length := by rw [hL]; unfold imax; split <;> omega
    rw [him, if_neg (hpr _ (by omega)), hL]
    have hpre : preL (txtO o) e0.length = e0 := by
      unfold preL
      rw [txtO_list, eo, ← List.map_take, List.take_left']
      · exact map_toB_nat (o := e0) fun x hx => o1 x (by rw [eo]; simp [hx])
      · rfl
    have hlst : lst (txtO o) ((e0.length : Int) + 1).toNat = dg.map toB := by
      unfold lst
      rw [show ((e0.length : Int) + 1).toNat = e0.length + 1 by omega, txtO_list, eo, ← List.map_drop, ← List.drop_drop, List.drop_left']
      · rfl
      · rfl
    rw [hpre, fin _ hlst, done]
  · rw [if_neg h0] at e1
    have e00 : e0 = [] := List.length_eq_zero_iff.1 (by omega)
    have eo : o = dg := by rw [e1, e00]; rfl
    have hL : lastB (txtO o) 45 = -1 := by
      rcases lastB_full (txtO o) with ⟨h1, h2⟩ | ⟨i, h1, h2, h3, h4⟩
      · exact h1
      · rw [hsz] at h1
        rw [hby i h1, List.getD_eq_getElem?_getD, List.getElem?_eq_getElem h1] at h3
        exact absurd h3 (hdg _ (by rw [← eo]; exact List.getElem_mem h1))
    have him : (imax (lastB (txtO o) 45) 0).toNat = 0 := by rw [hL]; rfl
    rw [him, if_neg (hpr _ (Nat.zero_le _)), hL]
    have hpre : preL (txtO o) 0 = e0 := by rw [e00]; rfl
    have hlst : lst (txtO o) ((-1 : Int) + 1).toNat = dg.map toB := by
      unfold lst
      rw [txtO_list, ← eo]
      rfl
    rw [hpre, fin _ hlst, done]
/-! What Decode's runes are -/
theorem dnG_ge (b : Int) : ∀ (l : List UInt8) (i w k : Int) (l' : List UInt8) (j : Int), 0 ≤ w → dnG b l i w k = some (l', j) → i ≤ j
  | [], i, w, k, l', j, _, h => by simp [dnG] at h
  | c :: l, i, w, k, l', j, hw, h => by
    have hv := vlu_rng (c.toNat : Int)
    have ht := thr_rng k b
    have hm : 0 ≤ vlu c.toNat * w := Int.mul_nonneg hv.1 hw
    rw [dnG] at h
    split at h
    · cases h
    · split at h
      · simp only [Option.some.injEq, Prod.mk.injEq] at h
        omega
      · have := dnG_ge b l _ _ _ l' j (Int.mul_nonneg hw (by omega)) h
        omega
theorem dcG_mem : ∀ (f : Nat) (l : List UInt8) (n i b : Int) (o o' : List Int), 128 ≤ n → 0 ≤ i → dcG f l n i b o = some o' → ∀ r ∈ o', r ∈ o ∨ 128 ≤ r
  | f, [], n, i, b, o, o', _, _, h => by
    have : dcG f [] n i b o = some o := by cases f <;> rfl
    rw [this] at h
    obtain rfl := Option.some.inj h
    exact fun r hr => .inl hr
  | 0, c :: l, n, i, b, o, o', _, _, h => by simp [dcG] at h
  | f + 1, c :: l, n, i, b, o, o', hn, hi, h => by
    rw [dcG_cons] at h
    cases hd : dnG b (c :: l) i 1 36 with
    | none => rw [hd] at h; cases h
    | some r =>
      obtain ⟨l', j⟩ := r
      rw [hd, dcN] at h
      split at h
      · cases h
      · have h1 := dnG_ge b _ _ _ _ _ _ (by decide) hd
        have hq : 0 ≤ j / ((o.length : Int) + 1) := Int.ediv_nonneg (by omega) (by omega)
        have hr1 : 0 ≤ j % ((o.length : Int) + 1) := Int.emod_nonneg _ (by omega)
        intro r hr
        rcases dcG_mem f l' _ _ _ _ o' (by omega) (by omega) h r hr with k | k
        · rcases List.mem_append.1 k with k | k
          · exact .inl (List.mem_of_mem_take k)
          · rcases List.mem_cons.1 k with rfl | k
            · right; omega
            · exact .inl (List.mem_of_mem_drop k)
        · exact .inr k
/-- What is read well: its runes; that they are written so. -/
theorem decR_facts {s : ByteArray} (h : (decR s).2 = 0) : (∀ r ∈ (decR s).1, (∃ c ∈ s.data.toList, r = (c.toNat : Int)) ∨ 128 ≤ r) ∧ (encR (fun j => (decR s).1.getD j 0) (decR s).1.length).2 = 0 ∧ eqfB (txtO (encR (fun j => (decR s).1.getD j 0) (decR s).1.length).1) s = true := by
  rw [decR] at h ⊢
  split at h
  · exact absurd h (by decide)
  · rename_i h63
    rw [if_neg h63]
    split at h
    · exact absurd h (by decide)
    · rename_i h2
      rw [if_neg h2]
      cases hd : dcG (s.size + 1) (lst s (lastB s 45 + 1).toNat) 128 0 72 (preL s (imax (lastB s 45) 0).toNat) with
      | none => rw [hd, decK] at h; exact absurd h (by decide)
      | some o =>
        rw [hd, decK] at h
        rw [decK]
        by_cases hc : (encR (fun j => o.getD j 0) o.length).2 ≠ 0 ∨ eqfB (txtO (encR (fun j => o.getD j 0) o.length).1) s = false
        · rw [if_pos hc] at h; exact absurd h (by decide)
        · rw [if_neg hc]
          refine ⟨fun r hr => ?_, ?_, ?_⟩
          · rcases dcG_mem _ _ _ _ _ _ _ (Int.le_refl _) (Int.le_refl _) hd r hr with k | k
            · left
              unfold preL at k
              obtain ⟨c, hc, rfl⟩ := List.mem_map.1 k
              exact ⟨c, List.mem_of_mem_take hc, rfl⟩
            · exact .inr k
          · by_cases e : (encR (fun j => o.getD j 0) o.length).2 = 0
            · exact e
            · exact absurd (.inl e) hc
          · cases e : eqfB (txtO (encR (fun j => o.getD j 0) o.length).1) s
            · exact absurd (.inr e) hc
            · rfl
end Go.Proofs.YthomfpdigmeheaaDoorAv
set_option linter.unusedVariables false
set_option linter.unusedSimpArgs false
set_option maxRecDepth 100000
namespace Go.Proofs.YthomfpdigmeheaaDoorAv
open Go Go.RowKit
def rnL : Nat → List UInt8 → List Int
  | 0, _ => []
  | f + 1, l => if l = [] then [] else ((Lib.decodeL l).1 : Int) :: rnL f (l.drop (Lib.decodeL l).2)
theorem rnG_rnL (s : ByteArray) : ∀ f p, rnG s f p = rnL f (s.data.toList.drop p)
  | 0, _ => rfl
  | f + 1, p => by
    have hs := size_data s
    rw [rnG, rnL]
    by_cases h : p < s.size
    · rw [if_pos h, if_neg (by intro e; have := congrArg List.length e; rw [List.length_drop] at this; simp at this; omega), Lib.decodeL_drop, rnG_rnL s f, List.drop_drop]
    · rw [if_neg h, if_pos (List.drop_eq_nil_of_le (by omega))]
theorem rns_rnL (s : ByteArray) : rns s = rnL s.data.toList.length s.data.toList := by
  unfold rns
  rw [rnG_rnL, size_data]
  rfl
/-- A rune's bytes. -/
def e8 (r : Int) : List UInt8 := (Utf8.encode r).data.toList
theorem val_lt {r : Int} (h0 : 0 ≤ r) (h1 : r < 2048) : Utf8.valid r = true := by
  unfold Utf8.valid
  rw [decide_eq_true h0, decide_eq_true (show r < 55296 by omega)]
  rfl
theorem e8_lt {r : Int} (h0 : 0 ≤ r) (h1 : r < 128) : e8 r = [UInt8.ofNat r.toNat] := by
  unfold e8 Utf8.encode
  rw [val_lt h0 (by omega), if_pos rfl]
  dsimp only
  rw [if_pos (by omega)]
theorem e8_two {r : Int} (h0 : 128 ≤ r) (h1 : r < 2048) : e8 r = [UInt8.ofNat (192 + r.toNat / 64), UInt8.ofNat (128 + r.toNat % 64)] := by
  unfold e8 Utf8.encode
  rw [val_lt (by omega) h1, if_pos rfl]
  dsimp only
  rw [if_neg (by omega), if_pos (by omega)]
def okR (r : Int) : Prop := 0 ≤ r ∧ r < 2048
theorem e8_ne {r : Int} (h : okR r) : e8 r ≠ [] := by
  by_cases e : r < 128
  · rw [e8_lt h.1 e]; simp
  · rw [e8_two (by omega) h.2]; simp
theorem dec_e8 {r : Int} (h : okR r) (rest : List UInt8) : Lib.decodeL (e8 r ++ rest) = (r.toNat, (e8 r).length) := by
  by_cases e : r < 128
  · rw [e8_lt h.1 e, List.singleton_append, Lib.decodeL_ascii]
    · rw [UInt8.toNat_ofNat', show r.toNat % 2 ^ 8 = r.toNat by have := h.1; omega]; rfl
    · rw [UInt8.toNat_ofNat']; have := h.1; omega
  · have h2 := h.2
    rw [e8_two (by omega) h2, Lib.decodeL_N]
    have g0 : (([UInt8.ofNat (192 + r.toNat / 64), UInt8.ofNat (128 + r.toNat % 64)] ++ rest).getD 0 0).toNat = 192 + r.toNat / 64 := by
      show (UInt8.ofNat _).toNat = _
      rw [UInt8.toNat_ofNat']; omega
    have g1 : (([UInt8.ofNat (192 + r.toNat / 64), UInt8.ofNat (128 + r.toNat % 64)] ++ rest).getD 1 0).toNat = 128 + r.toNat % 64 := by
      show (UInt8.ofNat _).toNat = _
      rw [UInt8.toNat_ofNat']; omega
    rw [g0, g1]
    unfold Lib.decodeN
    rw [if_neg (by omega), if_pos ⟨by omega, by rw [List.length_append]; show 1 < 2 + _; omega, by omega⟩, if_pos (by omega)]
    show (_, 2) = (_, 2)
    congr 1
    omega
theorem rnL_enc : ∀ (l : List Int), (∀ r ∈ l, okR r) → ∀ f, l.length ≤ f → rnL f (l.flatMap e8) = l
  | [], _, f, _ => by cases f <;> rfl
  | r :: l, h, 0, hf => by simp at hf
  | r :: l, h, f + 1, hf => by
    have hr := h r (by simp)
    rw [List.flatMap_cons, rnL, if_neg (by simp [e8_ne hr]), dec_e8 hr]
    dsimp only
    rw [List.drop_left', rnL_enc l (fun x hx => h x (by simp [hx])) f (by simpa using hf)]
    · congr 1; have := hr.1; omega
    · rfl
theorem valid_enc : ∀ (l : List Int), (∀ r ∈ l, okR r) → Lib.validD (l.flatMap e8) = true
  | [], _ => rfl
  | r :: l, h => by
    have hr := h r (by simp)
    rw [List.flatMap_cons, Lib.validD_step _ (by simp [e8_ne hr]), dec_e8 hr, if_neg (by have := hr.2; dsimp only; omega)]
    dsimp only
    rw [List.drop_left', valid_enc l fun x hx => h x (by simp [hx])]
    rfl
theorem flat8_len {l : List Int} (h : ∀ r ∈ l, okR r) : l.length ≤ (l.flatMap e8).length := by
  induction l with
  | nil => simp
  | cons r l ih =>
    have h1 := ih fun x hx => h x (by simp [hx])
    have h2 : 1 ≤ (e8 r).length := List.length_pos_iff.2 (e8_ne (h r (by simp)))
    rw [List.flatMap_cons, List.length_append, List.length_cons]; omega
theorem encB_list (l : List Int) : (encB l).data.toList = l.flatMap e8 := by
  have : ∀ (l : List Int) (a : ByteArray), (l.foldl (fun r n => r ++ Utf8.encode n) a).data.toList = a.data.toList ++ l.flatMap e8 := by
    intro l
    induction l with
    | nil => intro a; simp
    | cons x l ih =>
      intro a
      rw [List.foldl_cons, ih, ByteArray.data_append, Array.toList_append, List.flatMap_cons, List.append_assoc]
      rfl
  exact this l ⟨#[]⟩
theorem rns_enc {l : List Int} (h : ∀ r ∈ l, okR r) : rns (mk8 (l.flatMap e8)) = l := by
  rw [rns_rnL, mk8_data, rnL_enc l h _ (flat8_len h)]
theorem validB_enc {l : List Int} (h : ∀ r ∈ l, okR r) : validB (mk8 (l.flatMap e8)) = true := valid_enc l h
/-! Runes of any text -/
theorem decN_small {n b0 b1 b2 b3 : Nat} (h : (Lib.decodeN n b0 b1 b2 b3).1 < 128) : b0 < 128 ∧ Lib.decodeN n b0 b1 b2 b3 = (b0, 1) := by
  unfold Lib.decodeN at h ⊢
  by_cases e : b0 < 128
  · rw [if_pos e]; exact ⟨e, rfl⟩
  · exfalso
    rw [if_neg e] at h
    repeat' split at h
    all_goals (dsimp only at h; omega)
theorem decL_small {b : UInt8} {t : List UInt8} (h : (Lib.decodeL (b :: t)).1 < 128) : b.toNat < 128 ∧ Lib.decodeL (b :: t) = (b.toNat, 1) := by
  rw [Lib.decodeL_N] at h ⊢
  exact decN_small h
theorem rnL_pla : ∀ (f : Nat) (l : List UInt8), l.length ≤ f → (∀ r ∈ rnL f l, r < 128) → plaL l = true
  | _, [], _, _ => rfl
  | 0, b :: t, h, _ => by simp at h
  | f + 1, b :: t, h, hr => by
    rw [rnL, if_neg (by simp)] at hr
    have h1 : (Lib.decodeL (b :: t)).1 < 128 := by have := hr _ (List.mem_cons_self ..); omega
    obtain ⟨h2, h3⟩ := decL_small h1
    rw [h3] at hr
    have ih := rnL_pla f t (by simpa using h) fun r k => hr r (List.mem_cons_of_mem _ k)
    unfold plaL at ih ⊢
    rw [List.all_cons, ih, decide_eq_true h2]; rfl
theorem rnL_mem : ∀ (f : Nat) (l : List UInt8), ∀ r ∈ rnL f l, 0 ≤ r ∧ r ≤ 1114111 ∧ (r < 128 → ∃ c ∈ l, r = (c.toNat : Int))
  | 0, l, r, h => by simp [rnL] at h
  | f + 1, [], r, h => by simp [rnL] at h
  | f + 1, b :: t, r, h => by
    rw [rnL, if_neg (by simp)] at h
    rcases List.mem_cons.1 h with rfl | h
    · have h1 := Lib.decodeL_rune (b :: t)
      refine ⟨by omega, by omega, fun k => ?_⟩
      obtain ⟨h2, h3⟩ := decL_small (show (Lib.decodeL (b :: t)).1 < 128 by omega)
      exact ⟨b, by simp, by rw [h3]⟩
    · obtain ⟨q1, q2, q3⟩ := rnL_mem f _ r h
      exact ⟨q1, q2, fun k => by obtain ⟨c, hc, e⟩ := q3 k; exact ⟨c, List.mem_of_mem_drop hc, e⟩⟩
theorem rnL_len : ∀ (f : Nat) (l : List UInt8), (rnL f l).length ≤ f
  | 0, l => Nat.le_refl _
  | f + 1, l => by
    rw [rnL]
    split
    · simp
    · have := rnL_len f (l.drop (Lib.decodeL l).2)
      simp only [List.length_cons]; omega
/-! Bad runes -/
theorem badC_ge {r : Int} (h : 128 ≤ r) : badC r = !good r := by
  unfold badC
  rw [decide_eq_true (show r ≥ 128 from h), decide_eq_false (show ¬ r < 128 by omega)]
  simp
theorem rgt_three : ∀ n : Fin 128, rgt (⟨#[97]⟩ ++ Utf8.encode (n.val : Int) ++ ⟨#[97]⟩) = okC (n.val : Int) := by decide +kernel
theorem badC_lt {r : Int} (h0 : 0 ≤ r) (h : r < 128) : badC r = !okC r := by
  obtain ⟨n, rfl⟩ : ∃ n : Nat, r = n := ⟨r.toNat, by omega⟩
  have := rgt_three ⟨n, by omega⟩
  dsimp only at this
  unfold badC
  rw [decide_eq_false (show ¬ (n : Int) ≥ 128 by omega), decide_eq_true h, this]
  simp
theorem good_rng {r : Int} (h : good r = true) : 223 ≤ r ∧ r ≤ 1119 := by
  unfold good at h
  simp only [Bool.or_eq_true, Bool.and_eq_true, decide_eq_true_eq] at h
  omega
theorem bdN_all {o : List Int} : ∀ n, n ≤ o.length → (bdN o n = false ↔ ∀ r ∈ o.take n, badC r = false)
  | 0, _ => by simp [bdN]
  | n + 1, h => by
    rw [bdN, Bool.or_eq_false_iff, bdN_all n (by omega), take_snoc' o n 0 h]
    constructor
    · rintro ⟨h1, h2⟩ r hr
      rcases List.mem_append.1 hr with k | k
      · exact h1 r k
      · rw [List.mem_singleton.1 k]; exact h2
    · intro h1
      exact ⟨fun r hr => h1 r (List.mem_append_left _ hr), h1 _ (by simp)⟩
theorem bdN_len {o : List Int} : bdN o o.length = false ↔ ∀ r ∈ o, badC r = false := by
  rw [bdN_all _ (Nat.le_refl _), List.take_length]
theorem byN_all {o : List Int} : ∀ n, n ≤ o.length → (byN o n = true ↔ ∃ r ∈ o.take n, 128 ≤ r)
  | 0, _ => by simp [byN]
  | n + 1, h => by
    rw [byN, Bool.or_eq_true, byN_all n (by omega), take_snoc' o n 0 h, decide_eq_true_eq]
    constructor
    · rintro (⟨r, h1, h2⟩ | h2)
      · exact ⟨r, List.mem_append_left _ h1, h2⟩
      · exact ⟨_, List.mem_append_right _ (List.mem_singleton.2 rfl), h2⟩
    · rintro ⟨r, h1, h2⟩
      rcases List.mem_append.1 h1 with k | k
      · exact .inl ⟨r, k, h2⟩
      · rw [List.mem_singleton.1 k] at h2; exact .inr h2
theorem byN_len {o : List Int} : byN o o.length = true ↔ ∃ r ∈ o, 128 ≤ r := by
  rw [byN_all _ (Nat.le_refl _), List.take_length]
/-- No rune is bad: what they are. -/
theorem nb_rng {r : Int} (h0 : 0 ≤ r) (h : badC r = false) : r < 1120 ∧ (r < 128 → okC r = true) ∧ (128 ≤ r → good r = true) := by
  by_cases e : r < 128
  · rw [badC_lt h0 e] at h
    exact ⟨by omega, fun _ => by simpa using h, fun k => by omega⟩
  · rw [badC_ge (by omega)] at h
    have hg : good r = true := by simpa using h
    have := good_rng hg
    exact ⟨by omega, fun k => by omega, fun _ => hg⟩
theorem okC_dot : ∀ n : Fin 128, okC (n.val : Int) = true → n.val ≠ 46 := by decide +kernel
theorem lowc_big {c : UInt8} (h : 90 < c.toNat) : lowc c = c := by unfold lowc; rw [if_neg (by omega)]
theorem low_e8 {r : Int} (h : okR r) (hc : ¬ (65 ≤ r ∧ r ≤ 90)) : (e8 r).map lowc = e8 r := by
  by_cases e : r < 128
  · rw [e8_lt h.1 e, List.map_singleton]
    congr 1
    unfold lowc
    rw [if_neg]
    rw [UInt8.toNat_ofNat']
    have := h.1
    omega
  · have h2 := h.2
    rw [e8_two (by omega) h2, List.map_cons, List.map_singleton, lowc_big (by rw [UInt8.toNat_ofNat']; omega), lowc_big (by rw [UInt8.toNat_ofNat']; omega)]
theorem low_enc {l : List Int} (h : ∀ r ∈ l, okR r) (hc : ∀ r ∈ l, ¬ (65 ≤ r ∧ r ≤ 90)) : (l.flatMap e8).map lowc = l.flatMap e8 := by
  induction l with
  | nil => rfl
  | cons r l ih => rw [List.flatMap_cons, List.map_append, low_e8 (h r (by simp)) (hc r (by simp)), ih (fun x hx => h x (by simp [hx])) fun x hx => hc x (by simp [hx])]
theorem pla_enc {l : List Int} (h : ∀ r ∈ l, okR r) {r : Int} (hr : r ∈ l) (h1 : 128 ≤ r) : ∃ c ∈ l.flatMap e8, 128 ≤ c.toNat := by
  refine ⟨UInt8.ofNat (192 + r.toNat / 64), List.mem_flatMap.2 ⟨r, hr, ?_⟩, ?_⟩
  · rw [e8_two h1 (h r hr).2]; simp
  · have := (h r hr).2
    rw [UInt8.toNat_ofNat']; omega
theorem dot_enc {l : List Int} (h : ∀ r ∈ l, okR r) (hd : ∀ r ∈ l, r ≠ 46) : ∀ c ∈ l.flatMap e8, c ≠ 46 := by
  intro c hc he
  subst he
  obtain ⟨r, hr, hm⟩ := List.mem_flatMap.1 hc
  have ho := h r hr
  by_cases e : r < 128
  · rw [e8_lt ho.1 e, List.mem_singleton] at hm
    have := congrArg UInt8.toNat hm
    rw [UInt8.toNat_ofNat'] at this
    have h46 : (46 : UInt8).toNat = 46 := rfl
    have := ho.1
    exact hd r hr (by omega)
  · have h2 := ho.2
    rw [e8_two (by omega) h2] at hm
    have h46 : (46 : UInt8).toNat = 46 := rfl
    rcases List.mem_cons.1 hm with k | k
    · have := congrArg UInt8.toNat k
      rw [UInt8.toNat_ofNat'] at this; omega
    · have := congrArg UInt8.toNat (List.mem_singleton.1 k)
      rw [UInt8.toNat_ofNat'] at this; omega
end Go.Proofs.YthomfpdigmeheaaDoorAv
set_option linter.unusedVariables false
set_option linter.unusedSimpArgs false
set_option maxRecDepth 100000
namespace Go.Proofs.YthomfpdigmeheaaDoorAv
open Go Go.RowKit
/-- The first error of labels that are turned. -/
def eL (l : List (List UInt8)) : Int := ee (fun x => (aL x).2) l
def jL (l : List (List UInt8)) : List UInt8 := join46 (l.map fun x => (aL x).1)
theorem tL_err {l : List (List UInt8)} (h : eL l ≠ 0) : tL l = ([], eL l) := by
  have : eR aL l = ([], eL l) := eR_err h
  rw [tL, this, if_neg]
  rintro ⟨h1, -⟩
  exact h h1
theorem tL_long {l : List (List UInt8)} (h : eL l = 0) (h2 : (jL l).length > 253) : tL l = ([], 2) := by
  have : eR aL l = (jL l, 0) := eR_ok h
  rw [tL, this, if_pos ⟨rfl, h2⟩]
theorem tL_ok {l : List (List UInt8)} (h : eL l = 0) (h2 : ¬ (jL l).length > 253) : tL l = (jL l, 0) := by
  have : eR aL l = (jL l, 0) := eR_ok h
  rw [tL, this, if_neg (fun k => h2 k.2)]
theorem tL_zero {l : List (List UInt8)} (h : (tL l).2 = 0) : eL l = 0 ∧ ¬ (jL l).length > 253 ∧ (tL l).1 = jL l := by
  by_cases e : eL l = 0
  · by_cases h2 : (jL l).length > 253
    · rw [tL_long e h2] at h; exact absurd h (by decide)
    · exact ⟨e, h2, by rw [tL_ok e h2]⟩
  · rw [tL_err e] at h; exact absurd h e
theorem tL_other {l : List (List UInt8)} (h : (tL l).2 ≠ 0) (h2 : (tL l).2 ≠ 2) : eL l = (tL l).2 := by
  by_cases e : eL l = 0
  · by_cases h3 : (jL l).length > 253
    · rw [tL_long e h3] at h2; exact absurd rfl h2
    · rw [tL_ok e h3] at h; exact absurd rfl h
  · rw [tL_err e]
theorem eL_app (l r : List (List UInt8)) : eL (l ++ r) = if eL l ≠ 0 then eL l else eL r := ee_app _ l r
theorem jL_app {l r : List (List UInt8)} (hl : l ≠ []) (hr : r ≠ []) : jL (l ++ r) = jL l ++ 46 :: jL r := by
  unfold jL
  rw [List.map_append, join46_app (by simpa using hl) (by simpa using hr)]
theorem LL_two {a b : List UInt8} (ha : ∀ t, a ≠ t ++ [46]) (hb : ∀ t, b ≠ t ++ [46]) (h : b ≠ []) : LL (a ++ 46 :: b) = LL a ++ LL b := by
  rw [LL_no ha, LL_no hb, LL_no, split1_app]
  intro t ht
  have h1 := congrArg List.getLast? ht
  rw [List.getLast?_append, List.getLast?_append] at h1
  simp only [List.getLast?_singleton, Option.some_or] at h1
  obtain ⟨c, b', rfl⟩ : ∃ b' c, b = b' ++ [c] := ⟨b.dropLast, b.getLast h, (List.dropLast_concat_getLast h).symm⟩
  rw [← List.cons_append, List.getLast?_append] at h1
  simp only [List.getLast?_singleton, Option.some_or, Option.some.injEq] at h1
  exact hb c (by rw [h1])
/-! NameLong -/
theorem aL_plain {x : List UInt8} (h1 : plaL (x.map lowc) = true) (h2 : xnL.isPrefixOf (x.map lowc) = false) : aL x = if rgtL (x.map lowc) = true then (x.map lowc, 0) else ([], 1) := by
  rw [aL_aS, aS, if_pos h1]
  cases h : rgtL (x.map lowc)
  · rw [if_pos rfl, if_neg (by simp)]
  · rw [if_neg (by simp), if_neg (by rw [h2]; simp), if_pos rfl]
theorem rep_low (n : Nat) : (List.replicate n (97 : UInt8)).map lowc = List.replicate n 97 := by
  rw [List.map_replicate]; rfl
theorem rgt_rep (n : Nat) (h : 0 < n) : rgtL (List.replicate n 97) = decide (n ≤ 63) := by
  unfold rgtL
  have e0 : (List.replicate n (97 : UInt8)).getD 0 0 = 97 := by
    rw [List.getD_eq_getElem?_getD, List.getElem?_replicate, if_pos h]; rfl
  have e1 : (List.replicate n (97 : UInt8)).getD (n - 1) 0 = 97 := by
    rw [List.getD_eq_getElem?_getD, List.getElem?_replicate, if_pos (by omega)]; rfl
  have e2 : (List.replicate n (97 : UInt8)).all okc = true := by
    rw [List.all_eq_true]
    intro c hc
    rw [(List.mem_replicate.1 hc).2]; decide
  rw [List.length_replicate, e0, e1, e2, decide_eq_true h]
  cases decide (n ≤ 63) <;> rfl
theorem aL_rep (n : Nat) (h : 0 < n) : aL (List.replicate n 97) = if n ≤ 63 then (List.replicate n 97, 0) else ([], 1) := by
  rw [aL_plain, rep_low, rgt_rep n h]
  · by_cases e : n ≤ 63
    · rw [decide_eq_true e, if_pos rfl, if_pos e]
    · rw [decide_eq_false e, if_neg (by simp), if_neg e]
  · rw [rep_low, plaL, List.all_eq_true]
    intro c hc
    rw [(List.mem_replicate.1 hc).2]; decide
  · rw [rep_low]
    cases n with
    | zero => omega
    | succ n => rfl
theorem join_rep_len (x : List UInt8) : ∀ m, 0 < m → (join46 (List.replicate m x)).length = m * (x.length + 1) - 1
  | 0, h => by omega
  | 1, _ => by simp [join46]
  | m + 2, _ => by
    have ih := join_rep_len x (m + 1) (by omega)
    rw [List.replicate_succ, join46_cons x (by simp), List.length_append, List.length_cons, ih, Nat.add_mul (m + 1) 1]
    have : x.length + 1 ≤ (m + 1) * (x.length + 1) := Nat.le_mul_of_pos_left _ (by omega)
    omega
theorem LL_rep (n m : Nat) (hn : 0 < n) (hm : 0 < m) : LL (join46 (List.replicate m (List.replicate n 97))) = List.replicate m (List.replicate n 97) := by
  have hs : split1 46 (join46 (List.replicate m (List.replicate n 97))) = List.replicate m (List.replicate n 97) := split_join (by intro e; have := congrArg List.length e; simp at this; omega) fun x hx c hc => by
    rw [(List.mem_replicate.1 hx).2] at hc
    rw [(List.mem_replicate.1 hc).2]; decide
  rw [LL_no, hs]
  intro t ht
  rw [ht, split1_app] at hs
  have h1 : ([] : List UInt8) ∈ List.replicate m (List.replicate n 97) := by rw [← hs]; simp [split1]
  have h2 := (List.mem_replicate.1 h1).2
  have := congrArg List.length h2
  simp at this
  omega
theorem eL_rep (n m : Nat) (hn : 0 < n) (hm : 0 < m) : eL (List.replicate m (List.replicate n 97)) = if n ≤ 63 then 0 else 1 := by
  by_cases e : n ≤ 63
  · rw [if_pos e]
    refine ee_zero.2 fun x hx => ?_
    rw [(List.mem_replicate.1 hx).2, aL_rep n hn, if_pos e]
  · rw [if_neg e]
    obtain ⟨m, rfl⟩ : ∃ k, m = k + 1 := ⟨m - 1, by omega⟩
    rw [List.replicate_succ]
    show ee _ (_ :: _) = 1
    rw [ee, aL_rep n hn, if_neg e]
    rfl
theorem jL_rep (n m : Nat) (hn : 0 < n) (e : n ≤ 63) : jL (List.replicate m (List.replicate n 97)) = join46 (List.replicate m (List.replicate n 97)) := by
  unfold jL
  rw [List.map_replicate, aL_rep n hn, if_pos e]
theorem and_mk (x m : Int) (h0 : 0 ≤ m) (h1 : m ≤ 9223372036854775807) : 0 ≤ bits .and .i64 x m ∧ bits .and .i64 x m ≤ m := by
  have hb : (BitVec.ofInt 64 m).toNat = m.toNat := by
    rw [BitVec.toNat_ofInt, Int.emod_eq_of_lt h0 (by omega)]
  have h2 : (BitVec.ofInt 64 x &&& BitVec.ofInt 64 m).toNat ≤ m.toNat := by
    rw [BitVec.toNat_and, hb]; exact Nat.and_le_right
  have e : bits .and .i64 x m = ((BitVec.ofInt 64 x &&& BitVec.ofInt 64 m).toNat : Int) := by
    show IntKind.i64.wrap ((BitVec.ofInt 64 x &&& BitVec.ofInt 64 m).toNat : Int) = _
    generalize (BitVec.ofInt 64 x &&& BitVec.ofInt 64 m).toNat = t at h2
    exact wrap64_in (by omega) (by omega)
  rw [e]
  omega
end Go.Proofs.YthomfpdigmeheaaDoorAv
set_option linter.unusedVariables false
set_option linter.unusedSimpArgs false
set_option maxRecDepth 100000
namespace Go.Proofs.YthomfpdigmeheaaDoorAv
open Go Go.RowKit
theorem low_fix {c : UInt8} (h : lowc c = c) : ¬ (65 ≤ c.toNat ∧ c.toNat ≤ 90) := fun k => by
  have := congrArg UInt8.toNat h
  rw [lowc_nat, if_pos k] at this
  omega
theorem fix_low {c : UInt8} (h : ¬ (65 ≤ c.toNat ∧ c.toNat ≤ 90)) : lowc c = c := by unfold lowc; rw [if_neg h]
theorem fold_low {a b : UInt8} (ha : lowc a = a) (hb : lowc b = b) (h : Lib.foldEq a b = true) : a = b := by
  have na := low_fix ha
  have nb := low_fix hb
  unfold Lib.foldEq at h
  rw [decide_eq_true_eq] at h
  apply UInt8.toNat_inj.1
  omega
theorem eqf_low : ∀ a b : List UInt8, a.map lowc = a → b.map lowc = b → Lib.equalFold a b = true → a = b
  | [], [], _, _, _ => rfl
  | x :: a, y :: b, h1, h2, h => by
    rw [Lib.equalFold, Bool.and_eq_true] at h
    rw [List.map_cons, List.cons.injEq] at h1 h2
    rw [fold_low h1.1 h2.1 h.1, eqf_low a b h1.2 h2.2 h.2]
  | [], y :: b, _, _, h => by simp [Lib.equalFold] at h
  | x :: a, [], _, _, h => by simp [Lib.equalFold] at h
theorem okC_dig : ∀ n : Fin 128, (48 ≤ n.val ∧ n.val ≤ 57 ∨ 97 ≤ n.val ∧ n.val ≤ 122) → okC n.val = true := by decide +kernel
/-- What Encode writes of right runes. -/
structure EncO (l o : List Int) : Prop where
  ok : ∀ x ∈ o, 0 ≤ x ∧ x < 128 ∧ okC x = true
  low : (∀ r ∈ l, ¬ (65 ≤ r ∧ r ≤ 90)) → ∀ x ∈ o, ¬ (65 ≤ x ∧ x ≤ 90)
  last : (∃ r ∈ l, 128 ≤ r) → ∃ o' d, o = o' ++ [d] ∧ digP d
theorem encO {l o : List Int} (hl : l.length ≤ 63) (hb : ∀ r ∈ l, 0 ≤ r ∧ badC r = false) (ho : encR (fun j => l.getD j 0) l.length = (o, 0)) : EncO l o := by
  have hg : ∀ r ∈ l, 0 ≤ r ∧ r < 2000 := fun r hr => ⟨(hb r hr).1, by have := (nb_rng (hb r hr).1 (hb r hr).2).1; omega⟩
  obtain ⟨k', dg, e1, e2, e3, e4⟩ := encR_RI hl hg ho
  have he := eo0_filt l l.length (Nat.le_refl _)
  rw [List.take_length] at he
  have hm : ∀ x ∈ o, (x ∈ l ∧ x < 128) ∨ x = 45 ∨ digP x := fun x hx => by
    rw [e1] at hx
    rcases List.mem_append.1 hx with k | k
    · unfold eo1 at k
      rw [he] at k
      split at k
      · rcases List.mem_append.1 k with k | k
        · have := List.mem_filter.1 k
          exact .inl ⟨this.1, by simpa using this.2⟩
        · exact .inr (.inl (List.mem_singleton.1 k))
      · have := List.mem_filter.1 k
        exact .inl ⟨this.1, by simpa using this.2⟩
    · exact .inr (.inr (e3 x k))
  refine ⟨fun x hx => ?_, fun hc x hx => ?_, fun ⟨r, hr, h1⟩ => ?_⟩
  · rcases hm x hx with ⟨k, k2⟩ | rfl | k
    · have := hb x k
      exact ⟨this.1, k2, (nb_rng this.1 this.2).2.1 k2⟩
    · exact ⟨by decide, by decide, by decide⟩
    · have hk : 0 ≤ x ∧ x < 128 := by rcases k with k | k <;> omega
      refine ⟨hk.1, hk.2, ?_⟩
      obtain ⟨n, rfl⟩ : ∃ n : Nat, x = n := ⟨x.toNat, by omega⟩
      exact okC_dig ⟨n, by omega⟩ (by
        show 48 ≤ n ∧ n ≤ 57 ∨ 97 ≤ n ∧ n ≤ 122
        rcases k with k | k <;> omega)
  · rcases hm x hx with ⟨k, k2⟩ | rfl | k
    · exact hc x k
    · decide
    · rcases k with k | k <;> omega
  · by_cases hd : dg = []
    · subst hd
      have h4 := e4 0
      have : k' = 0 := by simpa using e2
      subst this
      have h5 : some (eo0 (fun j => l.getD j 0) l.length) = some l := h4
      rw [he] at h5
      have h6 := Option.some.inj h5
      rw [← h6] at hr
      have := (List.mem_filter.1 hr).2
      simp at this
      omega
    · exact ⟨eo1 (fun j => l.getD j 0) l.length ++ dg.dropLast, dg.getLast hd, by rw [e1, List.append_assoc, List.dropLast_concat_getLast], e3 _ (List.getLast_mem hd)⟩
theorem txtO_toB (o : List Int) : (txtO o).data.toList = o.map toB := txtO_list o
/-- A label as it goes out. -/
structure LOK (t : List UInt8) : Prop where
  pla : plaL t = true
  rgt : rgtL t = true
  low : t.map lowc = t
  uni : xnL.isPrefixOf t = true → (uL t).2 = 0
theorem uL_no {t : List UInt8} (h : xnL.isPrefixOf t = false) : uL t = (t, 0) := by
  unfold uL lf
  have : (cutPreB (mk8 t) xnT).2 = false := h
  rw [uniR, if_pos this]
  rfl
theorem uL_xn (t : List UInt8) : uL (xnL ++ t) = if (decR (mk8 t)).2 ≠ 0 then ([], (decR (mk8 t)).2) else ((uniL (decR (mk8 t)).1).1.data.toList, (uniL (decR (mk8 t)).1).2) := by
  unfold uL lf
  have h1 : (cutPreB (mk8 (xnL ++ t)) xnT).2 = true := by
    show xnL.isPrefixOf (xnL ++ t) = true
    rw [List.isPrefixOf_iff_prefix]; exact List.prefix_append _ _
  have h2 : (cutPreB (mk8 (xnL ++ t)) xnT).1 = mk8 t := by
    have h1 : Lib.hasPrefix (mk8 (xnL ++ t)).data.toList xnT.data.toList = true := h1
    unfold cutPreB
    dsimp only
    rw [Lib.trimPrefix, if_pos h1]
    rfl
  rw [uniR, h1, h2, if_neg (by decide)]
  split <;> rfl
theorem pre_ex {t : List UInt8} (h : xnL.isPrefixOf t = true) : ∃ t', t = xnL ++ t' := by
  rw [List.isPrefixOf_iff_prefix] at h
  obtain ⟨t', e⟩ := h
  exact ⟨t', e.symm⟩
theorem uniL_ok {l : List Int} (h1 : ∀ r ∈ l, badC r = false) (h2 : ∃ r ∈ l, 128 ≤ r) (h3 : l.getD 0 0 ≠ 45) (h4 : l.getD (l.length - 1) 0 ≠ 45) : uniL l = (encB l, 0) := by
  rw [uniL, bdN_len.2 h1, if_neg (by decide), byN_len.2 h2, beq_eq_false_iff_ne.2 h3, beq_eq_false_iff_ne.2 h4]
  rfl
theorem uniL_zero {l : List Int} (h : (uniL l).2 = 0) : (∀ r ∈ l, badC r = false) ∧ (∃ r ∈ l, 128 ≤ r) ∧ l.getD 0 0 ≠ 45 ∧ l.getD (l.length - 1) 0 ≠ 45 := by
  rw [uniL] at h
  cases h1 : bdN l l.length
  · rw [h1, if_neg (by decide)] at h
    cases h2 : byN l l.length
    · rw [h2] at h; exact absurd h (by simp)
    · cases h3 : l.getD 0 0 == 45
      · cases h4 : l.getD (l.length - 1) 0 == 45
        · exact ⟨bdN_len.1 h1, byN_len.1 h2, beq_eq_false_iff_ne.1 h3, beq_eq_false_iff_ne.1 h4⟩
        · rw [h2, h3, h4] at h; exact absurd h (by simp)
      · rw [h2, h3] at h; exact absurd h (by simp)
  · rw [h1, if_pos rfl] at h; exact absurd h (by decide)
theorem ascL_zero {l : List Int} (h : (ascL l).2 = 0) : (∀ r ∈ l, badC r = false) ∧ l.getD 0 0 ≠ 45 ∧ l.getD (l.length - 1) 0 ≠ 45 ∧ ∃ o, encR (fun j => l.getD j 0) l.length = (o, 0) ∧ o.length ≤ 59 ∧ (ascL l).1.data.toList = xnL ++ o.map toB := by
  rw [ascL] at h ⊢
  cases h1 : bdN l l.length
  · rw [h1, if_neg (by decide)] at h
    rw [if_neg (by decide)]
    cases h3 : l.getD 0 0 == 45
    · cases h4 : l.getD (l.length - 1) 0 == 45
      · rw [h3, h4, if_neg (by decide)] at h
        rw [if_neg (by decide)]
        by_cases h5 : (encR (fun j => l.getD j 0) l.length).2 = 0
        · rw [if_neg (by rw [h5]; simp)] at h
          rw [if_neg (by rw [h5]; simp)]
          split at h
          · exact absurd h (by decide)
          · rename_i h6
            rw [if_neg h6]
            have e4 : xnT.size = 4 := rfl
            rw [ByteArray.size_append, txtO_size, e4] at h6
            refine ⟨bdN_len.1 h1, beq_eq_false_iff_ne.1 h3, beq_eq_false_iff_ne.1 h4, _, Prod.ext rfl h5, (show (encR (fun j => l.getD j 0) l.length).1.length ≤ 59 by omega), ?_⟩
            dsimp only
            rw [ByteArray.data_append, Array.toList_append, txtO_toB]
            rfl
        · rw [if_pos h5] at h; exact absurd h h5
      · rw [h3, h4] at h; exact absurd h (by simp)
    · rw [h3] at h; exact absurd h (by simp)
  · rw [h1, if_pos rfl] at h; exact absurd h (by decide)
theorem ascL_ok {l o : List Int} (h1 : ∀ r ∈ l, badC r = false) (h3 : l.getD 0 0 ≠ 45) (h4 : l.getD (l.length - 1) 0 ≠ 45) (h5 : encR (fun j => l.getD j 0) l.length = (o, 0)) (h6 : o.length ≤ 59) : ascL l = (xnT ++ txtO o, 0) := by
  have e4 : xnT.size = 4 := rfl
  rw [ascL, bdN_len.2 h1, if_neg (by decide), beq_eq_false_iff_ne.2 h3, beq_eq_false_iff_ne.2 h4, if_neg (by decide), h5, if_neg (by simp), if_neg]
  rw [ByteArray.size_append, txtO_size, e4]
  show ¬ 4 + o.length > 63
  omega
theorem toB_nat' {x : Int} (h0 : 0 ≤ x) (h1 : x < 128) : ((toB x).toNat : Int) = x := toB_nat h0 (by omega)
/-- The label that Encode's text makes. -/
theorem xn_LOK {l o : List Int} (hl : l.length ≤ 2000) (hr : ∀ r ∈ l, 0 ≤ r ∧ r ≤ 1114111) (h1 : ∀ r ∈ l, badC r = false) (h2 : ∃ r ∈ l, 128 ≤ r) (h3 : l.getD 0 0 ≠ 45) (h4 : l.getD (l.length - 1) 0 ≠ 45) (hc : ∀ r ∈ l, ¬ (65 ≤ r ∧ r ≤ 90)) (h5 : encR (fun j => l.getD j 0) l.length = (o, 0)) (h6 : o.length ≤ 59) : LOK (xnL ++ o.map toB) := by
  have hlo := encR_len hl hr h5
  have hE := encO (by omega) (fun r k => ⟨(hr r k).1, h1 r k⟩) h5
  obtain ⟨o', d, eo, hd⟩ := hE.last h2
  have hall : ∀ c ∈ xnL ++ o.map toB, okc c = true ∧ ¬ (65 ≤ c.toNat ∧ c.toNat ≤ 90) := fun c hc' => by
    rcases List.mem_append.1 hc' with k | k
    · have : ∀ c ∈ xnL, okc c = true ∧ ¬ (65 ≤ c.toNat ∧ c.toNat ≤ 90) := by decide
      exact this c k
    · obtain ⟨x, hx, rfl⟩ := List.mem_map.1 k
      obtain ⟨q1, q2, q3⟩ := hE.ok x hx
      have e := toB_nat' q1 q2
      have q4 := hE.low hc x hx
      refine ⟨?_, by omega⟩
      unfold okc
      rw [e]; exact q3
  have hlast : (xnL ++ o.map toB).getD ((xnL ++ o.map toB).length - 1) 0 = toB d := by
    rw [eo, List.map_append, ← List.append_assoc, List.getD_eq_getElem?_getD]
    simp
  have hd0 : 0 ≤ d ∧ d < 128 := by rcases hd with h | h <;> omega
  refine ⟨?_, ?_, ?_, fun _ => ?_⟩
  · unfold plaL
    rw [List.all_eq_true]
    intro c hc'
    exact decide_eq_true (okc_rng c (hall c hc').1).1
  · unfold rgtL
    have ea : (xnL ++ o.map toB).all okc = true := List.all_eq_true.2 fun c hc' => (hall c hc').1
    have eb : (toB d == 45) = false := by
      rw [beq_eq_false_iff_ne]
      intro e
      have := congrArg (fun c : UInt8 => (c.toNat : Int)) e
      have this : ((toB d).toNat : Int) = ((45 : UInt8).toNat : Int) := this
      rw [toB_nat' hd0.1 hd0.2] at this
      have h45 : ((45 : UInt8).toNat : Int) = 45 := rfl
      rw [h45] at this
      rcases hd with h | h <;> omega
    rw [hlast, ea, eb]
    have el : (xnL ++ o.map toB).length = 4 + o.length := by rw [List.length_append, List.length_map]; rfl
    rw [el, decide_eq_true (by omega), decide_eq_true (by omega)]
    rfl
  · conv => rhs; rw [← List.map_id (xnL ++ o.map toB)]
    exact List.map_congr_left fun c hc' => fix_low (hall c hc').2
  · have hD := decR_enc (by omega) (fun r k => ⟨(hr r k).1, by have := (nb_rng (hr r k).1 (h1 r k)).1; omega⟩) h5
    rw [uL_xn, show mk8 (o.map toB) = txtO o by rw [← txtO_toB, data_mk8], hD, if_neg (by simp), uniL_ok h1 h2 h3 h4]
theorem map_low_mem {t : List UInt8} (h : t.map lowc = t) : ∀ c ∈ t, lowc c = c := by
  intro c hc
  have : t.map lowc = t.map id := by rw [h, List.map_id]
  exact (List.map_inj_left.1 this) c hc
theorem map_low_low (x : List UInt8) : (x.map lowc).map lowc = x.map lowc := by
  rw [List.map_map]
  exact List.map_congr_left fun c _ => lowc_idem c
/-- T1: what goes out of a label. -/
theorem aL_LOK {x : List UInt8} (hx : x.length ≤ 2000) (h : (aL x).2 = 0) : LOK (aL x).1 := by
  rw [aL_aS] at h ⊢
  have hlow := map_low_low x
  have hlen : (x.map lowc).length ≤ 2000 := by rw [List.length_map]; exact hx
  generalize x.map lowc = t at *
  rw [aS] at h ⊢
  by_cases hp : plaL t = true
  · rw [if_pos hp] at h ⊢
    by_cases hr : rgtL t = false
    · rw [if_pos hr] at h; exact absurd h (by decide)
    · rw [if_neg hr] at h ⊢
      have hr : rgtL t = true := by simpa using hr
      by_cases hx : xnL.isPrefixOf t = true
      · rw [if_pos hx] at h ⊢
        exact ⟨hp, hr, hlow, fun _ => h⟩
      · rw [if_neg hx]
        exact ⟨hp, hr, hlow, fun k => absurd k hx⟩
  · rw [if_neg hp] at h ⊢
    by_cases hv : validB (mk8 t) = false
    · rw [if_pos hv] at h; exact absurd h (by decide)
    · rw [if_neg hv] at h ⊢
      have h : (ascL (rns (mk8 t))).2 = 0 := h
      show LOK (ascL (rns (mk8 t))).1.data.toList
      rw [rns_rnL, mk8_data] at h ⊢
      have hm := rnL_mem t.length t
      have hl := rnL_len t.length t
      have hb : ∃ r ∈ rnL t.length t, 128 ≤ r := by
        by_cases e : ∃ r ∈ rnL t.length t, 128 ≤ r
        · exact e
        · exact absurd (rnL_pla t.length t (Nat.le_refl _) fun r hr => by
            by_cases k : r < 128
            · exact k
            · exact absurd ⟨r, hr, by omega⟩ e) hp
      generalize rnL t.length t = l at *
      obtain ⟨q1, q2, q3, o, q4, q5, q6⟩ := ascL_zero h
      rw [q6]
      exact xn_LOK (by omega) (fun r hr => ⟨(hm r hr).1, (hm r hr).2.1⟩) q1 hb q2 q3 (fun r hr => by
        by_cases k : r < 128
        · obtain ⟨c, hc, e⟩ := (hm r hr).2.2 k
          have := low_fix (map_low_mem hlow c hc)
          omega
        · omega) q4 q5
/-- T2: it goes out again as it is. -/
theorem LOK.asc {t : List UInt8} (h : LOK t) : aL t = (t, 0) := by
  rw [aL_aS, h.low, aS, if_pos h.pla, h.rgt, if_neg (by decide)]
  by_cases k : xnL.isPrefixOf t = true
  · rw [if_pos k, h.uni k]
  · rw [if_neg k]
/-- T3: it comes back from what it is read as. -/
theorem LOK.back {t : List UInt8} (h : LOK t) (hx : xnL.isPrefixOf t = true) : (uL t).2 = 0 ∧ aL (uL t).1 = (t, 0) ∧ (∀ c ∈ (uL t).1, c ≠ 46) ∧ (uL t).1 ≠ t ∧ (uL t).1 ≠ [] ∧ (uL t).1.length ≤ 2 * t.length := by
  have hz := h.uni hx
  refine ⟨hz, ?_⟩
  have hlow := h.low
  have hpla := h.pla
  have hrgt := h.rgt
  obtain ⟨t', rfl⟩ := pre_ex hx
  rw [uL_xn] at hz ⊢
  by_cases hd : (decR (mk8 t')).2 = 0
  · rw [if_neg (by rw [hd]; simp)] at hz ⊢
    have hz : (uniL (decR (mk8 t')).1).2 = 0 := hz
    obtain ⟨f1, f2, f3⟩ := decR_facts hd
    have hlen := decR_len (mk8 t')
    generalize (decR (mk8 t')).1 = l at *
    obtain ⟨q1, q2, q3, q4⟩ := uniL_zero hz
    rw [uniL_ok q1 q2 q3 q4, encB_list]
    have hlow' : t'.map lowc = t' := by
      rw [List.map_append] at hlow
      exact (List.append_inj hlow rfl).2
    have hr0 : ∀ r ∈ l, 0 ≤ r := fun r hr => by
      rcases f1 r hr with ⟨c, hc, e⟩ | k <;> omega
    have hok : ∀ r ∈ l, okR r := fun r hr => ⟨hr0 r hr, by have := (nb_rng (hr0 r hr) (q1 r hr)).1; omega⟩
    have hrr : ∀ r ∈ l, 0 ≤ r ∧ r ≤ 1114111 := fun r hr => ⟨hr0 r hr, by have := (hok r hr).2; omega⟩
    have hcap : ∀ r ∈ l, ¬ (65 ≤ r ∧ r ≤ 90) := fun r hr => by
      rcases f1 r hr with ⟨c, hc, e⟩ | k
      · have := low_fix (map_low_mem hlow' c hc)
        omega
      · omega
    obtain ⟨o, ho⟩ : ∃ o, encR (fun j => l.getD j 0) l.length = (o, 0) := ⟨_, Prod.ext rfl f2⟩
    rw [ho] at f3
    have f3 : Lib.equalFold (txtO o).data.toList t' = true := f3
    have hlo := encR_len (by omega) hrr ho
    have hok2 := encR_ok (q := ⟨l.length, fun j => l.getD j 0⟩) (by show l.length ≤ 2000; omega) (fun i hi => by
      rw [show (Sq.mk l.length fun j => l.getD j 0).g i = l.getD i 0 from rfl, List.getD_eq_getElem?_getD, List.getElem?_eq_getElem hi]
      exact hrr _ (List.getElem_mem hi))
    dsimp only at hok2
    rw [ho] at hok2
    have hE := encO (by have := hok2.2; dsimp only at this; omega) (fun r k => ⟨hr0 r k, q1 r k⟩) ho
    have hol : (o.map toB).map lowc = o.map toB := by
      conv => rhs; rw [← List.map_id (o.map toB)]
      refine List.map_congr_left fun c hc => fix_low ?_
      obtain ⟨x, hx, rfl⟩ := List.mem_map.1 hc
      have e := toB_nat' (hE.ok x hx).1 (hE.ok x hx).2.1
      have := hE.low hcap x hx
      omega
    rw [txtO_toB] at f3
    have et : o.map toB = t' := eqf_low _ _ hol hlow' f3
    have h59 : o.length ≤ 59 := by
      unfold rgtL at hrgt
      simp only [Bool.and_eq_true, decide_eq_true_eq] at hrgt
      have := hrgt.1.1.1.2
      rw [List.length_append, ← et, List.length_map] at this
      have h4 : xnL.length = 4 := rfl
      omega
    obtain ⟨rb, hb1, hb2⟩ := q2
    obtain ⟨cb, hcb1, hcb2⟩ := pla_enc hok hb1 hb2
    have hnp : ¬ plaL (l.flatMap e8) = true := fun k => by
      unfold plaL at k
      have := of_decide_eq_true (List.all_eq_true.1 k cb hcb1)
      omega
    refine ⟨?_, ?_, ?_, ?_, ?_⟩
    · show aL (l.flatMap e8) = _
      rw [aL_aS, low_enc hok hcap, aS, if_neg hnp, validB_enc hok, if_neg (by decide), aN, rns_enc hok, ascL_ok q1 q3 q4 ho h59]
      dsimp only
      rw [ByteArray.data_append, Array.toList_append, txtO_toB, et]
      rfl
    · show ∀ c ∈ l.flatMap e8, c ≠ 46
      exact dot_enc hok fun r hr => by
        by_cases k : r < 128
        · have h1 := (nb_rng (hr0 r hr) (q1 r hr)).2.1 k
          intro e
          rw [e] at h1
          exact absurd h1 (by decide)
        · omega
    · show l.flatMap e8 ≠ _
      intro e
      rw [e] at hnp
      exact hnp hpla
    · show l.flatMap e8 ≠ []
      intro e
      rw [e] at hcb1; simp at hcb1
    · show (l.flatMap e8).length ≤ _
      have h2 : ∀ l : List Int, (∀ r ∈ l, okR r) → (l.flatMap e8).length ≤ 2 * l.length := by
        intro l
        induction l with
        | nil => intro _; simp
        | cons r l ih =>
          intro hk
          have i1 := ih fun x hx => hk x (by simp [hx])
          have i2 : (e8 r).length ≤ 2 := by
            have := hk r (by simp)
            by_cases e : r < 128
            · rw [e8_lt this.1 e]; simp
            · rw [e8_two (by omega) this.2]; simp
          rw [List.flatMap_cons, List.length_append, List.length_cons]
          omega
      have := h2 l hok
      rw [List.length_append, ← et, List.length_map]
      omega
  · rw [if_pos hd] at hz; exact absurd hz hd
theorem LOK.len {t : List UInt8} (h : LOK t) : 0 < t.length ∧ t.length ≤ 63 := by
  have := h.rgt
  unfold rgtL at this
  simp only [Bool.and_eq_true, decide_eq_true_eq] at this
  exact ⟨this.1.1.1.1, this.1.1.1.2⟩
theorem LOK.okc {t : List UInt8} (h : LOK t) : ∀ c ∈ t, Go.Proofs.YthomfpdigmeheaaDoorAv.okc c = true := by
  have := h.rgt
  unfold rgtL at this
  rw [Bool.and_eq_true] at this
  exact List.all_eq_true.1 this.2
theorem LOK.dot {t : List UInt8} (h : LOK t) : ∀ c ∈ t, c ≠ 46 := fun c hc e => by
  have := (okc_rng c (h.okc c hc)).2
  rw [e] at this
  exact this rfl
end Go.Proofs.YthomfpdigmeheaaDoorAv
set_option linter.unusedVariables false
set_option linter.unusedSimpArgs false
set_option maxRecDepth 100000
namespace Go.Proofs.YthomfpdigmeheaaDoorAv
open Go Go.RowKit
theorem LL_join {l : List (List UInt8)} (hl : l ≠ []) (h : ∀ x ∈ l, ∀ c ∈ x, c ≠ 46) (h2 : l.getLast? ≠ some []) : LL (join46 l) = l := by
  have hs := split_join hl h
  rw [LL_no, hs]
  intro t ht
  rw [ht, split1_app] at hs
  apply h2
  rw [← hs]
  show (split1 46 t ++ [[]]).getLast? = _
  simp
theorem LOK.ne {t : List UInt8} (h : LOK t) : t ≠ [] := List.length_pos_iff.1 h.len.1
theorem last_mem {α : Type} {l : List α} {x : α} (h : l.getLast? = some x) : x ∈ l := List.mem_of_getLast? h
theorem LL_LOK {l : List (List UInt8)} (hl : l ≠ []) (h : ∀ x ∈ l, LOK x) : LL (join46 l) = l ∧ split1 46 (join46 l) = l := by
  refine ⟨LL_join hl (fun x hx => (h x hx).dot) fun e => (h _ (last_mem e)).ne rfl, split_join hl fun x hx => (h x hx).dot⟩
/-- A label and what it is read as. -/
theorem LOK.uL {t : List UInt8} (h : LOK t) : (uL t).2 = 0 ∧ aL (uL t).1 = (t, 0) ∧ (∀ c ∈ (uL t).1, c ≠ 46) ∧ (uL t).1 ≠ [] ∧ (uL t).1.length ≤ 2 * t.length ∧ ((uL t).1 = t ↔ xnL.isPrefixOf t = false) := by
  cases k : xnL.isPrefixOf t
  · rw [uL_no k]
    exact ⟨rfl, h.asc, h.dot, h.ne, by show t.length ≤ _; omega, by simp⟩
  · obtain ⟨q1, q2, q3, q4, q5, q6⟩ := h.back k
    exact ⟨q1, q2, q3, q5, q6, by simp [q4]⟩
theorem uLs {l : List (List UInt8)} (hl : l ≠ []) (h : ∀ x ∈ l, LOK x) : LL (join46 (l.map fun x => (uL x).1)) = l.map (fun x => (uL x).1) ∧ split1 46 (join46 (l.map fun x => (uL x).1)) = l.map (fun x => (uL x).1) := by
  have hd : ∀ x ∈ l.map (fun x => (uL x).1), ∀ c ∈ x, c ≠ 46 := fun x hx => by
    obtain ⟨y, hy, rfl⟩ := List.mem_map.1 hx
    exact (h y hy).uL.2.2.1
  refine ⟨LL_join (by simp [hl]) hd fun e => ?_, split_join (by simp [hl]) hd⟩
  obtain ⟨y, hy, e2⟩ := List.mem_map.1 (last_mem e)
  exact (h y hy).uL.2.2.2.1 e2
theorem join_len_le {l : List (List UInt8)} {f : List UInt8 → List UInt8} (h : ∀ x ∈ l, (f x).length ≤ 2 * x.length) : (join46 (l.map f)).length ≤ 2 * (join46 l).length := by
  induction l with
  | nil => simp [join46]
  | cons x l ih =>
    have hx := h x (by simp)
    have ih := ih fun y hy => h y (by simp [hy])
    by_cases e : l = []
    · subst e; exact hx
    · rw [List.map_cons, join46_cons _ (by simp [e]), join46_cons _ e, List.length_append, List.length_append, List.length_cons, List.length_cons]; omega
theorem tA_join {l : List (List UInt8)} (hl : l ≠ []) (h : ∀ x ∈ l, LOK x) (hs : (join46 l).length ≤ 253) : tA (join46 l) = (join46 l, 0) := by
  have hE : eL l = 0 := ee_zero.2 fun x hx => by rw [(h x hx).asc]
  have hJ : jL l = join46 l := by
    unfold jL
    congr 1
    conv => rhs; rw [← List.map_id l]
    exact List.map_congr_left fun x hx => by rw [(h x hx).asc]; rfl
  rw [tA_tL (by omega), (LL_LOK hl h).1, tL_ok hE (by rw [hJ]; omega), hJ]
theorem tU_join {l : List (List UInt8)} (hl : l ≠ []) (h : ∀ x ∈ l, LOK x) (hs : (join46 l).length ≤ 253) : tU (join46 l) = (join46 (l.map fun x => (uL x).1), 0) := by
  rw [tU, tA_join hl h hs, if_neg (by simp), (LL_LOK hl h).1]
  exact eR_ok (ee_zero.2 fun x hx => (h x hx).uL.1)
theorem tA_back {l : List (List UInt8)} (hl : l ≠ []) (h : ∀ x ∈ l, LOK x) (hs : (join46 l).length ≤ 253) : tA (join46 (l.map fun x => (uL x).1)) = (join46 l, 0) := by
  have hb := join_len_le (f := fun x => (uL x).1) fun x hx => (h x hx).uL.2.2.2.2.1
  have hE : eL (l.map fun x => (uL x).1) = 0 := by
    unfold eL
    rw [ee_map]
    exact ee_zero.2 fun x hx => by rw [(h x hx).uL.2.1]
  have hJ : jL (l.map fun x => (uL x).1) = join46 l := by
    unfold jL
    rw [List.map_map]
    congr 1
    conv => rhs; rw [← List.map_id l]
    exact List.map_congr_left fun x hx => by show (aL (uL x).1).1 = x; rw [(h x hx).uL.2.1]
  rw [tA_tL (by omega), (uLs hl h).1, tL_ok hE (by rw [hJ]; omega), hJ]
theorem LL_each (s : List UInt8) : ∀ x ∈ LL s, x.length ≤ s.length := by
  intro x hx
  have h1 := split1_each 46 _ x hx
  have h2 : (trim46 s).length ≤ s.length := by
    unfold trim46 Lib.trimSuffix
    split
    · rw [List.length_take]; omega
    · exact Nat.le_refl _
  omega
/-- What goes out. -/
theorem tA_zero {s : List UInt8} (h : (tA s).2 = 0) : ∃ l, l ≠ [] ∧ (∀ x ∈ l, LOK x) ∧ (tA s).1 = join46 l ∧ (join46 l).length ≤ 253 := by
  by_cases hs : s.length ≤ 1012
  · rw [tA_tL hs] at h ⊢
    obtain ⟨h1, h2, h3⟩ := tL_zero h
    refine ⟨(LL s).map fun x => (aL x).1, by simp [LL_ne], fun x hx => ?_, h3, by have : jL (LL s) = join46 ((LL s).map fun x => (aL x).1) := rfl; rw [← this]; omega⟩
    obtain ⟨y, hy, rfl⟩ := List.mem_map.1 hx
    exact aL_LOK (by have := LL_each s y hy; omega) (ee_zero.1 h1 y hy)
  · rw [tA, if_pos (by omega)] at h; exact absurd h (by decide)
/-! Which errors -/
def er (e : Int) : Prop := e = 0 ∨ e = 1 ∨ e = 2 ∨ e = 3
theorem encG_er (g : Nat → Int) (len : Nat) (h0 : Int) : ∀ f n s, (encG g len h0 f n s).2 = 0 ∨ (encG g len h0 f n s).2 = 2
  | 0, n, s => by
    rw [encG]
    split
    · exact .inr rfl
    · exact .inl rfl
  | f + 1, n, s => by
    rw [encG]
    split
    · exact .inr rfl
    · split
      · exact encG_er g len h0 f _ _
      · exact .inl rfl
theorem ascL_er (l : List Int) : er (ascL l).2 := by
  have hE := encG_er (fun j => l.getD j 0) l.length ((eo0 (fun j => l.getD j 0) l.length).length) l.length 128 ⟨(eo0 (fun j => l.getD j 0) l.length).length, 0, 72, eo1 (fun j => l.getD j 0) l.length⟩
  have hE : (encR (fun j => l.getD j 0) l.length).2 = 0 ∨ (encR (fun j => l.getD j 0) l.length).2 = 2 := hE
  rw [ascL]
  split
  · exact .inr (.inl rfl)
  · split
    · exact .inr (.inl rfl)
    · split
      · rcases hE with e | e
        · exact .inl e
        · exact .inr (.inr (.inl e))
      · split
        · exact .inr (.inr (.inl rfl))
        · exact .inl rfl
theorem decK_er (s : ByteArray) (o : Option (List Int)) : (decK s o).2 = 0 ∨ (decK s o).2 = 3 := by
  cases o with
  | none => rw [decK]; exact .inr rfl
  | some o =>
    rw [decK]
    split
    · exact .inr rfl
    · exact .inl rfl
theorem decR_er (s : ByteArray) : (decR s).2 = 0 ∨ (decR s).2 = 3 := by
  rw [decR]
  split
  · exact .inr rfl
  · split
    · exact .inr rfl
    · exact decK_er _ _
theorem uniL_er (l : List Int) : (uniL l).2 = 0 ∨ (uniL l).2 = 3 := by
  rw [uniL]
  split
  · exact .inr rfl
  · split
    · exact .inr rfl
    · exact .inl rfl
theorem uL_er (t : List UInt8) : (uL t).2 = 0 ∨ (uL t).2 = 3 := by
  show (uniR (mk8 t)).2 = 0 ∨ (uniR (mk8 t)).2 = 3
  rw [uniR]
  split
  · exact .inl rfl
  · split
    · exact decR_er _
    · exact uniL_er _
theorem aL_er (x : List UInt8) : er (aL x).2 := by
  rw [aL_aS, aS]
  split
  · split
    · exact .inr (.inl rfl)
    · split
      · rcases uL_er (x.map lowc) with e | e
        · exact .inl e
        · exact .inr (.inr (.inr e))
      · exact .inl rfl
  · split
    · exact .inr (.inl rfl)
    · exact ascL_er _
theorem tA_er (s : List UInt8) : er (tA s).2 ∧ ((tA s).2 ≠ 0 → (tA s).1 = []) := by
  by_cases hs : s.length ≤ 1012
  · rw [tA_tL hs]
    by_cases e : eL (LL s) = 0
    · by_cases h2 : (jL (LL s)).length > 253
      · rw [tL_long e h2]; exact ⟨.inr (.inr (.inl rfl)), fun _ => rfl⟩
      · rw [tL_ok e h2]; exact ⟨.inl rfl, fun h => absurd rfl h⟩
    · rw [tL_err e]
      refine ⟨?_, fun _ => rfl⟩
      obtain ⟨x, hx, e2⟩ := ee_mem (F := fun x => (aL x).2) e
      show er (ee (fun x => (aL x).2) (LL s))
      rw [e2]
      exact aL_er x
  · rw [tA, if_pos (by omega)]; exact ⟨.inr (.inr (.inl rfl)), fun _ => rfl⟩
/-! The laws -/
theorem cnt_split (s : List UInt8) : (split1 46 s).length = s.count 46 + 1 := by
  induction s with
  | nil => rfl
  | cons c s ih =>
    by_cases h : c = 46
    · subst h; rw [split1_dotc, List.length_cons, ih, List.count_cons_self]
    · obtain ⟨y, t, hs⟩ := split1_ex s
      rw [hs] at ih
      rw [split1_oth h hs, List.count_cons_of_ne (by simpa using h), ← ih]; rfl
theorem map_getD {l : List (List UInt8)} {i : Nat} (h : i < l.length) : (l.map mk8).getD i ⟨#[]⟩ = mk8 (l.getD i []) := by
  rw [List.getD_eq_getElem?_getD, List.getElem?_map, List.getElem?_eq_getElem h, List.getD_eq_getElem?_getD, List.getElem?_eq_getElem h]
  rfl
theorem getD_mem {α : Type} {l : List α} {i : Nat} {d : α} (h : i < l.length) : l.getD i d ∈ l := by
  rw [List.getD_eq_getElem?_getD, List.getElem?_eq_getElem h]; exact List.getElem_mem h
theorem joined_low {l : List (List UInt8)} (h : ∀ x ∈ l, LOK x) : (join46 l).map lowc = join46 l := by
  rw [join46_map lowc (by decide)]
  congr 1
  conv => rhs; rw [← List.map_id l]
  exact List.map_congr_left fun x hx => (h x hx).low
theorem ext_four (t : List UInt8) : (mk8 t).extract 0 4 = xnT ↔ xnL.isPrefixOf t = true := by
  rw [Lib.extract_eq, mk8_data, List.isPrefixOf_iff_prefix, List.prefix_iff_eq_take]
  rw [show xnT = mk8 xnL from rfl, show (⟨((t.drop 0).take (4 - 0)).toArray⟩ : ByteArray) = mk8 (t.take 4) from rfl, mk8_inj]
  exact eq_comm
theorem LOK.four {t : List UInt8} (h : LOK t) (k : xnL.isPrefixOf t = true) : 4 < t.length := by
  obtain ⟨t', rfl⟩ := pre_ex k
  cases t' with
  | nil =>
    have := h.rgt
    exact absurd this (by decide)
  | cons a t' => rw [List.length_append, List.length_cons]; have : xnL.length = 4 := rfl; omega
end Go.Proofs.YthomfpdigmeheaaDoorAv
set_option linter.unusedVariables false
set_option linter.unusedSimpArgs false
set_option maxRecDepth 100000
namespace Go.Proofs.YthomfpdigmeheaaDoorAv
open Go Go.RowKit
theorem knT_iff (o : List ByteArray) (s : ByteArray) : ∀ i, knT o s i = true ↔ ∃ j, j < i ∧ s = o.getD j ⟨#[]⟩
  | 0 => by simp [knT]
  | i + 1 => by
    rw [knT, Bool.or_eq_true, knT_iff o s i, decide_eq_true_eq]
    constructor
    · rintro (⟨j, h1, h2⟩ | h)
      · exact ⟨j, by omega, h2⟩
      · exact ⟨i, by omega, h⟩
    · rintro ⟨j, h1, h2⟩
      by_cases e : j = i
      · subst e; exact .inr h2
      · exact .inl ⟨j, by omega, h2⟩
theorem getD_in {α : Type} {l : List α} {i : Nat} {d : α} (h : i < l.length) : l.getD i d ∈ l := by
  rw [List.getD_eq_getElem?_getD, List.getElem?_eq_getElem h]; exact List.getElem_mem h
theorem knT_mem (o : List ByteArray) (s : ByteArray) : knT o s o.length = true ↔ s ∈ o := by
  rw [knT_iff]
  constructor
  · rintro ⟨j, h1, rfl⟩; exact getD_in h1
  · intro h
    obtain ⟨j, h1, h2⟩ := List.getElem_of_mem h
    exact ⟨j, h1, by rw [List.getD_eq_getElem?_getD, List.getElem?_eq_getElem h1, ← h2]; rfl⟩
theorem addT_has {o : List ByteArray} {s : ByteArray} (h : s ∈ o) : addT o s = o := by
  unfold addT
  rw [if_neg]
  rintro ⟨h1, -⟩
  rw [(knT_mem o s).2 h] at h1; cases h1
theorem addT_new {o : List ByteArray} {s : ByteArray} (h : s ∉ o) (h2 : s.size ≤ 253) : addT o s = o ++ [s] := by
  unfold addT
  rw [if_pos]
  refine ⟨?_, h2⟩
  cases e : knT o s o.length
  · rfl
  · exact absurd ((knT_mem o s).1 e) h
theorem addT_big {o : List ByteArray} {s : ByteArray} (h2 : 253 < s.size) : addT o s = o := by
  unfold addT
  rw [if_neg]
  rintro ⟨-, h⟩
  omega
theorem addT_mem {o : List ByteArray} {s x : ByteArray} (h : x ∈ addT o s) : x ∈ o ∨ (x = s ∧ s.size ≤ 253) := by
  unfold addT at h
  split at h
  · rename_i k
    rcases List.mem_append.1 h with h | h
    · exact .inl h
    · exact .inr ⟨List.mem_singleton.1 h, k.2⟩
  · exact .inl h
theorem addT_sub {o : List ByteArray} {s x : ByteArray} (h : x ∈ o) : x ∈ addT o s := by
  unfold addT
  split
  · exact List.mem_append_left _ h
  · exact h
theorem addT_in {o : List ByteArray} {s : ByteArray} (h : s.size ≤ 253) : s ∈ addT o s := by
  by_cases e : s ∈ o
  · exact addT_sub e
  · rw [addT_new e h]; simp
theorem lsN_mem {g : Nat → ByteArray} {n x : ByteArray} {o : List ByteArray} : ∀ {i}, x ∈ lsN g n o i → x ∈ o ∨ ∃ j, j < i ∧ x = n ++ ⟨#[46]⟩ ++ g j ∧ x.size ≤ 253
  | 0, h => .inl h
  | i + 1, h => by
    rw [lsN] at h
    rcases addT_mem h with h | ⟨h1, h2⟩
    · rcases lsN_mem h with h | ⟨j, h1, h2⟩
      · exact .inl h
      · exact .inr ⟨j, by omega, h2⟩
    · exact .inr ⟨i, by omega, h1, by rw [h1]; exact h2⟩
theorem lsN_sub {g : Nat → ByteArray} {n x : ByteArray} {o : List ByteArray} (h : x ∈ o) : ∀ i, x ∈ lsN g n o i
  | 0 => h
  | i + 1 => by rw [lsN]; exact addT_sub (lsN_sub h i)
theorem addT_one {s : ByteArray} (h : s.size ≤ 253) : addT [] s = [s] := addT_new (by simp) h
/-- What is tried, if the name may be. -/
theorem canL_mem {q : Sq ByteArray} {d : Int} {s x : ByteArray} (h : (toA s).2 = 0) (hx : x ∈ (canL q d s).1) : x = (toA s).1 ∨ ∃ j, j < q.n ∧ x = (toA s).1 ++ ⟨#[46]⟩ ++ q.g j ∧ x.size ≤ 253 := by
  rw [canL, if_neg (by rw [h]; simp)] at hx
  split at hx
  · exact .inl (List.mem_singleton.1 hx)
  · rcases addT_mem hx with hx | ⟨hx, -⟩
    · rcases lsN_mem hx with hx | hx
      · left
        unfold lsE at hx
        split at hx
        · rcases addT_mem hx with hx | ⟨hx, -⟩
          · simp at hx
          · exact hx
        · simp at hx
      · exact .inr hx
    · exact .inl hx
theorem canL_len {q : Sq ByteArray} {d : Int} {s : ByteArray} (h : (toA s).2 = 0) : 1 ≤ (canL q d s).1.length ∧ (canL q d s).1.length ≤ q.n + 1 := by
  have hz := (toA_len h).2.1
  rw [canL, if_neg (by rw [h]; simp)]
  split
  · exact ⟨Nat.le_refl _, by show 1 ≤ _; omega⟩
  · dsimp only
    refine ⟨List.length_pos_iff.2 (List.ne_nil_of_mem (addT_in hz)), ?_⟩
    have h1 := lsN_len q.g (toA s).1 (lsE d (toA s).1) q.n
    by_cases e : d ≤ cntB (toA s).1 ⟨#[46]⟩
    · have hE : lsE d (toA s).1 = [(toA s).1] := by unfold lsE; rw [if_pos e, addT_one hz]
      rw [hE] at h1 ⊢
      rw [addT_has (lsN_sub (by simp) _)]
      simp at h1; omega
    · have hE : lsE d (toA s).1 = [] := by unfold lsE; rw [if_neg e]
      rw [hE] at h1 ⊢
      have h2 := addT_len (lsN q.g (toA s).1 [] q.n) (toA s).1
      simp at h1; omega
theorem toA_fix {s : ByteArray} (h : (toA s).2 = 0) : ∃ l, l ≠ [] ∧ (∀ x ∈ l, LOK x) ∧ (toA s).1.data.toList = join46 l ∧ (join46 l).length ≤ 253 := by
  rw [toA_tA] at h ⊢
  exact tA_zero h
theorem toA_join {x : ByteArray} {l : List (List UInt8)} (hl : l ≠ []) (h : ∀ y ∈ l, LOK y) (hx : x.data.toList = join46 l) (hs : x.size ≤ 253) : toA x = (x, 0) := by
  rw [toA_tA, hx, tA_join hl h (by rw [← hx, ← size_data]; exact hs), ← hx, data_mk8]
theorem toA_mem {q : Sq ByteArray} {d : Int} {s x : ByteArray} (h : (toA s).2 = 0) (hq : caG q q.n) (hx : x ∈ (canL q d s).1) : toA x = (x, 0) ∧ ∃ t, x = (toA s).1 ++ t := by
  obtain ⟨l, l1, l2, l3, l4⟩ := toA_fix h
  rcases canL_mem h hx with rfl | ⟨j, hj, rfl, hz⟩
  · exact ⟨toA_join l1 l2 l3 (by rw [size_data, l3]; exact l4), ⟨#[]⟩, by
      rw [← data_mk8 ((toA s).1 ++ ⟨#[]⟩), ByteArray.data_append, Array.toList_append, show ((⟨#[]⟩ : ByteArray)).data.toList = [] from rfl, List.append_nil, data_mk8]⟩
  · have hd := hq j hj
    obtain ⟨k, k1, k2, k3, k4⟩ := toA_fix (s := q.g j) (by rw [hd])
    rw [hd] at k3
    refine ⟨toA_join (l := l ++ k) (by simp [l1]) (fun y hy => ?_) ?_ hz, ⟨#[46]⟩ ++ q.g j, by rw [ByteArray.append_assoc]⟩
    · rcases List.mem_append.1 hy with hy | hy
      · exact l2 y hy
      · exact k2 y hy
    · rw [join46_app l1 k1, ByteArray.data_append, Array.toList_append, ByteArray.data_append, Array.toList_append, l3, k3, List.append_assoc]
      rfl
theorem ext_app (n t : ByteArray) : (n ++ t).extract 0 n.size = n := by
  rw [Lib.extract_eq, ByteArray.data_append, Array.toList_append, List.drop_zero, Nat.sub_zero, List.take_left' (by rw [size_data])]
theorem none_v (s : ByteArray) (q : Sq ByteArray) : noneV s q := by
  unfold noneV
  refine ⟨fun h => absurd h (by decide), fun _ => ⟨fun _ => rfl, fun h => ?_⟩⟩
  rw [Bool.or_eq_false_iff] at h
  have hs := of_decide_eq_false h.1
  have hq := of_decide_eq_false h.2
  refine ⟨⟨⟨0⟩, Nat.zero_le _, rfl, rfl, rfl, rfl, rfl, trivial⟩, ?_⟩
  rintro ⟨i⟩ hi
  have hi : i ≤ q.n := hi
  refine ⟨fun k => ?_, fun k => ?_⟩
  · have k : (i : Int) < q.n := of_decide_eq_true k
    exact ⟨(show (0 : Int) ≤ (i : Int) by omega), k, fun _ => rfl, fun _ => ⟨(show in64 ((i : Int) + 1) by unfold in64; omega), ⟨i + 1⟩, (show i + 1 ≤ q.n by omega), (show q.n - (i + 1) < q.n - i by omega), rfl, rfl, rfl, rfl, rfl, trivial⟩⟩
  · refine ⟨rfl, rfl, by decide, fun _ h => absurd h (Nat.not_lt_zero _), fun h => ?_, fun h => ?_⟩
    · have h : (toA s).2 ≠ 0 := by simpa using h
      have e : canL ⟨0, fun _ => ⟨#[]⟩⟩ 1 s = ([], (toA s).2) := by rw [canL, if_pos h]
      rw [e]
      simp [lenT]
    · have h : (toA s).2 = 0 := by simpa using h
      have h1 := canL_len (q := ⟨0, fun _ => ⟨#[]⟩⟩) (d := 1) h
      have h2 : (canL ⟨0, fun _ => ⟨#[]⟩⟩ 1 s).2 = 0 := by
        rw [canL, if_neg (by rw [h]; simp)]
        split <;> rfl
      have h3 : lenT (canL ⟨0, fun _ => ⟨#[]⟩⟩ 1 s).1 = 1 := by
        have h1 : 1 ≤ (canL ⟨0, fun _ => ⟨#[]⟩⟩ 1 s).1.length ∧ (canL ⟨0, fun _ => ⟨#[]⟩⟩ 1 s).1.length ≤ 0 + 1 := h1
        unfold lenT; omega
      rw [h2, h3]; rfl
theorem nams_v (q : Sq ByteArray) (s : ByteArray) (hg : ∀ i, i < q.n → (q.g i).size ≤ 140737488351232) : namsV q s := by
  unfold namsV
  refine ⟨fun h => absurd h (by decide), fun _ => ⟨fun _ => rfl, fun h => ?_⟩⟩
  rw [Bool.or_eq_false_iff] at h
  have hq := of_decide_eq_false h.1
  have hs := of_decide_eq_false h.2
  refine ⟨⟨⟨0⟩, ⟨Nat.zero_le _, fun j hj => absurd hj (Nat.not_lt_zero _)⟩, rfl, rfl, rfl, rfl, rfl, rfl, trivial⟩, ?_⟩
  rintro ⟨i⟩ ⟨hi, hG⟩
  dsimp only at hi hG
  refine ⟨fun k => ?_, fun k => ?_⟩
  · have k : (i : Int) < q.n := of_decide_eq_true k
    dsimp only
    rw [Int.toNat_natCast]
    refine ⟨by omega, k, fun _ => rfl, fun k2 => ⟨by unfold in64; omega, ⟨i + 1⟩, ⟨(show i + 1 ≤ q.n by omega), fun j hj => ?_⟩, (show q.n - (i + 1) < q.n - i by omega), rfl, rfl, rfl, rfl, rfl, rfl, trivial⟩⟩
    have hj : j < i + 1 := hj
    by_cases e : j = i
    · subst e
      rw [Bool.or_eq_false_iff] at k2
      have k3 : (toA (q.g j)).2 = 0 := by simpa using k2.1
      have k4 : (toA (q.g j)).1 = q.g j := by simpa using k2.2
      exact Prod.ext k4 k3
    · exact hG j (by omega)
  · have k : ¬ (i : Int) < q.n := of_decide_eq_false k
    obtain rfl : i = q.n := by omega
    refine ⟨fun _ _ => rfl, rfl, rfl, by omega, fun j hj => by have := hg j hj; omega, fun _ => rfl, fun k2 => ?_⟩
    have k2 : (canL q 1 s).2 = 0 := by simpa using k2
    have hn : (toA s).2 = 0 := by
      by_cases e : (toA s).2 = 0
      · exact e
      · rw [canL, if_pos e] at k2; exact absurd k2 e
    have hlen := canL_len (q := q) (d := 1) hn
    have eL : lenT (canL q 1 s).1 = (canL q 1 s).1.length := rfl
    refine ⟨⟨⟨0⟩, Nat.zero_le _, rfl, rfl, rfl, rfl, rfl, rfl, rfl, trivial⟩, ?_⟩
    rintro ⟨m⟩ hm
    have hm : m ≤ lenT (canL q 1 s).1 := hm
    refine ⟨fun k3 => ?_, fun k3 => ?_⟩
    · have k3 : (m : Int) < lenT (canL q 1 s).1 := of_decide_eq_true k3
      dsimp only
      rw [Int.toNat_natCast]
      have hx := getD_in (l := (canL q 1 s).1) (i := m) (d := ⟨#[]⟩) (by omega)
      obtain ⟨g1, t, g2⟩ := toA_mem hn hG hx
      rw [g1]
      have e1 : (toA s).1.size ≤ ((canL q 1 s).1.getD m ⟨#[]⟩).size := by rw [g2, ByteArray.size_append]; omega
      have e2 : ((canL q 1 s).1.getD m ⟨#[]⟩).extract 0 ((toA s).1.size : Int).toNat = (toA s).1 := by
        rw [Int.toNat_natCast, g2]; exact ext_app _ _
      rw [e2]
      refine ⟨by omega, k3, fun _ => by omega, fun _ => by omega, fun _ => by omega, fun k4 => ?_, fun _ => ⟨by unfold in64; omega, ⟨m + 1⟩, (show m + 1 ≤ lenT (canL q 1 s).1 by omega), (show lenT (canL q 1 s).1 - (m + 1) < lenT (canL q 1 s).1 - m by omega), rfl, rfl, rfl, rfl, rfl, rfl, rfl, trivial⟩⟩
      rw [decide_eq_false (show ¬ ((((canL q 1 s).1.getD m ⟨#[]⟩).size : Int) < ((toA s).1.size : Int)) by omega)] at k4
      simp at k4
    · refine ⟨fun _ => by unfold in64; omega, ?_⟩
      rw [decide_eq_true (show (lenT (canL q 1 s).1 : Int) ≥ 1 by omega), decide_eq_true (show (lenT (canL q 1 s).1 : Int) ≤ (q.n : Int) + 1 by omega)]
      rfl
end Go.Proofs.YthomfpdigmeheaaDoorAv
set_option linter.unusedVariables false
set_option linter.unusedSimpArgs false
set_option maxRecDepth 100000
namespace Go.Proofs.YthomfpdigmeheaaDoorAv
open Go Go.RowKit
/-- A plain label, by its looks. -/
def labOk (x : List UInt8) : Bool := plaL x && rgtL x && !xnL.isPrefixOf x && decide (x.map lowc = x)
theorem labOk_LOK {x : List UInt8} (h : labOk x = true) : LOK x := by
  unfold labOk at h
  rw [Bool.and_eq_true, Bool.and_eq_true, Bool.and_eq_true, Bool.not_eq_true', decide_eq_true_eq] at h
  obtain ⟨⟨⟨h1, h2⟩, h3⟩, h4⟩ := h
  exact ⟨h1, h2, h4, fun k => by rw [h3] at k; cases k⟩
theorem toA_lab {s : ByteArray} (h : (split1 46 s.data.toList).all labOk = true) (hs : s.size ≤ 253) : toA s = (s, 0) :=
  toA_join (split1_ne 46 _) (fun y hy => labOk_LOK (List.all_eq_true.1 h y hy)) (join_split _).symm hs
def loA : List UInt8 := [97, 98, 99, 100, 101, 102, 103, 104, 105, 46]
def loPL : Nat → List UInt8
  | 0 => []
  | i + 1 => loPL i ++ loA
theorem loP_list : ∀ i, (loP i).data.toList = loPL i
  | 0 => rfl
  | i + 1 => by rw [loP, ByteArray.data_append, Array.toList_append, loP_list i]; rfl
theorem loPL_len : ∀ i, (loPL i).length = 10 * i
  | 0 => rfl
  | i + 1 => by rw [loPL, List.length_append, loPL_len i]; show _ + 10 = _; omega
def loTL (m : Nat) : List UInt8 := if ((loPL ((m + 9) / 10)).take m).getD (m - 1) 0 = 46 then ((loPL ((m + 9) / 10)).take m).take (m - 1) ++ [120] else (loPL ((m + 9) / 10)).take m
theorem ext_take (s : ByteArray) (m : Nat) : (s.extract 0 m).data.toList = s.data.toList.take m := by
  rw [Lib.extract_eq, List.drop_zero, Nat.sub_zero]
theorem loT_list (m : Nat) (hm : 1 ≤ m) : (loT m).data.toList = loTL m := by
  unfold loT loTL
  have e : sbyte ((loP ((m + 9) / 10)).extract 0 m) (((m : Nat) : Int) - 1) = ((((loPL ((m + 9) / 10)).take m).getD (m - 1) 0).toNat : Int) := by
    unfold sbyte
    rw [ext_take, loP_list, show (((m : Nat) : Int) - 1).toNat = m - 1 by omega]
  rw [e]
  by_cases h : ((loPL ((m + 9) / 10)).take m).getD (m - 1) 0 = 46
  · rw [if_pos h, h, if_pos (by decide), ByteArray.data_append, Array.toList_append, ext_take, ext_take, loP_list]
  · rw [if_neg h, if_neg, ext_take, loP_list]
    intro k
    apply h
    rw [beq_iff_eq] at k
    apply UInt8.toNat_inj.1
    have h46 : (46 : UInt8).toNat = 46 := rfl
    omega
theorem lo_lab : ∀ k : Fin 64, ((split1 46 (loTL (k.val + 180))).all labOk && decide ((loTL (k.val + 180)).length = k.val + 180) && !Lib.hasSuffix (loTL (k.val + 180)) [46] && decide ((loTL (k.val + 180)).count 46 < 99)) = true := by decide +kernel
structure LoT (m : Nat) : Prop where
  size : (loT m).size = m
  toA : toA (loT m) = (loT m, 0)
  suf : hasSufB (loT m) ⟨#[46]⟩ = false
  cnt : cntB (loT m) ⟨#[46]⟩ < 99
theorem loT_ok {m : Nat} (h0 : 180 ≤ m) (h1 : m < 244) : LoT m := by
  have h := lo_lab ⟨m - 180, by omega⟩
  dsimp only at h
  rw [show m - 180 + 180 = m by omega, Bool.and_eq_true, Bool.and_eq_true, Bool.and_eq_true, Bool.not_eq_true', decide_eq_true_eq, decide_eq_true_eq] at h
  obtain ⟨⟨⟨k1, k2⟩, k3⟩, k4⟩ := h
  have hl := loT_list m (by omega)
  have hs : (loT m).size = m := by rw [size_data, hl, k2]
  refine ⟨hs, toA_lab (by rw [hl]; exact k1) (by omega), ?_, ?_⟩
  · unfold hasSufB
    rw [hl]; exact k3
  · show (Lib.countByte (loT m).data.toList 46 : Int) < 99
    rw [hl]
    show (((loTL m).count 46 : Nat) : Int) < 99
    omega
theorem size_ne {a b : ByteArray} (h : a.size ≠ b.size) : a ≠ b := fun e => h (by rw [e])
/-- What is tried. -/
theorem lo_list {m : Nat} (h0 : 180 ≤ m) (h1 : m < 244) : canL loQ 99 (loT m) = ((if m + 33 ≤ 253 then [loT m ++ ⟨#[46]⟩ ++ loD] else []) ++ (if m + 2 ≤ 253 then [loT m ++ ⟨#[46]⟩ ++ ⟨#[121]⟩] else []) ++ [loT m], 0) := by
  obtain ⟨hs, ht, hf, hc⟩ := loT_ok h0 h1
  have d0 : (⟨#[46]⟩ : ByteArray).size = 1 := rfl
  have d1 : (⟨#[121]⟩ : ByteArray).size = 1 := rfl
  have d2 : loD.size = 32 := rfl
  have g0 : loQ.g 0 = loD := rfl
  have g1 : loQ.g 1 = ⟨#[121]⟩ := rfl
  have gn : loQ.n = 2 := rfl
  generalize loT m = t at *
  generalize loD = D at *
  have e1 : (t ++ ⟨#[46]⟩ ++ D : ByteArray).size = m + 33 := by rw [ByteArray.size_append, ByteArray.size_append, hs]; omega
  have e2 : (t ++ ⟨#[46]⟩ ++ ⟨#[121]⟩ : ByteArray).size = m + 2 := by rw [ByteArray.size_append, ByteArray.size_append, hs]; omega
  rw [canL, ht, if_neg (by simp), if_neg (by rw [hf]; simp)]
  have hE : lsE 99 (t) = [] := by unfold lsE; rw [if_neg (by omega)]
  have hN : lsN loQ.g (t) [] loQ.n = addT (addT [] (t ++ ⟨#[46]⟩ ++ D)) (t ++ ⟨#[46]⟩ ++ ⟨#[121]⟩) := by rw [gn, lsN, lsN, lsN, g0, g1]
  dsimp only
  rw [hE, hN]
  have n1 : t ++ ⟨#[46]⟩ ++ ⟨#[121]⟩ ≠ t ++ ⟨#[46]⟩ ++ D := size_ne (by omega)
  have n2 : t ≠ t ++ ⟨#[46]⟩ ++ D := size_ne (by omega)
  have n3 : t ≠ t ++ ⟨#[46]⟩ ++ ⟨#[121]⟩ := size_ne (by omega)
  generalize t ++ ⟨#[46]⟩ ++ D = A at *
  generalize t ++ ⟨#[46]⟩ ++ ⟨#[121]⟩ = B at *
  congr 1
  by_cases a : m + 33 ≤ 253
  · have b : m + 2 ≤ 253 := by omega
    have x1 : addT [] A = [A] := addT_one (by omega)
    have x2 : addT [A] B = [A, B] := addT_new (by simpa using n1) (by omega)
    have x3 : addT [A, B] t = [A, B, t] := addT_new (by simp [n2, n3]) (by omega)
    rw [if_pos a, if_pos b, x1, x2, x3]; rfl
  · have x1 : addT [] A = [] := addT_big (by omega)
    rw [if_neg a, x1]
    by_cases b : m + 2 ≤ 253
    · have x2 : addT [] B = [B] := addT_one (by omega)
      have x3 : addT [B] t = [B, t] := addT_new (by simpa using n3) (by omega)
      rw [if_pos b, x2, x3]; rfl
    · have x2 : addT [] B = [] := addT_big (by omega)
      have x3 : addT [] t = [t] := addT_one (by omega)
      rw [if_neg b, x2, x3]; rfl
theorem lo_len {m : Nat} (h0 : 180 ≤ m) (h1 : m < 244) : lenT (loL m) = 1 + (if m + 33 ≤ 253 then 1 else 0) + (if m + 2 ≤ 253 then 1 else 0) := by
  unfold lenT loL
  rw [lo_list h0 h1]
  dsimp only
  rw [List.length_append, List.length_append]
  by_cases a : m + 33 ≤ 253
  · rw [if_pos a, if_pos a]
    by_cases b : m + 2 ≤ 253
    · rw [if_pos b, if_pos b]; rfl
    · rw [if_neg b, if_neg b]; rfl
  · rw [if_neg a, if_neg a]
    by_cases b : m + 2 ≤ 253
    · rw [if_pos b, if_pos b]; rfl
    · rw [if_neg b, if_neg b]; rfl
theorem lo_last {m : Nat} (h0 : 180 ≤ m) (h1 : m < 244) : (loL m).getD (lenT (loL m) - 1) ⟨#[]⟩ = loT m := by
  unfold lenT loL
  rw [lo_list h0 h1]
  dsimp only
  rw [List.length_append, List.getD_eq_getElem?_getD, List.getElem?_append_right (by simp)]
  simp
theorem loP_size (i : Nat) : (loP i).size = 10 * i := by rw [size_data, loP_list, loPL_len]
theorem long_v (n : Int) : longV n := by
  have hm := and_mk n 63 (by decide) (by decide)
  have hN : 180 ≤ loN n ∧ loN n ≤ 243 := by unfold loN; omega
  obtain ⟨m, hmn⟩ : ∃ m : Nat, loN n = m := ⟨(loN n).toNat, by omega⟩
  unfold longV
  refine ⟨fun h => absurd h (by decide), fun _ => ⟨by unfold in64; omega, ⟨⟨0⟩, (show 10 * ((0 : Nat) : Int) < loN n + 10 by omega), rfl, rfl, rfl, trivial⟩, ?_⟩⟩
  rintro ⟨i⟩ hi
  have hi : 10 * (i : Int) < loN n + 10 := hi
  have hp := loP_size i
  refine ⟨fun h => ?_, fun h => ?_⟩
  · have h : ((loP i).size : Int) < loN n := of_decide_eq_true h
    exact ⟨by dsimp only; omega, ⟨i + 1⟩, (show 10 * ((i + 1 : Nat) : Int) < loN n + 10 by omega), (show (loN n).toNat + 10 - 10 * (i + 1) < (loN n).toNat + 10 - 10 * i by omega), rfl, rfl, rfl, trivial⟩
  have h : ¬ ((loP i).size : Int) < loN n := of_decide_eq_false h
  have hi2 : i = (m + 9) / 10 := by omega
  rw [hmn]
  dsimp only
  rw [Int.toNat_natCast, show ((m : Int) - 1).toNat = m - 1 by omega]
  have es : ((loP i).extract 0 m).size = m := by rw [ByteArray.size_extract]; omega
  have es2 : (((loP i).extract 0 m).extract 0 (m - 1)).size = m - 1 := by rw [ByteArray.size_extract]; omega
  have hT : loT m = if sbyte ((loP i).extract 0 m) ((m : Int) - 1) == 46 then ((loP i).extract 0 m).extract 0 (m - 1) ++ ⟨#[120]⟩ else (loP i).extract 0 m := by rw [hi2]; rfl
  refine ⟨by omega, by omega, by omega, ⟨by unfold in64; omega, by omega, by omega, fun k => ⟨by unfold in64; omega, by omega, by omega, by omega, by omega, ⟨0⟩, trivial, rfl, rfl, ?_, trivial⟩, fun k => ⟨⟨0⟩, trivial, rfl, rfl, ?_, trivial⟩⟩, ?_⟩
  · rw [hT, if_pos k]
  · rw [hT, if_neg (by rw [k]; simp)]
  intro _ _
  have hL := lo_list (m := m) (by omega) (by omega)
  have h2 : ∀ i, i < 2 → (loQ.g i).size ≤ 1000000000000000000 := by decide
  refine ⟨⟨fun _ _ => rfl, rfl, rfl, by decide, h2, ⟨0⟩, trivial, rfl, rfl, rfl, rfl, rfl, ?_, trivial⟩, ?_⟩
  · show (canL loQ 99 (loT m)).2 = 0
    rw [hL]
  intro _ _
  have hl := lo_len (m := m) (by omega) (by omega)
  have hla := lo_last (m := m) (by omega) (by omega)
  refine ⟨fun k => absurd k (by decide), fun _ => ⟨by unfold in64; omega, by unfold in64; omega, fun k => ?_, fun k => ?_⟩⟩
  · have k : (m : Int) + 1 + ((32 : Nat) : Int) ≤ 253 := of_decide_eq_true k
    rw [if_pos (by omega), if_pos (by omega)] at hl
    refine ⟨by unfold in64; omega, by unfold in64; omega, fun k2 => ?_, fun k2 => ?_⟩
    · rw [show ((lenT (loL m) : Int) - 1).toNat = lenT (loL m) - 1 by omega, hla, hl]
      exact ⟨by unfold in64; omega, fun _ => by unfold in64; omega, fun _ => by omega, fun _ => by omega, by simp⟩
    · have k2 : ¬ (m : Int) + 2 ≤ 253 := of_decide_eq_false k2
      omega
  · have k : ¬ (m : Int) + 1 + ((32 : Nat) : Int) ≤ 253 := of_decide_eq_false k
    rw [if_neg (by omega)] at hl
    refine ⟨by unfold in64; omega, fun k2 => ?_, fun k2 => ?_⟩
    · have k2 : (m : Int) + 2 ≤ 253 := of_decide_eq_true k2
      rw [if_pos (by omega)] at hl
      rw [show ((lenT (loL m) : Int) - 1).toNat = lenT (loL m) - 1 by omega, hla, hl]
      exact ⟨by unfold in64; omega, fun _ => by unfold in64; omega, fun _ => by omega, fun _ => by omega, by simp⟩
    · have k2 : ¬ (m : Int) + 2 ≤ 253 := of_decide_eq_false k2
      rw [if_neg (by omega)] at hl
      rw [show ((lenT (loL m) : Int) - 1).toNat = lenT (loL m) - 1 by omega, hla, hl]
      exact ⟨fun _ => by unfold in64; omega, fun _ => by omega, fun _ => by omega, by simp⟩
end Go.Proofs.YthomfpdigmeheaaDoorAv
set_option linter.unusedVariables false
set_option linter.unusedSimpArgs false
set_option maxRecDepth 100000
namespace Go.Proofs.YthomfpdigmeheaaDoorAv
open Go Go.RowKit
/-- "a", and ".a" i times. -/
def doP : Nat → ByteArray
  | 0 => ⟨#[97]⟩
  | i + 1 => doP i ++ ⟨#[46, 97]⟩
def doN (n : Int) : Int := bits .and .i64 n 3
def doQ (c : Int) : Sq ByteArray := ⟨c.toNat, fun j => ⟨#[115]⟩ ++ ⟨#[UInt8.ofNat (48 + j)]⟩⟩
def doL (n d c : Int) : List ByteArray := (canL (doQ c) d (doP n.toNat)).1
/-- The name alone. -/
def doM (n : Nat) : List ByteArray := [doP n]
def doI (n d c : Int) : Inv where
  σ := IL
  S := fun x => ⟨[(0, XI (doN n)), (1, XI (doN d)), (2, XI (doN c)), (7, XT (doP x.i)), (22, XI (doN n)), (23, XI x.i)], [], 0, false, []⟩
  inv := fun x => (x.i : Int) ≤ doN n
  μ := fun x => (doN n).toNat - x.i
def doC (n d c : Int) : Inv where
  σ := IL
  S := fun x => ⟨[(0, XI (doN n)), (1, XI (doN d)), (2, XI (doN c)), (7, XT (doP (doN n).toNat)), (10, .fz (lenT (doL (doN n) (doN d) (doN c))) 1 fun j => [XT ((doL (doN n) (doN d) (doN c)).getD j ⟨#[]⟩)]), (11, XI 0), (12, .fz (lenT (doM (doN n).toNat)) 1 fun j => [XT ((doM (doN n).toNat).getD j ⟨#[]⟩)]), (13, XI 0)], [], 0, false, []⟩
  inv := fun x => True
  μ := fun x => 0
def doE (n d c : Int) : Env := { loops := [(0, doI n d c)], cas := [(10, 2, [0, 1, 2, 3])], rolls := [(2, 4)], frzc := [(15, [(8, 1)])], cuts := [(17, doC n d c)] }
def dotsV (n d c : Int) : Prop :=
  ((!true) = true → false = true) ∧ ((!true) = false → (∃ (x : (doI n d c).σ), (doN n - (↑x.i : Int)).NonNeg ∧ true = true ∧ bits BinOp.and IntKind.i64 n (3 : Int) = doN n ∧ bits BinOp.and IntKind.i64 d (3 : Int) = doN d ∧ bits BinOp.and IntKind.i64 c (3 : Int) = doN c ∧ { data := #[(97 : UInt8)] : ByteArray } = doP x.i ∧ bits BinOp.and IntKind.i64 n (3 : Int) = doN n ∧ (0 : Int) = (↑x.i : Int) ∧ True) ∧ ∀ (x : IL), (doN n - (↑x.i : Int)).NonNeg → (decide ((↑x.i : Int) < doN n) = true → (doP x.i).size + (2 : Nat) ≤ (9223372036854775807 : Nat) ∧ in64 ((↑x.i : Int) + (1 : Int)) ∧ ∃ (x' : (doI n d c).σ), (doN n - (↑x'.i : Int)).NonNeg ∧ (doN n).toNat - x'.i < (doN n).toNat - x.i ∧ true = true ∧ doN n = doN n ∧ doN d = doN d ∧ doN c = doN c ∧ doP x.i ++ { data := #[(46 : UInt8), (97 : UInt8)] : ByteArray } = doP x'.i ∧ doN n = doN n ∧ (↑x.i : Int) + (1 : Int) = (↑x'.i : Int) ∧ True) ∧ (decide ((↑x.i : Int) < doN n) = false → (doN c = (0 : Int) ∨ doN c = (1 : Int) ∨ doN c = (2 : Int) ∨ doN c = (3 : Int) ∨ False) ∧ (doN c = (0 : Int) → (0 : Int) = (0 : Int) ∧ (0 : Int) = (0 : Int) ∧ (0 : Nat) ≤ (900 : Nat) ∧ (∀ (i : Nat), i < (0 : Nat) → { data := #[] : ByteArray }.size ≤ (1000000000000000000 : Nat)) ∧ ((doP x.i).size + (1 : Nat) ≤ (9223372036854775807 : Nat) ∧ (0 : Int) = (0 : Int) ∧ (0 : Int) = (0 : Int) ∧ (0 : Nat) ≤ (900 : Nat) ∧ (∀ (i : Nat), i < (0 : Nat) → { data := #[] : ByteArray }.size ≤ (1000000000000000000 : Nat)) ∧ ∃ (x_1 : (doC n d c).σ), True ∧ true = true ∧ doN n = doN n ∧ doN d = doN d ∧ (0 : Int) = doN c ∧ doP x.i = doP (doN n).toNat ∧ ((XV.fz (lenT (canL { n := (0 : Nat), g := fun (x : Nat) => { data := #[] : ByteArray } : Sq ByteArray } (doN d) (doP x.i)).fst) (1 : Nat) fun (j : Nat) => [XT ((canL { n := (0 : Nat), g := fun (x : Nat) => { data := #[] : ByteArray } : Sq ByteArray } (doN d) (doP x.i)).fst.getD j { data := #[] : ByteArray })]) = XV.fz (lenT (doL (doN n) (doN d) (doN c))) (1 : Nat) fun (j : Nat) => [XT ((doL (doN n) (doN d) (doN c)).getD j { data := #[] : ByteArray })]) ∧ (canL { n := (0 : Nat), g := fun (x : Nat) => { data := #[] : ByteArray } : Sq ByteArray } (doN d) (doP x.i)).snd = (0 : Int) ∧ ((XV.fz (lenT (canL { n := (0 : Nat), g := fun (x : Nat) => { data := #[] : ByteArray } : Sq ByteArray } (doN d) (doP x.i ++ { data := #[(46 : UInt8)] : ByteArray })).fst) (1 : Nat) fun (j : Nat) => [XT ((canL { n := (0 : Nat), g := fun (x : Nat) => { data := #[] : ByteArray } : Sq ByteArray } (doN d) (doP x.i ++ { data := #[(46 : UInt8)] : ByteArray })).fst.getD j { data := #[] : ByteArray })]) = XV.fz (lenT (doM (doN n).toNat)) (1 : Nat) fun (j : Nat) => [XT ((doM (doN n).toNat).getD j { data := #[] : ByteArray })]) ∧ (canL { n := (0 : Nat), g := fun (x : Nat) => { data := #[] : ByteArray } : Sq ByteArray } (doN d) (doP x.i ++ { data := #[(46 : UInt8)] : ByteArray })).snd = (0 : Int) ∧ True) ∧ ∀ (x : IL), True → ((!((0 : Int) != (0 : Int) || (0 : Int) != (0 : Int) || (↑(lenT (doM (doN n).toNat)) : Int) != (1 : Int))) = true → (0 : Int) ≤ (0 : Int)) ∧ ((!((0 : Int) != (0 : Int) || (0 : Int) != (0 : Int) || (↑(lenT (doM (doN n).toNat)) : Int) != (1 : Int))) = true → (0 : Int) < (↑(lenT (doM (doN n).toNat)) : Int)) ∧ ((!((0 : Int) != (0 : Int) || (0 : Int) != (0 : Int) || (↑(lenT (doM (doN n).toNat)) : Int) != (1 : Int) || !decide ((doM (doN n).toNat).getD ((0 : Nat)) { data := #[] : ByteArray } = doP (doN n).toNat))) = true → in64 (doN c + (1 : Int))) ∧ (((0 : Int) != (0 : Int) || (0 : Int) != (0 : Int) || (↑(lenT (doM (doN n).toNat)) : Int) != (1 : Int) || !decide ((doM (doN n).toNat).getD ((0 : Nat)) { data := #[] : ByteArray } = doP (doN n).toNat) || (↑(lenT (doL (doN n) (doN d) (doN c))) : Int) != doN c + (1 : Int)) = true → false = true) ∧ (((0 : Int) != (0 : Int) || (0 : Int) != (0 : Int) || (↑(lenT (doM (doN n).toNat)) : Int) != (1 : Int) || !decide ((doM (doN n).toNat).getD ((0 : Nat)) { data := #[] : ByteArray } = doP (doN n).toNat) || (↑(lenT (doL (doN n) (doN d) (doN c))) : Int) != doN c + (1 : Int)) = false → (decide (doN n ≥ doN d) = true → (0 : Int) ≤ (0 : Int) ∧ (0 : Int) < (↑(lenT (doL (doN n) (doN d) (doN c))) : Int) ∧ ((decide ((doL (doN n) (doN d) (doN c)).getD ((0 : Nat)) { data := #[] : ByteArray } = doP (doN n).toNat) && !doN c == (0 : Int)) = true → (0 : Int) ≤ (1 : Int)) ∧ ((decide ((doL (doN n) (doN d) (doN c)).getD ((0 : Nat)) { data := #[] : ByteArray } = doP (doN n).toNat) && !doN c == (0 : Int)) = true → (1 : Int) < (↑(lenT (doL (doN n) (doN d) (doN c))) : Int)) ∧ ((decide ((doL (doN n) (doN d) (doN c)).getD ((0 : Nat)) { data := #[] : ByteArray } = doP (doN n).toNat) && !doN c == (0 : Int)) = true → (doP (doN n).toNat).size + (3 : Nat) ≤ (9223372036854775807 : Nat)) ∧ (decide ((doL (doN n) (doN d) (doN c)).getD ((0 : Nat)) { data := #[] : ByteArray } = doP (doN n).toNat) && (doN c == (0 : Int) || decide ((doL (doN n) (doN d) (doN c)).getD ((1 : Nat)) { data := #[] : ByteArray } = doP (doN n).toNat ++ { data := #[(46 : UInt8), (115 : UInt8), (48 : UInt8)] : ByteArray }))) = true) ∧ (decide (doN n ≥ doN d) = false → (0 : Int) ≤ doN c ∧ doN c < (↑(lenT (doL (doN n) (doN d) (doN c))) : Int) ∧ ((decide ((doL (doN n) (doN d) (doN c)).getD (doN c).toNat { data := #[] : ByteArray } = doP (doN n).toNat) && !doN c == (0 : Int)) = true → (0 : Int) ≤ (0 : Int)) ∧ ((decide ((doL (doN n) (doN d) (doN c)).getD (doN c).toNat { data := #[] : ByteArray } = doP (doN n).toNat) && !doN c == (0 : Int)) = true → (0 : Int) < (↑(lenT (doL (doN n) (doN d) (doN c))) : Int)) ∧ ((decide ((doL (doN n) (doN d) (doN c)).getD (doN c).toNat { data := #[] : ByteArray } = doP (doN n).toNat) && !doN c == (0 : Int)) = true → (doP (doN n).toNat).size + (3 : Nat) ≤ (9223372036854775807 : Nat)) ∧ (decide ((doL (doN n) (doN d) (doN c)).getD (doN c).toNat { data := #[] : ByteArray } = doP (doN n).toNat) && (doN c == (0 : Int) || decide ((doL (doN n) (doN d) (doN c)).getD ((0 : Nat)) { data := #[] : ByteArray } = doP (doN n).toNat ++ { data := #[(46 : UInt8), (115 : UInt8), (48 : UInt8)] : ByteArray }))) = true))) ∧ (doN c = (1 : Int) → in64 ((48 : Int) + (0 : Int)) ∧ (∀ (j : Nat), j < (1 : Nat) → [X8 (IntKind.u8.wrap ((48 : Int) + (0 : Int)))] = [X8 (↑{ toBitVec := BitVec.ofNat (8 : Nat) ((48 : Nat)) : UInt8 }.toNat : Int)]) ∧ (1 : Nat) + (txtOf (1 : Nat) fun (j : Nat) => { toBitVec := BitVec.ofNat (8 : Nat) ((48 : Nat)) : UInt8 }).size ≤ (9223372036854775807 : Nat) ∧ (16 : Nat) ≤ (140737488355328 : Nat) ∧ (1 : Nat) ≤ (140737488355328 : Nat) ∧ in64 ((0 : Int) + (1 : Int)) ∧ (1 : Nat) = (1 : Nat) ∧ (∀ (i : Nat), i < (1 : Nat) → [XT ({ data := #[(115 : UInt8)] : ByteArray } ++ txtOf (1 : Nat) fun (j : Nat) => { toBitVec := BitVec.ofNat (8 : Nat) ((48 : Nat)) : UInt8 })] = [XT ({ data := #[(115 : UInt8)] : ByteArray } ++ txtOf (1 : Nat) fun (j : Nat) => { toBitVec := BitVec.ofNat (8 : Nat) ((48 : Nat)) : UInt8 })]) ∧ (0 : Int) = (0 : Int) ∧ (0 : Int) = (0 : Int) ∧ (1 : Nat) ≤ (900 : Nat) ∧ (∀ (i : Nat), i < (1 : Nat) → ({ data := #[(115 : UInt8)] : ByteArray } ++ txtOf (1 : Nat) fun (j : Nat) => { toBitVec := BitVec.ofNat (8 : Nat) ((48 : Nat)) : UInt8 }).size ≤ (1000000000000000000 : Nat)) ∧ ((doP x.i).size + (1 : Nat) ≤ (9223372036854775807 : Nat) ∧ (∀ (i : Nat), i < (1 : Nat) → [XT ({ data := #[(115 : UInt8)] : ByteArray } ++ txtOf (1 : Nat) fun (j : Nat) => { toBitVec := BitVec.ofNat (8 : Nat) ((48 : Nat)) : UInt8 })] = [XT ({ data := #[(115 : UInt8)] : ByteArray } ++ txtOf (1 : Nat) fun (j : Nat) => { toBitVec := BitVec.ofNat (8 : Nat) ((48 : Nat)) : UInt8 })]) ∧ (0 : Int) = (0 : Int) ∧ (0 : Int) = (0 : Int) ∧ (1 : Nat) ≤ (900 : Nat) ∧ (∀ (i : Nat), i < (1 : Nat) → ({ data := #[(115 : UInt8)] : ByteArray } ++ txtOf (1 : Nat) fun (j : Nat) => { toBitVec := BitVec.ofNat (8 : Nat) ((48 : Nat)) : UInt8 }).size ≤ (1000000000000000000 : Nat)) ∧ ∃ (x_1 : (doC n d c).σ), True ∧ true = true ∧ doN n = doN n ∧ doN d = doN d ∧ (1 : Int) = doN c ∧ doP x.i = doP (doN n).toNat ∧ ((XV.fz (lenT (canL { n := (1 : Nat), g := fun (i : Nat) => { data := #[(115 : UInt8)] : ByteArray } ++ txtOf (1 : Nat) fun (j : Nat) => { toBitVec := BitVec.ofNat (8 : Nat) ((48 : Nat)) : UInt8 } : Sq ByteArray } (doN d) (doP x.i)).fst) (1 : Nat) fun (j : Nat) => [XT ((canL { n := (1 : Nat), g := fun (i : Nat) => { data := #[(115 : UInt8)] : ByteArray } ++ txtOf (1 : Nat) fun (j : Nat) => { toBitVec := BitVec.ofNat (8 : Nat) ((48 : Nat)) : UInt8 } : Sq ByteArray } (doN d) (doP x.i)).fst.getD j { data := #[] : ByteArray })]) = XV.fz (lenT (doL (doN n) (doN d) (doN c))) (1 : Nat) fun (j : Nat) => [XT ((doL (doN n) (doN d) (doN c)).getD j { data := #[] : ByteArray })]) ∧ (canL { n := (1 : Nat), g := fun (i : Nat) => { data := #[(115 : UInt8)] : ByteArray } ++ txtOf (1 : Nat) fun (j : Nat) => { toBitVec := BitVec.ofNat (8 : Nat) ((48 : Nat)) : UInt8 } : Sq ByteArray } (doN d) (doP x.i)).snd = (0 : Int) ∧ ((XV.fz (lenT (canL { n := (1 : Nat), g := fun (i : Nat) => { data := #[(115 : UInt8)] : ByteArray } ++ txtOf (1 : Nat) fun (j : Nat) => { toBitVec := BitVec.ofNat (8 : Nat) ((48 : Nat)) : UInt8 } : Sq ByteArray } (doN d) (doP x.i ++ { data := #[(46 : UInt8)] : ByteArray })).fst) (1 : Nat) fun (j : Nat) => [XT ((canL { n := (1 : Nat), g := fun (i : Nat) => { data := #[(115 : UInt8)] : ByteArray } ++ txtOf (1 : Nat) fun (j : Nat) => { toBitVec := BitVec.ofNat (8 : Nat) ((48 : Nat)) : UInt8 } : Sq ByteArray } (doN d) (doP x.i ++ { data := #[(46 : UInt8)] : ByteArray })).fst.getD j { data := #[] : ByteArray })]) = XV.fz (lenT (doM (doN n).toNat)) (1 : Nat) fun (j : Nat) => [XT ((doM (doN n).toNat).getD j { data := #[] : ByteArray })]) ∧ (canL { n := (1 : Nat), g := fun (i : Nat) => { data := #[(115 : UInt8)] : ByteArray } ++ txtOf (1 : Nat) fun (j : Nat) => { toBitVec := BitVec.ofNat (8 : Nat) ((48 : Nat)) : UInt8 } : Sq ByteArray } (doN d) (doP x.i ++ { data := #[(46 : UInt8)] : ByteArray })).snd = (0 : Int) ∧ True) ∧ ∀ (x : IL), True → ((!((0 : Int) != (0 : Int) || (0 : Int) != (0 : Int) || (↑(lenT (doM (doN n).toNat)) : Int) != (1 : Int))) = true → (0 : Int) ≤ (0 : Int)) ∧ ((!((0 : Int) != (0 : Int) || (0 : Int) != (0 : Int) || (↑(lenT (doM (doN n).toNat)) : Int) != (1 : Int))) = true → (0 : Int) < (↑(lenT (doM (doN n).toNat)) : Int)) ∧ ((!((0 : Int) != (0 : Int) || (0 : Int) != (0 : Int) || (↑(lenT (doM (doN n).toNat)) : Int) != (1 : Int) || !decide ((doM (doN n).toNat).getD ((0 : Nat)) { data := #[] : ByteArray } = doP (doN n).toNat))) = true → in64 (doN c + (1 : Int))) ∧ (((0 : Int) != (0 : Int) || (0 : Int) != (0 : Int) || (↑(lenT (doM (doN n).toNat)) : Int) != (1 : Int) || !decide ((doM (doN n).toNat).getD ((0 : Nat)) { data := #[] : ByteArray } = doP (doN n).toNat) || (↑(lenT (doL (doN n) (doN d) (doN c))) : Int) != doN c + (1 : Int)) = true → false = true) ∧ (((0 : Int) != (0 : Int) || (0 : Int) != (0 : Int) || (↑(lenT (doM (doN n).toNat)) : Int) != (1 : Int) || !decide ((doM (doN n).toNat).getD ((0 : Nat)) { data := #[] : ByteArray } = doP (doN n).toNat) || (↑(lenT (doL (doN n) (doN d) (doN c))) : Int) != doN c + (1 : Int)) = false → (decide (doN n ≥ doN d) = true → (0 : Int) ≤ (0 : Int) ∧ (0 : Int) < (↑(lenT (doL (doN n) (doN d) (doN c))) : Int) ∧ ((decide ((doL (doN n) (doN d) (doN c)).getD ((0 : Nat)) { data := #[] : ByteArray } = doP (doN n).toNat) && !doN c == (0 : Int)) = true → (0 : Int) ≤ (1 : Int)) ∧ ((decide ((doL (doN n) (doN d) (doN c)).getD ((0 : Nat)) { data := #[] : ByteArray } = doP (doN n).toNat) && !doN c == (0 : Int)) = true → (1 : Int) < (↑(lenT (doL (doN n) (doN d) (doN c))) : Int)) ∧ ((decide ((doL (doN n) (doN d) (doN c)).getD ((0 : Nat)) { data := #[] : ByteArray } = doP (doN n).toNat) && !doN c == (0 : Int)) = true → (doP (doN n).toNat).size + (3 : Nat) ≤ (9223372036854775807 : Nat)) ∧ (decide ((doL (doN n) (doN d) (doN c)).getD ((0 : Nat)) { data := #[] : ByteArray } = doP (doN n).toNat) && (doN c == (0 : Int) || decide ((doL (doN n) (doN d) (doN c)).getD ((1 : Nat)) { data := #[] : ByteArray } = doP (doN n).toNat ++ { data := #[(46 : UInt8), (115 : UInt8), (48 : UInt8)] : ByteArray }))) = true) ∧ (decide (doN n ≥ doN d) = false → (0 : Int) ≤ doN c ∧ doN c < (↑(lenT (doL (doN n) (doN d) (doN c))) : Int) ∧ ((decide ((doL (doN n) (doN d) (doN c)).getD (doN c).toNat { data := #[] : ByteArray } = doP (doN n).toNat) && !doN c == (0 : Int)) = true → (0 : Int) ≤ (0 : Int)) ∧ ((decide ((doL (doN n) (doN d) (doN c)).getD (doN c).toNat { data := #[] : ByteArray } = doP (doN n).toNat) && !doN c == (0 : Int)) = true → (0 : Int) < (↑(lenT (doL (doN n) (doN d) (doN c))) : Int)) ∧ ((decide ((doL (doN n) (doN d) (doN c)).getD (doN c).toNat { data := #[] : ByteArray } = doP (doN n).toNat) && !doN c == (0 : Int)) = true → (doP (doN n).toNat).size + (3 : Nat) ≤ (9223372036854775807 : Nat)) ∧ (decide ((doL (doN n) (doN d) (doN c)).getD (doN c).toNat { data := #[] : ByteArray } = doP (doN n).toNat) && (doN c == (0 : Int) || decide ((doL (doN n) (doN d) (doN c)).getD ((0 : Nat)) { data := #[] : ByteArray } = doP (doN n).toNat ++ { data := #[(46 : UInt8), (115 : UInt8), (48 : UInt8)] : ByteArray }))) = true))) ∧ (doN c = (2 : Int) → in64 ((48 : Int) + (0 : Int)) ∧ (∀ (j : Nat), j < (1 : Nat) → [X8 (IntKind.u8.wrap ((48 : Int) + (0 : Int)))] = [X8 (↑{ toBitVec := BitVec.ofNat (8 : Nat) ((48 : Nat)) : UInt8 }.toNat : Int)]) ∧ (1 : Nat) + (txtOf (1 : Nat) fun (j : Nat) => { toBitVec := BitVec.ofNat (8 : Nat) ((48 : Nat)) : UInt8 }).size ≤ (9223372036854775807 : Nat) ∧ (16 : Nat) ≤ (140737488355328 : Nat) ∧ (1 : Nat) ≤ (140737488355328 : Nat) ∧ in64 ((0 : Int) + (1 : Int)) ∧ in64 ((48 : Int) + ((0 : Int) + (1 : Int))) ∧ (∀ (j : Nat), j < (1 : Nat) → [X8 (IntKind.u8.wrap ((48 : Int) + ((0 : Int) + (1 : Int))))] = [X8 (↑{ toBitVec := BitVec.ofNat (8 : Nat) ((49 : Nat)) : UInt8 }.toNat : Int)]) ∧ (1 : Nat) + (txtOf (1 : Nat) fun (j : Nat) => { toBitVec := BitVec.ofNat (8 : Nat) ((49 : Nat)) : UInt8 }).size ≤ (9223372036854775807 : Nat) ∧ (1 : Nat) = (1 : Nat) ∧ (32 : Nat) ≤ (140737488355328 : Nat) ∧ (2 : Nat) ≤ (140737488355328 : Nat) ∧ in64 ((0 : Int) + (1 : Int) + (1 : Int)) ∧ (2 : Nat) = (2 : Nat) ∧ (∀ (i : Nat), i < (2 : Nat) → [XT (bif i.blt (1 : Nat) then { data := #[(115 : UInt8)] : ByteArray } ++ txtOf (1 : Nat) fun (j : Nat) => { toBitVec := BitVec.ofNat (8 : Nat) ((48 : Nat)) : UInt8 } else { data := #[(115 : UInt8)] : ByteArray } ++ txtOf (1 : Nat) fun (j : Nat) => { toBitVec := BitVec.ofNat (8 : Nat) ((49 : Nat)) : UInt8 })] = [XT (bif i.blt (1 : Nat) then { data := #[(115 : UInt8)] : ByteArray } ++ txtOf (1 : Nat) fun (j : Nat) => { toBitVec := BitVec.ofNat (8 : Nat) ((48 : Nat)) : UInt8 } else { data := #[(115 : UInt8)] : ByteArray } ++ txtOf (1 : Nat) fun (j : Nat) => { toBitVec := BitVec.ofNat (8 : Nat) ((49 : Nat)) : UInt8 })]) ∧ (0 : Int) = (0 : Int) ∧ (0 : Int) = (0 : Int) ∧ (2 : Nat) ≤ (900 : Nat) ∧ (∀ (i : Nat), i < (2 : Nat) → (bif i.blt (1 : Nat) then { data := #[(115 : UInt8)] : ByteArray } ++ txtOf (1 : Nat) fun (j : Nat) => { toBitVec := BitVec.ofNat (8 : Nat) ((48 : Nat)) : UInt8 } else { data := #[(115 : UInt8)] : ByteArray } ++ txtOf (1 : Nat) fun (j : Nat) => { toBitVec := BitVec.ofNat (8 : Nat) ((49 : Nat)) : UInt8 }).size ≤ (1000000000000000000 : Nat)) ∧ ((doP x.i).size + (1 : Nat) ≤ (9223372036854775807 : Nat) ∧ (∀ (i : Nat), i < (2 : Nat) → [XT (bif i.blt (1 : Nat) then { data := #[(115 : UInt8)] : ByteArray } ++ txtOf (1 : Nat) fun (j : Nat) => { toBitVec := BitVec.ofNat (8 : Nat) ((48 : Nat)) : UInt8 } else { data := #[(115 : UInt8)] : ByteArray } ++ txtOf (1 : Nat) fun (j : Nat) => { toBitVec := BitVec.ofNat (8 : Nat) ((49 : Nat)) : UInt8 })] = [XT (bif i.blt (1 : Nat) then { data := #[(115 : UInt8)] : ByteArray } ++ txtOf (1 : Nat) fun (j : Nat) => { toBitVec := BitVec.ofNat (8 : Nat) ((48 : Nat)) : UInt8 } else { data := #[(115 : UInt8)] : ByteArray } ++ txtOf (1 : Nat) fun (j : Nat) => { toBitVec := BitVec.ofNat (8 : Nat) ((49 : Nat)) : UInt8 })]) ∧ (0 : Int) = (0 : Int) ∧ (0 : Int) = (0 : Int) ∧ (2 : Nat) ≤ (900 : Nat) ∧ (∀ (i : Nat), i < (2 : Nat) → (bif i.blt (1 : Nat) then { data := #[(115 : UInt8)] : ByteArray } ++ txtOf (1 : Nat) fun (j : Nat) => { toBitVec := BitVec.ofNat (8 : Nat) ((48 : Nat)) : UInt8 } else { data := #[(115 : UInt8)] : ByteArray } ++ txtOf (1 : Nat) fun (j : Nat) => { toBitVec := BitVec.ofNat (8 : Nat) ((49 : Nat)) : UInt8 }).size ≤ (1000000000000000000 : Nat)) ∧ ∃ (x_1 : (doC n d c).σ), True ∧ true = true ∧ doN n = doN n ∧ doN d = doN d ∧ (2 : Int) = doN c ∧ doP x.i = doP (doN n).toNat ∧ ((XV.fz (lenT (canL { n := (2 : Nat), g := fun (i : Nat) => bif i.blt (1 : Nat) then { data := #[(115 : UInt8)] : ByteArray } ++ txtOf (1 : Nat) fun (j : Nat) => { toBitVec := BitVec.ofNat (8 : Nat) ((48 : Nat)) : UInt8 } else { data := #[(115 : UInt8)] : ByteArray } ++ txtOf (1 : Nat) fun (j : Nat) => { toBitVec := BitVec.ofNat (8 : Nat) ((49 : Nat)) : UInt8 } : Sq ByteArray } (doN d) (doP x.i)).fst) (1 : Nat) fun (j : Nat) => [XT ((canL { n := (2 : Nat), g := fun (i : Nat) => bif i.blt (1 : Nat) then { data := #[(115 : UInt8)] : ByteArray } ++ txtOf (1 : Nat) fun (j : Nat) => { toBitVec := BitVec.ofNat (8 : Nat) ((48 : Nat)) : UInt8 } else { data := #[(115 : UInt8)] : ByteArray } ++ txtOf (1 : Nat) fun (j : Nat) => { toBitVec := BitVec.ofNat (8 : Nat) ((49 : Nat)) : UInt8 } : Sq ByteArray } (doN d) (doP x.i)).fst.getD j { data := #[] : ByteArray })]) = XV.fz (lenT (doL (doN n) (doN d) (doN c))) (1 : Nat) fun (j : Nat) => [XT ((doL (doN n) (doN d) (doN c)).getD j { data := #[] : ByteArray })]) ∧ (canL { n := (2 : Nat), g := fun (i : Nat) => bif i.blt (1 : Nat) then { data := #[(115 : UInt8)] : ByteArray } ++ txtOf (1 : Nat) fun (j : Nat) => { toBitVec := BitVec.ofNat (8 : Nat) ((48 : Nat)) : UInt8 } else { data := #[(115 : UInt8)] : ByteArray } ++ txtOf (1 : Nat) fun (j : Nat) => { toBitVec := BitVec.ofNat (8 : Nat) ((49 : Nat)) : UInt8 } : Sq ByteArray } (doN d) (doP x.i)).snd = (0 : Int) ∧ ((XV.fz (lenT (canL { n := (2 : Nat), g := fun (i : Nat) => bif i.blt (1 : Nat) then { data := #[(115 : UInt8)] : ByteArray } ++ txtOf (1 : Nat) fun (j : Nat) => { toBitVec := BitVec.ofNat (8 : Nat) ((48 : Nat)) : UInt8 } else { data := #[(115 : UInt8)] : ByteArray } ++ txtOf (1 : Nat) fun (j : Nat) => { toBitVec := BitVec.ofNat (8 : Nat) ((49 : Nat)) : UInt8 } : Sq ByteArray } (doN d) (doP x.i ++ { data := #[(46 : UInt8)] : ByteArray })).fst) (1 : Nat) fun (j : Nat) => [XT ((canL { n := (2 : Nat), g := fun (i : Nat) => bif i.blt (1 : Nat) then { data := #[(115 : UInt8)] : ByteArray } ++ txtOf (1 : Nat) fun (j : Nat) => { toBitVec := BitVec.ofNat (8 : Nat) ((48 : Nat)) : UInt8 } else { data := #[(115 : UInt8)] : ByteArray } ++ txtOf (1 : Nat) fun (j : Nat) => { toBitVec := BitVec.ofNat (8 : Nat) ((49 : Nat)) : UInt8 } : Sq ByteArray } (doN d) (doP x.i ++ { data := #[(46 : UInt8)] : ByteArray })).fst.getD j { data := #[] : ByteArray })]) = XV.fz (lenT (doM (doN n).toNat)) (1 : Nat) fun (j : Nat) => [XT ((doM (doN n).toNat).getD j { data := #[] : ByteArray })]) ∧ (canL { n := (2 : Nat), g := fun (i : Nat) => bif i.blt (1 : Nat) then { data := #[(115 : UInt8)] : ByteArray } ++ txtOf (1 : Nat) fun (j : Nat) => { toBitVec := BitVec.ofNat (8 : Nat) ((48 : Nat)) : UInt8 } else { data := #[(115 : UInt8)] : ByteArray } ++ txtOf (1 : Nat) fun (j : Nat) => { toBitVec := BitVec.ofNat (8 : Nat) ((49 : Nat)) : UInt8 } : Sq ByteArray } (doN d) (doP x.i ++ { data := #[(46 : UInt8)] : ByteArray })).snd = (0 : Int) ∧ True) ∧ ∀ (x : IL), True → ((!((0 : Int) != (0 : Int) || (0 : Int) != (0 : Int) || (↑(lenT (doM (doN n).toNat)) : Int) != (1 : Int))) = true → (0 : Int) ≤ (0 : Int)) ∧ ((!((0 : Int) != (0 : Int) || (0 : Int) != (0 : Int) || (↑(lenT (doM (doN n).toNat)) : Int) != (1 : Int))) = true → (0 : Int) < (↑(lenT (doM (doN n).toNat)) : Int)) ∧ ((!((0 : Int) != (0 : Int) || (0 : Int) != (0 : Int) || (↑(lenT (doM (doN n).toNat)) : Int) != (1 : Int) || !decide ((doM (doN n).toNat).getD ((0 : Nat)) { data := #[] : ByteArray } = doP (doN n).toNat))) = true → in64 (doN c + (1 : Int))) ∧ (((0 : Int) != (0 : Int) || (0 : Int) != (0 : Int) || (↑(lenT (doM (doN n).toNat)) : Int) != (1 : Int) || !decide ((doM (doN n).toNat).getD ((0 : Nat)) { data := #[] : ByteArray } = doP (doN n).toNat) || (↑(lenT (doL (doN n) (doN d) (doN c))) : Int) != doN c + (1 : Int)) = true → false = true) ∧ (((0 : Int) != (0 : Int) || (0 : Int) != (0 : Int) || (↑(lenT (doM (doN n).toNat)) : Int) != (1 : Int) || !decide ((doM (doN n).toNat).getD ((0 : Nat)) { data := #[] : ByteArray } = doP (doN n).toNat) || (↑(lenT (doL (doN n) (doN d) (doN c))) : Int) != doN c + (1 : Int)) = false → (decide (doN n ≥ doN d) = true → (0 : Int) ≤ (0 : Int) ∧ (0 : Int) < (↑(lenT (doL (doN n) (doN d) (doN c))) : Int) ∧ ((decide ((doL (doN n) (doN d) (doN c)).getD ((0 : Nat)) { data := #[] : ByteArray } = doP (doN n).toNat) && !doN c == (0 : Int)) = true → (0 : Int) ≤ (1 : Int)) ∧ ((decide ((doL (doN n) (doN d) (doN c)).getD ((0 : Nat)) { data := #[] : ByteArray } = doP (doN n).toNat) && !doN c == (0 : Int)) = true → (1 : Int) < (↑(lenT (doL (doN n) (doN d) (doN c))) : Int)) ∧ ((decide ((doL (doN n) (doN d) (doN c)).getD ((0 : Nat)) { data := #[] : ByteArray } = doP (doN n).toNat) && !doN c == (0 : Int)) = true → (doP (doN n).toNat).size + (3 : Nat) ≤ (9223372036854775807 : Nat)) ∧ (decide ((doL (doN n) (doN d) (doN c)).getD ((0 : Nat)) { data := #[] : ByteArray } = doP (doN n).toNat) && (doN c == (0 : Int) || decide ((doL (doN n) (doN d) (doN c)).getD ((1 : Nat)) { data := #[] : ByteArray } = doP (doN n).toNat ++ { data := #[(46 : UInt8), (115 : UInt8), (48 : UInt8)] : ByteArray }))) = true) ∧ (decide (doN n ≥ doN d) = false → (0 : Int) ≤ doN c ∧ doN c < (↑(lenT (doL (doN n) (doN d) (doN c))) : Int) ∧ ((decide ((doL (doN n) (doN d) (doN c)).getD (doN c).toNat { data := #[] : ByteArray } = doP (doN n).toNat) && !doN c == (0 : Int)) = true → (0 : Int) ≤ (0 : Int)) ∧ ((decide ((doL (doN n) (doN d) (doN c)).getD (doN c).toNat { data := #[] : ByteArray } = doP (doN n).toNat) && !doN c == (0 : Int)) = true → (0 : Int) < (↑(lenT (doL (doN n) (doN d) (doN c))) : Int)) ∧ ((decide ((doL (doN n) (doN d) (doN c)).getD (doN c).toNat { data := #[] : ByteArray } = doP (doN n).toNat) && !doN c == (0 : Int)) = true → (doP (doN n).toNat).size + (3 : Nat) ≤ (9223372036854775807 : Nat)) ∧ (decide ((doL (doN n) (doN d) (doN c)).getD (doN c).toNat { data := #[] : ByteArray } = doP (doN n).toNat) && (doN c == (0 : Int) || decide ((doL (doN n) (doN d) (doN c)).getD ((0 : Nat)) { data := #[] : ByteArray } = doP (doN n).toNat ++ { data := #[(46 : UInt8), (115 : UInt8), (48 : UInt8)] : ByteArray }))) = true))) ∧ (doN c = (3 : Int) → in64 ((48 : Int) + (0 : Int)) ∧ (∀ (j : Nat), j < (1 : Nat) → [X8 (IntKind.u8.wrap ((48 : Int) + (0 : Int)))] = [X8 (↑{ toBitVec := BitVec.ofNat (8 : Nat) ((48 : Nat)) : UInt8 }.toNat : Int)]) ∧ (1 : Nat) + (txtOf (1 : Nat) fun (j : Nat) => { toBitVec := BitVec.ofNat (8 : Nat) ((48 : Nat)) : UInt8 }).size ≤ (9223372036854775807 : Nat) ∧ (16 : Nat) ≤ (140737488355328 : Nat) ∧ (1 : Nat) ≤ (140737488355328 : Nat) ∧ in64 ((0 : Int) + (1 : Int)) ∧ in64 ((48 : Int) + ((0 : Int) + (1 : Int))) ∧ (∀ (j : Nat), j < (1 : Nat) → [X8 (IntKind.u8.wrap ((48 : Int) + ((0 : Int) + (1 : Int))))] = [X8 (↑{ toBitVec := BitVec.ofNat (8 : Nat) ((49 : Nat)) : UInt8 }.toNat : Int)]) ∧ (1 : Nat) + (txtOf (1 : Nat) fun (j : Nat) => { toBitVec := BitVec.ofNat (8 : Nat) ((49 : Nat)) : UInt8 }).size ≤ (9223372036854775807 : Nat) ∧ (1 : Nat) = (1 : Nat) ∧ (32 : Nat) ≤ (140737488355328 : Nat) ∧ (2 : Nat) ≤ (140737488355328 : Nat) ∧ in64 ((0 : Int) + (1 : Int) + (1 : Int)) ∧ in64 ((48 : Int) + ((0 : Int) + (1 : Int) + (1 : Int))) ∧ (∀ (j : Nat), j < (1 : Nat) → [X8 (IntKind.u8.wrap ((48 : Int) + ((0 : Int) + (1 : Int) + (1 : Int))))] = [X8 (↑{ toBitVec := BitVec.ofNat (8 : Nat) ((50 : Nat)) : UInt8 }.toNat : Int)]) ∧ (1 : Nat) + (txtOf (1 : Nat) fun (j : Nat) => { toBitVec := BitVec.ofNat (8 : Nat) ((50 : Nat)) : UInt8 }).size ≤ (9223372036854775807 : Nat) ∧ (2 : Nat) = (2 : Nat) ∧ (48 : Nat) ≤ (140737488355328 : Nat) ∧ (3 : Nat) ≤ (140737488355328 : Nat) ∧ in64 ((0 : Int) + (1 : Int) + (1 : Int) + (1 : Int)) ∧ (3 : Nat) = (3 : Nat) ∧ (∀ (i : Nat), i < (3 : Nat) → [XT (bif i.blt ((2 : Nat)) then bif i.blt (1 : Nat) then { data := #[(115 : UInt8)] : ByteArray } ++ txtOf (1 : Nat) fun (j : Nat) => { toBitVec := BitVec.ofNat (8 : Nat) ((48 : Nat)) : UInt8 } else { data := #[(115 : UInt8)] : ByteArray } ++ txtOf (1 : Nat) fun (j : Nat) => { toBitVec := BitVec.ofNat (8 : Nat) ((49 : Nat)) : UInt8 } else { data := #[(115 : UInt8)] : ByteArray } ++ txtOf (1 : Nat) fun (j : Nat) => { toBitVec := BitVec.ofNat (8 : Nat) ((50 : Nat)) : UInt8 })] = [XT (bif i.blt ((2 : Nat)) then bif i.blt (1 : Nat) then { data := #[(115 : UInt8)] : ByteArray } ++ txtOf (1 : Nat) fun (j : Nat) => { toBitVec := BitVec.ofNat (8 : Nat) ((48 : Nat)) : UInt8 } else { data := #[(115 : UInt8)] : ByteArray } ++ txtOf (1 : Nat) fun (j : Nat) => { toBitVec := BitVec.ofNat (8 : Nat) ((49 : Nat)) : UInt8 } else { data := #[(115 : UInt8)] : ByteArray } ++ txtOf (1 : Nat) fun (j : Nat) => { toBitVec := BitVec.ofNat (8 : Nat) ((50 : Nat)) : UInt8 })]) ∧ (0 : Int) = (0 : Int) ∧ (0 : Int) = (0 : Int) ∧ (3 : Nat) ≤ (900 : Nat) ∧ (∀ (i : Nat), i < (3 : Nat) → (bif i.blt ((2 : Nat)) then bif i.blt (1 : Nat) then { data := #[(115 : UInt8)] : ByteArray } ++ txtOf (1 : Nat) fun (j : Nat) => { toBitVec := BitVec.ofNat (8 : Nat) ((48 : Nat)) : UInt8 } else { data := #[(115 : UInt8)] : ByteArray } ++ txtOf (1 : Nat) fun (j : Nat) => { toBitVec := BitVec.ofNat (8 : Nat) ((49 : Nat)) : UInt8 } else { data := #[(115 : UInt8)] : ByteArray } ++ txtOf (1 : Nat) fun (j : Nat) => { toBitVec := BitVec.ofNat (8 : Nat) ((50 : Nat)) : UInt8 }).size ≤ (1000000000000000000 : Nat)) ∧ ((doP x.i).size + (1 : Nat) ≤ (9223372036854775807 : Nat) ∧ (∀ (i : Nat), i < (3 : Nat) → [XT (bif i.blt ((2 : Nat)) then bif i.blt (1 : Nat) then { data := #[(115 : UInt8)] : ByteArray } ++ txtOf (1 : Nat) fun (j : Nat) => { toBitVec := BitVec.ofNat (8 : Nat) ((48 : Nat)) : UInt8 } else { data := #[(115 : UInt8)] : ByteArray } ++ txtOf (1 : Nat) fun (j : Nat) => { toBitVec := BitVec.ofNat (8 : Nat) ((49 : Nat)) : UInt8 } else { data := #[(115 : UInt8)] : ByteArray } ++ txtOf (1 : Nat) fun (j : Nat) => { toBitVec := BitVec.ofNat (8 : Nat) ((50 : Nat)) : UInt8 })] = [XT (bif i.blt ((2 : Nat)) then bif i.blt (1 : Nat) then { data := #[(115 : UInt8)] : ByteArray } ++ txtOf (1 : Nat) fun (j : Nat) => { toBitVec := BitVec.ofNat (8 : Nat) ((48 : Nat)) : UInt8 } else { data := #[(115 : UInt8)] : ByteArray } ++ txtOf (1 : Nat) fun (j : Nat) => { toBitVec := BitVec.ofNat (8 : Nat) ((49 : Nat)) : UInt8 } else { data := #[(115 : UInt8)] : ByteArray } ++ txtOf (1 : Nat) fun (j : Nat) => { toBitVec := BitVec.ofNat (8 : Nat) ((50 : Nat)) : UInt8 })]) ∧ (0 : Int) = (0 : Int) ∧ (0 : Int) = (0 : Int) ∧ (3 : Nat) ≤ (900 : Nat) ∧ (∀ (i : Nat), i < (3 : Nat) → (bif i.blt ((2 : Nat)) then bif i.blt (1 : Nat) then { data := #[(115 : UInt8)] : ByteArray } ++ txtOf (1 : Nat) fun (j : Nat) => { toBitVec := BitVec.ofNat (8 : Nat) ((48 : Nat)) : UInt8 } else { data := #[(115 : UInt8)] : ByteArray } ++ txtOf (1 : Nat) fun (j : Nat) => { toBitVec := BitVec.ofNat (8 : Nat) ((49 : Nat)) : UInt8 } else { data := #[(115 : UInt8)] : ByteArray } ++ txtOf (1 : Nat) fun (j : Nat) => { toBitVec := BitVec.ofNat (8 : Nat) ((50 : Nat)) : UInt8 }).size ≤ (1000000000000000000 : Nat)) ∧ ∃ (x_1 : (doC n d c).σ), True ∧ true = true ∧ doN n = doN n ∧ doN d = doN d ∧ (3 : Int) = doN c ∧ doP x.i = doP (doN n).toNat ∧ ((XV.fz (lenT (canL { n := (3 : Nat), g := fun (i : Nat) => bif i.blt ((2 : Nat)) then bif i.blt (1 : Nat) then { data := #[(115 : UInt8)] : ByteArray } ++ txtOf (1 : Nat) fun (j : Nat) => { toBitVec := BitVec.ofNat (8 : Nat) ((48 : Nat)) : UInt8 } else { data := #[(115 : UInt8)] : ByteArray } ++ txtOf (1 : Nat) fun (j : Nat) => { toBitVec := BitVec.ofNat (8 : Nat) ((49 : Nat)) : UInt8 } else { data := #[(115 : UInt8)] : ByteArray } ++ txtOf (1 : Nat) fun (j : Nat) => { toBitVec := BitVec.ofNat (8 : Nat) ((50 : Nat)) : UInt8 } : Sq ByteArray } (doN d) (doP x.i)).fst) (1 : Nat) fun (j : Nat) => [XT ((canL { n := (3 : Nat), g := fun (i : Nat) => bif i.blt ((2 : Nat)) then bif i.blt (1 : Nat) then { data := #[(115 : UInt8)] : ByteArray } ++ txtOf (1 : Nat) fun (j : Nat) => { toBitVec := BitVec.ofNat (8 : Nat) ((48 : Nat)) : UInt8 } else { data := #[(115 : UInt8)] : ByteArray } ++ txtOf (1 : Nat) fun (j : Nat) => { toBitVec := BitVec.ofNat (8 : Nat) ((49 : Nat)) : UInt8 } else { data := #[(115 : UInt8)] : ByteArray } ++ txtOf (1 : Nat) fun (j : Nat) => { toBitVec := BitVec.ofNat (8 : Nat) ((50 : Nat)) : UInt8 } : Sq ByteArray } (doN d) (doP x.i)).fst.getD j { data := #[] : ByteArray })]) = XV.fz (lenT (doL (doN n) (doN d) (doN c))) (1 : Nat) fun (j : Nat) => [XT ((doL (doN n) (doN d) (doN c)).getD j { data := #[] : ByteArray })]) ∧ (canL { n := (3 : Nat), g := fun (i : Nat) => bif i.blt ((2 : Nat)) then bif i.blt (1 : Nat) then { data := #[(115 : UInt8)] : ByteArray } ++ txtOf (1 : Nat) fun (j : Nat) => { toBitVec := BitVec.ofNat (8 : Nat) ((48 : Nat)) : UInt8 } else { data := #[(115 : UInt8)] : ByteArray } ++ txtOf (1 : Nat) fun (j : Nat) => { toBitVec := BitVec.ofNat (8 : Nat) ((49 : Nat)) : UInt8 } else { data := #[(115 : UInt8)] : ByteArray } ++ txtOf (1 : Nat) fun (j : Nat) => { toBitVec := BitVec.ofNat (8 : Nat) ((50 : Nat)) : UInt8 } : Sq ByteArray } (doN d) (doP x.i)).snd = (0 : Int) ∧ ((XV.fz (lenT (canL { n := (3 : Nat), g := fun (i : Nat) => bif i.blt ((2 : Nat)) then bif i.blt (1 : Nat) then { data := #[(115 : UInt8)] : ByteArray } ++ txtOf (1 : Nat) fun (j : Nat) => { toBitVec := BitVec.ofNat (8 : Nat) ((48 : Nat)) : UInt8 } else { data := #[(115 : UInt8)] : ByteArray } ++ txtOf (1 : Nat) fun (j : Nat) => { toBitVec := BitVec.ofNat (8 : Nat) ((49 : Nat)) : UInt8 } else { data := #[(115 : UInt8)] : ByteArray } ++ txtOf (1 : Nat) fun (j : Nat) => { toBitVec := BitVec.ofNat (8 : Nat) ((50 : Nat)) : UInt8 } : Sq ByteArray } (doN d) (doP x.i ++ { data := #[(46 : UInt8)] : ByteArray })).fst) (1 : Nat) fun (j : Nat) => [XT ((canL { n := (3 : Nat), g := fun (i : Nat) => bif i.blt ((2 : Nat)) then bif i.blt (1 : Nat) then { data := #[(115 : UInt8)] : ByteArray } ++ txtOf (1 : Nat) fun (j : Nat) => { toBitVec := BitVec.ofNat (8 : Nat) ((48 : Nat)) : UInt8 } else { data := #[(115 : UInt8)] : ByteArray } ++ txtOf (1 : Nat) fun (j : Nat) => { toBitVec := BitVec.ofNat (8 : Nat) ((49 : Nat)) : UInt8 } else { data := #[(115 : UInt8)] : ByteArray } ++ txtOf (1 : Nat) fun (j : Nat) => { toBitVec := BitVec.ofNat (8 : Nat) ((50 : Nat)) : UInt8 } : Sq ByteArray } (doN d) (doP x.i ++ { data := #[(46 : UInt8)] : ByteArray })).fst.getD j { data := #[] : ByteArray })]) = XV.fz (lenT (doM (doN n).toNat)) (1 : Nat) fun (j : Nat) => [XT ((doM (doN n).toNat).getD j { data := #[] : ByteArray })]) ∧ (canL { n := (3 : Nat), g := fun (i : Nat) => bif i.blt ((2 : Nat)) then bif i.blt (1 : Nat) then { data := #[(115 : UInt8)] : ByteArray } ++ txtOf (1 : Nat) fun (j : Nat) => { toBitVec := BitVec.ofNat (8 : Nat) ((48 : Nat)) : UInt8 } else { data := #[(115 : UInt8)] : ByteArray } ++ txtOf (1 : Nat) fun (j : Nat) => { toBitVec := BitVec.ofNat (8 : Nat) ((49 : Nat)) : UInt8 } else { data := #[(115 : UInt8)] : ByteArray } ++ txtOf (1 : Nat) fun (j : Nat) => { toBitVec := BitVec.ofNat (8 : Nat) ((50 : Nat)) : UInt8 } : Sq ByteArray } (doN d) (doP x.i ++ { data := #[(46 : UInt8)] : ByteArray })).snd = (0 : Int) ∧ True) ∧ ∀ (x : IL), True → ((!((0 : Int) != (0 : Int) || (0 : Int) != (0 : Int) || (↑(lenT (doM (doN n).toNat)) : Int) != (1 : Int))) = true → (0 : Int) ≤ (0 : Int)) ∧ ((!((0 : Int) != (0 : Int) || (0 : Int) != (0 : Int) || (↑(lenT (doM (doN n).toNat)) : Int) != (1 : Int))) = true → (0 : Int) < (↑(lenT (doM (doN n).toNat)) : Int)) ∧ ((!((0 : Int) != (0 : Int) || (0 : Int) != (0 : Int) || (↑(lenT (doM (doN n).toNat)) : Int) != (1 : Int) || !decide ((doM (doN n).toNat).getD ((0 : Nat)) { data := #[] : ByteArray } = doP (doN n).toNat))) = true → in64 (doN c + (1 : Int))) ∧ (((0 : Int) != (0 : Int) || (0 : Int) != (0 : Int) || (↑(lenT (doM (doN n).toNat)) : Int) != (1 : Int) || !decide ((doM (doN n).toNat).getD ((0 : Nat)) { data := #[] : ByteArray } = doP (doN n).toNat) || (↑(lenT (doL (doN n) (doN d) (doN c))) : Int) != doN c + (1 : Int)) = true → false = true) ∧ (((0 : Int) != (0 : Int) || (0 : Int) != (0 : Int) || (↑(lenT (doM (doN n).toNat)) : Int) != (1 : Int) || !decide ((doM (doN n).toNat).getD ((0 : Nat)) { data := #[] : ByteArray } = doP (doN n).toNat) || (↑(lenT (doL (doN n) (doN d) (doN c))) : Int) != doN c + (1 : Int)) = false → (decide (doN n ≥ doN d) = true → (0 : Int) ≤ (0 : Int) ∧ (0 : Int) < (↑(lenT (doL (doN n) (doN d) (doN c))) : Int) ∧ ((decide ((doL (doN n) (doN d) (doN c)).getD ((0 : Nat)) { data := #[] : ByteArray } = doP (doN n).toNat) && !doN c == (0 : Int)) = true → (0 : Int) ≤ (1 : Int)) ∧ ((decide ((doL (doN n) (doN d) (doN c)).getD ((0 : Nat)) { data := #[] : ByteArray } = doP (doN n).toNat) && !doN c == (0 : Int)) = true → (1 : Int) < (↑(lenT (doL (doN n) (doN d) (doN c))) : Int)) ∧ ((decide ((doL (doN n) (doN d) (doN c)).getD ((0 : Nat)) { data := #[] : ByteArray } = doP (doN n).toNat) && !doN c == (0 : Int)) = true → (doP (doN n).toNat).size + (3 : Nat) ≤ (9223372036854775807 : Nat)) ∧ (decide ((doL (doN n) (doN d) (doN c)).getD ((0 : Nat)) { data := #[] : ByteArray } = doP (doN n).toNat) && (doN c == (0 : Int) || decide ((doL (doN n) (doN d) (doN c)).getD ((1 : Nat)) { data := #[] : ByteArray } = doP (doN n).toNat ++ { data := #[(46 : UInt8), (115 : UInt8), (48 : UInt8)] : ByteArray }))) = true) ∧ (decide (doN n ≥ doN d) = false → (0 : Int) ≤ doN c ∧ doN c < (↑(lenT (doL (doN n) (doN d) (doN c))) : Int) ∧ ((decide ((doL (doN n) (doN d) (doN c)).getD (doN c).toNat { data := #[] : ByteArray } = doP (doN n).toNat) && !doN c == (0 : Int)) = true → (0 : Int) ≤ (0 : Int)) ∧ ((decide ((doL (doN n) (doN d) (doN c)).getD (doN c).toNat { data := #[] : ByteArray } = doP (doN n).toNat) && !doN c == (0 : Int)) = true → (0 : Int) < (↑(lenT (doL (doN n) (doN d) (doN c))) : Int)) ∧ ((decide ((doL (doN n) (doN d) (doN c)).getD (doN c).toNat { data := #[] : ByteArray } = doP (doN n).toNat) && !doN c == (0 : Int)) = true → (doP (doN n).toNat).size + (3 : Nat) ≤ (9223372036854775807 : Nat)) ∧ (decide ((doL (doN n) (doN d) (doN c)).getD (doN c).toNat { data := #[] : ByteArray } = doP (doN n).toNat) && (doN c == (0 : Int) || decide ((doL (doN n) (doN d) (doN c)).getD ((0 : Nat)) { data := #[] : ByteArray } = doP (doN n).toNat ++ { data := #[(46 : UInt8), (115 : UInt8), (48 : UInt8)] : ByteArray }))) = true))) ∧ True))
theorem dotsV_eq (n d c : Int) : dotsV n d c = (funC cxw Tryd.f5 (mkSc (doE n d c) (bodyOf Tryd.f5)) [XI n, XI d, XI c] (XB true)) := by kernel_rfl
end Go.Proofs.YthomfpdigmeheaaDoorAv
set_option linter.unusedVariables false
set_option linter.unusedSimpArgs false
set_option maxRecDepth 100000
namespace Go.Proofs.YthomfpdigmeheaaDoorAv
open Go Go.RowKit
theorem do_pt : ∀ N : Fin 4, toA (doP N.val) = (doP N.val, 0) ∧ toA (doP N.val ++ ⟨#[46]⟩) = (doP N.val, 0) ∧ hasSufB (doP N.val) ⟨#[46]⟩ = false ∧ hasSufB (doP N.val ++ ⟨#[46]⟩) ⟨#[46]⟩ = true ∧ cntB (doP N.val) ⟨#[46]⟩ = N.val := by decide +kernel
def do1 (N C : Nat) : List ByteArray := addT (lsN (doQ C).g (doP N) (addT [] (doP N)) (doQ C).n) (doP N)
def do0 (N C : Nat) : List ByteArray := addT (lsN (doQ C).g (doP N) [] (doQ C).n) (doP N)
theorem do_one : ∀ N C : Fin 4, (do1 N.val C.val).length = C.val + 1 ∧ (do1 N.val C.val).getD 0 ⟨#[]⟩ = doP N.val ∧ (C.val = 0 ∨ (do1 N.val C.val).getD 1 ⟨#[]⟩ = doP N.val ++ ⟨#[46, 115, 48]⟩) := by decide +kernel
theorem do_none : ∀ N C : Fin 4, (do0 N.val C.val).length = C.val + 1 ∧ (do0 N.val C.val).getD C.val ⟨#[]⟩ = doP N.val ∧ (C.val = 0 ∨ (do0 N.val C.val).getD 0 ⟨#[]⟩ = doP N.val ++ ⟨#[46, 115, 48]⟩) := by decide +kernel
theorem lsN_ext {g g' : Nat → ByteArray} (n : ByteArray) (o : List ByteArray) : ∀ i, (∀ j, j < i → g j = g' j) → lsN g n o i = lsN g' n o i
  | 0, _ => rfl
  | i + 1, h => by rw [lsN, lsN, lsN_ext n o i fun j hj => h j (by omega), h i (by omega)]
theorem canL_ext {m : Nat} {g g' : Nat → ByteArray} (d : Int) (s : ByteArray) (h : ∀ j, j < m → g j = g' j) : canL ⟨m, g⟩ d s = canL ⟨m, g'⟩ d s := by
  rw [canL, canL]
  dsimp only
  rw [lsN_ext (toA s).1 (lsE d (toA s).1) m h]
theorem do_can {N C : Nat} (hN : N < 4) (d : Int) : canL (doQ C) d (doP N) = (if d ≤ N then do1 N C else do0 N C, 0) := by
  obtain ⟨h1, h2, h3, h4, h5⟩ := do_pt ⟨N, hN⟩
  dsimp only at h1 h2 h3 h4 h5
  rw [canL, h1, if_neg (by simp), if_neg (by rw [h3]; simp)]
  dsimp only
  unfold lsE
  rw [h5]
  by_cases k : d ≤ (N : Int)
  · rw [if_pos k, if_pos k]; rfl
  · rw [if_neg k, if_neg k]; rfl
theorem do_can2 {N : Nat} (hN : N < 4) (q : Sq ByteArray) (d : Int) : canL q d (doP N ++ ⟨#[46]⟩) = ([doP N], 0) := by
  obtain ⟨h1, h2, h3, h4, h5⟩ := do_pt ⟨N, hN⟩
  dsimp only at h1 h2 h3 h4 h5
  rw [canL, h2, if_neg (by simp), if_pos h4]
theorem doP_size (i : Nat) : (doP i).size = 2 * i + 1 := by
  induction i with
  | zero => rfl
  | succ i ih => rw [doP, ByteArray.size_append, ih]; show _ + 2 = _; omega
theorem fst_of {l : List ByteArray × Int} {a : List ByteArray} {z : Int} (h : l = (a, z)) : l.1 = a := by rw [h]
theorem snd_of {l : List ByteArray × Int} {a : List ByteArray} {z : Int} (h : l = (a, z)) : l.2 = z := by rw [h]
theorem fz_congr {a b : List ByteArray} (h : a = b) : XV.fz (lenT a) 1 (fun j => [XT (a.getD j ⟨#[]⟩)]) = XV.fz (lenT b) 1 fun j => [XT (b.getD j ⟨#[]⟩)] := by rw [h]
theorem do_L {N C : Nat} (hN : N < 4) (d : Int) : doL N d C = if d ≤ N then do1 N C else do0 N C := by
  unfold doL
  rw [Int.toNat_natCast, do_can hN]
theorem do_A {N C : Nat} (hN : N < 4) (d : Int) : canL (doQ C) d (doP N) = (doL N d C, 0) := by
  rw [do_L hN, do_can hN]
theorem do_s (k : Nat) (f : Nat → UInt8) : ((⟨#[115]⟩ : ByteArray) ++ txtOf k f).size = k + 1 := by
  rw [ByteArray.size_append, txtOf_size]
  show 1 + k = k + 1
  omega
theorem dots_v (n d c : Int) : dotsV n d c := by
  have hn := and_mk n 3 (by decide) (by decide)
  have hc := and_mk c 3 (by decide) (by decide)
  obtain ⟨N, hN⟩ : ∃ N : Nat, doN n = N := ⟨(doN n).toNat, by unfold doN; omega⟩
  obtain ⟨C, hC⟩ : ∃ C : Nat, doN c = C := ⟨(doN c).toNat, by unfold doN; omega⟩
  have hN4 : N < 4 := by unfold doN at hN; omega
  have hC4 : C < 4 := by unfold doN at hC; omega
  unfold dotsV
  refine ⟨fun h => absurd h (by decide), fun _ => ⟨⟨⟨0⟩, (show ((0 : Nat) : Int) ≤ doN n by omega), rfl, rfl, rfl, rfl, rfl, rfl, rfl, trivial⟩, ?_⟩⟩
  rintro ⟨i⟩ hi
  have hi : (i : Int) ≤ doN n := hi
  have hps := doP_size i
  refine ⟨fun h => ?_, fun h => ?_⟩
  · have h : (i : Int) < doN n := of_decide_eq_true h
    exact ⟨by dsimp only; omega, by unfold in64; dsimp only; omega, ⟨i + 1⟩, (show ((i + 1 : Nat) : Int) ≤ doN n by omega), (show (doN n).toNat - (i + 1) < (doN n).toNat - i by omega), rfl, rfl, rfl, rfl, rfl, rfl, rfl, trivial⟩
  have h : ¬ (i : Int) < doN n := of_decide_eq_false h
  obtain rfl : i = N := by omega
  rw [hN, hC]
  dsimp only
  rw [Int.toNat_natCast]
  have h2 := fun q => do_can2 hN4 q (doN d)
  have hM : ([doP i] : List ByteArray) = doM i := rfl
  refine ⟨by omega, fun k => ?_, fun k => ?_, fun k => ?_, fun k => ?_, trivial⟩
  · obtain rfl : C = 0 := by omega
    have hp : ∀ j, j < 0 → (fun _ => ⟨#[]⟩ : Nat → ByteArray) j = (doQ ((0 : Nat) : Int)).g j := by
      intro j hj; exact absurd hj (Nat.not_lt_zero _)
    have hz : ∀ j, j < 0 → ((fun _ => ⟨#[]⟩ : Nat → ByteArray) j).size ≤ 1000000000000000000 := fun j hj => by
      rw [hp j hj]
      show ((⟨#[115]⟩ : ByteArray) ++ ⟨#[UInt8.ofNat (48 + j)]⟩).size ≤ _
      rw [ByteArray.size_append]; show 1 + 1 ≤ _; decide
    have e : ∀ s, canL ⟨0, fun _ => ⟨#[]⟩⟩ (doN d) s = canL (doQ ((0 : Nat) : Int)) (doN d) s := fun s => canL_ext (doN d) s hp
    have hA := do_A (N := i) (C := 0) hN4 (doN d)
    refine ⟨rfl, rfl, by decide, hz, ⟨by omega, rfl, rfl, by decide, hz, ⟨0⟩, trivial, rfl, rfl, rfl, rfl, rfl, fz_congr (b := doL ((i : Nat) : Int) (doN d) ((0 : Nat) : Int)) (fst_of ((e _).trans hA)), snd_of ((e _).trans hA), fz_congr (b := doM i) (fst_of (h2 _)), snd_of (h2 _), trivial⟩, ?_⟩
    intro _ _
    have f1 := do_one ⟨i, hN4⟩ ⟨0, by decide⟩
    have f0 := do_none ⟨i, hN4⟩ ⟨0, by decide⟩
    dsimp only at f1 f0
    have hLL := do_L (N := i) (C := 0) hN4 (doN d)
    have m1 : lenT (doM i) = 1 := rfl
    have m2 : (doM i).getD 0 ⟨#[]⟩ = doP i := rfl
    rw [m1, m2]
    clear hA e
    generalize doL ((i : Nat) : Int) (doN d) ((0 : Nat) : Int) = L at *
    have hlen : lenT L = 0 + 1 := by
      rw [hLL]
      split
      · exact f1.1
      · exact f0.1
    rw [hlen]
    refine ⟨fun _ => by decide, fun _ => by decide, fun _ => by unfold in64; omega, fun k => ?_, fun _ => ⟨fun k => ?_, fun k => ?_⟩⟩
    · simp at k
    · have k : (i : Int) ≥ doN d := of_decide_eq_true k
      rw [if_pos k] at hLL
      have g0 : L.getD 0 ⟨#[]⟩ = doP i := by rw [hLL]; exact f1.2.1
      rw [g0]
      refine ⟨by decide, by decide, fun _ => by decide, fun k2 => ?_, fun _ => by omega, ?_⟩
      · simp at k2
      · simp
    · have k : ¬ (i : Int) ≥ doN d := of_decide_eq_false k
      rw [if_neg k] at hLL
      rw [Int.toNat_natCast]
      have g0 : L.getD 0 ⟨#[]⟩ = doP i := by rw [hLL]; exact f0.2.1
      rw [g0]
      refine ⟨by decide, by decide, fun _ => by decide, fun k2 => by decide, fun _ => by omega, ?_⟩
      simp
  · obtain rfl : C = 1 := by omega
    have hp : ∀ j, j < 1 → (fun i => ⟨#[115]⟩ ++ txtOf 1 fun _ => UInt8.ofNat 48 : Nat → ByteArray) j = (doQ ((1 : Nat) : Int)).g j := by
      intro j hj
      rcases (show j = 0 by omega) with rfl
      · decide
    have hz : ∀ j, j < 1 → ((fun i => ⟨#[115]⟩ ++ txtOf 1 fun _ => UInt8.ofNat 48 : Nat → ByteArray) j).size ≤ 1000000000000000000 := fun j hj => by
      rw [hp j hj]
      show ((⟨#[115]⟩ : ByteArray) ++ ⟨#[UInt8.ofNat (48 + j)]⟩).size ≤ _
      rw [ByteArray.size_append]; show 1 + 1 ≤ _; decide
    have e : ∀ s, canL ⟨1, fun i => ⟨#[115]⟩ ++ txtOf 1 fun _ => UInt8.ofNat 48⟩ (doN d) s = canL (doQ ((1 : Nat) : Int)) (doN d) s := fun s => canL_ext (doN d) s hp
    have hA := do_A (N := i) (C := 1) hN4 (doN d)
    refine ⟨(by first | rfl | (unfold in64; omega) | (intro _ _; rfl) | decide | (rw [txtOf_size]; decide)), (by first | rfl | (unfold in64; omega) | (intro _ _; rfl) | decide | (rw [txtOf_size]; decide)), (by first | rfl | (unfold in64; omega) | (intro _ _; rfl) | decide | (rw [txtOf_size]; decide)), (by first | rfl | (unfold in64; omega) | (intro _ _; rfl) | decide | (rw [txtOf_size]; decide)), (by first | rfl | (unfold in64; omega) | (intro _ _; rfl) | decide | (rw [txtOf_size]; decide)), (by first | rfl | (unfold in64; omega) | (intro _ _; rfl) | decide | (rw [txtOf_size]; decide)), rfl, fun _ _ => rfl, rfl, rfl, by decide, hz, ⟨by omega, fun _ _ => rfl, rfl, rfl, by decide, hz, ⟨0⟩, trivial, rfl, rfl, rfl, rfl, rfl, fz_congr (b := doL ((i : Nat) : Int) (doN d) ((1 : Nat) : Int)) (fst_of ((e _).trans hA)), snd_of ((e _).trans hA), fz_congr (b := doM i) (fst_of (h2 _)), snd_of (h2 _), trivial⟩, ?_⟩
    intro _ _
    have f1 := do_one ⟨i, hN4⟩ ⟨1, by decide⟩
    have f0 := do_none ⟨i, hN4⟩ ⟨1, by decide⟩
    dsimp only at f1 f0
    have hLL := do_L (N := i) (C := 1) hN4 (doN d)
    have m1 : lenT (doM i) = 1 := rfl
    have m2 : (doM i).getD 0 ⟨#[]⟩ = doP i := rfl
    rw [m1, m2]
    clear hA e
    generalize doL ((i : Nat) : Int) (doN d) ((1 : Nat) : Int) = L at *
    have hlen : lenT L = 1 + 1 := by
      rw [hLL]
      split
      · exact f1.1
      · exact f0.1
    rw [hlen]
    refine ⟨fun _ => by decide, fun _ => by decide, fun _ => by unfold in64; omega, fun k => ?_, fun _ => ⟨fun k => ?_, fun k => ?_⟩⟩
    · simp at k
    · have k : (i : Int) ≥ doN d := of_decide_eq_true k
      rw [if_pos k] at hLL
      have g0 : L.getD 0 ⟨#[]⟩ = doP i := by rw [hLL]; exact f1.2.1
      rw [g0]
      refine ⟨by decide, by decide, fun _ => by decide, fun k2 => ?_, fun _ => by omega, ?_⟩
      · decide
      · have g1 : L.getD 1 ⟨#[]⟩ = doP i ++ ⟨#[46, 115, 48]⟩ := by rw [hLL]; exact f1.2.2.resolve_left (by decide)
        rw [g1]; simp
    · have k : ¬ (i : Int) ≥ doN d := of_decide_eq_false k
      rw [if_neg k] at hLL
      rw [Int.toNat_natCast]
      have g0 : L.getD 1 ⟨#[]⟩ = doP i := by rw [hLL]; exact f0.2.1
      rw [g0]
      refine ⟨by decide, by decide, fun _ => by decide, fun k2 => by decide, fun _ => by omega, ?_⟩
      have g1 : L.getD 0 ⟨#[]⟩ = doP i ++ ⟨#[46, 115, 48]⟩ := by rw [hLL]; exact f0.2.2.resolve_left (by decide)
      rw [g1]; simp
  · obtain rfl : C = 2 := by omega
    have hp : ∀ j, j < 2 → (fun i => bif Nat.blt i 1 then (⟨#[115]⟩ ++ txtOf 1 fun _ => UInt8.ofNat 48) else (⟨#[115]⟩ ++ txtOf 1 fun _ => UInt8.ofNat 49) : Nat → ByteArray) j = (doQ ((2 : Nat) : Int)).g j := by
      intro j hj
      rcases (show j = 0 ∨ j = 1 by omega) with rfl | rfl
      · decide
      · decide
    have hz : ∀ j, j < 2 → ((fun i => bif Nat.blt i 1 then (⟨#[115]⟩ ++ txtOf 1 fun _ => UInt8.ofNat 48) else (⟨#[115]⟩ ++ txtOf 1 fun _ => UInt8.ofNat 49) : Nat → ByteArray) j).size ≤ 1000000000000000000 := fun j hj => by
      rw [hp j hj]
      show ((⟨#[115]⟩ : ByteArray) ++ ⟨#[UInt8.ofNat (48 + j)]⟩).size ≤ _
      rw [ByteArray.size_append]; show 1 + 1 ≤ _; decide
    have e : ∀ s, canL ⟨2, fun i => bif Nat.blt i 1 then (⟨#[115]⟩ ++ txtOf 1 fun _ => UInt8.ofNat 48) else (⟨#[115]⟩ ++ txtOf 1 fun _ => UInt8.ofNat 49)⟩ (doN d) s = canL (doQ ((2 : Nat) : Int)) (doN d) s := fun s => canL_ext (doN d) s hp
    have hA := do_A (N := i) (C := 2) hN4 (doN d)
    refine ⟨(by first | rfl | (unfold in64; omega) | (intro _ _; rfl) | decide | (rw [txtOf_size]; decide)), (by first | rfl | (unfold in64; omega) | (intro _ _; rfl) | decide | (rw [txtOf_size]; decide)), (by first | rfl | (unfold in64; omega) | (intro _ _; rfl) | decide | (rw [txtOf_size]; decide)), (by first | rfl | (unfold in64; omega) | (intro _ _; rfl) | decide | (rw [txtOf_size]; decide)), (by first | rfl | (unfold in64; omega) | (intro _ _; rfl) | decide | (rw [txtOf_size]; decide)), (by first | rfl | (unfold in64; omega) | (intro _ _; rfl) | decide | (rw [txtOf_size]; decide)), (by first | rfl | (unfold in64; omega) | (intro _ _; rfl) | decide | (rw [txtOf_size]; decide)), (by first | rfl | (unfold in64; omega) | (intro _ _; rfl) | decide | (rw [txtOf_size]; decide)), (by first | rfl | (unfold in64; omega) | (intro _ _; rfl) | decide | (rw [txtOf_size]; decide)), (by first | rfl | (unfold in64; omega) | (intro _ _; rfl) | decide | (rw [txtOf_size]; decide)), (by first | rfl | (unfold in64; omega) | (intro _ _; rfl) | decide | (rw [txtOf_size]; decide)), (by first | rfl | (unfold in64; omega) | (intro _ _; rfl) | decide | (rw [txtOf_size]; decide)), (by first | rfl | (unfold in64; omega) | (intro _ _; rfl) | decide | (rw [txtOf_size]; decide)), rfl, fun _ _ => rfl, rfl, rfl, by decide, hz, ⟨by omega, fun _ _ => rfl, rfl, rfl, by decide, hz, ⟨0⟩, trivial, rfl, rfl, rfl, rfl, rfl, fz_congr (b := doL ((i : Nat) : Int) (doN d) ((2 : Nat) : Int)) (fst_of ((e _).trans hA)), snd_of ((e _).trans hA), fz_congr (b := doM i) (fst_of (h2 _)), snd_of (h2 _), trivial⟩, ?_⟩
    intro _ _
    have f1 := do_one ⟨i, hN4⟩ ⟨2, by decide⟩
    have f0 := do_none ⟨i, hN4⟩ ⟨2, by decide⟩
    dsimp only at f1 f0
    have hLL := do_L (N := i) (C := 2) hN4 (doN d)
    have m1 : lenT (doM i) = 1 := rfl
    have m2 : (doM i).getD 0 ⟨#[]⟩ = doP i := rfl
    rw [m1, m2]
    clear hA e
    generalize doL ((i : Nat) : Int) (doN d) ((2 : Nat) : Int) = L at *
    have hlen : lenT L = 2 + 1 := by
      rw [hLL]
      split
      · exact f1.1
      · exact f0.1
    rw [hlen]
    refine ⟨fun _ => by decide, fun _ => by decide, fun _ => by unfold in64; omega, fun k => ?_, fun _ => ⟨fun k => ?_, fun k => ?_⟩⟩
    · simp at k
    · have k : (i : Int) ≥ doN d := of_decide_eq_true k
      rw [if_pos k] at hLL
      have g0 : L.getD 0 ⟨#[]⟩ = doP i := by rw [hLL]; exact f1.2.1
      rw [g0]
      refine ⟨by decide, by decide, fun _ => by decide, fun k2 => ?_, fun _ => by omega, ?_⟩
      · decide
      · have g1 : L.getD 1 ⟨#[]⟩ = doP i ++ ⟨#[46, 115, 48]⟩ := by rw [hLL]; exact f1.2.2.resolve_left (by decide)
        rw [g1]; simp
    · have k : ¬ (i : Int) ≥ doN d := of_decide_eq_false k
      rw [if_neg k] at hLL
      rw [Int.toNat_natCast]
      have g0 : L.getD 2 ⟨#[]⟩ = doP i := by rw [hLL]; exact f0.2.1
      rw [g0]
      refine ⟨by decide, by decide, fun _ => by decide, fun k2 => by decide, fun _ => by omega, ?_⟩
      have g1 : L.getD 0 ⟨#[]⟩ = doP i ++ ⟨#[46, 115, 48]⟩ := by rw [hLL]; exact f0.2.2.resolve_left (by decide)
      rw [g1]; simp
  · obtain rfl : C = 3 := by omega
    have hp : ∀ j, j < 3 → (fun i => bif Nat.blt i 2 then (bif Nat.blt i 1 then (⟨#[115]⟩ ++ txtOf 1 fun _ => UInt8.ofNat 48) else (⟨#[115]⟩ ++ txtOf 1 fun _ => UInt8.ofNat 49)) else (⟨#[115]⟩ ++ txtOf 1 fun _ => UInt8.ofNat 50) : Nat → ByteArray) j = (doQ ((3 : Nat) : Int)).g j := by
      intro j hj
      rcases (show j = 0 ∨ j = 1 ∨ j = 2 by omega) with rfl | rfl | rfl
      · decide
      · decide
      · decide
    have hz : ∀ j, j < 3 → ((fun i => bif Nat.blt i 2 then (bif Nat.blt i 1 then (⟨#[115]⟩ ++ txtOf 1 fun _ => UInt8.ofNat 48) else (⟨#[115]⟩ ++ txtOf 1 fun _ => UInt8.ofNat 49)) else (⟨#[115]⟩ ++ txtOf 1 fun _ => UInt8.ofNat 50) : Nat → ByteArray) j).size ≤ 1000000000000000000 := fun j hj => by
      rw [hp j hj]
      show ((⟨#[115]⟩ : ByteArray) ++ ⟨#[UInt8.ofNat (48 + j)]⟩).size ≤ _
      rw [ByteArray.size_append]; show 1 + 1 ≤ _; decide
    have e : ∀ s, canL ⟨3, fun i => bif Nat.blt i 2 then (bif Nat.blt i 1 then (⟨#[115]⟩ ++ txtOf 1 fun _ => UInt8.ofNat 48) else (⟨#[115]⟩ ++ txtOf 1 fun _ => UInt8.ofNat 49)) else (⟨#[115]⟩ ++ txtOf 1 fun _ => UInt8.ofNat 50)⟩ (doN d) s = canL (doQ ((3 : Nat) : Int)) (doN d) s := fun s => canL_ext (doN d) s hp
    have hA := do_A (N := i) (C := 3) hN4 (doN d)
    refine ⟨(by first | rfl | (unfold in64; omega) | (intro _ _; rfl) | decide | (rw [txtOf_size]; decide)), (by first | rfl | (unfold in64; omega) | (intro _ _; rfl) | decide | (rw [txtOf_size]; decide)), (by first | rfl | (unfold in64; omega) | (intro _ _; rfl) | decide | (rw [txtOf_size]; decide)), (by first | rfl | (unfold in64; omega) | (intro _ _; rfl) | decide | (rw [txtOf_size]; decide)), (by first | rfl | (unfold in64; omega) | (intro _ _; rfl) | decide | (rw [txtOf_size]; decide)), (by first | rfl | (unfold in64; omega) | (intro _ _; rfl) | decide | (rw [txtOf_size]; decide)), (by first | rfl | (unfold in64; omega) | (intro _ _; rfl) | decide | (rw [txtOf_size]; decide)), (by first | rfl | (unfold in64; omega) | (intro _ _; rfl) | decide | (rw [txtOf_size]; decide)), (by first | rfl | (unfold in64; omega) | (intro _ _; rfl) | decide | (rw [txtOf_size]; decide)), (by first | rfl | (unfold in64; omega) | (intro _ _; rfl) | decide | (rw [txtOf_size]; decide)), (by first | rfl | (unfold in64; omega) | (intro _ _; rfl) | decide | (rw [txtOf_size]; decide)), (by first | rfl | (unfold in64; omega) | (intro _ _; rfl) | decide | (rw [txtOf_size]; decide)), (by first | rfl | (unfold in64; omega) | (intro _ _; rfl) | decide | (rw [txtOf_size]; decide)), (by first | rfl | (unfold in64; omega) | (intro _ _; rfl) | decide | (rw [txtOf_size]; decide)), (by first | rfl | (unfold in64; omega) | (intro _ _; rfl) | decide | (rw [txtOf_size]; decide)), (by first | rfl | (unfold in64; omega) | (intro _ _; rfl) | decide | (rw [txtOf_size]; decide)), (by first | rfl | (unfold in64; omega) | (intro _ _; rfl) | decide | (rw [txtOf_size]; decide)), (by first | rfl | (unfold in64; omega) | (intro _ _; rfl) | decide | (rw [txtOf_size]; decide)), (by first | rfl | (unfold in64; omega) | (intro _ _; rfl) | decide | (rw [txtOf_size]; decide)), (by first | rfl | (unfold in64; omega) | (intro _ _; rfl) | decide | (rw [txtOf_size]; decide)), rfl, fun _ _ => rfl, rfl, rfl, by decide, hz, ⟨by omega, fun _ _ => rfl, rfl, rfl, by decide, hz, ⟨0⟩, trivial, rfl, rfl, rfl, rfl, rfl, fz_congr (b := doL ((i : Nat) : Int) (doN d) ((3 : Nat) : Int)) (fst_of ((e _).trans hA)), snd_of ((e _).trans hA), fz_congr (b := doM i) (fst_of (h2 _)), snd_of (h2 _), trivial⟩, ?_⟩
    intro _ _
    have f1 := do_one ⟨i, hN4⟩ ⟨3, by decide⟩
    have f0 := do_none ⟨i, hN4⟩ ⟨3, by decide⟩
    dsimp only at f1 f0
    have hLL := do_L (N := i) (C := 3) hN4 (doN d)
    have m1 : lenT (doM i) = 1 := rfl
    have m2 : (doM i).getD 0 ⟨#[]⟩ = doP i := rfl
    rw [m1, m2]
    clear hA e
    generalize doL ((i : Nat) : Int) (doN d) ((3 : Nat) : Int) = L at *
    have hlen : lenT L = 3 + 1 := by
      rw [hLL]
      split
      · exact f1.1
      · exact f0.1
    rw [hlen]
    refine ⟨fun _ => by decide, fun _ => by decide, fun _ => by unfold in64; omega, fun k => ?_, fun _ => ⟨fun k => ?_, fun k => ?_⟩⟩
    · simp at k
    · have k : (i : Int) ≥ doN d := of_decide_eq_true k
      rw [if_pos k] at hLL
      have g0 : L.getD 0 ⟨#[]⟩ = doP i := by rw [hLL]; exact f1.2.1
      rw [g0]
      refine ⟨by decide, by decide, fun _ => by decide, fun k2 => ?_, fun _ => by omega, ?_⟩
      · decide
      · have g1 : L.getD 1 ⟨#[]⟩ = doP i ++ ⟨#[46, 115, 48]⟩ := by rw [hLL]; exact f1.2.2.resolve_left (by decide)
        rw [g1]; simp
    · have k : ¬ (i : Int) ≥ doN d := of_decide_eq_false k
      rw [if_neg k] at hLL
      rw [Int.toNat_natCast]
      have g0 : L.getD 3 ⟨#[]⟩ = doP i := by rw [hLL]; exact f0.2.1
      rw [g0]
      refine ⟨by decide, by decide, fun _ => by decide, fun k2 => by decide, fun _ => by omega, ?_⟩
      have g1 : L.getD 0 ⟨#[]⟩ = doP i ++ ⟨#[46, 115, 48]⟩ := by rw [hLL]; exact f0.2.2.resolve_left (by decide)
      rw [g1]; simp
end Go.Proofs.YthomfpdigmeheaaDoorAv
set_option linter.unusedVariables false
set_option linter.unusedSimpArgs false
set_option maxRecDepth 100000
namespace Go.Proofs.YthomfpdigmeheaaDoorAv
open Go Go.RowKit
theorem long_ok : CTok Tryd.prog 6 (C1 dInt (fun _ => []) fun _ => XB true) := C1_ok cxw_ok Tryd.func6 rfl (by decide) dInt_eq.ok (by kernel_rfl) (fun _ => rfl) fun n _ => exv (longV_eq n) (long_v n)
theorem dots_ok : CTok Tryd.prog 5 (C3 dInt dInt dInt (fun _ _ _ => []) fun _ _ _ => XB true) := C3_ok cxw_ok Tryd.func5 rfl (by decide) dInt_eq.ok dInt_eq.ok dInt_eq.ok (by kernel_rfl) (fun _ _ _ => rfl) fun n d c _ => exv (dotsV_eq n d c) (dots_v n d c)
theorem candLong_J (L : GH) (a : Int) (ha : (Lit.int .i64 a).wf = true) : JF Tryd.prog 6 [intAV a] L (fun v L' => v = boolAV true ∧ L' = L) := by
  refine law_J long_ok (xs := [XI a]) (cs := []) rfl (fun p hp => by cases hp) ?_ L
  simp only [RVL]
  exact ⟨by simp [RV, intAV], trivial⟩
theorem candDots_J (L : GH) (a b c : Int) (ha : (Lit.int .i64 a).wf = true) (hb : (Lit.int .i64 b).wf = true) (hc : (Lit.int .i64 c).wf = true) : JF Tryd.prog 5 [intAV a, intAV b, intAV c] L (fun v L' => v = boolAV true ∧ L' = L) := by
  refine law_J dots_ok (xs := [XI a, XI b, XI c]) (cs := []) rfl (fun p hp => by cases hp) ?_ L
  simp only [RVL]
  exact ⟨by simp [RV, intAV], by simp [RV, intAV], by simp [RV, intAV], trivial⟩
end Go.Proofs.YthomfpdigmeheaaDoorAv
