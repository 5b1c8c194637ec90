/- order's small functions; hosts.Words. -/
import Derived.Test.YtihplidgomjoeaaDoorPlB
set_option linter.unusedVariables false
set_option linter.unusedSimpArgs false
set_option maxRecDepth 100000
namespace Go.Proofs.YtihplidgomjoeaaDoorAv
open Go Go.RowKit
def cxa : Cx := { cx0 with C := [(22, cutC), (21, cutPreC), (23, splitC), (15, replC)] }
theorem cxa_ok : cxa.ok Tryd.prog := (((cx0_ok.addC repl_ok).addC split_ok).addC cutPre_ok).addC cut_ok
/-- The place of a text in a row of texts, from 1 on; 0: it is not there. -/
def numF (g : Nat → ByteArray) (s : ByteArray) : Nat → Nat → Int
  | 0, _ => 0
  | m + 1, i => if g i = s then (i : Int) + 1 else numF g s m (i + 1)
def numC : CT := C2 dStrs dStr (fun q _ => [q.n ≤ 1000000]) fun q s => XI (numF q.g s q.n 0)
structure IX where
  i : Nat
def numI (q : Sq ByteArray) (s : ByteArray) : Inv where
  σ := IX
  S := fun x => ⟨[(1, XT s), (7, sqX 1 (fun s => [XT s]) q), (8, XI q.n), (9, XI x.i)], [], 0, false, []⟩
  inv := fun x => x.i ≤ q.n ∧ numF q.g s (q.n - x.i) x.i = numF q.g s q.n 0
  μ := fun x => q.n - x.i
def numE (q : Sq ByteArray) (s : ByteArray) : Env := { loops := [(0, numI q s)] }
def numV (q : Sq ByteArray) (s : ByteArray) : Prop :=
  (∃ (x : (numI q s).σ), (x.i ≤ q.n ∧ numF q.g s (q.n - x.i) x.i = numF q.g s q.n (0 : Nat)) ∧ true = true ∧ s = s ∧ ((XV.fz q.n (1 : Nat) fun (i : Nat) => [XT (q.g i)]) = XV.fz q.n (1 : Nat) fun (i : Nat) => [XT (q.g i)]) ∧ (↑q.n : Int) = (↑q.n : Int) ∧ (0 : Int) = (↑x.i : Int) ∧ True) ∧ ∀ (x : IX), x.i ≤ q.n ∧ numF q.g s (q.n - x.i) x.i = numF q.g s q.n (0 : Nat) → (decide ((↑x.i : Int) < (↑q.n : Int)) = true → (0 : Int) ≤ (↑x.i : Int) ∧ (↑x.i : Int) < (↑q.n : Int) ∧ (decide (q.g (↑x.i : Int).toNat = s) = true → in64 ((↑x.i : Int) + (1 : Int)) ∧ (↑x.i : Int) + (1 : Int) = numF q.g s q.n (0 : Nat)) ∧ (decide (q.g (↑x.i : Int).toNat = s) = false → in64 ((↑x.i : Int) + (1 : Int)) ∧ ∃ (x' : (numI q s).σ), (x'.i ≤ q.n ∧ numF q.g s (q.n - x'.i) x'.i = numF q.g s q.n (0 : Nat)) ∧ q.n - x'.i < q.n - x.i ∧ true = true ∧ s = s ∧ ((XV.fz q.n (1 : Nat) fun (i : Nat) => [XT (q.g i)]) = XV.fz q.n (1 : Nat) fun (i : Nat) => [XT (q.g i)]) ∧ (↑q.n : Int) = (↑q.n : Int) ∧ (↑x.i : Int) + (1 : Int) = (↑x'.i : Int) ∧ True)) ∧ (decide ((↑x.i : Int) < (↑q.n : Int)) = false → (0 : Int) = numF q.g s q.n (0 : Nat))
theorem numV_eq (q : Sq ByteArray) (s : ByteArray) : numV q s = (funC cxa Tryd.f17 (mkSc (numE q s) (bodyOf Tryd.f17)) [sqX 1 (fun s => [XT s]) q, XT s] (XI (numF q.g s q.n 0))) := by kernel_rfl
theorem num_v (q : Sq ByteArray) (s : ByteArray) (hq : q.n ≤ 1000000) : numV q s := by
  unfold numV
  refine ⟨⟨⟨0⟩, ⟨Nat.zero_le _, rfl⟩, by and_intros <;> first | rfl | trivial⟩, ?_⟩
  rintro x ⟨hx, hi⟩
  refine ⟨fun h => ?_, fun h => ?_⟩
  · have hlt : x.i < q.n := by simpa using h
    rw [show q.n - x.i = (q.n - (x.i + 1)) + 1 by omega, numF] at hi
    refine ⟨by omega, by omega, fun h2 => ⟨⟨by omega, by omega⟩, ?_⟩, fun h2 => ⟨⟨by omega, by omega⟩, ⟨x.i + 1⟩, ⟨hlt, ?_⟩, by show q.n - (x.i + 1) < q.n - x.i; omega, by and_intros <;> first | rfl | trivial⟩⟩
    · have h3 : q.g x.i = s := by simpa using h2
      rw [if_pos h3] at hi
      exact hi
    · have h3 : ¬ q.g x.i = s := by simpa using h2
      rw [if_neg h3] at hi
      exact hi
  · have hge : x.i = q.n := by
      have : ¬ x.i < q.n := by simpa using h
      omega
    rw [hge, Nat.sub_self, numF] at hi
    exact hi
theorem num_ok : CTok Tryd.prog 17 numC := C2_ok cxa_ok Tryd.func17 rfl (by decide) dSl_ok dStr_eq.ok (by kernel_rfl) (fun _ _ => rfl) fun q s hc => exv (numV_eq q s) (num_v q s (hc _ (by simp)))
def srcC : CT := C1 dInt (fun _ => []) fun k => .agg [XI k, XB false, XB true, XB false, XB false, XB false]
def srcV (k : Int) : Prop :=
  (0 : Int) ≤ (1 : Int) ∧ (1 : Int) < (↑(5 : Nat) : Int) ∧ (1 : Nat) < [false, false, false, false, false].length ∧ k = k ∧ false = false ∧ true = true ∧ false = false ∧ false = false ∧ false = false ∧ True
theorem srcV_eq (k : Int) : srcV k = (funC cxa Tryd.f18 .nil [XI k] (.agg [XI k, XB false, XB true, XB false, XB false, XB false])) := by kernel_rfl
theorem src_v (k : Int) : srcV k := by
  unfold srcV
  simp
theorem src_ok : CTok Tryd.prog 18 srcC := C1_ok cxa_ok Tryd.func18 rfl (by decide) dInt_eq.ok (by kernel_rfl) (fun _ => rfl) fun k _ => exv (srcV_eq k) (src_v k)
def cxb : Cx := { cxa with C := (17, numC) :: (18, srcC) :: cxa.C }
theorem cxb_ok : cxb.ok Tryd.prog := (cxa_ok.addC src_ok).addC num_ok

/-! Words -/
def isNE (s : ByteArray) : Bool := !(decide (s = ⟨#[]⟩))
/-- What a line's words are cut out of. -/
def wPieces (s : ByteArray) : List ByteArray := splitS (replB (cutB s ⟨#[35]⟩).1 ⟨#[9]⟩ ⟨#[32]⟩) ⟨#[32]⟩
def words (s : ByteArray) : List ByteArray := (wPieces s).filter isNE
def rowS (l : List ByteArray) : Nat → List XV := fun i => [XT (l.getD i ⟨#[]⟩)]
def fieldsC : CT := C1 dStr (fun s => [s.size ≤ 1000000]) fun s => strsL (words s)
def fldI (l : List ByteArray) : Inv where
  σ := IX
  S := fun x => ⟨[(3, .sl 0 1 0 ((l.take x.i).filter isNE).length), (14, strsL l), (15, XI l.length), (16, XI x.i)], [(0, .vec 9 true ((l.take x.i).filter isNE).length 1 (rowS ((l.take x.i).filter isNE)))], 1, false, []⟩
  inv := fun x => x.i ≤ l.length
  μ := fun x => l.length - x.i
def fldE (s : ByteArray) : Env := { loops := [(0, fldI (wPieces s))], own := [(3, [(3, 9, 1)])] }
def fldV (s : ByteArray) : Prop :=
  s.size < (4294967281 : Nat) ∧ (cutB s { data := #[(35 : UInt8)] : ByteArray }).fst.size ≤ (1000000000 : Nat) ∧ (1 : Nat) ≤ (1 : Nat) ∧ (1 : Nat) ≤ (1000 : Nat) ∧ (replB (cutB s { data := #[(35 : UInt8)] : ByteArray }).fst { data := #[(9 : UInt8)] : ByteArray } { data := #[(32 : UInt8)] : ByteArray }).size < (4294967281 : Nat) ∧ (1 : Nat) ≤ (1 : Nat) ∧ (∃ (x : (fldI (wPieces s)).σ), x.i.le (wPieces s).length ∧ true = true ∧ XV.sl (0 : Nat) (1 : Nat) (0 : Nat) (0 : Nat) = XV.sl (0 : Nat) (1 : Nat) (0 : Nat) (List.filter isNE (List.take x.i (wPieces s))).length ∧ ((XV.fz (splitS (replB (cutB s { data := #[(35 : UInt8)] : ByteArray }).fst { data := #[(9 : UInt8)] : ByteArray } { data := #[(32 : UInt8)] : ByteArray }) { data := #[(32 : UInt8)] : ByteArray }).length (1 : Nat) fun (i : Nat) => [XT ((splitS (replB (cutB s { data := #[(35 : UInt8)] : ByteArray }).fst { data := #[(9 : UInt8)] : ByteArray } { data := #[(32 : UInt8)] : ByteArray }) { data := #[(32 : UInt8)] : ByteArray }).getD i { data := #[] : ByteArray })]) = XV.fz (wPieces s).length (1 : Nat) fun (i : Nat) => [XT ((wPieces s).getD i { data := #[] : ByteArray })]) ∧ (↑(splitS (replB (cutB s { data := #[(35 : UInt8)] : ByteArray }).fst { data := #[(9 : UInt8)] : ByteArray } { data := #[(32 : UInt8)] : ByteArray }) { data := #[(32 : UInt8)] : ByteArray }).length : Int) = (↑(wPieces s).length : Int) ∧ (0 : Int) = (↑x.i : Int) ∧ (((9 : Nat) = (9 : TypeId) ∧ true = true ∧ (1 : Nat) = (1 : Nat)) ∧ (0 : Nat) = (List.filter isNE (List.take x.i (wPieces s))).length ∧ ∀ (j : Nat), j < (0 : Nat) → [] = [XT ((List.filter isNE (List.take x.i (wPieces s))).getD j { data := #[] : ByteArray })]) ∧ True) ∧ ∀ (x : IX), x.i.le (wPieces s).length → (decide ((↑x.i : Int) < (↑(wPieces s).length : Int)) = true → (0 : Int) ≤ (↑x.i : Int) ∧ (↑x.i : Int) < (↑(wPieces s).length : Int) ∧ ((!decide ((wPieces s).getD (↑x.i : Int).toNat { data := #[] : ByteArray } = { data := #[] : ByteArray })) = true → (List.filter isNE (List.take x.i (wPieces s))).length = (List.filter isNE (List.take x.i (wPieces s))).length ∧ ((List.filter isNE (List.take x.i (wPieces s))).length + (1 : Nat)) * (16 : Nat) ≤ (140737488355328 : Nat) ∧ (List.filter isNE (List.take x.i (wPieces s))).length + (1 : Nat) ≤ (140737488355328 : Nat) ∧ in64 ((↑x.i : Int) + (1 : Int)) ∧ ∃ (x' : (fldI (wPieces s)).σ), x'.i.le (wPieces s).length ∧ (wPieces s).length - x'.i < (wPieces s).length - x.i ∧ true = true ∧ XV.sl (0 : Nat) (1 : Nat) (0 : Nat) ((List.filter isNE (List.take x.i (wPieces s))).length + (1 : Nat)) = XV.sl (0 : Nat) (1 : Nat) (0 : Nat) (List.filter isNE (List.take x'.i (wPieces s))).length ∧ ((XV.fz (wPieces s).length (1 : Nat) fun (i : Nat) => [XT ((wPieces s).getD i { data := #[] : ByteArray })]) = XV.fz (wPieces s).length (1 : Nat) fun (i : Nat) => [XT ((wPieces s).getD i { data := #[] : ByteArray })]) ∧ (↑(wPieces s).length : Int) = (↑(wPieces s).length : Int) ∧ (↑x.i : Int) + (1 : Int) = (↑x'.i : Int) ∧ (((9 : TypeId) = (9 : TypeId) ∧ true = true ∧ (1 : Nat) = (1 : Nat)) ∧ (List.filter isNE (List.take x.i (wPieces s))).length + (1 : Nat) = (List.filter isNE (List.take x'.i (wPieces s))).length ∧ ∀ (j : Nat), j < (List.filter isNE (List.take x.i (wPieces s))).length + (1 : Nat) → (bif j.blt (List.filter isNE (List.take x.i (wPieces s))).length then [XT ((List.filter isNE (List.take x.i (wPieces s))).getD j { data := #[] : ByteArray })] else [XT ((wPieces s).getD (↑x.i : Int).toNat { data := #[] : ByteArray })]) = [XT ((List.filter isNE (List.take x'.i (wPieces s))).getD j { data := #[] : ByteArray })]) ∧ True) ∧ ((!decide ((wPieces s).getD (↑x.i : Int).toNat { data := #[] : ByteArray } = { data := #[] : ByteArray })) = false → in64 ((↑x.i : Int) + (1 : Int)) ∧ ∃ (x' : (fldI (wPieces s)).σ), x'.i.le (wPieces s).length ∧ (wPieces s).length - x'.i < (wPieces s).length - x.i ∧ true = true ∧ XV.sl (0 : Nat) (1 : Nat) (0 : Nat) (List.filter isNE (List.take x.i (wPieces s))).length = XV.sl (0 : Nat) (1 : Nat) (0 : Nat) (List.filter isNE (List.take x'.i (wPieces s))).length ∧ ((XV.fz (wPieces s).length (1 : Nat) fun (i : Nat) => [XT ((wPieces s).getD i { data := #[] : ByteArray })]) = XV.fz (wPieces s).length (1 : Nat) fun (i : Nat) => [XT ((wPieces s).getD i { data := #[] : ByteArray })]) ∧ (↑(wPieces s).length : Int) = (↑(wPieces s).length : Int) ∧ (↑x.i : Int) + (1 : Int) = (↑x'.i : Int) ∧ (((9 : TypeId) = (9 : TypeId) ∧ true = true ∧ (1 : Nat) = (1 : Nat)) ∧ (List.filter isNE (List.take x.i (wPieces s))).length = (List.filter isNE (List.take x'.i (wPieces s))).length ∧ ∀ (j : Nat), j < (List.filter isNE (List.take x.i (wPieces s))).length → [XT ((List.filter isNE (List.take x.i (wPieces s))).getD j { data := #[] : ByteArray })] = [XT ((List.filter isNE (List.take x'.i (wPieces s))).getD j { data := #[] : ByteArray })]) ∧ True)) ∧ (decide ((↑x.i : Int) < (↑(wPieces s).length : Int)) = false → ((1 : Nat) = (1 : Nat) ∧ (1 : Nat) = (1 : Nat)) ∧ (List.filter isNE (List.take x.i (wPieces s))).length = (List.filter isNE (List.take x.i (wPieces s))).length ∧ (List.filter isNE (List.take x.i (wPieces s))).length = (words s).length ∧ ∀ (j : Nat), j < (List.filter isNE (List.take x.i (wPieces s))).length → [XT ((List.filter isNE (List.take x.i (wPieces s))).getD j { data := #[] : ByteArray })] = [XT ((words s).getD j { data := #[] : ByteArray })])
theorem fldV_eq (s : ByteArray) : fldV s = (funC cxb Tryd.f19 (mkSc (fldE s) (bodyOf Tryd.f19)) [XT s] (strsL (words s))) := by kernel_rfl
theorem fld_v (s : ByteArray) (hs : s.size ≤ 1000000) : fldV s := by
  have h1 := cutB_size s 35
  have h2 : (replB (cutB s ⟨#[35]⟩).1 ⟨#[9]⟩ ⟨#[32]⟩).size ≤ 1 * (cutB s ⟨#[35]⟩).1.size := replB_size _ ⟨#[32]⟩ 9 1 (by decide) (by decide)
  have h3 : (wPieces s).length ≤ (replB (cutB s ⟨#[35]⟩).1 ⟨#[9]⟩ ⟨#[32]⟩).size + 1 := splitS_len _ 32
  have hfl : ∀ i, ((wPieces s).take i |>.filter isNE).length ≤ 1000001 := fun i => by
    have := List.length_filter_le isNE ((wPieces s).take i)
    rw [List.length_take] at this
    omega
  unfold fldV
  refine ⟨by omega, by omega, by omega, by omega, by omega, by omega, ⟨⟨0⟩, Nat.zero_le _, by and_intros <;> first | rfl | trivial | exact fun j hj => absurd hj (by omega)⟩, ?_⟩
  intro x hx
  refine ⟨fun h => ?_, fun h => ?_⟩
  · have hlt : x.i < (wPieces s).length := by simpa using h
    have ht := take_snoc' (wPieces s) x.i ⟨#[]⟩ hlt
    have hb := hfl x.i
    refine ⟨by omega, by omega, fun h2 => ⟨rfl, by omega, by omega, ⟨by omega, by omega⟩, ⟨x.i + 1⟩, hlt, ?_⟩, fun h2 => ⟨⟨by omega, by omega⟩, ⟨x.i + 1⟩, hlt, ?_⟩⟩
    · have e : (((wPieces s).take (x.i + 1)).filter isNE) = ((wPieces s).take x.i).filter isNE ++ [(wPieces s).getD x.i ⟨#[]⟩] := by
        rw [ht, List.filter_append, List.filter_cons]
        have : isNE ((wPieces s).getD x.i ⟨#[]⟩) = true := h2
        rw [if_pos this]
        rfl
      refine ⟨by show (wPieces s).length - (x.i + 1) < _; omega, ?_⟩
      and_intros
      all_goals first | rfl | trivial | skip
      · show _ = XV.sl 0 1 0 (((wPieces s).take (x.i + 1)).filter isNE).length
        rw [e, List.length_append]; rfl
      · show _ = (((wPieces s).take (x.i + 1)).filter isNE).length
        rw [e, List.length_append]; rfl
      · intro j hj
        show _ = [XT ((((wPieces s).take (x.i + 1)).filter isNE).getD j ⟨#[]⟩)]
        rw [e]
        exact row_app _ _ _ (fun s => [XT s]) j hj
    · have e : (((wPieces s).take (x.i + 1)).filter isNE) = ((wPieces s).take x.i).filter isNE := by
        rw [ht, List.filter_append, List.filter_cons]
        have : isNE ((wPieces s).getD x.i ⟨#[]⟩) = false := h2
        rw [if_neg (by rw [this]; simp)]
        simp
      refine ⟨by show (wPieces s).length - (x.i + 1) < _; omega, ?_⟩
      show _ ∧ _ = XV.sl 0 1 0 (((wPieces s).take (x.i + 1)).filter isNE).length ∧ _
      rw [e]
      and_intros
      all_goals first | rfl | trivial | exact fun j hj => rfl
  · have hge : x.i = (wPieces s).length := by
      have : ¬ x.i < (wPieces s).length := by simpa using h
      have : x.i ≤ (wPieces s).length := hx
      omega
    rw [hge, List.take_length]
    exact ⟨⟨rfl, rfl⟩, rfl, rfl, fun j hj => rfl⟩
theorem strsL_pd (l : List ByteArray) : (strsL l).pd = true := rfl
theorem fld_ok : CTok Tryd.prog 19 fieldsC := C1_ok cxb_ok Tryd.func19 rfl (by decide) dStr_eq.ok (by kernel_rfl) (fun _ => rfl) fun s hc => exv (fldV_eq s) (fld_v s (hc _ (by simp)))
def cxc : Cx := { cxb with C := (19, fieldsC) :: cxb.C }
theorem cxc_ok : cxc.ok Tryd.prog := cxb_ok.addC fld_ok
def wordsC : CT := C1 dStr (fun s => [s.size ≤ 1000000]) fun s => strsL (words s)
def wrdV (s : ByteArray) : Prop :=
  s.size ≤ (1000000 : Nat) ∧ (1 : Nat) = (1 : Nat) ∧ (words s).length = (words s).length ∧ ∀ (j : Nat), j < (words s).length → [XT ((words s).getD j { data := #[] : ByteArray })] = [XT ((words s).getD j { data := #[] : ByteArray })]
theorem wrdV_eq (s : ByteArray) : wrdV s = (funC cxc Tryd.f14 .nil [XT s] (strsL (words s))) := by kernel_rfl
theorem wrd_v (s : ByteArray) (hs : s.size ≤ 1000000) : wrdV s := by
  unfold wrdV
  exact ⟨hs, rfl, rfl, fun _ _ => rfl⟩
theorem wrd_ok : CTok Tryd.prog 14 wordsC := C1_ok cxc_ok Tryd.func14 rfl (by decide) dStr_eq.ok (by kernel_rfl) (fun _ => rfl) fun s hc => exv (wrdV_eq s) (wrd_v s (hc _ (by simp)))
end Go.Proofs.YtihplidgomjoeaaDoorAv
