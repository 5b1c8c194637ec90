/-
  ABSTRACT VALUES over the model (own framework): make([]T, l, c).
-/
import Derived.Test.YtljgkjkdmoejfaaAvDraw
set_option linter.unusedVariables false
set_option linter.unusedSimpArgs false
namespace Go.Proofs.YtljgkjkdmoejfaaAv
open Go Go.RowKit
section
variable {P : Program} {N : Nat} {ops : Array Oper} {Q : Exit → TM → GH → Prop} {d : Option Nat} {ty : TypeId} {pos : String} {af : Array Edge} {os : List Oper} {t : TM} {L : GH}

def repl : Nat → List Value → List Value
  | 0, _ => []
  | n + 1, l => l ++ repl n l
theorem repl_len (l : List Value) : ∀ n, (repl n l).length = n * l.length
  | 0 => by simp [repl]
  | n + 1 => by rw [repl, List.length_append, repl_len l n, Nat.add_mul, Nat.one_mul, Nat.add_comm]
theorem repl_get (l : List Value) : ∀ (n i : Nat), i < n * l.length → (repl n l)[i]? = l[i % l.length]?
  | 0, i, h => by simp at h
  | n + 1, i, h => by
    rw [repl]
    rcases Nat.lt_or_ge i l.length with hi | hi
    · rw [List.getElem?_append_left hi, Nat.mod_eq_of_lt hi]
    · rw [List.getElem?_append_right hi, repl_get l n (i - l.length) (by rw [Nat.add_mul] at h; omega), ← Nat.mod_eq_sub_mod hi]
theorem repl_add (l : List Value) : ∀ (n m : Nat), repl (n + m) l = repl n l ++ repl m l
  | 0, m => by simp [repl]
  | n + 1, m => by rw [Nat.add_right_comm, repl, repl_add l n m, repl, List.append_assoc]
theorem repl_made (z : Value) (n : Nat) (hs : 0 < z.cells.size) : ((Array.range (n * z.cells.size)).map fun x => z.cells[x % z.cells.size]!) = (repl n z.cells.toList).toArray := by
  apply Array.ext'
  apply List.ext_getElem?
  intro i
  simp only [Array.toList_map, Array.toList_range, List.getElem?_map, List.toList_toArray]
  rcases Nat.lt_or_ge i (n * z.cells.size) with hi | hi
  · rw [List.getElem?_range hi, repl_get _ _ _ (by simpa using hi)]
    have hm : i % z.cells.size < z.cells.size := Nat.mod_lt _ hs
    simp [hm]
  · rw [List.getElem?_eq_none (by simpa using hi), List.getElem?_eq_none (by rw [repl_len]; simpa using hi)]
    rfl
theorem VSL_p (w : World) (L : GH) : ∀ l : List Value, VSL L w (l.map AV.p) l
  | [] => by simp [VSL]
  | x :: l => by simp only [List.map_cons, VSL, VS]; exact ⟨trivial, VSL_p w L l⟩

theorem JO.makeSlice {T e : TypeId} {x y : Operand} {z : Value} {sz b : Nat} {l c : Int} {k k' : IntKind} (hT : P.underlying T = some (.slice e)) (hI : TI P e z sz b) (hzs : z.cells.size = sz) (hx : ev t x = .p (.int k l)) (hy : ev t y = .p (.int k' c))
    (h0 : 0 ≤ l) (h1 : l ≤ c) (h2 : c.toNat * b ≤ 140737488355328) (h3 : c ≤ 140737488355328) (hsz : 0 < sz) (ho : ones (z.cells.toList.map AV.p) = true) (hd : dok N d = true)
    (K : ∀ g, L g = none → JO P N ops Q os (t.putO d (.sl g sz 0 l.toNat)) (upd L g ⟨e, true, (repl l.toNat z.cells.toList).map AV.p⟩)) : JO P N ops Q (⟨d, .makeSlice T x y, ty, pos, af, none⟩ :: os) t L :=
  JO.new (fun g => .sl g sz 0 l.toNat) hd (fun a w s => by
    obtain ⟨i, hi, hz, his, hib⟩ := hI.get
    have ex := s.ev x
    have ey := s.ev y
    rw [hx] at ex
    rw [hy] at ey
    simp only [VS] at ex ey
    have hsplit : repl c.toNat z.cells.toList = repl l.toNat z.cells.toList ++ repl (c.toNat - l.toNat) z.cells.toList := by
      rw [← repl_add]; congr 1; omega
    have hlen : (repl c.toNat z.cells.toList).length = c.toNat * sz := by rw [repl_len, Array.length_toList, hzs]
    refine ⟨w.alloc (.cells (repl c.toNat z.cells.toList).toArray e), (0, 0), repl l.toNat z.cells.toList, repl (c.toNat - l.toNat) z.cells.toList, .slice (some ⟨w.heap.size, 0, none⟩) l.toNat c.toNat, ?_, fun _ => rfl, fun o _ => by simp, ?_, VSL_p w L _, ?_, fun L' => ?_⟩
    · rw [← hsplit]
      exact Push.alloc w _
    · have hw1 : IntKind.i64.wrap l = l := wrap64_in (by omega) (by omega)
      have hw2 : IntKind.i64.wrap c = c := wrap64_in (by omega) (by omega)
      have hB : ¬ (281474976710656 : Int) < (b : Int) * c := by
        have e1 : (b : Int) * c = ((c.toNat * b : Nat) : Int) := by
          rw [Int.natCast_mul, Int.toNat_of_nonneg (by omega), Int.mul_comm]
        rw [e1]; omega
      have hA : ¬ c < 0 := by omega
      have hC : ¬ l < 0 := by omega
      have hD : ¬ c < l := by omega
      have hroom : ¬ roomBytes < c.toNat * b := by simp only [roomBytes]; omega
      have hmade := repl_made z c.toNat (by omega)
      rw [hzs] at hmade
      by_cases hc0 : c.toNat * sz = 0
      · have hcc : c.toNat = 0 := by rcases Nat.mul_eq_zero.1 hc0 with h | h <;> omega
        have hz0 : ∀ f : Nat → Value, Array.map f (Array.range 0) = #[] := fun f => by apply Array.ext'; simp
        simp [execOp, ex, ey, Instr.makeSlice, run_underlying hT, asInt, typeInfo, hz0, hi, his, hib, hw1, hw2, asIntOf, hA, hB, hC, hD, sizeOf, zeroValue, askRoom, hroom, newRow, hc0, hcc, repl]
      · simp [execOp, ex, ey, Instr.makeSlice, run_underlying hT, asInt, typeInfo, hi, hz, his, hib, hw1, hw2, asIntOf, hA, hB, hC, hD, sizeOf, zeroValue, askRoom, hroom, newRow, hc0, hzs, hmade]
    · intro v hv
      have hone := ones_cells ho (VSL_p w L z.cells.toList)
      have : ∀ n, ∀ v ∈ repl n z.cells.toList, v.oneCell' = true := by
        intro n
        induction n with
        | zero => intro v hv; simp [repl] at hv
        | succ n ih =>
          intro v hv
          rw [repl, List.mem_append] at hv
          rcases hv with hv | hv
          · exact hone v hv
          · exact ih v hv
      exact this _ v hv
    · simp only [VS]
      refine ⟨some ⟨w.heap.size, 0, none⟩, c.toNat, rfl, by omega, .inr ⟨rfl, (repl c.toNat z.cells.toList).toArray, e, (0, 0), ?_, ?_⟩⟩
      · rw [(Push.alloc w (.cells (repl c.toNat z.cells.toList).toArray e)).new]
      · simp [hlen]) K
end
end Go.Proofs.YtljgkjkdmoejfaaAv
