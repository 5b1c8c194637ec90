/-
  ABSTRACT VALUES over the model (own framework, part 11): from a row's arguments, as the statement reads them, to values that are told.
-/
import Derived.Test.YtljgkjkdmoejfaaAvSt
import Derived.OpenShut
import Derived.SliceStrings
import Derived.ChangeSlices
import Derived.SizedLaws
import Derived.Carry
set_option linter.unusedVariables false
set_option linter.unusedSimpArgs false
namespace Go.Proofs.YtljgkjkdmoejfaaAv
open Go Go.RowKit Go.ChangeShapes Go.WideShapes

theorem cells_strs_VSL (w : World) : ∀ l : List ByteArray, VSL noL w (l.map strAV) (l.map fun s => Value.string s)
  | [] => by simp [VSL]
  | s :: l => by simp only [List.map_cons, VSL, VS, strAV]; exact ⟨trivial, cells_strs_VSL w l⟩

theorem weightsAll_strs {H : Type} {P : Program} {e : TypeId} : ∀ {l : List ByteArray} {s : ByteArray}, s ∈ l → s.data.toList.length ∈ DataW.weightsAll (H := H) P e (strs l)
  | [], s, h => by cases h
  | x :: l, s, h => by
    rcases List.mem_cons.1 h with rfl | h
    · simp [strs, DataW.weightsAll, DataW.weights]
    · have := weightsAll_strs (H := H) (P := P) (e := e) h
      simp only [strs, List.map_cons, DataW.weightsAll, List.mem_append] at this ⊢
      exact .inr this

theorem open_strsAV {H : Type} {enc : TypeId × Value → H} {P : Program} {W : World} {t e : TypeId} {v : Value} {d : DataW H} {p : List MemPlace} {ts : List TypeId} {ds : List (DataW H)} {j : Nat}
    (ht : P.underlying t = some (.slice e)) (he : P.underlying e = some .string) (hc : P.cellsOf e = 1) (hb : P.bytesOf e = 16) (hv : ∃ a len cap, v = .slice a len cap)
    (h : DataW.Trod enc P W 0 (fun _ => true) true t v d p) (hsz : (DataW.weightsEach P ts ds).all (· ≤ reachBytes) = true) (htj : ts[j]? = some t) (hdj : ds[j]? = some d) :
    ∃ l : List ByteArray, VS noL W (strsAV l) v ∧ l.length ≤ 8796093022208 ∧ ∀ s ∈ l, s.size ≤ 140737488351232 := by
  obtain ⟨a0, len0, cap0, rfl⟩ := hv
  obtain ⟨fuel, hf⟩ := h
  rcases open_strings ht he hc hf with ⟨hcs, hx⟩ | ⟨a, len, cap, ss, hcs, _, hl, hm, hz, hx, hcell, hs⟩
  · refine ⟨[], ?_, by simp, by simp⟩
    simp [Value.cells] at hcs
    obtain ⟨rfl, rfl, rfl⟩ := hcs
    simp only [strsAV, VS, List.length_nil, List.map_nil]
    exact ⟨none, 0, [], rfl, Nat.le_refl _, .inl rfl, by simp [VSL]⟩
  · simp [Value.cells] at hcs
    obtain ⟨rfl, rfl, rfl⟩ := hcs
    simp only [Prod.mk.injEq] at hx
    obtain ⟨rfl, _⟩ := hx
    have hlen : ss.length = cap0 := by simpa using hz
    have hlt : (ss.take len0).length = len0 := by rw [List.length_take]; omega
    have hw := sized_slice hsz htj hdj ht
    have hwl : ∀ s ∈ ss.take len0, s.size ≤ 140737488351232 := by
      intro s hsm
      have hmem : s.data.toList.length ∈ DataW.weightsEach P ts ds := by
        refine DataW.weights_mem_each htj hdj _ ?_
        simp only [DataW.weights, ht, List.mem_cons, List.mem_append]
        exact .inr (.inl (weightsAll_strs hsm))
      have := List.all_eq_true.1 hsz _ hmem
      have e2 : s.data.toList.length = s.size := by rw [Array.length_toList]; rfl
      rw [e2] at this
      exact of_decide_eq_true this
    refine ⟨ss.take len0, ?_, ?_, hwl⟩
    · simp only [strsAV, VS, hlt]
      refine ⟨some a, cap0, (ss.take len0).map fun s => Value.string s, rfl, hl, .inr ⟨a, rfl, rfl, ?_, ?_⟩, cells_strs_VSL W _⟩
      · intro v hv
        obtain ⟨s, _, rfl⟩ := List.mem_map.1 hv
        rfl
      · intro i v hi
        rw [List.getElem?_map] at hi
        cases hg : (ss.take len0)[i]? with
        | none => rw [hg] at hi; cases hi
        | some s =>
          rw [hg] at hi
          obtain rfl := Option.some.inj hi
          have hi2 : i < (ss.take len0).length := (List.getElem?_eq_some_iff.1 hg).1
          have := hcell i (by omega)
          rw [this]
          rw [List.getElem?_take, if_pos (by omega)] at hg
          simp [List.getD_eq_getElem?_getD, hg]
    · rw [hlt]
      rw [hb] at hw
      simp only [strs, List.length_map, List.length_take, List.length_drop, reachBytes] at hw
      omega

def intsAV (l : List Int) : AV := .fz l.length (l.map intAV)
theorem cells_ints_VSL (w : World) : ∀ l : List Int, VSL noL w (l.map intAV) (l.map fun s => Value.int .i64 s)
  | [] => by simp [VSL]
  | s :: l => by simp only [List.map_cons, VSL, VS, intAV]; exact ⟨trivial, cells_ints_VSL w l⟩
theorem open_intsAV {H : Type} {enc : TypeId × Value → H} {P : Program} {W : World} {t e : TypeId} {v : Value} {d : DataW H} {p : List MemPlace}
    (ht : P.underlying t = some (.slice e)) (he : P.underlying e = some (.int .i64)) (hc : P.cellsOf e = 1) (hv : ∃ a len cap, v = .slice a len cap)
    (h : DataW.Trod enc P W 0 (fun _ => true) true t v d p) :
    ∃ l : List Int, VS noL W (intsAV l) v := by
  obtain ⟨a0, len0, cap0, rfl⟩ := hv
  obtain ⟨fuel, hf⟩ := h
  rcases Go.ChangeShapes.open_ints ht he hc hf with ⟨hcs, hx⟩ | ⟨a, len, cap, ss, hcs, _, hl, hm, hz, hx, hcell, hs⟩
  · refine ⟨[], ?_⟩
    simp [Value.cells] at hcs
    obtain ⟨rfl, rfl, rfl⟩ := hcs
    simp only [intsAV, VS, List.length_nil, List.map_nil]
    exact ⟨none, 0, [], rfl, Nat.le_refl _, .inl rfl, by simp [VSL]⟩
  · simp [Value.cells] at hcs
    obtain ⟨rfl, rfl, rfl⟩ := hcs
    have hlen : ss.length = cap0 := by simpa using hz
    have hlt : (ss.take len0).length = len0 := by rw [List.length_take]; omega
    refine ⟨ss.take len0, ?_⟩
    simp only [intsAV, VS, hlt]
    refine ⟨some a, cap0, (ss.take len0).map fun s => Value.int .i64 s, rfl, hl, .inr ⟨a, rfl, rfl, ?_, ?_⟩, cells_ints_VSL W _⟩
    · intro v hv
      obtain ⟨s, _, rfl⟩ := List.mem_map.1 hv
      rfl
    · intro i v hi
      rw [List.getElem?_map] at hi
      cases hg : (ss.take len0)[i]? with
      | none => rw [hg] at hi; cases hi
      | some s =>
        rw [hg] at hi
        obtain rfl := Option.some.inj hi
        have hi2 : i < (ss.take len0).length := (List.getElem?_eq_some_iff.1 hg).1
        have := hcell i (by omega)
        rw [this]
        rw [List.getElem?_take, if_pos (by omega)] at hg
        simp [List.getD_eq_getElem?_getD, hg]

theorem sizes_le {k : Nat} : ∀ {l : List ByteArray}, (∀ s ∈ l, s.size ≤ k) → (l.map (·.size)).sum ≤ l.length * k
  | [], _ => by simp
  | x :: l, h => by
    have h1 := h x (by simp)
    have h2 := sizes_le (l := l) (fun s hs => h s (List.mem_cons_of_mem _ hs))
    simp only [List.map_cons, List.sum_cons, List.length_cons, Nat.add_mul, Nat.one_mul]
    omega
end Go.Proofs.YtljgkjkdmoejfaaAv
