/- order's laws, in the rows' words (2); what the listed variables hold. -/
import Derived.Test.YtihplidgomjoeaaDoorRows
import Derived.Test.YtihplidgomjoeaaDoorOrJ
import Derived.Test.YtihplidgomjoeaaDoorRsRowG
import Derived.Test.YtihplidgomjoeaaDoorAvCard
set_option linter.unusedVariables false
set_option linter.unusedSimpArgs false
set_option maxRecDepth 100000
namespace Go.Proofs.YtihplidgomjoeaaDoorAv
open Go Go.RowKit
theorem strs_cells (l : List ByteArray) : ∀ v ∈ l.map Value.string, (∃ k n, v = .int k n) ∨ ∃ s, v = .string s := fun v hv => by
  obtain ⟨s, _, rfl⟩ := List.mem_map.1 hv
  exact .inr ⟨s, rfl⟩
theorem glb_ok {W : World} (hL : laidMetH Tryd.prog YtihplidgomjoeaaDoor.Rows.orderBracketsRow.laid W) (hs : W.ShapedOpen Tryd.prog) : Glb noL W := by
  intro g vs hm
  simp only [glbT, List.mem_cons, List.not_mem_nil, or_false, Prod.mk.injEq] at hm
  rcases hm with ⟨rfl, rfl⟩ | ⟨rfl, rfl⟩ | ⟨rfl, rfl⟩
  · exact glb_row (t := 46) (e := 9) (n := 3) hL "nomenclator/order.kinds" ([⟨#[102, 105, 108, 101, 115]⟩, ⟨#[100, 110, 115]⟩, ⟨#[108, 108, 109, 110, 114]⟩].map Value.string) (.tail _ (.head _)) (by kernel_rfl) (by kernel_rfl) Tryd.underlying46 (.inr Tryd.underlying9) (by kernel_rfl) (by kernel_rfl) (strs_cells _) (by decide)
  · exact glb_row (t := 48) (e := 9) (n := 4) hL "nomenclator/order.outcomes" ([⟨#[83, 85, 67, 67, 69, 83, 83]⟩, ⟨#[78, 79, 84, 70, 79, 85, 78, 68]⟩, ⟨#[85, 78, 65, 86, 65, 73, 76]⟩, ⟨#[84, 82, 89, 65, 71, 65, 73, 78]⟩].map Value.string) (.tail _ (.tail _ (.head _))) (by kernel_rfl) (by kernel_rfl) Tryd.underlying48 (.inr Tryd.underlying9) (by kernel_rfl) (by kernel_rfl) (strs_cells _) (by decide)
  · exact glb_int (Go.Proofs.cell_of_shapedOpen_int (zero := #[.int .i64 0]) (t := 3) hs (of_decide_eq_true (by kernel_rfl)) (by kernel_rfl) rfl (by kernel_rfl) (by kernel_rfl) Tryd.underlying3)
theorem orderActions_J (L : GH) (a : Int) (b : Int) (ha : (Lit.int .i64 a).wf = true) (hb : (Lit.int .i64 b).wf = true) : JF Tryd.prog 3 [intAV a, intAV b] L (fun v L' => v = boolAV true ∧ L' = L) := by
  refine law_J ac_ok (xs := [XI a, XI b]) (cs := _) rfl ?_ ?_ L
  · intro p hp
    simp only [List.mem_append, List.mem_cons, List.not_mem_nil, or_false, false_or] at hp
    try rcases hp with rfl <;> exact fun _ _ => rfl
  · simp only [RVL]
    exact ⟨by simp [RV, intAV], by simp [RV, intAV], trivial⟩
theorem orderPlain_J (L : GH) (a : List Int)  : JF Tryd.prog 4 [intsAV a] L (fun v L' => v = boolAV true ∧ L' = L) := by
  refine law_J pl_ok (xs := [sqX 1 (fun s => [XI s]) (Sq.ofList a 0)]) (cs := _) rfl ?_ ?_ L
  · intro p hp
    simp only [List.mem_append, List.mem_cons, List.not_mem_nil, or_false, false_or] at hp
    try rcases hp with rfl <;> exact fun _ _ => rfl
  · simp only [RVL]
    exact ⟨ints_rv _ a, trivial⟩
theorem orderSpaces_J (L : GH) (a : List Int)  : JF Tryd.prog 6 [intsAV a] L (fun v L' => v = boolAV true ∧ L' = L) := by
  refine law_J sp_ok (xs := [sqX 1 (fun s => [XI s]) (Sq.ofList a 0)]) (cs := _) rfl ?_ ?_ L
  · intro p hp
    simp only [List.mem_append, List.mem_cons, List.not_mem_nil, or_false, false_or] at hp
    try rcases hp with rfl <;> exact fun _ _ => rfl
  · simp only [RVL]
    exact ⟨ints_rv _ a, trivial⟩
theorem orderBack_J (L : GH) (a : ByteArray) (ha : a.size ≤ 140737488351232) : JF Tryd.prog 7 [strAV a] L (fun v L' => v = boolAV true ∧ L' = L) := by
  refine law_J bk_ok (xs := [XT a]) (cs := _) rfl ?_ ?_ L
  · intro p hp
    simp only [List.mem_append, List.mem_cons, List.not_mem_nil, or_false, false_or] at hp
    try rcases hp with rfl <;> exact fun _ _ => rfl
  · simp only [RVL]
    exact ⟨by simp [RV, strAV], trivial⟩
theorem orderMany_J (L : GH) (a : Int) (b : Int) (ha : (Lit.int .i64 a).wf = true) (hb : (Lit.int .i64 b).wf = true) : JF Tryd.prog 8 [intAV a, intAV b] L (fun v L' => v = boolAV true ∧ L' = L) := by
  refine law_J man_ok (xs := [XI a, XI b]) (cs := _) rfl ?_ ?_ L
  · intro p hp
    simp only [List.mem_append, List.mem_cons, List.not_mem_nil, or_false, false_or] at hp
    try rcases hp with rfl <;> exact fun _ _ => rfl
  · simp only [RVL]
    exact ⟨by simp [RV, intAV], by simp [RV, intAV], trivial⟩
end Go.Proofs.YtihplidgomjoeaaDoorAv
