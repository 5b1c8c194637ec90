/- The law ResolveStops, in the row's words. -/
import Derived.Test.YtljgkjkdmoejfaaRsF
import Derived.Test.YtljgkjkdmoejfaaRsRowG
set_option linter.unusedVariables false
set_option linter.unusedSimpArgs false
namespace Go.Proofs.YtljgkjkdmoejfaaAv
open Go Go.RowKit
theorem resolveStops_J (L : GH) (a b : Int) (ha : (Lit.int .i64 a).wf = true) (hb : (Lit.int .i64 b).wf = true) : JF Try.prog 11 [intAV a, intAV b] L (fun v L' => v = boolAV true ∧ L' = L) := by
  refine law_J stops_ok (xs := [XI a, XI b]) (cs := _) rfl ?_ ?_ L
  · intro p hp
    simp only [List.mem_append, List.mem_cons, List.not_mem_nil, or_false, false_or] at hp
  · simp only [RVL]
    exact ⟨by simp [RV, intAV], by simp [RV, intAV], trivial⟩
end Go.Proofs.YtljgkjkdmoejfaaAv
