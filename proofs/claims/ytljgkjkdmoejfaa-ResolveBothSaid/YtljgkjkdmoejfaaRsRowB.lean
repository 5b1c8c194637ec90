/- The law ResolveBoth, in the row's words. -/
import Derived.Test.YtljgkjkdmoejfaaRsG
import Derived.Test.YtljgkjkdmoejfaaRsRowG
set_option linter.unusedVariables false
set_option linter.unusedSimpArgs false
namespace Go.Proofs.YtljgkjkdmoejfaaAv
open Go Go.RowKit
theorem resolveBoth_J (L : GH) (a b c : Int) (ha : (Lit.int .i64 a).wf = true) (hb : (Lit.int .i64 b).wf = true) (hc : (Lit.int .i64 c).wf = true) : JF Try.prog 10 [intAV a, intAV b, intAV c] L (fun v L' => v = boolAV true ∧ L' = L) := by
  refine law_J rb_ok (xs := [XI a, XI b, XI c]) (cs := _) rfl ?_ ?_ L
  · intro p hp
    simp only [List.mem_append, List.mem_cons, List.not_mem_nil, or_false, false_or] at hp
  · simp only [RVL]
    exact ⟨by simp [RV, intAV], by simp [RV, intAV], by simp [RV, intAV], trivial⟩
end Go.Proofs.YtljgkjkdmoejfaaAv
