/- What is asked of the types that the functions of package label use (this seat's numbers). -/
import Derived.Test.YtljgkjkdmoejfaaAvFz
import Derived.Test.YtljgkjkdmoejfaaProg
set_option linter.unusedVariables false
namespace Go.Proofs.YtljgkjkdmoejfaaAv
open Go Go.RowKit
theorem TI3 : TI Try.prog 3 (.int .i64 0) 1 8 := by unfold TI; kernel_rfl
theorem TI4 : TI Try.prog 4 (.bool false) 1 1 := by unfold TI; kernel_rfl
theorem TI5 : TI Try.prog 5 (.int .u8 0) 1 1 := by unfold TI; kernel_rfl
theorem TI9 : TI Try.prog 9 (.string ⟨#[]⟩) 1 16 := by unfold TI; kernel_rfl
end Go.Proofs.YtljgkjkdmoejfaaAv
