/- What is asked of the types that the functions of package label use (this seat's numbers). -/
import Derived.Test.YtljgkjkdmoejfaaAvFz
import Derived.Test.YtljgkjkdmoejfaaProg
set_option linter.unusedVariables false
namespace Go.Proofs.YtljgkjkdmoejfaaAv
open Go Go.RowKit
theorem TI3 : TI Try.prog 3 (.int .i64 0) 1 8 := by unfold TI; kernel_rfl
theorem TI4 : TI Try.prog 4 (.bool false) 1 1 := by unfold TI; kernel_rfl
theorem TI5 : TI Try.prog 5 (.int .u8 0) 1 1 := by unfold TI; kernel_rfl
theorem TI9 : TI Try.prog 9 (.string ⟨#[]⟩) 1 16 := by unfold TI; kernel_rfl
theorem TI35 : TI Try.prog 35 (.slice none 0 0) 1 24 := by unfold TI; kernel_rfl
theorem TI36 : TI Try.prog 36 (.slice none 0 0) 1 24 := by unfold TI; kernel_rfl
theorem TI40 : TI Try.prog 40 (.slice none 0 0) 1 24 := by unfold TI; kernel_rfl
theorem TI42 : TI Try.prog 42 (.slice none 0 0) 1 24 := by unfold TI; kernel_rfl
theorem TI44 : TI Try.prog 44 (.agg #[.int .i64 0, .int .i64 0, .int .i64 0, .slice none 0 0]) 4 48 := by unfold TI; kernel_rfl
theorem TI54 : TI Try.prog 54 (.agg #[.bool false, .bool false, .bool false, .bool false, .bool false]) 5 5 := by unfold TI; kernel_rfl
theorem TI56 : TI Try.prog 56 (.agg #[.int .i64 0, .bool false, .bool false, .bool false, .bool false, .bool false]) 6 16 := by unfold TI; kernel_rfl
theorem TI59 : TI Try.prog 59 (.agg #[.slice none 0 0, .int .i64 0, .int .i64 0, .int .i64 0, .int .i64 0, .int .i64 0, .int .i64 0, .slice none 0 0, .int .i64 0, .int .i64 0, .int .i64 0, .slice none 0 0, .bool false]) 13 152 := by unfold TI; kernel_rfl
end Go.Proofs.YtljgkjkdmoejfaaAv
