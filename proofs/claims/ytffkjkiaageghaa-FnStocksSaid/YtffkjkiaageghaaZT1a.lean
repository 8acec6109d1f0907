import Derived.Test.YtffkjkiaageghaaProg
import Derived.Test.YtffkjkiaageghaaZAwB
import Derived.Test.YtffkjkiaageghaaZAwC
set_option linter.unusedVariables false
set_option maxRecDepth 20000
namespace Go.Proofs.Ytffkjkiaageghaa
open Go.Aw
def ty : Ty := [
  (27, ⟨.f .f32, 1, 4, .float .f32 0⟩),
  (3, ⟨.i .i64, 1, 8, .int .i64 0⟩),
  (2, ⟨.i .i64, 1, 8, .int .i64 0⟩),
  (4, ⟨.b, 1, 1, .bool false⟩),
  (25, ⟨.sl 27, 1, 24, .slice none 0 0⟩),
  (26, ⟨.f .f64, 1, 8, .float .f64 0⟩),
  (5, ⟨.i .u8, 1, 1, .int .u8 0⟩),
  (21, ⟨.i .i32, 1, 4, .int .i32 0⟩),
  (22, ⟨.sl 5, 1, 24, .slice none 0 0⟩),
  (37, ⟨.sl 2, 1, 24, .slice none 0 0⟩),
  (51, ⟨.sl 25, 1, 24, .slice none 0 0⟩),
  (67, ⟨.ptr 92, 1, 8, .pointer none⟩),
  (71, ⟨.sl 3, 1, 24, .slice none 0 0⟩),
  (90, ⟨.i .u64, 1, 8, .int .u64 0⟩),
  (91, ⟨.st [(0, 1), (1, 1), (2, 1)], 3, 40, .agg #[.slice none 0 0, .int .i64 0, .int .u64 0]⟩),
  (92, ⟨.st [(0, 1), (1, 1), (2, 1)], 3, 40, .agg #[.slice none 0 0, .int .i64 0, .int .u64 0]⟩),
  (98, ⟨.i .u64, 1, 8, .int .u64 0⟩),
  (115, ⟨.i .u32, 1, 4, .int .u32 0⟩),
  (119, ⟨.ptr 5, 1, 8, .pointer none⟩)]
theorem tyOk : TyOk Try.prog ty :=
  ⟨⟨by kernel_rfl, by kernel_rfl⟩, ⟨⟨by kernel_rfl, by kernel_rfl⟩, ⟨⟨by kernel_rfl, by kernel_rfl⟩, ⟨⟨by kernel_rfl, by kernel_rfl⟩, ⟨⟨by kernel_rfl, by kernel_rfl⟩, ⟨⟨by kernel_rfl, by kernel_rfl⟩, ⟨⟨by kernel_rfl, by kernel_rfl⟩, ⟨⟨by kernel_rfl, by kernel_rfl⟩, ⟨⟨by kernel_rfl, by kernel_rfl⟩, ⟨⟨by kernel_rfl, by kernel_rfl⟩, ⟨⟨by kernel_rfl, by kernel_rfl⟩, ⟨⟨by kernel_rfl, by kernel_rfl⟩, ⟨⟨by kernel_rfl, by kernel_rfl⟩, ⟨⟨by kernel_rfl, by kernel_rfl⟩, ⟨⟨by kernel_rfl, by kernel_rfl⟩, ⟨⟨by kernel_rfl, by kernel_rfl⟩, ⟨⟨by kernel_rfl, by kernel_rfl⟩, ⟨⟨by kernel_rfl, by kernel_rfl⟩, ⟨⟨by kernel_rfl, by kernel_rfl⟩, trivial⟩⟩⟩⟩⟩⟩⟩⟩⟩⟩⟩⟩⟩⟩⟩⟩⟩⟩⟩

end Go.Proofs.Ytffkjkiaageghaa
