import Derived.Test.YtpdnjcblkjjegaaProg
import Derived.Test.YtpdnjcblkjjegaaVAwB
import Derived.Test.YtpdnjcblkjjegaaVAwC
set_option linter.unusedVariables false
set_option maxRecDepth 20000
namespace Go.Proofs.Ytpdnjcblkjjegaa
open Go.Aw
def ty : Ty := [
  (30, ⟨.f .f32, 1, 4, .float .f32 0⟩),
  (3, ⟨.i .i64, 1, 8, .int .i64 0⟩),
  (2, ⟨.i .i64, 1, 8, .int .i64 0⟩),
  (4, ⟨.b, 1, 1, .bool false⟩),
  (24, ⟨.sl 30, 1, 24, .slice none 0 0⟩),
  (42, ⟨.f .f64, 1, 8, .float .f64 0⟩),
  (5, ⟨.i .u8, 1, 1, .int .u8 0⟩),
  (21, ⟨.i .i32, 1, 4, .int .i32 0⟩),
  (22, ⟨.sl 5, 1, 24, .slice none 0 0⟩),
  (25, ⟨.st [(0, 1), (1, 1), (2, 1), (3, 1)], 4, 96, .agg #[.slice none 0 0, .slice none 0 0, .slice none 0 0, .slice none 0 0]⟩),
  (26, ⟨.st [(0, 1), (1, 1), (2, 1), (3, 1)], 4, 96, .agg #[.slice none 0 0, .slice none 0 0, .slice none 0 0, .slice none 0 0]⟩),
  (33, ⟨.sl 2, 1, 24, .slice none 0 0⟩),
  (38, ⟨.sl 24, 1, 24, .slice none 0 0⟩),
  (51, ⟨.ptr 89, 1, 8, .pointer none⟩),
  (56, ⟨.ptr 26, 1, 8, .pointer none⟩),
  (64, ⟨.sl 65, 1, 24, .slice none 0 0⟩),
  (65, ⟨.sl 3, 1, 24, .slice none 0 0⟩),
  (87, ⟨.i .u64, 1, 8, .int .u64 0⟩),
  (88, ⟨.st [(0, 1), (1, 1), (2, 1)], 3, 40, .agg #[.slice none 0 0, .int .i64 0, .int .u64 0]⟩),
  (89, ⟨.st [(0, 1), (1, 1), (2, 1)], 3, 40, .agg #[.slice none 0 0, .int .i64 0, .int .u64 0]⟩),
  (111, ⟨.i .u32, 1, 4, .int .u32 0⟩),
  (118, ⟨.i .u64, 1, 8, .int .u64 0⟩),
  (137, ⟨.ptr 5, 1, 8, .pointer none⟩)]
theorem tyOk : TyOk Try.prog ty :=
  ⟨⟨by kernel_rfl, by kernel_rfl⟩, ⟨⟨by kernel_rfl, by kernel_rfl⟩, ⟨⟨by kernel_rfl, by kernel_rfl⟩, ⟨⟨by kernel_rfl, by kernel_rfl⟩, ⟨⟨by kernel_rfl, by kernel_rfl⟩, ⟨⟨by kernel_rfl, by kernel_rfl⟩, ⟨⟨by kernel_rfl, by kernel_rfl⟩, ⟨⟨by kernel_rfl, by kernel_rfl⟩, ⟨⟨by kernel_rfl, by kernel_rfl⟩, ⟨⟨by kernel_rfl, by kernel_rfl⟩, ⟨⟨by kernel_rfl, by kernel_rfl⟩, ⟨⟨by kernel_rfl, by kernel_rfl⟩, ⟨⟨by kernel_rfl, by kernel_rfl⟩, ⟨⟨by kernel_rfl, by kernel_rfl⟩, ⟨⟨by kernel_rfl, by kernel_rfl⟩, ⟨⟨by kernel_rfl, by kernel_rfl⟩, ⟨⟨by kernel_rfl, by kernel_rfl⟩, ⟨⟨by kernel_rfl, by kernel_rfl⟩, ⟨⟨by kernel_rfl, by kernel_rfl⟩, ⟨⟨by kernel_rfl, by kernel_rfl⟩, ⟨⟨by kernel_rfl, by kernel_rfl⟩, ⟨⟨by kernel_rfl, by kernel_rfl⟩, ⟨⟨by kernel_rfl, by kernel_rfl⟩, trivial⟩⟩⟩⟩⟩⟩⟩⟩⟩⟩⟩⟩⟩⟩⟩⟩⟩⟩⟩⟩⟩⟩⟩

end Go.Proofs.Ytpdnjcblkjjegaa

