import Derived.Test.YtjemogbfgkilcaaProg
import Derived.Test.YtjemogbfgkilcaaAwStep
import Derived.Test.YtjemogbfgkilcaaAwBits
set_option linter.unusedVariables false
set_option maxRecDepth 20000
namespace Go.Proofs.Ytjemogbfgkilcaa
open Go.Aw
def ty : Ty := [
  (22, ⟨.f .f32, 1, 4, .float .f32 0⟩),
  (3, ⟨.i .i64, 1, 8, .int .i64 0⟩),
  (2, ⟨.i .i64, 1, 8, .int .i64 0⟩),
  (4, ⟨.b, 1, 1, .bool false⟩),
  (31, ⟨.sl 22, 1, 24, .slice none 0 0⟩),
  (36, ⟨.f .f64, 1, 8, .float .f64 0⟩),
  (5, ⟨.i .u8, 1, 1, .int .u8 0⟩),
  (21, ⟨.i .i32, 1, 4, .int .i32 0⟩),
  (23, ⟨.st [(0, 1), (1, 1), (2, 1), (3, 1)], 4, 16, .agg #[.float .f32 0, .float .f32 0, .float .f32 0, .float .f32 0]⟩),
  (24, ⟨.st [(0, 1), (1, 1), (2, 1), (3, 1)], 4, 16, .agg #[.float .f32 0, .float .f32 0, .float .f32 0, .float .f32 0]⟩),
  (26, ⟨.st [(0, 1), (1, 1), (2, 1), (3, 1)], 4, 16, .agg #[.float .f32 0, .float .f32 0, .float .f32 0, .float .f32 0]⟩),
  (49, ⟨.sl 5, 1, 24, .slice none 0 0⟩),
  (52, ⟨.sl 2, 1, 24, .slice none 0 0⟩),
  (58, ⟨.st [(0, 1), (1, 1), (2, 1), (3, 1)], 4, 96, .agg #[.slice none 0 0, .slice none 0 0, .slice none 0 0, .slice none 0 0]⟩),
  (59, ⟨.st [(0, 1), (1, 1), (2, 1), (3, 1)], 4, 96, .agg #[.slice none 0 0, .slice none 0 0, .slice none 0 0, .slice none 0 0]⟩),
  (62, ⟨.st [(0, 1), (1, 1), (2, 1), (3, 1)], 4, 96, .agg #[.slice none 0 0, .slice none 0 0, .slice none 0 0, .slice none 0 0]⟩),
  (68, ⟨.ptr 26, 1, 8, .pointer none⟩),
  (77, ⟨.ptr 96, 1, 8, .pointer none⟩),
  (81, ⟨.sl 3, 1, 24, .slice none 0 0⟩),
  (94, ⟨.i .u64, 1, 8, .int .u64 0⟩),
  (95, ⟨.st [(0, 1), (1, 1), (2, 1)], 3, 40, .agg #[.slice none 0 0, .int .i64 0, .int .u64 0]⟩),
  (96, ⟨.st [(0, 1), (1, 1), (2, 1)], 3, 40, .agg #[.slice none 0 0, .int .i64 0, .int .u64 0]⟩),
  (101, ⟨.i .u32, 1, 4, .int .u32 0⟩),
  (105, ⟨.i .u64, 1, 8, .int .u64 0⟩),
  (116, ⟨.ptr 5, 1, 8, .pointer none⟩)]
theorem tyOk : TyOk Try.prog ty :=
  ⟨⟨by kernel_rfl, by kernel_rfl⟩, ⟨⟨by kernel_rfl, by kernel_rfl⟩, ⟨⟨by kernel_rfl, by kernel_rfl⟩, ⟨⟨by kernel_rfl, by kernel_rfl⟩, ⟨⟨by kernel_rfl, by kernel_rfl⟩, ⟨⟨by kernel_rfl, by kernel_rfl⟩, ⟨⟨by kernel_rfl, by kernel_rfl⟩, ⟨⟨by kernel_rfl, by kernel_rfl⟩, ⟨⟨by kernel_rfl, by kernel_rfl⟩, ⟨⟨by kernel_rfl, by kernel_rfl⟩, ⟨⟨by kernel_rfl, by kernel_rfl⟩, ⟨⟨by kernel_rfl, by kernel_rfl⟩, ⟨⟨by kernel_rfl, by kernel_rfl⟩, ⟨⟨by kernel_rfl, by kernel_rfl⟩, ⟨⟨by kernel_rfl, by kernel_rfl⟩, ⟨⟨by kernel_rfl, by kernel_rfl⟩, ⟨⟨by kernel_rfl, by kernel_rfl⟩, ⟨⟨by kernel_rfl, by kernel_rfl⟩, ⟨⟨by kernel_rfl, by kernel_rfl⟩, ⟨⟨by kernel_rfl, by kernel_rfl⟩, ⟨⟨by kernel_rfl, by kernel_rfl⟩, ⟨⟨by kernel_rfl, by kernel_rfl⟩, ⟨⟨by kernel_rfl, by kernel_rfl⟩, ⟨⟨by kernel_rfl, by kernel_rfl⟩, ⟨⟨by kernel_rfl, by kernel_rfl⟩, trivial⟩⟩⟩⟩⟩⟩⟩⟩⟩⟩⟩⟩⟩⟩⟩⟩⟩⟩⟩⟩⟩⟩⟩⟩⟩

end Go.Proofs.Ytjemogbfgkilcaa
