import Derived.Test.YtmnpdipiffmnhaaProg
import Derived.Test.YtmnpdipiffmnhaaVAwB
import Derived.Test.YtmnpdipiffmnhaaVAwC
set_option linter.unusedVariables false
set_option maxRecDepth 20000
namespace Go.Proofs.Ytmnpdipiffmnhaa
open Go.Aw
def ty : Ty := [
  (30, ⟨.f .f32, 1, 4, .float .f32 0⟩),
  (3, ⟨.i .i64, 1, 8, .int .i64 0⟩),
  (2, ⟨.i .i64, 1, 8, .int .i64 0⟩),
  (4, ⟨.b, 1, 1, .bool false⟩),
  (24, ⟨.sl 30, 1, 24, .slice none 0 0⟩),
  (42, ⟨.f .f64, 1, 8, .float .f64 0⟩),
  (5, ⟨.i .u8, 1, 1, .int .u8 0⟩),
  (21, ⟨.i .i32, 1, 4, .int .i32 0⟩),
  (22, ⟨.sl 5, 1, 24, .slice none 0 0⟩),
  (25, ⟨.st [(0, 1), (1, 1), (2, 1), (3, 1)], 4, 96, .agg #[.slice none 0 0, .slice none 0 0, .slice none 0 0, .slice none 0 0]⟩),
  (26, ⟨.st [(0, 1), (1, 1), (2, 1), (3, 1)], 4, 96, .agg #[.slice none 0 0, .slice none 0 0, .slice none 0 0, .slice none 0 0]⟩),
  (33, ⟨.sl 2, 1, 24, .slice none 0 0⟩),
  (38, ⟨.sl 24, 1, 24, .slice none 0 0⟩),
  (64, ⟨.st [(0, 1), (1, 1), (2, 1), (3, 1)], 4, 40, .agg #[.float .f32 0, .float .f32 0, .slice none 0 0, .int .i64 0]⟩),
  (65, ⟨.st [(0, 1), (1, 1), (2, 1), (3, 1)], 4, 40, .agg #[.float .f32 0, .float .f32 0, .slice none 0 0, .int .i64 0]⟩),
  (66, ⟨.st [(0, 1), (1, 1), (2, 1), (3, 1)], 4, 16, .agg #[.float .f32 0, .float .f32 0, .float .f32 0, .float .f32 0]⟩),
  (67, ⟨.st [(0, 1), (1, 1), (2, 1), (3, 1)], 4, 16, .agg #[.float .f32 0, .float .f32 0, .float .f32 0, .float .f32 0]⟩),
  (70, ⟨.st [(0, 1), (1, 1), (2, 1), (3, 1)], 4, 40, .agg #[.float .f32 0, .float .f32 0, .slice none 0 0, .int .i64 0]⟩),
  (72, ⟨.st [(0, 1), (1, 1), (2, 1), (3, 1)], 4, 16, .agg #[.float .f32 0, .float .f32 0, .float .f32 0, .float .f32 0]⟩),
  (88, ⟨.ptr 156, 1, 8, .pointer none⟩),
  (93, ⟨.ptr 26, 1, 8, .pointer none⟩),
  (101, ⟨.sl 102, 1, 24, .slice none 0 0⟩),
  (102, ⟨.sl 3, 1, 24, .slice none 0 0⟩),
  (135, ⟨.ptr 70, 1, 8, .pointer none⟩),
  (136, ⟨.ptr 72, 1, 8, .pointer none⟩),
  (154, ⟨.i .u64, 1, 8, .int .u64 0⟩),
  (155, ⟨.st [(0, 1), (1, 1), (2, 1)], 3, 40, .agg #[.slice none 0 0, .int .i64 0, .int .u64 0]⟩),
  (156, ⟨.st [(0, 1), (1, 1), (2, 1)], 3, 40, .agg #[.slice none 0 0, .int .i64 0, .int .u64 0]⟩),
  (182, ⟨.i .u32, 1, 4, .int .u32 0⟩),
  (185, ⟨.i .u64, 1, 8, .int .u64 0⟩),
  (215, ⟨.ptr 5, 1, 8, .pointer none⟩)]
theorem tyOk : TyOk Try.prog ty :=
  ⟨⟨by kernel_rfl, by kernel_rfl⟩, ⟨⟨by kernel_rfl, by kernel_rfl⟩, ⟨⟨by kernel_rfl, by kernel_rfl⟩, ⟨⟨by kernel_rfl, by kernel_rfl⟩, ⟨⟨by kernel_rfl, by kernel_rfl⟩, ⟨⟨by kernel_rfl, by kernel_rfl⟩, ⟨⟨by kernel_rfl, by kernel_rfl⟩, ⟨⟨by kernel_rfl, by kernel_rfl⟩, ⟨⟨by kernel_rfl, by kernel_rfl⟩, ⟨⟨by kernel_rfl, by kernel_rfl⟩, ⟨⟨by kernel_rfl, by kernel_rfl⟩, ⟨⟨by kernel_rfl, by kernel_rfl⟩, ⟨⟨by kernel_rfl, by kernel_rfl⟩, ⟨⟨by kernel_rfl, by kernel_rfl⟩, ⟨⟨by kernel_rfl, by kernel_rfl⟩, ⟨⟨by kernel_rfl, by kernel_rfl⟩, ⟨⟨by kernel_rfl, by kernel_rfl⟩, ⟨⟨by kernel_rfl, by kernel_rfl⟩, ⟨⟨by kernel_rfl, by kernel_rfl⟩, ⟨⟨by kernel_rfl, by kernel_rfl⟩, ⟨⟨by kernel_rfl, by kernel_rfl⟩, ⟨⟨by kernel_rfl, by kernel_rfl⟩, ⟨⟨by kernel_rfl, by kernel_rfl⟩, ⟨⟨by kernel_rfl, by kernel_rfl⟩, ⟨⟨by kernel_rfl, by kernel_rfl⟩, ⟨⟨by kernel_rfl, by kernel_rfl⟩, ⟨⟨by kernel_rfl, by kernel_rfl⟩, ⟨⟨by kernel_rfl, by kernel_rfl⟩, ⟨⟨by kernel_rfl, by kernel_rfl⟩, ⟨⟨by kernel_rfl, by kernel_rfl⟩, ⟨⟨by kernel_rfl, by kernel_rfl⟩, trivial⟩⟩⟩⟩⟩⟩⟩⟩⟩⟩⟩⟩⟩⟩⟩⟩⟩⟩⟩⟩⟩⟩⟩⟩⟩⟩⟩⟩⟩⟩⟩

end Go.Proofs.Ytmnpdipiffmnhaa

