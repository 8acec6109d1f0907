import Derived.Test.YtcgimnafomnjcaaProg
import Derived.Test.YtcgimnafomnjcaaZAwB
import Derived.Test.YtcgimnafomnjcaaZAwC
set_option linter.unusedVariables false
set_option maxRecDepth 20000
namespace Go.Proofs.Ytcgimnafomnjcaa
open Go.Aw
def ty : Ty := [
  (27, ⟨.f .f32, 1, 4, .float .f32 0⟩),
  (3, ⟨.i .i64, 1, 8, .int .i64 0⟩),
  (2, ⟨.i .i64, 1, 8, .int .i64 0⟩),
  (4, ⟨.b, 1, 1, .bool false⟩),
  (25, ⟨.sl 27, 1, 24, .slice none 0 0⟩),
  (42, ⟨.f .f64, 1, 8, .float .f64 0⟩),
  (5, ⟨.i .u8, 1, 1, .int .u8 0⟩),
  (21, ⟨.i .i32, 1, 4, .int .i32 0⟩),
  (22, ⟨.sl 5, 1, 24, .slice none 0 0⟩),
  (28, ⟨.st [(0, 1), (1, 1), (2, 1), (3, 1)], 4, 40, .agg #[.float .f32 0, .float .f32 0, .slice none 0 0, .int .i64 0]⟩),
  (29, ⟨.st [(0, 1), (1, 1), (2, 1), (3, 1)], 4, 40, .agg #[.float .f32 0, .float .f32 0, .slice none 0 0, .int .i64 0]⟩),
  (31, ⟨.st [(0, 1), (1, 1), (2, 1), (3, 1)], 4, 16, .agg #[.float .f32 0, .float .f32 0, .float .f32 0, .float .f32 0]⟩),
  (32, ⟨.st [(0, 1), (1, 1), (2, 1), (3, 1)], 4, 16, .agg #[.float .f32 0, .float .f32 0, .float .f32 0, .float .f32 0]⟩),
  (53, ⟨.sl 25, 1, 24, .slice none 0 0⟩),
  (54, ⟨.st [(0, 1), (1, 1), (2, 1), (3, 1)], 4, 96, .agg #[.slice none 0 0, .slice none 0 0, .slice none 0 0, .slice none 0 0]⟩),
  (55, ⟨.st [(0, 1), (1, 1), (2, 1), (3, 1)], 4, 96, .agg #[.slice none 0 0, .slice none 0 0, .slice none 0 0, .slice none 0 0]⟩),
  (59, ⟨.sl 2, 1, 24, .slice none 0 0⟩),
  (86, ⟨.st [(0, 1), (1, 1), (2, 1), (3, 1)], 4, 40, .agg #[.float .f32 0, .float .f32 0, .slice none 0 0, .int .i64 0]⟩),
  (87, ⟨.st [(0, 1), (1, 1), (2, 1), (3, 1)], 4, 16, .agg #[.float .f32 0, .float .f32 0, .float .f32 0, .float .f32 0]⟩),
  (101, ⟨.ptr 171, 1, 8, .pointer none⟩),
  (124, ⟨.ptr 55, 1, 8, .pointer none⟩),
  (130, ⟨.sl 131, 1, 24, .slice none 0 0⟩),
  (131, ⟨.sl 3, 1, 24, .slice none 0 0⟩),
  (158, ⟨.ptr 29, 1, 8, .pointer none⟩),
  (159, ⟨.ptr 32, 1, 8, .pointer none⟩),
  (169, ⟨.i .u64, 1, 8, .int .u64 0⟩),
  (170, ⟨.st [(0, 1), (1, 1), (2, 1)], 3, 40, .agg #[.slice none 0 0, .int .i64 0, .int .u64 0]⟩),
  (171, ⟨.st [(0, 1), (1, 1), (2, 1)], 3, 40, .agg #[.slice none 0 0, .int .i64 0, .int .u64 0]⟩),
  (194, ⟨.i .u32, 1, 4, .int .u32 0⟩),
  (197, ⟨.i .u64, 1, 8, .int .u64 0⟩),
  (227, ⟨.ptr 5, 1, 8, .pointer none⟩)]
theorem tyOk : TyOk Try.prog ty :=
  ⟨⟨by kernel_rfl, by kernel_rfl⟩, ⟨⟨by kernel_rfl, by kernel_rfl⟩, ⟨⟨by kernel_rfl, by kernel_rfl⟩, ⟨⟨by kernel_rfl, by kernel_rfl⟩, ⟨⟨by kernel_rfl, by kernel_rfl⟩, ⟨⟨by kernel_rfl, by kernel_rfl⟩, ⟨⟨by kernel_rfl, by kernel_rfl⟩, ⟨⟨by kernel_rfl, by kernel_rfl⟩, ⟨⟨by kernel_rfl, by kernel_rfl⟩, ⟨⟨by kernel_rfl, by kernel_rfl⟩, ⟨⟨by kernel_rfl, by kernel_rfl⟩, ⟨⟨by kernel_rfl, by kernel_rfl⟩, ⟨⟨by kernel_rfl, by kernel_rfl⟩, ⟨⟨by kernel_rfl, by kernel_rfl⟩, ⟨⟨by kernel_rfl, by kernel_rfl⟩, ⟨⟨by kernel_rfl, by kernel_rfl⟩, ⟨⟨by kernel_rfl, by kernel_rfl⟩, ⟨⟨by kernel_rfl, by kernel_rfl⟩, ⟨⟨by kernel_rfl, by kernel_rfl⟩, ⟨⟨by kernel_rfl, by kernel_rfl⟩, ⟨⟨by kernel_rfl, by kernel_rfl⟩, ⟨⟨by kernel_rfl, by kernel_rfl⟩, ⟨⟨by kernel_rfl, by kernel_rfl⟩, ⟨⟨by kernel_rfl, by kernel_rfl⟩, ⟨⟨by kernel_rfl, by kernel_rfl⟩, ⟨⟨by kernel_rfl, by kernel_rfl⟩, ⟨⟨by kernel_rfl, by kernel_rfl⟩, ⟨⟨by kernel_rfl, by kernel_rfl⟩, ⟨⟨by kernel_rfl, by kernel_rfl⟩, ⟨⟨by kernel_rfl, by kernel_rfl⟩, ⟨⟨by kernel_rfl, by kernel_rfl⟩, trivial⟩⟩⟩⟩⟩⟩⟩⟩⟩⟩⟩⟩⟩⟩⟩⟩⟩⟩⟩⟩⟩⟩⟩⟩⟩⟩⟩⟩⟩⟩⟩

end Go.Proofs.Ytcgimnafomnjcaa

