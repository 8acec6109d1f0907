import Derived.Test.YtodnginckchmdaaProg
import Derived.Test.YtodnginckchmdaaZAwB
import Derived.Test.YtodnginckchmdaaZAwC
set_option linter.unusedVariables false
set_option maxRecDepth 20000
namespace Go.Proofs.Ytodnginckchmdaa
open Go.Aw
def ty : Ty := [
  (40, ⟨.f .f32, 1, 4, .float .f32 0⟩),
  (3, ⟨.i .i64, 1, 8, .int .i64 0⟩),
  (2, ⟨.i .i64, 1, 8, .int .i64 0⟩),
  (4, ⟨.b, 1, 1, .bool false⟩),
  (22, ⟨.sl 40, 1, 24, .slice none 0 0⟩),
  (59, ⟨.f .f64, 1, 8, .float .f64 0⟩),
  (5, ⟨.i .u8, 1, 1, .int .u8 0⟩),
  (21, ⟨.i .i32, 1, 4, .int .i32 0⟩),
  (33, ⟨.sl 22, 1, 24, .slice none 0 0⟩),
  (41, ⟨.st [(0, 1), (1, 1), (2, 1), (3, 1)], 4, 40, .agg #[.float .f32 0, .float .f32 0, .slice none 0 0, .int .i64 0]⟩),
  (42, ⟨.st [(0, 1), (1, 1), (2, 1), (3, 1)], 4, 40, .agg #[.float .f32 0, .float .f32 0, .slice none 0 0, .int .i64 0]⟩),
  (43, ⟨.st [(0, 1), (1, 1), (2, 1), (3, 1)], 4, 16, .agg #[.float .f32 0, .float .f32 0, .float .f32 0, .float .f32 0]⟩),
  (44, ⟨.st [(0, 1), (1, 1), (2, 1), (3, 1)], 4, 16, .agg #[.float .f32 0, .float .f32 0, .float .f32 0, .float .f32 0]⟩),
  (47, ⟨.st [(0, 1), (1, 1), (2, 1), (3, 1)], 4, 40, .agg #[.float .f32 0, .float .f32 0, .slice none 0 0, .int .i64 0]⟩),
  (49, ⟨.st [(0, 1), (1, 1), (2, 1), (3, 1)], 4, 16, .agg #[.float .f32 0, .float .f32 0, .float .f32 0, .float .f32 0]⟩),
  (63, ⟨.sl 2, 1, 24, .slice none 0 0⟩),
  (79, ⟨.ptr 47, 1, 8, .pointer none⟩),
  (80, ⟨.ptr 49, 1, 8, .pointer none⟩),
  (90, ⟨.sl 3, 1, 24, .slice none 0 0⟩),
  (126, ⟨.i .u32, 1, 4, .int .u32 0⟩),
  (130, ⟨.ptr 5, 1, 8, .pointer none⟩)]
theorem tyOk : TyOk Try.prog ty :=
  ⟨⟨by kernel_rfl, by kernel_rfl⟩, ⟨⟨by kernel_rfl, by kernel_rfl⟩, ⟨⟨by kernel_rfl, by kernel_rfl⟩, ⟨⟨by kernel_rfl, by kernel_rfl⟩, ⟨⟨by kernel_rfl, by kernel_rfl⟩, ⟨⟨by kernel_rfl, by kernel_rfl⟩, ⟨⟨by kernel_rfl, by kernel_rfl⟩, ⟨⟨by kernel_rfl, by kernel_rfl⟩, ⟨⟨by kernel_rfl, by kernel_rfl⟩, ⟨⟨by kernel_rfl, by kernel_rfl⟩, ⟨⟨by kernel_rfl, by kernel_rfl⟩, ⟨⟨by kernel_rfl, by kernel_rfl⟩, ⟨⟨by kernel_rfl, by kernel_rfl⟩, ⟨⟨by kernel_rfl, by kernel_rfl⟩, ⟨⟨by kernel_rfl, by kernel_rfl⟩, ⟨⟨by kernel_rfl, by kernel_rfl⟩, ⟨⟨by kernel_rfl, by kernel_rfl⟩, ⟨⟨by kernel_rfl, by kernel_rfl⟩, ⟨⟨by kernel_rfl, by kernel_rfl⟩, ⟨⟨by kernel_rfl, by kernel_rfl⟩, ⟨⟨by kernel_rfl, by kernel_rfl⟩, trivial⟩⟩⟩⟩⟩⟩⟩⟩⟩⟩⟩⟩⟩⟩⟩⟩⟩⟩⟩⟩⟩

end Go.Proofs.Ytodnginckchmdaa
