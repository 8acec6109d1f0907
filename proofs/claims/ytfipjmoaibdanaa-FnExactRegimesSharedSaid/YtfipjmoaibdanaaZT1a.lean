import Derived.Test.YtfipjmoaibdanaaProg
import Derived.Test.YtfipjmoaibdanaaZAwB
import Derived.Test.YtfipjmoaibdanaaZAwC
set_option linter.unusedVariables false
set_option maxRecDepth 20000
namespace Go.Proofs.Ytfipjmoaibdanaa
open Go.Aw
def ty : Ty := [
  (23, ⟨.f .f32, 1, 4, .float .f32 0⟩),
  (3, ⟨.i .i64, 1, 8, .int .i64 0⟩),
  (2, ⟨.i .i64, 1, 8, .int .i64 0⟩),
  (4, ⟨.b, 1, 1, .bool false⟩),
  (22, ⟨.sl 23, 1, 24, .slice none 0 0⟩),
  (49, ⟨.f .f64, 1, 8, .float .f64 0⟩),
  (5, ⟨.i .u8, 1, 1, .int .u8 0⟩),
  (21, ⟨.i .i32, 1, 4, .int .i32 0⟩),
  (30, ⟨.st [(0, 1), (1, 1), (2, 1), (3, 1)], 4, 96, .agg #[.slice none 0 0, .slice none 0 0, .slice none 0 0, .slice none 0 0]⟩),
  (31, ⟨.st [(0, 1), (1, 1), (2, 1), (3, 1)], 4, 96, .agg #[.slice none 0 0, .slice none 0 0, .slice none 0 0, .slice none 0 0]⟩),
  (34, ⟨.st [(0, 1), (1, 1), (2, 1), (3, 1)], 4, 96, .agg #[.slice none 0 0, .slice none 0 0, .slice none 0 0, .slice none 0 0]⟩),
  (38, ⟨.sl 22, 1, 24, .slice none 0 0⟩),
  (51, ⟨.st [(0, 1), (1, 1), (2, 1), (3, 1)], 4, 16, .agg #[.float .f32 0, .float .f32 0, .float .f32 0, .float .f32 0]⟩),
  (52, ⟨.st [(0, 1), (1, 1), (2, 1), (3, 1)], 4, 16, .agg #[.float .f32 0, .float .f32 0, .float .f32 0, .float .f32 0]⟩),
  (75, ⟨.ptr 34, 1, 8, .pointer none⟩),
  (86, ⟨.st [(0, 1), (1, 1), (2, 1), (3, 1)], 4, 40, .agg #[.float .f32 0, .float .f32 0, .slice none 0 0, .int .i64 0]⟩),
  (87, ⟨.st [(0, 1), (1, 1), (2, 1), (3, 1)], 4, 40, .agg #[.float .f32 0, .float .f32 0, .slice none 0 0, .int .i64 0]⟩),
  (92, ⟨.ptr 87, 1, 8, .pointer none⟩),
  (93, ⟨.ptr 52, 1, 8, .pointer none⟩),
  (125, ⟨.i .u64, 1, 8, .int .u64 0⟩),
  (151, ⟨.i .u64, 1, 8, .int .u64 0⟩),
  (154, ⟨.i .u32, 1, 4, .int .u32 0⟩),
  (169, ⟨.ptr 5, 1, 8, .pointer none⟩)]
theorem tyOk : TyOk Try.prog ty :=
  ⟨⟨by kernel_rfl, by kernel_rfl⟩, ⟨⟨by kernel_rfl, by kernel_rfl⟩, ⟨⟨by kernel_rfl, by kernel_rfl⟩, ⟨⟨by kernel_rfl, by kernel_rfl⟩, ⟨⟨by kernel_rfl, by kernel_rfl⟩, ⟨⟨by kernel_rfl, by kernel_rfl⟩, ⟨⟨by kernel_rfl, by kernel_rfl⟩, ⟨⟨by kernel_rfl, by kernel_rfl⟩, ⟨⟨by kernel_rfl, by kernel_rfl⟩, ⟨⟨by kernel_rfl, by kernel_rfl⟩, ⟨⟨by kernel_rfl, by kernel_rfl⟩, ⟨⟨by kernel_rfl, by kernel_rfl⟩, ⟨⟨by kernel_rfl, by kernel_rfl⟩, ⟨⟨by kernel_rfl, by kernel_rfl⟩, ⟨⟨by kernel_rfl, by kernel_rfl⟩, ⟨⟨by kernel_rfl, by kernel_rfl⟩, ⟨⟨by kernel_rfl, by kernel_rfl⟩, ⟨⟨by kernel_rfl, by kernel_rfl⟩, ⟨⟨by kernel_rfl, by kernel_rfl⟩, ⟨⟨by kernel_rfl, by kernel_rfl⟩, ⟨⟨by kernel_rfl, by kernel_rfl⟩, ⟨⟨by kernel_rfl, by kernel_rfl⟩, ⟨⟨by kernel_rfl, by kernel_rfl⟩, trivial⟩⟩⟩⟩⟩⟩⟩⟩⟩⟩⟩⟩⟩⟩⟩⟩⟩⟩⟩⟩⟩⟩⟩

end Go.Proofs.Ytfipjmoaibdanaa
