import Derived.Test.YtjjpjnhjnpplcaaProg
import Derived.Test.YtjjpjnhjnpplcaaZAwB
import Derived.Test.YtjjpjnhjnpplcaaZAwC
set_option linter.unusedVariables false
set_option maxRecDepth 20000
namespace Go.Proofs.Ytjjpjnhjnpplcaa
open Go.Aw
def ty : Ty := [
  (29, ⟨.f .f32, 1, 4, .float .f32 0⟩),
  (3, ⟨.i .i64, 1, 8, .int .i64 0⟩),
  (2, ⟨.i .i64, 1, 8, .int .i64 0⟩),
  (4, ⟨.b, 1, 1, .bool false⟩),
  (27, ⟨.sl 29, 1, 24, .slice none 0 0⟩),
  (28, ⟨.f .f64, 1, 8, .float .f64 0⟩),
  (5, ⟨.i .u8, 1, 1, .int .u8 0⟩),
  (21, ⟨.i .i32, 1, 4, .int .i32 0⟩),
  (22, ⟨.sl 5, 1, 24, .slice none 0 0⟩),
  (25, ⟨.sl 2, 1, 24, .slice none 0 0⟩),
  (37, ⟨.st [(0, 1), (1, 1), (2, 1), (3, 1)], 4, 16, .agg #[.float .f32 0, .float .f32 0, .float .f32 0, .float .f32 0]⟩),
  (38, ⟨.st [(0, 1), (1, 1), (2, 1), (3, 1)], 4, 16, .agg #[.float .f32 0, .float .f32 0, .float .f32 0, .float .f32 0]⟩),
  (41, ⟨.sl 4, 1, 24, .slice none 0 0⟩),
  (53, ⟨.st [(0, 1), (1, 1), (2, 1), (3, 1)], 4, 96, .agg #[.slice none 0 0, .slice none 0 0, .slice none 0 0, .slice none 0 0]⟩),
  (54, ⟨.st [(0, 1), (1, 1), (2, 1), (3, 1)], 4, 96, .agg #[.slice none 0 0, .slice none 0 0, .slice none 0 0, .slice none 0 0]⟩),
  (61, ⟨.sl 27, 1, 24, .slice none 0 0⟩),
  (76, ⟨.st [(0, 1), (1, 1), (2, 1), (3, 1)], 4, 40, .agg #[.float .f32 0, .float .f32 0, .slice none 0 0, .int .i64 0]⟩),
  (77, ⟨.st [(0, 1), (1, 1), (2, 1), (3, 1)], 4, 40, .agg #[.float .f32 0, .float .f32 0, .slice none 0 0, .int .i64 0]⟩),
  (79, ⟨.st [(0, 1), (1, 1), (2, 1), (3, 1)], 4, 16, .agg #[.float .f32 0, .float .f32 0, .float .f32 0, .float .f32 0]⟩),
  (80, ⟨.st [(0, 1), (1, 1), (2, 1), (3, 1)], 4, 16, .agg #[.float .f32 0, .float .f32 0, .float .f32 0, .float .f32 0]⟩),
  (108, ⟨.st [(0, 1), (1, 1), (2, 1), (3, 1)], 4, 40, .agg #[.float .f32 0, .float .f32 0, .slice none 0 0, .int .i64 0]⟩),
  (109, ⟨.st [(0, 1), (1, 1), (2, 1), (3, 1)], 4, 16, .agg #[.float .f32 0, .float .f32 0, .float .f32 0, .float .f32 0]⟩),
  (123, ⟨.ptr 205, 1, 8, .pointer none⟩),
  (127, ⟨.sl 3, 1, 24, .slice none 0 0⟩),
  (142, ⟨.ptr 38, 1, 8, .pointer none⟩),
  (146, ⟨.ptr 54, 1, 8, .pointer none⟩),
  (149, ⟨.sl 127, 1, 24, .slice none 0 0⟩),
  (192, ⟨.ptr 77, 1, 8, .pointer none⟩),
  (193, ⟨.ptr 80, 1, 8, .pointer none⟩),
  (203, ⟨.i .u64, 1, 8, .int .u64 0⟩),
  (204, ⟨.st [(0, 1), (1, 1), (2, 1)], 3, 40, .agg #[.slice none 0 0, .int .i64 0, .int .u64 0]⟩),
  (205, ⟨.st [(0, 1), (1, 1), (2, 1)], 3, 40, .agg #[.slice none 0 0, .int .i64 0, .int .u64 0]⟩),
  (228, ⟨.i .u64, 1, 8, .int .u64 0⟩),
  (230, ⟨.i .u32, 1, 4, .int .u32 0⟩),
  (263, ⟨.ptr 5, 1, 8, .pointer none⟩)]
theorem tyOk : TyOk Try.prog ty :=
  ⟨⟨by kernel_rfl, by kernel_rfl⟩, ⟨⟨by kernel_rfl, by kernel_rfl⟩, ⟨⟨by kernel_rfl, by kernel_rfl⟩, ⟨⟨by kernel_rfl, by kernel_rfl⟩, ⟨⟨by kernel_rfl, by kernel_rfl⟩, ⟨⟨by kernel_rfl, by kernel_rfl⟩, ⟨⟨by kernel_rfl, by kernel_rfl⟩, ⟨⟨by kernel_rfl, by kernel_rfl⟩, ⟨⟨by kernel_rfl, by kernel_rfl⟩, ⟨⟨by kernel_rfl, by kernel_rfl⟩, ⟨⟨by kernel_rfl, by kernel_rfl⟩, ⟨⟨by kernel_rfl, by kernel_rfl⟩, ⟨⟨by kernel_rfl, by kernel_rfl⟩, ⟨⟨by kernel_rfl, by kernel_rfl⟩, ⟨⟨by kernel_rfl, by kernel_rfl⟩, ⟨⟨by kernel_rfl, by kernel_rfl⟩, ⟨⟨by kernel_rfl, by kernel_rfl⟩, ⟨⟨by kernel_rfl, by kernel_rfl⟩, ⟨⟨by kernel_rfl, by kernel_rfl⟩, ⟨⟨by kernel_rfl, by kernel_rfl⟩, ⟨⟨by kernel_rfl, by kernel_rfl⟩, ⟨⟨by kernel_rfl, by kernel_rfl⟩, ⟨⟨by kernel_rfl, by kernel_rfl⟩, ⟨⟨by kernel_rfl, by kernel_rfl⟩, ⟨⟨by kernel_rfl, by kernel_rfl⟩, ⟨⟨by kernel_rfl, by kernel_rfl⟩, ⟨⟨by kernel_rfl, by kernel_rfl⟩, ⟨⟨by kernel_rfl, by kernel_rfl⟩, ⟨⟨by kernel_rfl, by kernel_rfl⟩, ⟨⟨by kernel_rfl, by kernel_rfl⟩, ⟨⟨by kernel_rfl, by kernel_rfl⟩, ⟨⟨by kernel_rfl, by kernel_rfl⟩, ⟨⟨by kernel_rfl, by kernel_rfl⟩, ⟨⟨by kernel_rfl, by kernel_rfl⟩, ⟨⟨by kernel_rfl, by kernel_rfl⟩, trivial⟩⟩⟩⟩⟩⟩⟩⟩⟩⟩⟩⟩⟩⟩⟩⟩⟩⟩⟩⟩⟩⟩⟩⟩⟩⟩⟩⟩⟩⟩⟩⟩⟩⟩⟩

end Go.Proofs.Ytjjpjnhjnpplcaa
