/- A world in which the listed tables of the library lie as the rows list them: the witness of the rows. -/
import Derived.Test.YtkcemdfhhdjdaaaDoorRows
import Derived.Handed
import Derived.LaidLaws
import Derived.LaidHandle
import Derived.KernelRfl
import Derived.RowKit
namespace Go.Proofs.YtkcemdfhhdjdaaaDoor.Laid
open Go Go.RowKit
def c_laid_math_bits_deBruijn32tab : Array Value := ([0, 1, 28, 2, 29, 14, 24, 3, 30, 22, 20, 15, 25, 17, 4, 8, 31, 27, 13, 23, 21, 19, 16, 7, 26, 12, 18, 6, 11, 5, 10, 9].map fun (n : Nat) => Value.int .u8 (n : Int)).toArray
def c_laid_math_bits_deBruijn64tab : Array Value := ([0, 1, 56, 2, 57, 49, 28, 3, 61, 58, 42, 50, 38, 29, 17, 4, 62, 47, 59, 36, 45, 43, 51, 22, 53, 39, 33, 30, 24, 18, 12, 5, 63, 55, 48, 27, 60, 41, 37, 16, 46, 35, 44, 21, 52, 32, 23, 11, 54, 26, 40, 15, 34, 20, 31, 10, 25, 14, 19, 9, 13, 8, 7, 6].map fun (n : Nat) => Value.int .u8 (n : Int)).toArray
def c_laid_internal_strconv_uint64pow10 : Array Value := ([1, 10, 100, 1000, 10000, 100000, 1000000, 10000000, 100000000, 1000000000, 10000000000, 100000000000, 1000000000000, 10000000000000, 100000000000000, 1000000000000000, 10000000000000000, 100000000000000000, 1000000000000000000, 10000000000000000000].map fun (n : Nat) => Value.int .u64 (n : Int)).toArray
def c_laid_unicode_utf8_acceptRanges : Array Value := ([128, 191, 160, 191, 128, 159, 144, 191, 128, 143, 0, 0, 0, 0, 0, 0, 0, 0, 0, 0, 0, 0, 0, 0, 0, 0, 0, 0, 0, 0, 0, 0].map fun (n : Nat) => Value.int .u8 (n : Int)).toArray
def c_laid_unicode_utf8_first : Array Value := (Go.Pinned.utf8FirstZ.map fun (n : Nat) => Value.int .u8 (n : Int)).toArray
noncomputable def laidWorld (os : Os) : World :=
  let w0 := World.holding Tryd.prog os ⟨#[], #[], []⟩
  { w0 with heap := (((((w0.heap.modify 4 fun
      | .cells _ t frozen => .cells c_laid_math_bits_deBruijn32tab t frozen
      | o => o).modify 5 fun
      | .cells _ t frozen => .cells c_laid_math_bits_deBruijn64tab t frozen
      | o => o).modify 3 fun
      | .cells _ t frozen => .cells c_laid_internal_strconv_uint64pow10 t frozen
      | o => o).modify 2 fun
      | .cells _ t frozen => .cells c_laid_unicode_utf8_acceptRanges t frozen
      | o => o).modify 1 fun
      | .cells _ t frozen => .cells c_laid_unicode_utf8_first t frozen
      | o => o) }
set_option maxRecDepth 100000 in
theorem laidWorld_met (os : Os) (args : Array Value) : laidMetH Tryd.prog [("math/bits.deBruijn32tab", Rows.laid_math_bits_deBruijn32tab), ("math/bits.deBruijn64tab", Rows.laid_math_bits_deBruijn64tab), ("internal/strconv.uint64pow10", Rows.laid_internal_strconv_uint64pow10), ("unicode/utf8.acceptRanges", Rows.laid_unicode_utf8_acceptRanges), ("unicode/utf8.first", Rows.laid_unicode_utf8_first)] ((laidWorld os).forCall (fun _ _ => 0) ⟨#[], args, []⟩).memory :=
  laidMetH_of_parts (laidMet_of_run' 40 (by kernel_rfl) (by kernel_rfl)) (by kernel_rfl)
end Go.Proofs.YtkcemdfhhdjdaaaDoor.Laid
