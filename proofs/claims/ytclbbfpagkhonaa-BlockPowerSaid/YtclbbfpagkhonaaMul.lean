/- bits.Mul at 1 and 112: the shelf's contract, laid. -/
import Derived.Test.YtclbbfpagkhonaaKeep
import Derived.Shelf.Bits.Mul64
import Derived.Shelf.Lay
import Derived.Ground.NamesProg
set_option linter.unusedVariables false
namespace Go.Proofs.Ytclbbfpagkhonaa
open Go.Shelf Go.RowKit
shelf_lay Lays.n212 Nm 212 at Try as Try.laysMul
#check Try.laysMul
theorem mul_ok (w : World) : Calls Try.prog 33 #[.int .u64 1, .int .u64 112] w (fun e w' => e = .returned (.tuple #[.int .u64 0, .int .u64 112]) ∧ w' = w) :=
  Any.bits_Mul Try.laysMul 1 112 (by decide) (by decide) w
end Go.Proofs.Ytclbbfpagkhonaa
