/-
  Package wire in plain Lean: what Get says of bytes; its bits.
-/
import Derived.Lib.Varint
import Derived.Lib.VarintBits
import Derived.Lib.Zigzag
import Derived.IntWalk
namespace Go.Proofs.YtbceapeoknngnaaDoor
open Go.Lib
structure Rec where
 number : Int
 how : Int
 bits : Nat
 bytes : List UInt8
end Go.Proofs.YtbceapeoknngnaaDoor
