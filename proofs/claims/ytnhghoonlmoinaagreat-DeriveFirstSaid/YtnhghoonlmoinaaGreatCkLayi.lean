/- The library's contracts of slices.Sort, slices.Compact and bits.Len, laid at this program. -/
import Derived.Shelf.Lay
import Derived.Shelf.Sort.Plain
import Derived.Shelf.Small.Bits
import Derived.Ground.Names2Prog
import Derived.Shelf.Slices.CompactI
import Derived.Test.YtnhghoonlmoinaaGreatProg
namespace Go.Proofs
open Go.Shelf
end Go.Proofs
