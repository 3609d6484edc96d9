/- A machine over trees of data that runs the given code, and the proof that what it answers holds of the program, part 4. -/
import Derived.Test.YtmocpniibpnniaaGreatQC
import Derived.Shelf.Sort.Plain
import Derived.Shelf.Slices.In.SortNone
import Derived.Shelf.Slices.CompactS
set_option linter.unusedVariables false
set_option linter.unusedSimpArgs false
section
namespace Go.Q
open Go
open Go.RowKit (Below)
open Go.Sort (Holds putRow putCells grow onCells mapBlock)
open Go.Proofs (encStr)
section
variable {w:World} {blk off n:Nat} {cur:Array Value} {t:TypeId} {d:Array (List UInt8)} {os:Array Go.Obj}
end
section
variable {P:Program} {H:Tab} {G:Gh} {w:World} {E:Nat} {xs:List XS} {rows:Rows} {us:List Value}
end
end Go.Q
end
