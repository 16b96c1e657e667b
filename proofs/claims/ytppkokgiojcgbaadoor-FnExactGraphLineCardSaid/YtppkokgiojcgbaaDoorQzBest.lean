/-
  Contracts: the least set with most, with fewest vertices for which something holds, whatever it is: the program's searches.
-/
import Derived.Test.YtppkokgiojcgbaaDoorQzV
import Derived.Test.YtppkokgiojcgbaaDoorQzGA
namespace Go.Proofs.YtppkokgiojcgbaaDoor
open Go.RowKit

theorem CountSet_v (s : Nat) (hs : s < 128) (w : World) :
    Calls Tryd.prog 46 #[.int .i64 s] w fun e w' => e = .returned (.int .i64 (cn s : Int)) ∧ Below w.heap.size w w' := CountSet_i s hs w
theorem CountSet_sv (s : Nat) (hs : s < 128) (w : World) :
    Calls Tryd.prog 33 #[.int .i64 s] w fun e w' => e = .returned (.int .i64 (cn s : Int)) ∧ Below w.heap.size w w' := CountSet_s s hs w

section
variable {A : Option Addr} {m c : Nat} {r : Nat → Nat} {fn : FuncId} {caps : Array Value} {p : Nat → Bool}
end
end Go.Proofs.YtppkokgiojcgbaaDoor
