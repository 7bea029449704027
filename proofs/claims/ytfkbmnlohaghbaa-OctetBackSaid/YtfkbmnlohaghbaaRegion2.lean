/- What slots are said to hold, over new memory alone: bytes, lists of bytes. -/
import Derived.Test.YtfkbmnlohaghbaaRegion
import Derived.Test.YtfkbmnlohaghbaaWords
namespace Go.Proofs.Ytfkbmnlohaghbaa
set_option linter.unusedVariables false
set_option linter.unusedSimpArgs false
open Go.RowKit

/-- A slice that reads as bytes. -/
def PrT.bytes (F : Nat → Prop) (l : List UInt8) : PrT NewMem := ⟨fun v w => ∃ A c, v = .slice A l.length c ∧ Rd w F A (bc l) ∧ l.length ≤ c, fun _ _ _ ⟨A, c, e, h, hc⟩ ht => ⟨A, c, e, h.below ht, hc⟩⟩
/-- A slice of slices of bytes. -/
def PrT.lists (F : Nat → Prop) (ls : List (List UInt8)) : PrT NewMem := ⟨fun v w => ∃ A c, v = .slice A ls.length c ∧ RdL w F A ls ∧ ls.length ≤ c, fun _ _ _ ⟨A, c, e, h, hc⟩ ht => ⟨A, c, e, h.below ht, hc⟩⟩
end Go.Proofs.Ytfkbmnlohaghbaa
