/-
  DERIVED. GIVEN WITH THE SEED: THE CARDS: each row of YtbhaekdfpfncnaaDoorRows.lean that lists a variable, with what it lists TIED to the program's text (the seventh form; the later family's looks); each row that meets fmt, with fmt's text TOLD by the authors' own Lean function (tested against real Go, not proved from fmt's source: count such statements apart). THE CARD IS WHAT COUNTS. Prove the row's statement (the work); the ties are given (YtbhaekdfpfncnaaDoorTie.lean); close each card by the builder's one call (the guide's Derived/Test/ToyasCard.lean, 'card_holds'). Laid BY PROGRAM, IN A SANDBOX (cutbox-door.mjs). By AI agents, Wed Nov 11 2026. No macro, syntax, notation, axiom, sorry.
-/
import Derived.Test.YtbhaekdfpfncnaaDoorRows
import GoSem.ClaimSeven
namespace Go.Proofs.YtbhaekdfpfncnaaDoor
namespace Rows

/-- THE TIED CARD OF 'drawbridgelaw10.ShakeNames'. -/
def shakeNamesCard : Claim7 := { stood := { row := shakeNamesRow, standIns := [], harness := (true, "3ec2e74899918e81e6607964b7f46d421ce586a3abbed15b35993556678f8d0c"), looks := false }, kinds := [], alts := [], laidByText := true, laidKinds := [.data], laidTests := true, laidLooks := .later }
def ShakeNamesCardSaid : Prop := Claim7.holds Tryd.pinned (.plain (OpenSpec.ofChange shakeNamesSpec)) shakeNamesCard

/-- THE TIED CARD OF 'drawbridgelaw10.ShakeCalls'. -/
def shakeCallsCard : Claim7 := { stood := { row := shakeCallsRow, standIns := [], harness := (true, "3ec2e74899918e81e6607964b7f46d421ce586a3abbed15b35993556678f8d0c"), looks := false }, kinds := [], alts := [], laidByText := true, laidKinds := [.data], laidTests := true, laidLooks := .later }
def ShakeCallsCardSaid : Prop := Claim7.holds Tryd.pinned (.plain (OpenSpec.ofChange shakeCallsSpec)) shakeCallsCard

/-- THE TIED CARD OF 'drawbridgelaw10.ShakeBoth'. -/
def shakeBothCard : Claim7 := { stood := { row := shakeBothRow, standIns := [], harness := (true, "3ec2e74899918e81e6607964b7f46d421ce586a3abbed15b35993556678f8d0c"), looks := false }, kinds := [], alts := [], laidByText := true, laidKinds := [.data], laidTests := true, laidLooks := .later }
def ShakeBothCardSaid : Prop := Claim7.holds Tryd.pinned (.plain (OpenSpec.ofChange shakeBothSpec)) shakeBothCard

/-- THE TIED CARD OF 'drawbridgelaw10.ShakeMarks'. -/
def shakeMarksCard : Claim7 := { stood := { row := shakeMarksRow, standIns := [], harness := (true, "3ec2e74899918e81e6607964b7f46d421ce586a3abbed15b35993556678f8d0c"), looks := false }, kinds := [], alts := [], laidByText := true, laidKinds := [.data], laidTests := true, laidLooks := .later }
def ShakeMarksCardSaid : Prop := Claim7.holds Tryd.pinned (.plain (OpenSpec.ofChange shakeMarksSpec)) shakeMarksCard

/-- THE TIED CARD OF 'drawbridgelaw10.ShakeAgain'. -/
def shakeAgainCard : Claim7 := { stood := { row := shakeAgainRow, standIns := [], harness := (true, "3ec2e74899918e81e6607964b7f46d421ce586a3abbed15b35993556678f8d0c"), looks := false }, kinds := [], alts := [], laidByText := true, laidKinds := [.data], laidTests := true, laidLooks := .later }
def ShakeAgainCardSaid : Prop := Claim7.holds Tryd.pinned (.plain (OpenSpec.ofChange shakeAgainSpec)) shakeAgainCard

/-- THE SECOND FORM's CARD OF 'drawbridgelaw10.ShakeNames'. -/
def shakeNamesUptoCard : Claim7 := { stood := { row := shakeNamesUptoRow, standIns := [], harness := (true, "3ec2e74899918e81e6607964b7f46d421ce586a3abbed15b35993556678f8d0c"), looks := false }, kinds := [], alts := [], laidByText := true, laidKinds := [.data], laidTests := true, laidLooks := .later }
def ShakeNamesUptoCardSaid : Prop := Claim7.holds Tryd.pinned (.plain (OpenSpec.upto shakeNamesSpec)) shakeNamesUptoCard

/-- THE SECOND FORM's CARD OF 'drawbridgelaw10.ShakeCalls'. -/
def shakeCallsUptoCard : Claim7 := { stood := { row := shakeCallsUptoRow, standIns := [], harness := (true, "3ec2e74899918e81e6607964b7f46d421ce586a3abbed15b35993556678f8d0c"), looks := false }, kinds := [], alts := [], laidByText := true, laidKinds := [.data], laidTests := true, laidLooks := .later }
def ShakeCallsUptoCardSaid : Prop := Claim7.holds Tryd.pinned (.plain (OpenSpec.upto shakeCallsSpec)) shakeCallsUptoCard

/-- THE SECOND FORM's CARD OF 'drawbridgelaw10.ShakeBoth'. -/
def shakeBothUptoCard : Claim7 := { stood := { row := shakeBothUptoRow, standIns := [], harness := (true, "3ec2e74899918e81e6607964b7f46d421ce586a3abbed15b35993556678f8d0c"), looks := false }, kinds := [], alts := [], laidByText := true, laidKinds := [.data], laidTests := true, laidLooks := .later }
def ShakeBothUptoCardSaid : Prop := Claim7.holds Tryd.pinned (.plain (OpenSpec.upto shakeBothSpec)) shakeBothUptoCard

/-- THE SECOND FORM's CARD OF 'drawbridgelaw10.ShakeMarks'. -/
def shakeMarksUptoCard : Claim7 := { stood := { row := shakeMarksUptoRow, standIns := [], harness := (true, "3ec2e74899918e81e6607964b7f46d421ce586a3abbed15b35993556678f8d0c"), looks := false }, kinds := [], alts := [], laidByText := true, laidKinds := [.data], laidTests := true, laidLooks := .later }
def ShakeMarksUptoCardSaid : Prop := Claim7.holds Tryd.pinned (.plain (OpenSpec.upto shakeMarksSpec)) shakeMarksUptoCard

/-- THE SECOND FORM's CARD OF 'drawbridgelaw10.ShakeAgain'. -/
def shakeAgainUptoCard : Claim7 := { stood := { row := shakeAgainUptoRow, standIns := [], harness := (true, "3ec2e74899918e81e6607964b7f46d421ce586a3abbed15b35993556678f8d0c"), looks := false }, kinds := [], alts := [], laidByText := true, laidKinds := [.data], laidTests := true, laidLooks := .later }
def ShakeAgainUptoCardSaid : Prop := Claim7.holds Tryd.pinned (.plain (OpenSpec.upto shakeAgainSpec)) shakeAgainUptoCard
end Rows
end Go.Proofs.YtbhaekdfpfncnaaDoor
