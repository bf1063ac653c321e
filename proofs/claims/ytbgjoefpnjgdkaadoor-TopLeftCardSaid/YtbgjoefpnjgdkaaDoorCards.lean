/-
  DERIVED. GIVEN WITH THE SEED: THE CARDS: each row of YtbgjoefpnjgdkaaDoorRows.lean that lists a variable, with what it lists TIED to the program's text (the seventh form; the later family's looks); each row that meets fmt, with fmt's text TOLD by the authors' own Lean function (tested against real Go, not proved from fmt's source: count such statements apart). THE CARD IS WHAT COUNTS. Prove the row's statement (the work); the ties are given (YtbgjoefpnjgdkaaDoorTie.lean); close each card by the builder's one call (the guide's Derived/Test/ToyasCard.lean, 'card_holds'). Laid BY PROGRAM, IN A SANDBOX (cutbox-door.mjs). By AI agents, Wed Nov 11 2026. No macro, syntax, notation, axiom, sorry.
-/
import Derived.Test.YtbgjoefpnjgdkaaDoorRows
import GoSem.ClaimSeven
namespace Go.Proofs.YtbgjoefpnjgdkaaDoor
namespace Rows

/-- THE TIED CARD OF 'palavertop.TopSummed'. -/
def topSummedCard : Claim7 := { stood := { row := topSummedRow, standIns := [], harness := (true, "8f6150483bd391a39966cb39bab541b42340ac189672673bb5cd1c5f923a8f8d"), looks := true }, kinds := [], alts := [], laidByText := true, laidKinds := [.data, .data], laidTests := true, laidLooks := .later }
def TopSummedCardSaid : Prop := Claim7.holds Tryd.pinned (.plain (OpenSpec.ofChange topSummedSpec)) topSummedCard

/-- THE TIED CARD OF 'palavertop.TopOnce'. -/
def topOnceCard : Claim7 := { stood := { row := topOnceRow, standIns := [], harness := (true, "8f6150483bd391a39966cb39bab541b42340ac189672673bb5cd1c5f923a8f8d"), looks := true }, kinds := [], alts := [], laidByText := true, laidKinds := [.data, .data], laidTests := true, laidLooks := .later }
def TopOnceCardSaid : Prop := Claim7.holds Tryd.pinned (.plain (OpenSpec.ofChange topOnceSpec)) topOnceCard

/-- THE TIED CARD OF 'palavertop.TopGranted'. -/
def topGrantedCard : Claim7 := { stood := { row := topGrantedRow, standIns := [], harness := (true, "8f6150483bd391a39966cb39bab541b42340ac189672673bb5cd1c5f923a8f8d"), looks := true }, kinds := [], alts := [], laidByText := true, laidKinds := [.data, .data], laidTests := true, laidLooks := .later }
def TopGrantedCardSaid : Prop := Claim7.holds Tryd.pinned (.plain (OpenSpec.ofChange topGrantedSpec)) topGrantedCard

/-- THE TIED CARD OF 'palavertop.TopNamed'. -/
def topNamedCard : Claim7 := { stood := { row := topNamedRow, standIns := [], harness := (true, "8f6150483bd391a39966cb39bab541b42340ac189672673bb5cd1c5f923a8f8d"), looks := true }, kinds := [], alts := [], laidByText := true, laidKinds := [.data, .data, .data, .sentinel, .sentinel, .data, .data], laidTests := true, laidLooks := .later }
def TopNamedCardSaid : Prop := Claim7.holds Tryd.pinned (.plain (OpenSpec.ofChange topNamedSpec)) topNamedCard

/-- THE TIED CARD OF 'palavertop.TopAbove'. -/
def topAboveCard : Claim7 := { stood := { row := topAboveRow, standIns := [], harness := (true, "8f6150483bd391a39966cb39bab541b42340ac189672673bb5cd1c5f923a8f8d"), looks := true }, kinds := [], alts := [], laidByText := true, laidKinds := [.data, .data, .data, .data, .sentinel, .sentinel, .data, .pinned], laidTests := true, laidLooks := .later }
def TopAboveCardSaid : Prop := Claim7.holds Tryd.pinned (.plain (OpenSpec.ofChange topAboveSpec)) topAboveCard

/-- THE TIED CARD OF 'palavertop.TopLeft'. -/
def topLeftCard : Claim7 := { stood := { row := topLeftRow, standIns := [], harness := (true, "8f6150483bd391a39966cb39bab541b42340ac189672673bb5cd1c5f923a8f8d"), looks := true }, kinds := [], alts := [], laidByText := true, laidKinds := [.data, .data, .data, .data, .data, .sentinel, .sentinel, .data, .data], laidTests := true, laidLooks := .later }
def TopLeftCardSaid : Prop := Claim7.holds Tryd.pinned (.plain (OpenSpec.ofChange topLeftSpec)) topLeftCard

/-- THE SECOND FORM's CARD OF 'palavertop.TopSummed'. -/
def topSummedUptoCard : Claim7 := { stood := { row := topSummedUptoRow, standIns := [], harness := (true, "8f6150483bd391a39966cb39bab541b42340ac189672673bb5cd1c5f923a8f8d"), looks := true }, kinds := [], alts := [], laidByText := true, laidKinds := [.data, .data], laidTests := true, laidLooks := .later }
def TopSummedUptoCardSaid : Prop := Claim7.holds Tryd.pinned (.plain (OpenSpec.upto topSummedSpec)) topSummedUptoCard

/-- THE SECOND FORM's CARD OF 'palavertop.TopOnce'. -/
def topOnceUptoCard : Claim7 := { stood := { row := topOnceUptoRow, standIns := [], harness := (true, "8f6150483bd391a39966cb39bab541b42340ac189672673bb5cd1c5f923a8f8d"), looks := true }, kinds := [], alts := [], laidByText := true, laidKinds := [.data, .data], laidTests := true, laidLooks := .later }
def TopOnceUptoCardSaid : Prop := Claim7.holds Tryd.pinned (.plain (OpenSpec.upto topOnceSpec)) topOnceUptoCard

/-- THE SECOND FORM's CARD OF 'palavertop.TopGranted'. -/
def topGrantedUptoCard : Claim7 := { stood := { row := topGrantedUptoRow, standIns := [], harness := (true, "8f6150483bd391a39966cb39bab541b42340ac189672673bb5cd1c5f923a8f8d"), looks := true }, kinds := [], alts := [], laidByText := true, laidKinds := [.data, .data], laidTests := true, laidLooks := .later }
def TopGrantedUptoCardSaid : Prop := Claim7.holds Tryd.pinned (.plain (OpenSpec.upto topGrantedSpec)) topGrantedUptoCard

/-- THE SECOND FORM's CARD OF 'palavertop.TopNamed'. -/
def topNamedUptoCard : Claim7 := { stood := { row := topNamedUptoRow, standIns := [], harness := (true, "8f6150483bd391a39966cb39bab541b42340ac189672673bb5cd1c5f923a8f8d"), looks := true }, kinds := [], alts := [], laidByText := true, laidKinds := [.data, .data, .data, .sentinel, .sentinel, .data, .data], laidTests := true, laidLooks := .later }
def TopNamedUptoCardSaid : Prop := Claim7.holds Tryd.pinned (.plain (OpenSpec.upto topNamedSpec)) topNamedUptoCard

/-- THE SECOND FORM's CARD OF 'palavertop.TopAbove'. -/
def topAboveUptoCard : Claim7 := { stood := { row := topAboveUptoRow, standIns := [], harness := (true, "8f6150483bd391a39966cb39bab541b42340ac189672673bb5cd1c5f923a8f8d"), looks := true }, kinds := [], alts := [], laidByText := true, laidKinds := [.data, .data, .data, .data, .sentinel, .sentinel, .data, .pinned], laidTests := true, laidLooks := .later }
def TopAboveUptoCardSaid : Prop := Claim7.holds Tryd.pinned (.plain (OpenSpec.upto topAboveSpec)) topAboveUptoCard

/-- THE SECOND FORM's CARD OF 'palavertop.TopLeft'. -/
def topLeftUptoCard : Claim7 := { stood := { row := topLeftUptoRow, standIns := [], harness := (true, "8f6150483bd391a39966cb39bab541b42340ac189672673bb5cd1c5f923a8f8d"), looks := true }, kinds := [], alts := [], laidByText := true, laidKinds := [.data, .data, .data, .data, .data, .sentinel, .sentinel, .data, .data], laidTests := true, laidLooks := .later }
def TopLeftUptoCardSaid : Prop := Claim7.holds Tryd.pinned (.plain (OpenSpec.upto topLeftSpec)) topLeftUptoCard
end Rows
end Go.Proofs.YtbgjoefpnjgdkaaDoor
