/-
  DERIVED. GIVEN WITH THE SEED: THE CARDS: each row of YthajllbimoodjaaGreatDoorRows.lean that lists a variable, with what it lists TIED to the program's text (the seventh form; the later family's looks); each row that meets fmt, with fmt's text TOLD by the authors' own Lean function (tested against real Go, not proved from fmt's source: count such statements apart). THE CARD IS WHAT COUNTS. Prove the row's statement (the work); the ties are given (YthajllbimoodjaaGreatDoorTie.lean); close each card by the builder's one call (the guide's Derived/Test/ToyasCard.lean, 'card_holds'). Laid BY PROGRAM, IN A SANDBOX (cutbox-door.mjs). By AI agents, Wed Nov 11 2026. No macro, syntax, notation, axiom, sorry.
-/
import Derived.Test.YthajllbimoodjaaGreatDoorRows
import GoSem.ClaimSeven
namespace Go.Proofs.YthajllbimoodjaaGreatDoor
namespace Rows

/-- THE TIED CARD OF 'ostlerlaw14.InstanceLess'. -/
def instanceLessCard : Claim7 := { stood := { row := instanceLessRow, standIns := [], harness := (true, "900a90667c0c02bb9190221c18884f03ebf7a3ff3bb3605e13b2f93fc5cedf90"), looks := true }, kinds := [], alts := [], laidByText := true, laidKinds := [.data, .data, .data, .data, .pinned], laidTests := true, laidLooks := .later }
def InstanceLessCardSaid : Prop := Claim7.holds Tryz.pinned (.plain (OpenSpec.ofChange instanceLessSpec)) instanceLessCard

/-- THE TIED CARD OF 'ostlerlaw14.InstanceSame'. -/
def instanceSameCard : Claim7 := { stood := { row := instanceSameRow, standIns := [], harness := (true, "900a90667c0c02bb9190221c18884f03ebf7a3ff3bb3605e13b2f93fc5cedf90"), looks := true }, kinds := [], alts := [], laidByText := true, laidKinds := [.data, .data, .data, .data, .pinned], laidTests := true, laidLooks := .later }
def InstanceSameCardSaid : Prop := Claim7.holds Tryz.pinned (.plain (OpenSpec.ofChange instanceSameSpec)) instanceSameCard

/-- THE TIED CARD OF 'ostlerlaw14.InstanceTwice'. -/
def instanceTwiceCard : Claim7 := { stood := { row := instanceTwiceRow, standIns := [], harness := (true, "900a90667c0c02bb9190221c18884f03ebf7a3ff3bb3605e13b2f93fc5cedf90"), looks := true }, kinds := [], alts := [], laidByText := true, laidKinds := [.data, .data, .data, .data, .pinned], laidTests := true, laidLooks := .later }
def InstanceTwiceCardSaid : Prop := Claim7.holds Tryz.pinned (.plain (OpenSpec.ofChange instanceTwiceSpec)) instanceTwiceCard

/-- THE SECOND FORM's CARD OF 'ostlerlaw14.InstanceLess'. -/
def instanceLessUptoCard : Claim7 := { stood := { row := instanceLessUptoRow, standIns := [], harness := (true, "900a90667c0c02bb9190221c18884f03ebf7a3ff3bb3605e13b2f93fc5cedf90"), looks := true }, kinds := [], alts := [], laidByText := true, laidKinds := [.data, .data, .data, .data, .pinned], laidTests := true, laidLooks := .later }
def InstanceLessUptoCardSaid : Prop := Claim7.holds Tryz.pinned (.plain (OpenSpec.upto instanceLessSpec)) instanceLessUptoCard

/-- THE SECOND FORM's CARD OF 'ostlerlaw14.InstanceSame'. -/
def instanceSameUptoCard : Claim7 := { stood := { row := instanceSameUptoRow, standIns := [], harness := (true, "900a90667c0c02bb9190221c18884f03ebf7a3ff3bb3605e13b2f93fc5cedf90"), looks := true }, kinds := [], alts := [], laidByText := true, laidKinds := [.data, .data, .data, .data, .pinned], laidTests := true, laidLooks := .later }
def InstanceSameUptoCardSaid : Prop := Claim7.holds Tryz.pinned (.plain (OpenSpec.upto instanceSameSpec)) instanceSameUptoCard

/-- THE SECOND FORM's CARD OF 'ostlerlaw14.InstanceTwice'. -/
def instanceTwiceUptoCard : Claim7 := { stood := { row := instanceTwiceUptoRow, standIns := [], harness := (true, "900a90667c0c02bb9190221c18884f03ebf7a3ff3bb3605e13b2f93fc5cedf90"), looks := true }, kinds := [], alts := [], laidByText := true, laidKinds := [.data, .data, .data, .data, .pinned], laidTests := true, laidLooks := .later }
def InstanceTwiceUptoCardSaid : Prop := Claim7.holds Tryz.pinned (.plain (OpenSpec.upto instanceTwiceSpec)) instanceTwiceUptoCard
end Rows
end Go.Proofs.YthajllbimoodjaaGreatDoor
