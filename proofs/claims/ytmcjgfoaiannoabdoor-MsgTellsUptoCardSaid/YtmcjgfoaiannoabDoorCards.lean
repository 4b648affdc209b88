/-
  DERIVED. GIVEN WITH THE SEED: THE CARDS: each row of YtmcjgfoaiannoabDoorRows.lean that lists a variable, with what it lists TIED to the program's text (the seventh form; the later family's looks); each row that meets fmt, with fmt's text TOLD by the authors' own Lean function (tested against real Go, not proved from fmt's source: count such statements apart). THE CARD IS WHAT COUNTS. Prove the row's statement (the work); the ties are given (YtmcjgfoaiannoabDoorTie.lean); close each card by the builder's one call (the guide's Derived/Test/ToyasCard.lean, 'card_holds'). Laid BY PROGRAM, IN A SANDBOX (cutbox-door.mjs). By AI agents, Wed Nov 11 2026. No macro, syntax, notation, axiom, sorry.
-/
import Derived.Test.YtmcjgfoaiannoabDoorRows
import GoSem.ClaimSeven
namespace Go.Proofs.YtmcjgfoaiannoabDoor
namespace Rows

/-- THE TIED CARD OF 'vwlaw2.FaultTells'. -/
def faultTellsCard : Claim7 := { stood := { row := faultTellsRow, standIns := [], harness := (true, "ce67ec7d7c9d0a8c0955774ba40df6a45a05ec307238d33da3d649b224eed7f5"), looks := true }, kinds := [], alts := [], laidByText := true, laidKinds := [.data, .data, .data], laidTests := true, laidLooks := .later }
def FaultTellsCardSaid : Prop := Claim7.holds Tryd.pinned (.plain (OpenSpec.ofChange faultTellsSpec)) faultTellsCard

/-- THE TIED CARD OF 'vwlaw2.FaultWraps'. -/
def faultWrapsCard : Claim7 := { stood := { row := faultWrapsRow, standIns := [], harness := (true, "ce67ec7d7c9d0a8c0955774ba40df6a45a05ec307238d33da3d649b224eed7f5"), looks := true }, kinds := [], alts := [], laidByText := true, laidKinds := [.data, .data, .data], laidTests := true, laidLooks := .later }
def FaultWrapsCardSaid : Prop := Claim7.holds Tryd.pinned (.plain (OpenSpec.ofChange faultWrapsSpec)) faultWrapsCard

/-- THE TIED CARD OF 'vwlaw6.CapsTells'. -/
def capsTellsCard : Claim7 := { stood := { row := capsTellsRow, standIns := [], harness := (true, "ce67ec7d7c9d0a8c0955774ba40df6a45a05ec307238d33da3d649b224eed7f5"), looks := true }, kinds := [], alts := [], laidByText := true, laidKinds := [.data, .pinned], laidTests := true, laidLooks := .later }
def CapsTellsCardSaid : Prop := Claim7.holds Tryd.pinned (.plain (OpenSpec.ofChange capsTellsSpec)) capsTellsCard

/-- THE TIED CARD OF 'vwlaw6.CapsWild'. -/
def capsWildCard : Claim7 := { stood := { row := capsWildRow, standIns := [], harness := (true, "ce67ec7d7c9d0a8c0955774ba40df6a45a05ec307238d33da3d649b224eed7f5"), looks := true }, kinds := [], alts := [], laidByText := true, laidKinds := [.data, .pinned], laidTests := true, laidLooks := .later }
def CapsWildCardSaid : Prop := Claim7.holds Tryd.pinned (.plain (OpenSpec.ofChange capsWildSpec)) capsWildCard

/-- THE TIED CARD OF 'vwlaw5.SieveTells'. -/
def sieveTellsCard : Claim7 := { stood := { row := sieveTellsRow, standIns := [], harness := (true, "ce67ec7d7c9d0a8c0955774ba40df6a45a05ec307238d33da3d649b224eed7f5"), looks := true }, kinds := [], alts := [], laidByText := true, laidKinds := [.data, .pinned], laidTests := true, laidLooks := .later }
def SieveTellsCardSaid : Prop := Claim7.holds Tryd.pinned (.plain (OpenSpec.ofChange sieveTellsSpec)) sieveTellsCard

/-- THE TIED CARD OF 'vwlaw5.SieveKeeps'. -/
def sieveKeepsCard : Claim7 := { stood := { row := sieveKeepsRow, standIns := [], harness := (true, "ce67ec7d7c9d0a8c0955774ba40df6a45a05ec307238d33da3d649b224eed7f5"), looks := true }, kinds := [], alts := [], laidByText := true, laidKinds := [.data, .pinned], laidTests := true, laidLooks := .later }
def SieveKeepsCardSaid : Prop := Claim7.holds Tryd.pinned (.plain (OpenSpec.ofChange sieveKeepsSpec)) sieveKeepsCard

/-- THE TIED CARD OF 'vwlaw5.SieveGate'. -/
def sieveGateCard : Claim7 := { stood := { row := sieveGateRow, standIns := [], harness := (true, "ce67ec7d7c9d0a8c0955774ba40df6a45a05ec307238d33da3d649b224eed7f5"), looks := true }, kinds := [], alts := [], laidByText := true, laidKinds := [.data, .pinned], laidTests := true, laidLooks := .later }
def SieveGateCardSaid : Prop := Claim7.holds Tryd.pinned (.plain (OpenSpec.ofChange sieveGateSpec)) sieveGateCard

/-- THE TIED CARD OF 'vwlaw1.MsgTells'. -/
def msgTellsCard : Claim7 := { stood := { row := msgTellsRow, standIns := [], harness := (true, "ce67ec7d7c9d0a8c0955774ba40df6a45a05ec307238d33da3d649b224eed7f5"), looks := true }, kinds := [], alts := [], laidByText := true, laidKinds := [.data, .data, .data, .data, .sentinel, .sentinel, .pinned], laidTests := true, laidLooks := .later }
def MsgTellsCardSaid : Prop := Claim7.holds Tryd.pinned (.plain (OpenSpec.ofChange msgTellsSpec)) msgTellsCard

/-- THE TIED CARD OF 'vwlaw1.MsgTurns'. -/
def msgTurnsCard : Claim7 := { stood := { row := msgTurnsRow, standIns := [], harness := (true, "ce67ec7d7c9d0a8c0955774ba40df6a45a05ec307238d33da3d649b224eed7f5"), looks := true }, kinds := [], alts := [], laidByText := true, laidKinds := [.data, .data, .data, .data, .sentinel, .sentinel, .pinned], laidTests := true, laidLooks := .later }
def MsgTurnsCardSaid : Prop := Claim7.holds Tryd.pinned (.plain (OpenSpec.ofChange msgTurnsSpec)) msgTurnsCard

/-- THE TIED CARD OF 'vwlaw1.MsgSet'. -/
def msgSetCard : Claim7 := { stood := { row := msgSetRow, standIns := [], harness := (true, "ce67ec7d7c9d0a8c0955774ba40df6a45a05ec307238d33da3d649b224eed7f5"), looks := true }, kinds := [], alts := [], laidByText := true, laidKinds := [.data, .data, .data, .data, .sentinel, .sentinel, .pinned], laidTests := true, laidLooks := .later }
def MsgSetCardSaid : Prop := Claim7.holds Tryd.pinned (.plain (OpenSpec.ofChange msgSetSpec)) msgSetCard

/-- THE SECOND FORM's CARD OF 'vwlaw2.FaultTells'. -/
def faultTellsUptoCard : Claim7 := { stood := { row := faultTellsUptoRow, standIns := [], harness := (true, "ce67ec7d7c9d0a8c0955774ba40df6a45a05ec307238d33da3d649b224eed7f5"), looks := true }, kinds := [], alts := [], laidByText := true, laidKinds := [.data, .data, .data], laidTests := true, laidLooks := .later }
def FaultTellsUptoCardSaid : Prop := Claim7.holds Tryd.pinned (.plain (OpenSpec.upto faultTellsSpec)) faultTellsUptoCard

/-- THE SECOND FORM's CARD OF 'vwlaw2.FaultWraps'. -/
def faultWrapsUptoCard : Claim7 := { stood := { row := faultWrapsUptoRow, standIns := [], harness := (true, "ce67ec7d7c9d0a8c0955774ba40df6a45a05ec307238d33da3d649b224eed7f5"), looks := true }, kinds := [], alts := [], laidByText := true, laidKinds := [.data, .data, .data], laidTests := true, laidLooks := .later }
def FaultWrapsUptoCardSaid : Prop := Claim7.holds Tryd.pinned (.plain (OpenSpec.upto faultWrapsSpec)) faultWrapsUptoCard

/-- THE SECOND FORM's CARD OF 'vwlaw6.CapsTells'. -/
def capsTellsUptoCard : Claim7 := { stood := { row := capsTellsUptoRow, standIns := [], harness := (true, "ce67ec7d7c9d0a8c0955774ba40df6a45a05ec307238d33da3d649b224eed7f5"), looks := true }, kinds := [], alts := [], laidByText := true, laidKinds := [.data, .pinned], laidTests := true, laidLooks := .later }
def CapsTellsUptoCardSaid : Prop := Claim7.holds Tryd.pinned (.plain (OpenSpec.upto capsTellsSpec)) capsTellsUptoCard

/-- THE SECOND FORM's CARD OF 'vwlaw6.CapsWild'. -/
def capsWildUptoCard : Claim7 := { stood := { row := capsWildUptoRow, standIns := [], harness := (true, "ce67ec7d7c9d0a8c0955774ba40df6a45a05ec307238d33da3d649b224eed7f5"), looks := true }, kinds := [], alts := [], laidByText := true, laidKinds := [.data, .pinned], laidTests := true, laidLooks := .later }
def CapsWildUptoCardSaid : Prop := Claim7.holds Tryd.pinned (.plain (OpenSpec.upto capsWildSpec)) capsWildUptoCard

/-- THE SECOND FORM's CARD OF 'vwlaw5.SieveTells'. -/
def sieveTellsUptoCard : Claim7 := { stood := { row := sieveTellsUptoRow, standIns := [], harness := (true, "ce67ec7d7c9d0a8c0955774ba40df6a45a05ec307238d33da3d649b224eed7f5"), looks := true }, kinds := [], alts := [], laidByText := true, laidKinds := [.data, .pinned], laidTests := true, laidLooks := .later }
def SieveTellsUptoCardSaid : Prop := Claim7.holds Tryd.pinned (.plain (OpenSpec.upto sieveTellsSpec)) sieveTellsUptoCard

/-- THE SECOND FORM's CARD OF 'vwlaw5.SieveKeeps'. -/
def sieveKeepsUptoCard : Claim7 := { stood := { row := sieveKeepsUptoRow, standIns := [], harness := (true, "ce67ec7d7c9d0a8c0955774ba40df6a45a05ec307238d33da3d649b224eed7f5"), looks := true }, kinds := [], alts := [], laidByText := true, laidKinds := [.data, .pinned], laidTests := true, laidLooks := .later }
def SieveKeepsUptoCardSaid : Prop := Claim7.holds Tryd.pinned (.plain (OpenSpec.upto sieveKeepsSpec)) sieveKeepsUptoCard

/-- THE SECOND FORM's CARD OF 'vwlaw5.SieveGate'. -/
def sieveGateUptoCard : Claim7 := { stood := { row := sieveGateUptoRow, standIns := [], harness := (true, "ce67ec7d7c9d0a8c0955774ba40df6a45a05ec307238d33da3d649b224eed7f5"), looks := true }, kinds := [], alts := [], laidByText := true, laidKinds := [.data, .pinned], laidTests := true, laidLooks := .later }
def SieveGateUptoCardSaid : Prop := Claim7.holds Tryd.pinned (.plain (OpenSpec.upto sieveGateSpec)) sieveGateUptoCard

/-- THE SECOND FORM's CARD OF 'vwlaw1.MsgTells'. -/
def msgTellsUptoCard : Claim7 := { stood := { row := msgTellsUptoRow, standIns := [], harness := (true, "ce67ec7d7c9d0a8c0955774ba40df6a45a05ec307238d33da3d649b224eed7f5"), looks := true }, kinds := [], alts := [], laidByText := true, laidKinds := [.data, .data, .data, .data, .sentinel, .sentinel, .pinned], laidTests := true, laidLooks := .later }
def MsgTellsUptoCardSaid : Prop := Claim7.holds Tryd.pinned (.plain (OpenSpec.upto msgTellsSpec)) msgTellsUptoCard

/-- THE SECOND FORM's CARD OF 'vwlaw1.MsgTurns'. -/
def msgTurnsUptoCard : Claim7 := { stood := { row := msgTurnsUptoRow, standIns := [], harness := (true, "ce67ec7d7c9d0a8c0955774ba40df6a45a05ec307238d33da3d649b224eed7f5"), looks := true }, kinds := [], alts := [], laidByText := true, laidKinds := [.data, .data, .data, .data, .sentinel, .sentinel, .pinned], laidTests := true, laidLooks := .later }
def MsgTurnsUptoCardSaid : Prop := Claim7.holds Tryd.pinned (.plain (OpenSpec.upto msgTurnsSpec)) msgTurnsUptoCard

/-- THE SECOND FORM's CARD OF 'vwlaw1.MsgSet'. -/
def msgSetUptoCard : Claim7 := { stood := { row := msgSetUptoRow, standIns := [], harness := (true, "ce67ec7d7c9d0a8c0955774ba40df6a45a05ec307238d33da3d649b224eed7f5"), looks := true }, kinds := [], alts := [], laidByText := true, laidKinds := [.data, .data, .data, .data, .sentinel, .sentinel, .pinned], laidTests := true, laidLooks := .later }
def MsgSetUptoCardSaid : Prop := Claim7.holds Tryd.pinned (.plain (OpenSpec.upto msgSetSpec)) msgSetUptoCard
end Rows
end Go.Proofs.YtmcjgfoaiannoabDoor
