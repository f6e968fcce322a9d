/-
  DERIVED. GIVEN WITH THE SEED: THE CARDS: each row of YtjieiijbgbkikaaDoorRows.lean that lists a variable, with what it lists TIED to the program's text (the seventh form; the later family's looks); each row that meets fmt, with fmt's text TOLD by the authors' own Lean function (tested against real Go, not proved from fmt's source: count such statements apart). THE CARD IS WHAT COUNTS. Prove the row's statement (the work); the ties are given (YtjieiijbgbkikaaDoorTie.lean); close each card by the builder's one call (the guide's Derived/Test/ToyasCard.lean, 'card_holds'). Laid BY PROGRAM, IN A SANDBOX (cutbox-door.mjs). By AI agents, Wed Nov 11 2026. No macro, syntax, notation, axiom, sorry.
-/
import Derived.Test.YtjieiijbgbkikaaDoorRows
import GoSem.ClaimSeven
namespace Go.Proofs.YtjieiijbgbkikaaDoor
namespace Rows

/-- THE TIED CARD OF 'drawbridgelaw09.PacketNames'. -/
def packetNamesCard : Claim7 := { stood := { row := packetNamesRow, standIns := [], harness := (true, "e49d9dadfad7a1d54a3a799f28c2b472b127b6977e7d1f71cd2397dfd9d93cdf"), looks := false }, kinds := [], alts := [], laidByText := true, laidKinds := [.data, .data], laidTests := true, laidLooks := .later }
def PacketNamesCardSaid : Prop := Claim7.holds Tryd.pinned (.plain (OpenSpec.ofChange packetNamesSpec)) packetNamesCard

/-- THE TIED CARD OF 'drawbridgelaw09.PacketWays'. -/
def packetWaysCard : Claim7 := { stood := { row := packetWaysRow, standIns := [], harness := (true, "e49d9dadfad7a1d54a3a799f28c2b472b127b6977e7d1f71cd2397dfd9d93cdf"), looks := false }, kinds := [], alts := [], laidByText := true, laidKinds := [.data, .data], laidTests := true, laidLooks := .later }
def PacketWaysCardSaid : Prop := Claim7.holds Tryd.pinned (.plain (OpenSpec.ofChange packetWaysSpec)) packetWaysCard

/-- THE TIED CARD OF 'drawbridgelaw09.PacketFields'. -/
def packetFieldsCard : Claim7 := { stood := { row := packetFieldsRow, standIns := [], harness := (true, "e49d9dadfad7a1d54a3a799f28c2b472b127b6977e7d1f71cd2397dfd9d93cdf"), looks := false }, kinds := [], alts := [], laidByText := true, laidKinds := [.data, .data], laidTests := true, laidLooks := .later }
def PacketFieldsCardSaid : Prop := Claim7.holds Tryd.pinned (.plain (OpenSpec.ofChange packetFieldsSpec)) packetFieldsCard

/-- THE TIED CARD OF 'drawbridgelaw09.PacketBack'. -/
def packetBackCard : Claim7 := { stood := { row := packetBackRow, standIns := [], harness := (true, "e49d9dadfad7a1d54a3a799f28c2b472b127b6977e7d1f71cd2397dfd9d93cdf"), looks := false }, kinds := [], alts := [], laidByText := true, laidKinds := [.data, .data], laidTests := true, laidLooks := .later }
def PacketBackCardSaid : Prop := Claim7.holds Tryd.pinned (.plain (OpenSpec.ofChange packetBackSpec)) packetBackCard

/-- THE TIED CARD OF 'drawbridgelaw16.SessionApart'. -/
def sessionApartCard : Claim7 := { stood := { row := sessionApartRow, standIns := [], harness := (true, "e49d9dadfad7a1d54a3a799f28c2b472b127b6977e7d1f71cd2397dfd9d93cdf"), looks := false }, kinds := [], alts := [], laidByText := true, laidKinds := [.data, .data], laidTests := true, laidLooks := .later }
def SessionApartCardSaid : Prop := Claim7.holds Tryd.pinned (.plain (OpenSpec.ofChange sessionApartSpec)) sessionApartCard

/-- THE SECOND FORM's CARD OF 'drawbridgelaw09.PacketNames'. -/
def packetNamesUptoCard : Claim7 := { stood := { row := packetNamesUptoRow, standIns := [], harness := (true, "e49d9dadfad7a1d54a3a799f28c2b472b127b6977e7d1f71cd2397dfd9d93cdf"), looks := false }, kinds := [], alts := [], laidByText := true, laidKinds := [.data, .data], laidTests := true, laidLooks := .later }
def PacketNamesUptoCardSaid : Prop := Claim7.holds Tryd.pinned (.plain (OpenSpec.upto packetNamesSpec)) packetNamesUptoCard

/-- THE SECOND FORM's CARD OF 'drawbridgelaw09.PacketWays'. -/
def packetWaysUptoCard : Claim7 := { stood := { row := packetWaysUptoRow, standIns := [], harness := (true, "e49d9dadfad7a1d54a3a799f28c2b472b127b6977e7d1f71cd2397dfd9d93cdf"), looks := false }, kinds := [], alts := [], laidByText := true, laidKinds := [.data, .data], laidTests := true, laidLooks := .later }
def PacketWaysUptoCardSaid : Prop := Claim7.holds Tryd.pinned (.plain (OpenSpec.upto packetWaysSpec)) packetWaysUptoCard

/-- THE SECOND FORM's CARD OF 'drawbridgelaw09.PacketFields'. -/
def packetFieldsUptoCard : Claim7 := { stood := { row := packetFieldsUptoRow, standIns := [], harness := (true, "e49d9dadfad7a1d54a3a799f28c2b472b127b6977e7d1f71cd2397dfd9d93cdf"), looks := false }, kinds := [], alts := [], laidByText := true, laidKinds := [.data, .data], laidTests := true, laidLooks := .later }
def PacketFieldsUptoCardSaid : Prop := Claim7.holds Tryd.pinned (.plain (OpenSpec.upto packetFieldsSpec)) packetFieldsUptoCard

/-- THE SECOND FORM's CARD OF 'drawbridgelaw09.PacketBack'. -/
def packetBackUptoCard : Claim7 := { stood := { row := packetBackUptoRow, standIns := [], harness := (true, "e49d9dadfad7a1d54a3a799f28c2b472b127b6977e7d1f71cd2397dfd9d93cdf"), looks := false }, kinds := [], alts := [], laidByText := true, laidKinds := [.data, .data], laidTests := true, laidLooks := .later }
def PacketBackUptoCardSaid : Prop := Claim7.holds Tryd.pinned (.plain (OpenSpec.upto packetBackSpec)) packetBackUptoCard

/-- THE SECOND FORM's CARD OF 'drawbridgelaw16.SessionApart'. -/
def sessionApartUptoCard : Claim7 := { stood := { row := sessionApartUptoRow, standIns := [], harness := (true, "e49d9dadfad7a1d54a3a799f28c2b472b127b6977e7d1f71cd2397dfd9d93cdf"), looks := false }, kinds := [], alts := [], laidByText := true, laidKinds := [.data, .data], laidTests := true, laidLooks := .later }
def SessionApartUptoCardSaid : Prop := Claim7.holds Tryd.pinned (.plain (OpenSpec.upto sessionApartSpec)) sessionApartUptoCard
end Rows
end Go.Proofs.YtjieiijbgbkikaaDoor
