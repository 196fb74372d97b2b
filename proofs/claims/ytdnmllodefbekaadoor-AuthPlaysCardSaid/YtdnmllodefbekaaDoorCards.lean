/-
  DERIVED. GIVEN WITH THE SEED: THE CARDS: each row of YtdnmllodefbekaaDoorRows.lean that lists a variable, with what it lists TIED to the program's text (the seventh form; the later family's looks); each row that meets fmt, with fmt's text TOLD by the authors' own Lean function (tested against real Go, not proved from fmt's source: count such statements apart). THE CARD IS WHAT COUNTS. Prove the row's statement (the work); the ties are given (YtdnmllodefbekaaDoorTie.lean); close each card by the builder's one call (the guide's Derived/Test/ToyasCard.lean, 'card_holds'). Laid BY PROGRAM, IN A SANDBOX (cutbox-door.mjs). By AI agents, Wed Nov 11 2026. No macro, syntax, notation, axiom, sorry.
-/
import Derived.Test.YtdnmllodefbekaaDoorRows
import GoSem.ClaimSeven
namespace Go.Proofs.YtdnmllodefbekaaDoor
namespace Rows

/-- THE TIED CARD OF 'hopperlaw24.ShaSums'. -/
def shaSumsCard : Claim7 := { stood := { row := shaSumsRow, standIns := [], harness := (true, "3e6a04fe7021994a7b7603587d7b40745327bbbffd328f147217b04917cdc167"), looks := false }, kinds := [], alts := [], laidByText := true, laidKinds := [.data, .data], laidTests := true, laidLooks := .later }
def ShaSumsCardSaid : Prop := Claim7.holds Tryd.pinned (.plain (OpenSpec.ofChange shaSumsSpec)) shaSumsCard

/-- THE TIED CARD OF 'hopperlaw24.ShaPieces'. -/
def shaPiecesCard : Claim7 := { stood := { row := shaPiecesRow, standIns := [], harness := (true, "3e6a04fe7021994a7b7603587d7b40745327bbbffd328f147217b04917cdc167"), looks := false }, kinds := [], alts := [], laidByText := true, laidKinds := [.data, .data], laidTests := true, laidLooks := .later }
def ShaPiecesCardSaid : Prop := Claim7.holds Tryd.pinned (.plain (OpenSpec.ofChange shaPiecesSpec)) shaPiecesCard

/-- THE TIED CARD OF 'hopperlaw24.ShaKeys'. -/
def shaKeysCard : Claim7 := { stood := { row := shaKeysRow, standIns := [], harness := (true, "3e6a04fe7021994a7b7603587d7b40745327bbbffd328f147217b04917cdc167"), looks := false }, kinds := [], alts := [], laidByText := true, laidKinds := [.data, .data], laidTests := true, laidLooks := .later }
def ShaKeysCardSaid : Prop := Claim7.holds Tryd.pinned (.plain (OpenSpec.ofChange shaKeysSpec)) shaKeysCard

/-- THE TIED CARD OF 'hopperlaw24.ShaBack'. -/
def shaBackCard : Claim7 := { stood := { row := shaBackRow, standIns := [], harness := (true, "3e6a04fe7021994a7b7603587d7b40745327bbbffd328f147217b04917cdc167"), looks := false }, kinds := [], alts := [], laidByText := true, laidKinds := [.data, .data], laidTests := true, laidLooks := .later }
def ShaBackCardSaid : Prop := Claim7.holds Tryd.pinned (.plain (OpenSpec.ofChange shaBackSpec)) shaBackCard

/-- THE TIED CARD OF 'hopperlaw24.ShaTexts'. -/
def shaTextsCard : Claim7 := { stood := { row := shaTextsRow, standIns := [], harness := (true, "3e6a04fe7021994a7b7603587d7b40745327bbbffd328f147217b04917cdc167"), looks := false }, kinds := [], alts := [], laidByText := true, laidKinds := [.data, .data], laidTests := true, laidLooks := .later }
def ShaTextsCardSaid : Prop := Claim7.holds Tryd.pinned (.plain (OpenSpec.ofChange shaTextsSpec)) shaTextsCard

/-- THE TIED CARD OF 'hopperlaw25.AuthOthers'. -/
def authOthersCard : Claim7 := { stood := { row := authOthersRow, standIns := [], harness := (true, "3e6a04fe7021994a7b7603587d7b40745327bbbffd328f147217b04917cdc167"), looks := false }, kinds := [], alts := [], laidByText := true, laidKinds := [.data, .data, .data, .pinned], laidTests := true, laidLooks := .later }
def AuthOthersCardSaid : Prop := Claim7.holds Tryd.pinned (.plain (OpenSpec.ofChange authOthersSpec)) authOthersCard

/-- THE TIED CARD OF 'hopperlaw25.AuthLets'. -/
def authLetsCard : Claim7 := { stood := { row := authLetsRow, standIns := [], harness := (true, "3e6a04fe7021994a7b7603587d7b40745327bbbffd328f147217b04917cdc167"), looks := false }, kinds := [], alts := [], laidByText := true, laidKinds := [.data, .data, .data, .pinned], laidTests := true, laidLooks := .later }
def AuthLetsCardSaid : Prop := Claim7.holds Tryd.pinned (.plain (OpenSpec.ofChange authLetsSpec)) authLetsCard

/-- THE TIED CARD OF 'hopperlaw25.AuthPlays'. -/
def authPlaysCard : Claim7 := { stood := { row := authPlaysRow, standIns := [], harness := (true, "3e6a04fe7021994a7b7603587d7b40745327bbbffd328f147217b04917cdc167"), looks := false }, kinds := [], alts := [], laidByText := true, laidKinds := [.data, .data, .data, .pinned], laidTests := true, laidLooks := .later }
def AuthPlaysCardSaid : Prop := Claim7.holds Tryd.pinned (.plain (OpenSpec.ofChange authPlaysSpec)) authPlaysCard

/-- THE TIED CARD OF 'hopperlaw25.AuthNames'. -/
def authNamesCard : Claim7 := { stood := { row := authNamesRow, standIns := [], harness := (true, "3e6a04fe7021994a7b7603587d7b40745327bbbffd328f147217b04917cdc167"), looks := false }, kinds := [], alts := [], laidByText := true, laidKinds := [.data, .data, .data, .pinned], laidTests := true, laidLooks := .later }
def AuthNamesCardSaid : Prop := Claim7.holds Tryd.pinned (.plain (OpenSpec.ofChange authNamesSpec)) authNamesCard

/-- THE SECOND FORM's CARD OF 'hopperlaw24.ShaSums'. -/
def shaSumsUptoCard : Claim7 := { stood := { row := shaSumsUptoRow, standIns := [], harness := (true, "3e6a04fe7021994a7b7603587d7b40745327bbbffd328f147217b04917cdc167"), looks := false }, kinds := [], alts := [], laidByText := true, laidKinds := [.data, .data], laidTests := true, laidLooks := .later }
def ShaSumsUptoCardSaid : Prop := Claim7.holds Tryd.pinned (.plain (OpenSpec.upto shaSumsSpec)) shaSumsUptoCard

/-- THE SECOND FORM's CARD OF 'hopperlaw24.ShaPieces'. -/
def shaPiecesUptoCard : Claim7 := { stood := { row := shaPiecesUptoRow, standIns := [], harness := (true, "3e6a04fe7021994a7b7603587d7b40745327bbbffd328f147217b04917cdc167"), looks := false }, kinds := [], alts := [], laidByText := true, laidKinds := [.data, .data], laidTests := true, laidLooks := .later }
def ShaPiecesUptoCardSaid : Prop := Claim7.holds Tryd.pinned (.plain (OpenSpec.upto shaPiecesSpec)) shaPiecesUptoCard

/-- THE SECOND FORM's CARD OF 'hopperlaw24.ShaKeys'. -/
def shaKeysUptoCard : Claim7 := { stood := { row := shaKeysUptoRow, standIns := [], harness := (true, "3e6a04fe7021994a7b7603587d7b40745327bbbffd328f147217b04917cdc167"), looks := false }, kinds := [], alts := [], laidByText := true, laidKinds := [.data, .data], laidTests := true, laidLooks := .later }
def ShaKeysUptoCardSaid : Prop := Claim7.holds Tryd.pinned (.plain (OpenSpec.upto shaKeysSpec)) shaKeysUptoCard

/-- THE SECOND FORM's CARD OF 'hopperlaw24.ShaBack'. -/
def shaBackUptoCard : Claim7 := { stood := { row := shaBackUptoRow, standIns := [], harness := (true, "3e6a04fe7021994a7b7603587d7b40745327bbbffd328f147217b04917cdc167"), looks := false }, kinds := [], alts := [], laidByText := true, laidKinds := [.data, .data], laidTests := true, laidLooks := .later }
def ShaBackUptoCardSaid : Prop := Claim7.holds Tryd.pinned (.plain (OpenSpec.upto shaBackSpec)) shaBackUptoCard

/-- THE SECOND FORM's CARD OF 'hopperlaw24.ShaTexts'. -/
def shaTextsUptoCard : Claim7 := { stood := { row := shaTextsUptoRow, standIns := [], harness := (true, "3e6a04fe7021994a7b7603587d7b40745327bbbffd328f147217b04917cdc167"), looks := false }, kinds := [], alts := [], laidByText := true, laidKinds := [.data, .data], laidTests := true, laidLooks := .later }
def ShaTextsUptoCardSaid : Prop := Claim7.holds Tryd.pinned (.plain (OpenSpec.upto shaTextsSpec)) shaTextsUptoCard

/-- THE SECOND FORM's CARD OF 'hopperlaw25.AuthOthers'. -/
def authOthersUptoCard : Claim7 := { stood := { row := authOthersUptoRow, standIns := [], harness := (true, "3e6a04fe7021994a7b7603587d7b40745327bbbffd328f147217b04917cdc167"), looks := false }, kinds := [], alts := [], laidByText := true, laidKinds := [.data, .data, .data, .pinned], laidTests := true, laidLooks := .later }
def AuthOthersUptoCardSaid : Prop := Claim7.holds Tryd.pinned (.plain (OpenSpec.upto authOthersSpec)) authOthersUptoCard

/-- THE SECOND FORM's CARD OF 'hopperlaw25.AuthLets'. -/
def authLetsUptoCard : Claim7 := { stood := { row := authLetsUptoRow, standIns := [], harness := (true, "3e6a04fe7021994a7b7603587d7b40745327bbbffd328f147217b04917cdc167"), looks := false }, kinds := [], alts := [], laidByText := true, laidKinds := [.data, .data, .data, .pinned], laidTests := true, laidLooks := .later }
def AuthLetsUptoCardSaid : Prop := Claim7.holds Tryd.pinned (.plain (OpenSpec.upto authLetsSpec)) authLetsUptoCard

/-- THE SECOND FORM's CARD OF 'hopperlaw25.AuthPlays'. -/
def authPlaysUptoCard : Claim7 := { stood := { row := authPlaysUptoRow, standIns := [], harness := (true, "3e6a04fe7021994a7b7603587d7b40745327bbbffd328f147217b04917cdc167"), looks := false }, kinds := [], alts := [], laidByText := true, laidKinds := [.data, .data, .data, .pinned], laidTests := true, laidLooks := .later }
def AuthPlaysUptoCardSaid : Prop := Claim7.holds Tryd.pinned (.plain (OpenSpec.upto authPlaysSpec)) authPlaysUptoCard

/-- THE SECOND FORM's CARD OF 'hopperlaw25.AuthNames'. -/
def authNamesUptoCard : Claim7 := { stood := { row := authNamesUptoRow, standIns := [], harness := (true, "3e6a04fe7021994a7b7603587d7b40745327bbbffd328f147217b04917cdc167"), looks := false }, kinds := [], alts := [], laidByText := true, laidKinds := [.data, .data, .data, .pinned], laidTests := true, laidLooks := .later }
def AuthNamesUptoCardSaid : Prop := Claim7.holds Tryd.pinned (.plain (OpenSpec.upto authNamesSpec)) authNamesUptoCard
end Rows
end Go.Proofs.YtdnmllodefbekaaDoor
