/-
  DERIVED. GIVEN WITH THE SEED: THE CARDS: each row of YtjnnjgogpapbhaaDoorRows.lean that lists a variable, with what it lists TIED to the program's text (the seventh form; the later family's looks); each row that meets fmt, with fmt's text TOLD by the authors' own Lean function (tested against real Go, not proved from fmt's source: count such statements apart). THE CARD IS WHAT COUNTS. Prove the row's statement (the work); the ties are given (YtjnnjgogpapbhaaDoorTie.lean); close each card by the builder's one call (the guide's Derived/Test/ToyasCard.lean, 'card_holds'). Laid BY PROGRAM, IN A SANDBOX (cutbox-door.mjs). By AI agents, Wed Nov 11 2026. No macro, syntax, notation, axiom, sorry.
-/
import Derived.Test.YtjnnjgogpapbhaaDoorRows
import GoSem.ClaimSeven
namespace Go.Proofs.YtjnnjgogpapbhaaDoor
namespace Rows

/-- THE TIED CARD OF 'laws.FnExactCodeText'. -/
def fnExactCodeTextCard : Claim7 := { stood := { row := fnExactCodeTextRow, standIns := [], harness := (true, "6166115977c2bbf71b48d621c1e15715c29496045f54e4c9683462fc4c4a1d8e"), looks := true }, kinds := [], alts := [], laidByText := true, laidKinds := [.data, .data, .data, .data], laidTests := true, laidLooks := .later }
def FnExactCodeTextCardSaid : Prop := Claim7.holds Tryd.pinned (.plain (OpenSpec.ofChange fnExactCodeTextSpec)) fnExactCodeTextCard

/-- THE TIED CARD OF 'laws.FnExactPlaceText'. -/
def fnExactPlaceTextCard : Claim7 := { stood := { row := fnExactPlaceTextRow, standIns := [], harness := (true, "6166115977c2bbf71b48d621c1e15715c29496045f54e4c9683462fc4c4a1d8e"), looks := true }, kinds := [], alts := [], laidByText := true, laidKinds := [.data, .data, .data], laidTests := true, laidLooks := .later }
def FnExactPlaceTextCardSaid : Prop := Claim7.holds Tryd.pinned (.plain (OpenSpec.ofChange fnExactPlaceTextSpec)) fnExactPlaceTextCard

/-- THE TIED CARD OF 'laws.FnPlaceText'. -/
def fnPlaceTextCard : Claim7 := { stood := { row := fnPlaceTextRow, standIns := [], harness := (true, "6166115977c2bbf71b48d621c1e15715c29496045f54e4c9683462fc4c4a1d8e"), looks := true }, kinds := [], alts := [], laidByText := true, laidKinds := [.data, .data, .data], laidTests := true, laidLooks := .later }
def FnPlaceTextCardSaid : Prop := Claim7.holds Tryd.pinned (.plain (OpenSpec.ofChange fnPlaceTextSpec)) fnPlaceTextCard

/-- THE TIED CARD OF 'laws.FnExactReadCode'. -/
def fnExactReadCodeCard : Claim7 := { stood := { row := fnExactReadCodeRow, standIns := [], harness := (true, "6166115977c2bbf71b48d621c1e15715c29496045f54e4c9683462fc4c4a1d8e"), looks := true }, kinds := [], alts := [], laidByText := true, laidKinds := [.data, .data, .data, .sentinel, .sentinel, .data], laidTests := true, laidLooks := .later }
def FnExactReadCodeCardSaid : Prop := Claim7.holds Tryd.pinned (.plain (OpenSpec.ofChange fnExactReadCodeSpec)) fnExactReadCodeCard

/-- THE TIED CARD OF 'laws.FnCodeText'. -/
def fnCodeTextCard : Claim7 := { stood := { row := fnCodeTextRow, standIns := [], harness := (true, "6166115977c2bbf71b48d621c1e15715c29496045f54e4c9683462fc4c4a1d8e"), looks := true }, kinds := [], alts := [], laidByText := true, laidKinds := [.data, .data, .data, .sentinel, .sentinel, .data], laidTests := true, laidLooks := .later }
def FnCodeTextCardSaid : Prop := Claim7.holds Tryd.pinned (.plain (OpenSpec.ofChange fnCodeTextSpec)) fnCodeTextCard

/-- THE TIED CARD OF 'laws.FnReadCode'. -/
def fnReadCodeCard : Claim7 := { stood := { row := fnReadCodeRow, standIns := [], harness := (true, "6166115977c2bbf71b48d621c1e15715c29496045f54e4c9683462fc4c4a1d8e"), looks := true }, kinds := [], alts := [], laidByText := true, laidKinds := [.data, .data, .data, .sentinel, .sentinel, .data], laidTests := true, laidLooks := .later }
def FnReadCodeCardSaid : Prop := Claim7.holds Tryd.pinned (.plain (OpenSpec.ofChange fnReadCodeSpec)) fnReadCodeCard

/-- THE SECOND FORM's CARD OF 'laws.FnExactCodeText'. -/
def fnExactCodeTextUptoCard : Claim7 := { stood := { row := fnExactCodeTextUptoRow, standIns := [], harness := (true, "6166115977c2bbf71b48d621c1e15715c29496045f54e4c9683462fc4c4a1d8e"), looks := true }, kinds := [], alts := [], laidByText := true, laidKinds := [.data, .data, .data, .data], laidTests := true, laidLooks := .later }
def FnExactCodeTextUptoCardSaid : Prop := Claim7.holds Tryd.pinned (.plain (OpenSpec.upto fnExactCodeTextSpec)) fnExactCodeTextUptoCard

/-- THE SECOND FORM's CARD OF 'laws.FnExactPlaceText'. -/
def fnExactPlaceTextUptoCard : Claim7 := { stood := { row := fnExactPlaceTextUptoRow, standIns := [], harness := (true, "6166115977c2bbf71b48d621c1e15715c29496045f54e4c9683462fc4c4a1d8e"), looks := true }, kinds := [], alts := [], laidByText := true, laidKinds := [.data, .data, .data], laidTests := true, laidLooks := .later }
def FnExactPlaceTextUptoCardSaid : Prop := Claim7.holds Tryd.pinned (.plain (OpenSpec.upto fnExactPlaceTextSpec)) fnExactPlaceTextUptoCard

/-- THE SECOND FORM's CARD OF 'laws.FnPlaceText'. -/
def fnPlaceTextUptoCard : Claim7 := { stood := { row := fnPlaceTextUptoRow, standIns := [], harness := (true, "6166115977c2bbf71b48d621c1e15715c29496045f54e4c9683462fc4c4a1d8e"), looks := true }, kinds := [], alts := [], laidByText := true, laidKinds := [.data, .data, .data], laidTests := true, laidLooks := .later }
def FnPlaceTextUptoCardSaid : Prop := Claim7.holds Tryd.pinned (.plain (OpenSpec.upto fnPlaceTextSpec)) fnPlaceTextUptoCard

/-- THE SECOND FORM's CARD OF 'laws.FnExactReadCode'. -/
def fnExactReadCodeUptoCard : Claim7 := { stood := { row := fnExactReadCodeUptoRow, standIns := [], harness := (true, "6166115977c2bbf71b48d621c1e15715c29496045f54e4c9683462fc4c4a1d8e"), looks := true }, kinds := [], alts := [], laidByText := true, laidKinds := [.data, .data, .data, .sentinel, .sentinel, .data], laidTests := true, laidLooks := .later }
def FnExactReadCodeUptoCardSaid : Prop := Claim7.holds Tryd.pinned (.plain (OpenSpec.upto fnExactReadCodeSpec)) fnExactReadCodeUptoCard

/-- THE SECOND FORM's CARD OF 'laws.FnCodeText'. -/
def fnCodeTextUptoCard : Claim7 := { stood := { row := fnCodeTextUptoRow, standIns := [], harness := (true, "6166115977c2bbf71b48d621c1e15715c29496045f54e4c9683462fc4c4a1d8e"), looks := true }, kinds := [], alts := [], laidByText := true, laidKinds := [.data, .data, .data, .sentinel, .sentinel, .data], laidTests := true, laidLooks := .later }
def FnCodeTextUptoCardSaid : Prop := Claim7.holds Tryd.pinned (.plain (OpenSpec.upto fnCodeTextSpec)) fnCodeTextUptoCard

/-- THE SECOND FORM's CARD OF 'laws.FnReadCode'. -/
def fnReadCodeUptoCard : Claim7 := { stood := { row := fnReadCodeUptoRow, standIns := [], harness := (true, "6166115977c2bbf71b48d621c1e15715c29496045f54e4c9683462fc4c4a1d8e"), looks := true }, kinds := [], alts := [], laidByText := true, laidKinds := [.data, .data, .data, .sentinel, .sentinel, .data], laidTests := true, laidLooks := .later }
def FnReadCodeUptoCardSaid : Prop := Claim7.holds Tryd.pinned (.plain (OpenSpec.upto fnReadCodeSpec)) fnReadCodeUptoCard
end Rows
end Go.Proofs.YtjnnjgogpapbhaaDoor
