/-
  DERIVED. GIVEN WITH THE SEED: THE CARDS: each row of YtjiagmjfnbljjaaGreatDoorRows.lean that lists a variable, with what it lists TIED to the program's text (the seventh form; the later family's looks); each row that meets fmt, with fmt's text TOLD by the authors' own Lean function (tested against real Go, not proved from fmt's source: count such statements apart). THE CARD IS WHAT COUNTS. Prove the row's statement (the work); the ties are given (YtjiagmjfnbljjaaGreatDoorTie.lean); close each card by the builder's one call (the guide's Derived/Test/ToyasCard.lean, 'card_holds'). Laid BY PROGRAM, IN A SANDBOX (cutbox-door.mjs). By AI agents, Wed Nov 11 2026. No macro, syntax, notation, axiom, sorry.
-/
import Derived.Test.YtjiagmjfnbljjaaGreatDoorRows
import GoSem.ClaimSeven
namespace Go.Proofs.YtjiagmjfnbljjaaGreatDoor
namespace Rows

/-- THE TIED CARD OF 'lexiconlaw16.ScopeTells'. -/
def scopeTellsCard : Claim7 := { stood := { row := scopeTellsRow, standIns := [], harness := (true, "b4ede818926d96d97e7acab4390a8c6559dc942060c482358d877a526e806235"), looks := false }, kinds := [], alts := [], laidByText := true, laidKinds := [.data, .pinned], laidTests := true, laidLooks := .later }
def ScopeTellsCardSaid : Prop := Claim7.holds Tryz.pinned (.plain (OpenSpec.ofChange scopeTellsSpec)) scopeTellsCard

/-- THE TIED CARD OF 'lexiconlaw16.ScopeReads'. -/
def scopeReadsCard : Claim7 := { stood := { row := scopeReadsRow, standIns := [], harness := (true, "b4ede818926d96d97e7acab4390a8c6559dc942060c482358d877a526e806235"), looks := false }, kinds := [], alts := [], laidByText := true, laidKinds := [.data, .pinned], laidTests := true, laidLooks := .later }
def ScopeReadsCardSaid : Prop := Claim7.holds Tryz.pinned (.plain (OpenSpec.ofChange scopeReadsSpec)) scopeReadsCard

/-- THE TIED CARD OF 'lexiconlaw16.ScopeHolds'. -/
def scopeHoldsCard : Claim7 := { stood := { row := scopeHoldsRow, standIns := [], harness := (true, "b4ede818926d96d97e7acab4390a8c6559dc942060c482358d877a526e806235"), looks := false }, kinds := [], alts := [], laidByText := true, laidKinds := [.data, .pinned], laidTests := true, laidLooks := .later }
def ScopeHoldsCardSaid : Prop := Claim7.holds Tryz.pinned (.plain (OpenSpec.ofChange scopeHoldsSpec)) scopeHoldsCard

/-- THE TIED CARD OF 'lexiconlaw16.ScopePlaces'. -/
def scopePlacesCard : Claim7 := { stood := { row := scopePlacesRow, standIns := [], harness := (true, "b4ede818926d96d97e7acab4390a8c6559dc942060c482358d877a526e806235"), looks := false }, kinds := [], alts := [], laidByText := true, laidKinds := [.data, .pinned], laidTests := true, laidLooks := .later }
def ScopePlacesCardSaid : Prop := Claim7.holds Tryz.pinned (.plain (OpenSpec.ofChange scopePlacesSpec)) scopePlacesCard

/-- THE TIED CARD OF 'lexiconlaw16.ScopeNests'. -/
def scopeNestsCard : Claim7 := { stood := { row := scopeNestsRow, standIns := [], harness := (true, "b4ede818926d96d97e7acab4390a8c6559dc942060c482358d877a526e806235"), looks := false }, kinds := [], alts := [], laidByText := true, laidKinds := [.data, .pinned], laidTests := true, laidLooks := .later }
def ScopeNestsCardSaid : Prop := Claim7.holds Tryz.pinned (.plain (OpenSpec.ofChange scopeNestsSpec)) scopeNestsCard

/-- THE SECOND FORM's CARD OF 'lexiconlaw16.ScopeTells'. -/
def scopeTellsUptoCard : Claim7 := { stood := { row := scopeTellsUptoRow, standIns := [], harness := (true, "b4ede818926d96d97e7acab4390a8c6559dc942060c482358d877a526e806235"), looks := false }, kinds := [], alts := [], laidByText := true, laidKinds := [.data, .pinned], laidTests := true, laidLooks := .later }
def ScopeTellsUptoCardSaid : Prop := Claim7.holds Tryz.pinned (.plain (OpenSpec.upto scopeTellsSpec)) scopeTellsUptoCard

/-- THE SECOND FORM's CARD OF 'lexiconlaw16.ScopeReads'. -/
def scopeReadsUptoCard : Claim7 := { stood := { row := scopeReadsUptoRow, standIns := [], harness := (true, "b4ede818926d96d97e7acab4390a8c6559dc942060c482358d877a526e806235"), looks := false }, kinds := [], alts := [], laidByText := true, laidKinds := [.data, .pinned], laidTests := true, laidLooks := .later }
def ScopeReadsUptoCardSaid : Prop := Claim7.holds Tryz.pinned (.plain (OpenSpec.upto scopeReadsSpec)) scopeReadsUptoCard

/-- THE SECOND FORM's CARD OF 'lexiconlaw16.ScopeHolds'. -/
def scopeHoldsUptoCard : Claim7 := { stood := { row := scopeHoldsUptoRow, standIns := [], harness := (true, "b4ede818926d96d97e7acab4390a8c6559dc942060c482358d877a526e806235"), looks := false }, kinds := [], alts := [], laidByText := true, laidKinds := [.data, .pinned], laidTests := true, laidLooks := .later }
def ScopeHoldsUptoCardSaid : Prop := Claim7.holds Tryz.pinned (.plain (OpenSpec.upto scopeHoldsSpec)) scopeHoldsUptoCard

/-- THE SECOND FORM's CARD OF 'lexiconlaw16.ScopePlaces'. -/
def scopePlacesUptoCard : Claim7 := { stood := { row := scopePlacesUptoRow, standIns := [], harness := (true, "b4ede818926d96d97e7acab4390a8c6559dc942060c482358d877a526e806235"), looks := false }, kinds := [], alts := [], laidByText := true, laidKinds := [.data, .pinned], laidTests := true, laidLooks := .later }
def ScopePlacesUptoCardSaid : Prop := Claim7.holds Tryz.pinned (.plain (OpenSpec.upto scopePlacesSpec)) scopePlacesUptoCard

/-- THE SECOND FORM's CARD OF 'lexiconlaw16.ScopeNests'. -/
def scopeNestsUptoCard : Claim7 := { stood := { row := scopeNestsUptoRow, standIns := [], harness := (true, "b4ede818926d96d97e7acab4390a8c6559dc942060c482358d877a526e806235"), looks := false }, kinds := [], alts := [], laidByText := true, laidKinds := [.data, .pinned], laidTests := true, laidLooks := .later }
def ScopeNestsUptoCardSaid : Prop := Claim7.holds Tryz.pinned (.plain (OpenSpec.upto scopeNestsSpec)) scopeNestsUptoCard
end Rows
end Go.Proofs.YtjiagmjfnbljjaaGreatDoor
