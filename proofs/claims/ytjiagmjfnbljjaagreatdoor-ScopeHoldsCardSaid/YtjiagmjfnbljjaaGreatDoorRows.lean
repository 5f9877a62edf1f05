/-
  NARROWER THAN 'FOR EVERY INPUT', by the rows' own cells (each row's printed sentence says how): ScopeTells: loops, laid · ScopeReads: laid · ScopeHolds: laid · ScopePlaces: laid · ScopeNests: laid.
  DERIVED. THE GIVEN ROWS OF THIS SEAT. 5 by the template 'for every input the law returns true; each argument reads behind the call as it read before'; 0 by the template 'total and deterministic' (their statements: YtjiagmjfnbljjaaGreatDoorTotals.lean).
  GIVEN WITH THE SEED: the statements are not yours to turn. If you find one false, say at which input.
  Laid BY PROGRAM, IN A SANDBOX (cutbox-rows.mjs): the forced cells as the released guide's own fill.sh prints them over the translation d0ea7f436dd2b71a… (all of the seat's roots in one cut). By AI agents, Wed Nov 11 2026. No macro, syntax, notation, axiom, sorry.
-/
import Derived.Test.YtjiagmjfnbljjaaGreatDoorChecked
import GoSem.PinnedTables
import GoSem.Claim
import GoSem.ClaimJoined
import GoSem.ClaimMapViews
import Derived.JoinedTies
import Derived.KernelRfl
namespace Go.Proofs.YtjiagmjfnbljjaaGreatDoor
/- THE CELL 'sum', in the pinned program and in every row, IS THE sha256 OF THE DUMP (.gsa) THAT YtjiagmjfnbljjaaGreatDoorProg.lean LOADS. Nothing in Lean hashes anything: it is a label: what it is worth is what the hold of that sum in a sandbox is worth. -/
noncomputable def Tryz.pinned : Pinned := { name := "ytjiagmjfnbljjaagreatdoor", sum := "d0ea7f436dd2b71ae268052934f3e3d9eb9f8ae9b2596e8bddc8ac33437a955c", checked := Tryz.checked }
namespace Rows
def none {H : Type} : Left H := { results := [], args := [] }

/- WHAT THE LISTED PACKAGE-LEVEL VARIABLES READ AS WHEN THE CALL BEGINS. Each datum BY PROGRAM (the guide's laid-datum.mjs) off the statement by which the dump's own 'gosem.cut.vars' lays the variable. In a bare row this is a premise. The card (YtjiagmjfnbljjaaGreatDoorCards.lean) ties it to the program's text. -/
def laid_unicode_utf8_acceptRanges {H : Type} : DataW H := .agg [.agg [.lit (.int .u8 128), .lit (.int .u8 191)], .agg [.lit (.int .u8 160), .lit (.int .u8 191)], .agg [.lit (.int .u8 128), .lit (.int .u8 159)], .agg [.lit (.int .u8 144), .lit (.int .u8 191)], .agg [.lit (.int .u8 128), .lit (.int .u8 143)], .agg [.lit (.int .u8 0), .lit (.int .u8 0)], .agg [.lit (.int .u8 0), .lit (.int .u8 0)], .agg [.lit (.int .u8 0), .lit (.int .u8 0)], .agg [.lit (.int .u8 0), .lit (.int .u8 0)], .agg [.lit (.int .u8 0), .lit (.int .u8 0)], .agg [.lit (.int .u8 0), .lit (.int .u8 0)], .agg [.lit (.int .u8 0), .lit (.int .u8 0)], .agg [.lit (.int .u8 0), .lit (.int .u8 0)], .agg [.lit (.int .u8 0), .lit (.int .u8 0)], .agg [.lit (.int .u8 0), .lit (.int .u8 0)], .agg [.lit (.int .u8 0), .lit (.int .u8 0)]]
/-- One of Go's own tables, pinned by name: the form's constant. -/
def laid_unicode_utf8_first : DataW Unit := Go.Pinned.utf8First

/-- 'lexiconlaw16.ScopeTells': WHATEVER THE INPUT: true; the input reads as it did. -/
def scopeTellsSpec : ChangeSpec := { name := "scopeTells", fn := fun _ => fun
  | [d] => { results := [.lit (.bool true)], args := [d] }
  | _ => none }
def scopeTellsRow : OpenClaim := { program := "ytjiagmjfnbljjaagreatdoor", sum := "d0ea7f436dd2b71ae268052934f3e3d9eb9f8ae9b2596e8bddc8ac33437a955c", func := "lexicon/lexiconlaw16.ScopeTells", spec := "scopeTells", unfollowed := true, recurses := true, named := ["unicode/utf8.first", "unicode/utf8.acceptRanges"], loops := true, apart := false, laid := [("unicode/utf8.acceptRanges", laid_unicode_utf8_acceptRanges), ("unicode/utf8.first", laid_unicode_utf8_first)] }
def ScopeTellsSaid : Prop := scopeTellsRow.holds Tryz.pinned (OpenSpec.ofChange scopeTellsSpec)

/-- ITS FALSE NEIGHBOUR: 'it returns false'. Refute it at one input. -/
def scopeTellsWrong : ChangeSpec := { name := "scopeTells", fn := fun _ => fun
  | [d] => { results := [.lit (.bool false)], args := [d] }
  | _ => none }
def ScopeTellsWrongFalsely : Prop := scopeTellsRow.holds Tryz.pinned (OpenSpec.ofChange scopeTellsWrong)

/-- 'lexiconlaw16.ScopeReads': WHATEVER THE INPUT: true; the input reads as it did. -/
def scopeReadsSpec : ChangeSpec := { name := "scopeReads", fn := fun _ => fun
  | [d] => { results := [.lit (.bool true)], args := [d] }
  | _ => none }
def scopeReadsRow : OpenClaim := { program := "ytjiagmjfnbljjaagreatdoor", sum := "d0ea7f436dd2b71ae268052934f3e3d9eb9f8ae9b2596e8bddc8ac33437a955c", func := "lexicon/lexiconlaw16.ScopeReads", spec := "scopeReads", unfollowed := true, recurses := true, named := ["unicode/utf8.first", "unicode/utf8.acceptRanges"], apart := false, laid := [("unicode/utf8.acceptRanges", laid_unicode_utf8_acceptRanges), ("unicode/utf8.first", laid_unicode_utf8_first)] }
def ScopeReadsSaid : Prop := scopeReadsRow.holds Tryz.pinned (OpenSpec.ofChange scopeReadsSpec)

/-- ITS FALSE NEIGHBOUR: 'it returns false'. Refute it at one input. -/
def scopeReadsWrong : ChangeSpec := { name := "scopeReads", fn := fun _ => fun
  | [d] => { results := [.lit (.bool false)], args := [d] }
  | _ => none }
def ScopeReadsWrongFalsely : Prop := scopeReadsRow.holds Tryz.pinned (OpenSpec.ofChange scopeReadsWrong)

/-- 'lexiconlaw16.ScopeHolds': WHATEVER THE INPUT: true; the input reads as it did. -/
def scopeHoldsSpec : ChangeSpec := { name := "scopeHolds", fn := fun _ => fun
  | [d] => { results := [.lit (.bool true)], args := [d] }
  | _ => none }
def scopeHoldsRow : OpenClaim := { program := "ytjiagmjfnbljjaagreatdoor", sum := "d0ea7f436dd2b71ae268052934f3e3d9eb9f8ae9b2596e8bddc8ac33437a955c", func := "lexicon/lexiconlaw16.ScopeHolds", spec := "scopeHolds", unfollowed := true, recurses := true, named := ["unicode/utf8.first", "unicode/utf8.acceptRanges"], apart := false, laid := [("unicode/utf8.acceptRanges", laid_unicode_utf8_acceptRanges), ("unicode/utf8.first", laid_unicode_utf8_first)] }
def ScopeHoldsSaid : Prop := scopeHoldsRow.holds Tryz.pinned (OpenSpec.ofChange scopeHoldsSpec)

/-- ITS FALSE NEIGHBOUR: 'it returns false'. Refute it at one input. -/
def scopeHoldsWrong : ChangeSpec := { name := "scopeHolds", fn := fun _ => fun
  | [d] => { results := [.lit (.bool false)], args := [d] }
  | _ => none }
def ScopeHoldsWrongFalsely : Prop := scopeHoldsRow.holds Tryz.pinned (OpenSpec.ofChange scopeHoldsWrong)

/-- 'lexiconlaw16.ScopePlaces': WHATEVER THE INPUT: true; the input reads as it did. -/
def scopePlacesSpec : ChangeSpec := { name := "scopePlaces", fn := fun _ => fun
  | [d] => { results := [.lit (.bool true)], args := [d] }
  | _ => none }
def scopePlacesRow : OpenClaim := { program := "ytjiagmjfnbljjaagreatdoor", sum := "d0ea7f436dd2b71ae268052934f3e3d9eb9f8ae9b2596e8bddc8ac33437a955c", func := "lexicon/lexiconlaw16.ScopePlaces", spec := "scopePlaces", unfollowed := true, recurses := true, named := ["unicode/utf8.first", "unicode/utf8.acceptRanges"], apart := false, laid := [("unicode/utf8.acceptRanges", laid_unicode_utf8_acceptRanges), ("unicode/utf8.first", laid_unicode_utf8_first)] }
def ScopePlacesSaid : Prop := scopePlacesRow.holds Tryz.pinned (OpenSpec.ofChange scopePlacesSpec)

/-- ITS FALSE NEIGHBOUR: 'it returns false'. Refute it at one input. -/
def scopePlacesWrong : ChangeSpec := { name := "scopePlaces", fn := fun _ => fun
  | [d] => { results := [.lit (.bool false)], args := [d] }
  | _ => none }
def ScopePlacesWrongFalsely : Prop := scopePlacesRow.holds Tryz.pinned (OpenSpec.ofChange scopePlacesWrong)

/-- 'lexiconlaw16.ScopeNests': WHATEVER THE INPUT: true; the input reads as it did. -/
def scopeNestsSpec : ChangeSpec := { name := "scopeNests", fn := fun _ => fun
  | [d1, d2] => { results := [.lit (.bool true)], args := [d1, d2] }
  | _ => none }
def scopeNestsRow : OpenClaim := { program := "ytjiagmjfnbljjaagreatdoor", sum := "d0ea7f436dd2b71ae268052934f3e3d9eb9f8ae9b2596e8bddc8ac33437a955c", func := "lexicon/lexiconlaw16.ScopeNests", spec := "scopeNests", unfollowed := true, recurses := true, named := ["unicode/utf8.first", "unicode/utf8.acceptRanges"], apart := false, laid := [("unicode/utf8.acceptRanges", laid_unicode_utf8_acceptRanges), ("unicode/utf8.first", laid_unicode_utf8_first)] }
def ScopeNestsSaid : Prop := scopeNestsRow.holds Tryz.pinned (OpenSpec.ofChange scopeNestsSpec)

/-- ITS FALSE NEIGHBOUR: 'it returns false'. Refute it at one input. -/
def scopeNestsWrong : ChangeSpec := { name := "scopeNests", fn := fun _ => fun
  | [d1, d2] => { results := [.lit (.bool false)], args := [d1, d2] }
  | _ => none }
def ScopeNestsWrongFalsely : Prop := scopeNestsRow.holds Tryz.pinned (OpenSpec.ofChange scopeNestsWrong)

/- THE SECOND FORM. 'bulk': how many values and letters a reading holds, each counted each time it is reached (what is shared counts as often as it is met; a slice's spare places count too). A statement '..UptoSaid' is the law's where the arguments, and the package variables that the reading takes, are together of bulk at most 1048576: NARROWER than '..Said'. Prove '..Said' where nothing that the law and all that it calls make is longer than what came in: it says more and counts as full. Else prove '..UptoSaid'. A law counts once. -/
mutual
def uptoBulk {H : Type} : DataW H → Nat
  | .lit (.string bytes) => bytes.length + 1
  | .lit _ => 1
  | .nil => 1
  | .ptr d => uptoBulk d + 1
  | .slice elems spare => uptoBulkAll elems + uptoBulkAll spare + 1
  | .agg parts => uptoBulkAll parts + 1
  | .iface _ d => uptoBulk d + 1
  | .map entries => uptoBulkEntries entries + 1
  | .held _ => 1
def uptoBulkAll {H : Type} : List (DataW H) → Nat
  | [] => 0
  | d :: r => uptoBulk d + uptoBulkAll r
def uptoBulkEntries {H : Type} : List (Lit × DataW H) → Nat
  | [] => 0
  | x :: r => uptoBulkEntry x + uptoBulkEntries r
def uptoBulkEntry {H : Type} : Lit × DataW H → Nat
  | (.string bytes, d) => bytes.length + uptoBulk d + 1
  | (_, d) => uptoBulk d + 1
 end
def uptoSmall : (H : Type) → List (DataW H) → Bool := fun _ ds => decide (uptoBulkAll ds ≤ 1048576)
def OpenSpec.upto (s : _root_.Go.ChangeSpec) : _root_.Go.OpenSpec := { _root_.Go.OpenSpec.ofChange s with cond := some uptoSmall }

/-- 'lexiconlaw16.ScopeTells', WHERE WHAT IT READS IS OF BULK AT MOST 1048576: true; the input reads as it did. -/
def scopeTellsUptoRow : OpenClaim := { program := "ytjiagmjfnbljjaagreatdoor", sum := "d0ea7f436dd2b71ae268052934f3e3d9eb9f8ae9b2596e8bddc8ac33437a955c", func := "lexicon/lexiconlaw16.ScopeTells", spec := "scopeTells", unfollowed := true, recurses := true, named := ["unicode/utf8.first", "unicode/utf8.acceptRanges"], loops := true, apart := false, laid := [("unicode/utf8.acceptRanges", laid_unicode_utf8_acceptRanges), ("unicode/utf8.first", laid_unicode_utf8_first)], narrowed := true }
def ScopeTellsUptoSaid : Prop := scopeTellsUptoRow.holds Tryz.pinned (OpenSpec.upto scopeTellsSpec)

/-- 'lexiconlaw16.ScopeReads', WHERE WHAT IT READS IS OF BULK AT MOST 1048576: true; the input reads as it did. -/
def scopeReadsUptoRow : OpenClaim := { program := "ytjiagmjfnbljjaagreatdoor", sum := "d0ea7f436dd2b71ae268052934f3e3d9eb9f8ae9b2596e8bddc8ac33437a955c", func := "lexicon/lexiconlaw16.ScopeReads", spec := "scopeReads", unfollowed := true, recurses := true, named := ["unicode/utf8.first", "unicode/utf8.acceptRanges"], apart := false, laid := [("unicode/utf8.acceptRanges", laid_unicode_utf8_acceptRanges), ("unicode/utf8.first", laid_unicode_utf8_first)], narrowed := true }
def ScopeReadsUptoSaid : Prop := scopeReadsUptoRow.holds Tryz.pinned (OpenSpec.upto scopeReadsSpec)

/-- 'lexiconlaw16.ScopeHolds', WHERE WHAT IT READS IS OF BULK AT MOST 1048576: true; the input reads as it did. -/
def scopeHoldsUptoRow : OpenClaim := { program := "ytjiagmjfnbljjaagreatdoor", sum := "d0ea7f436dd2b71ae268052934f3e3d9eb9f8ae9b2596e8bddc8ac33437a955c", func := "lexicon/lexiconlaw16.ScopeHolds", spec := "scopeHolds", unfollowed := true, recurses := true, named := ["unicode/utf8.first", "unicode/utf8.acceptRanges"], apart := false, laid := [("unicode/utf8.acceptRanges", laid_unicode_utf8_acceptRanges), ("unicode/utf8.first", laid_unicode_utf8_first)], narrowed := true }
def ScopeHoldsUptoSaid : Prop := scopeHoldsUptoRow.holds Tryz.pinned (OpenSpec.upto scopeHoldsSpec)

/-- 'lexiconlaw16.ScopePlaces', WHERE WHAT IT READS IS OF BULK AT MOST 1048576: true; the input reads as it did. -/
def scopePlacesUptoRow : OpenClaim := { program := "ytjiagmjfnbljjaagreatdoor", sum := "d0ea7f436dd2b71ae268052934f3e3d9eb9f8ae9b2596e8bddc8ac33437a955c", func := "lexicon/lexiconlaw16.ScopePlaces", spec := "scopePlaces", unfollowed := true, recurses := true, named := ["unicode/utf8.first", "unicode/utf8.acceptRanges"], apart := false, laid := [("unicode/utf8.acceptRanges", laid_unicode_utf8_acceptRanges), ("unicode/utf8.first", laid_unicode_utf8_first)], narrowed := true }
def ScopePlacesUptoSaid : Prop := scopePlacesUptoRow.holds Tryz.pinned (OpenSpec.upto scopePlacesSpec)

/-- 'lexiconlaw16.ScopeNests', WHERE WHAT IT READS IS OF BULK AT MOST 1048576: true; the input reads as it did. -/
def scopeNestsUptoRow : OpenClaim := { program := "ytjiagmjfnbljjaagreatdoor", sum := "d0ea7f436dd2b71ae268052934f3e3d9eb9f8ae9b2596e8bddc8ac33437a955c", func := "lexicon/lexiconlaw16.ScopeNests", spec := "scopeNests", unfollowed := true, recurses := true, named := ["unicode/utf8.first", "unicode/utf8.acceptRanges"], apart := false, laid := [("unicode/utf8.acceptRanges", laid_unicode_utf8_acceptRanges), ("unicode/utf8.first", laid_unicode_utf8_first)], narrowed := true }
def ScopeNestsUptoSaid : Prop := scopeNestsUptoRow.holds Tryz.pinned (OpenSpec.upto scopeNestsSpec)

end Rows
end Go.Proofs.YtjiagmjfnbljjaaGreatDoor
