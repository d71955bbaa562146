/-
  DERIVED. GIVEN WITH THE SEED: THE CARDS: each row of YtnokilofcdbjhaaDoorRows.lean that lists a variable, with what it lists TIED to the program's text (the seventh form; the later family's looks); each row that meets fmt, with fmt's text TOLD by the authors' own Lean function (tested against real Go, not proved from fmt's source: count such statements apart). THE CARD IS WHAT COUNTS. Prove the row's statement (the work); the ties are given (YtnokilofcdbjhaaDoorTie.lean); close each card by the builder's one call (the guide's Derived/Test/ToyasCard.lean, 'card_holds'). Laid BY PROGRAM, IN A SANDBOX (cutbox-door.mjs). By AI agents, Wed Nov 11 2026. No macro, syntax, notation, axiom, sorry.
-/
import Derived.Test.YtnokilofcdbjhaaDoorRows
import GoSem.ClaimSeven
namespace Go.Proofs.YtnokilofcdbjhaaDoor
namespace Rows

/-- THE TIED CARD OF 'laws.FnExactMarksText'. -/
def fnExactMarksTextCard : Claim7 := { stood := { row := fnExactMarksTextRow, standIns := [], harness := (true, "29ea50c3331330bbc6150986be2b013ee35cabb624bac91921b9298f34366bdb"), looks := false }, kinds := [], alts := [], laidByText := true, laidKinds := [.data, .data, .data], laidTests := true, laidLooks := .later }
def FnExactMarksTextCardSaid : Prop := Claim7.holds Tryd.pinned (.plain (OpenSpec.ofChange fnExactMarksTextSpec)) fnExactMarksTextCard

/-- THE TIED CARD OF 'laws.FnExactParseMarks'. -/
def fnExactParseMarksCard : Claim7 := { stood := { row := fnExactParseMarksRow, standIns := [], harness := (true, "29ea50c3331330bbc6150986be2b013ee35cabb624bac91921b9298f34366bdb"), looks := false }, kinds := [], alts := [], laidByText := true, laidKinds := [.data, .pinned], laidTests := true, laidLooks := .later }
def FnExactParseMarksCardSaid : Prop := Claim7.holds Tryd.pinned (.plain (OpenSpec.ofChange fnExactParseMarksSpec)) fnExactParseMarksCard

/-- THE SECOND FORM's CARD OF 'laws.FnExactMarksText'. -/
def fnExactMarksTextUptoCard : Claim7 := { stood := { row := fnExactMarksTextUptoRow, standIns := [], harness := (true, "29ea50c3331330bbc6150986be2b013ee35cabb624bac91921b9298f34366bdb"), looks := false }, kinds := [], alts := [], laidByText := true, laidKinds := [.data, .data, .data], laidTests := true, laidLooks := .later }
def FnExactMarksTextUptoCardSaid : Prop := Claim7.holds Tryd.pinned (.plain (OpenSpec.upto fnExactMarksTextSpec)) fnExactMarksTextUptoCard

/-- THE SECOND FORM's CARD OF 'laws.FnExactParseMarks'. -/
def fnExactParseMarksUptoCard : Claim7 := { stood := { row := fnExactParseMarksUptoRow, standIns := [], harness := (true, "29ea50c3331330bbc6150986be2b013ee35cabb624bac91921b9298f34366bdb"), looks := false }, kinds := [], alts := [], laidByText := true, laidKinds := [.data, .pinned], laidTests := true, laidLooks := .later }
def FnExactParseMarksUptoCardSaid : Prop := Claim7.holds Tryd.pinned (.plain (OpenSpec.upto fnExactParseMarksSpec)) fnExactParseMarksUptoCard
end Rows
end Go.Proofs.YtnokilofcdbjhaaDoor
