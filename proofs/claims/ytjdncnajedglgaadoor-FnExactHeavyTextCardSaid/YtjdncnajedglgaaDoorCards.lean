/-
  DERIVED. GIVEN WITH THE SEED: THE CARDS: each row of YtjdncnajedglgaaDoorRows.lean that lists a variable, with what it lists TIED to the program's text (the seventh form; the later family's looks); each row that meets fmt, with fmt's text TOLD by the authors' own Lean function (tested against real Go, not proved from fmt's source: count such statements apart). THE CARD IS WHAT COUNTS. Prove the row's statement (the work); the ties are given (YtjdncnajedglgaaDoorTie.lean); close each card by the builder's one call (the guide's Derived/Test/ToyasCard.lean, 'card_holds'). Laid BY PROGRAM, IN A SANDBOX (cutbox-door.mjs). By AI agents, Wed Nov 11 2026. No macro, syntax, notation, axiom, sorry.
-/
import Derived.Test.YtjdncnajedglgaaDoorRows
import GoSem.ClaimSeven
namespace Go.Proofs.YtjdncnajedglgaaDoor
namespace Rows

/-- THE TIED CARD OF 'laws.FnExactPairText'. -/
def fnExactPairTextCard : Claim7 := { stood := { row := fnExactPairTextRow, standIns := [], harness := (true, "828cfe6adbbbe9256eb3d91d4e6ccbba2347a97ecd56f6b4a053e82f0b21a63f"), looks := false }, kinds := [], alts := [], laidByText := true, laidKinds := [.data, .data, .data], laidTests := true, laidLooks := .later }
def FnExactPairTextCardSaid : Prop := Claim7.holds Tryd.pinned (.plain (OpenSpec.ofChange fnExactPairTextSpec)) fnExactPairTextCard

/-- THE TIED CARD OF 'laws.FnExactSessionText'. -/
def fnExactSessionTextCard : Claim7 := { stood := { row := fnExactSessionTextRow, standIns := [], harness := (true, "828cfe6adbbbe9256eb3d91d4e6ccbba2347a97ecd56f6b4a053e82f0b21a63f"), looks := false }, kinds := [], alts := [], laidByText := true, laidKinds := [.data, .data, .data], laidTests := true, laidLooks := .later }
def FnExactSessionTextCardSaid : Prop := Claim7.holds Tryd.pinned (.plain (OpenSpec.ofChange fnExactSessionTextSpec)) fnExactSessionTextCard

/-- THE TIED CARD OF 'laws.FnExactHeavyText'. -/
def fnExactHeavyTextCard : Claim7 := { stood := { row := fnExactHeavyTextRow, standIns := [], harness := (true, "828cfe6adbbbe9256eb3d91d4e6ccbba2347a97ecd56f6b4a053e82f0b21a63f"), looks := false }, kinds := [], alts := [], laidByText := true, laidKinds := [.data, .data, .data], laidTests := true, laidLooks := .later }
def FnExactHeavyTextCardSaid : Prop := Claim7.holds Tryd.pinned (.plain (OpenSpec.ofChange fnExactHeavyTextSpec)) fnExactHeavyTextCard

/-- THE SECOND FORM's CARD OF 'laws.FnExactPairText'. -/
def fnExactPairTextUptoCard : Claim7 := { stood := { row := fnExactPairTextUptoRow, standIns := [], harness := (true, "828cfe6adbbbe9256eb3d91d4e6ccbba2347a97ecd56f6b4a053e82f0b21a63f"), looks := false }, kinds := [], alts := [], laidByText := true, laidKinds := [.data, .data, .data], laidTests := true, laidLooks := .later }
def FnExactPairTextUptoCardSaid : Prop := Claim7.holds Tryd.pinned (.plain (OpenSpec.upto fnExactPairTextSpec)) fnExactPairTextUptoCard

/-- THE SECOND FORM's CARD OF 'laws.FnExactSessionText'. -/
def fnExactSessionTextUptoCard : Claim7 := { stood := { row := fnExactSessionTextUptoRow, standIns := [], harness := (true, "828cfe6adbbbe9256eb3d91d4e6ccbba2347a97ecd56f6b4a053e82f0b21a63f"), looks := false }, kinds := [], alts := [], laidByText := true, laidKinds := [.data, .data, .data], laidTests := true, laidLooks := .later }
def FnExactSessionTextUptoCardSaid : Prop := Claim7.holds Tryd.pinned (.plain (OpenSpec.upto fnExactSessionTextSpec)) fnExactSessionTextUptoCard

/-- THE SECOND FORM's CARD OF 'laws.FnExactHeavyText'. -/
def fnExactHeavyTextUptoCard : Claim7 := { stood := { row := fnExactHeavyTextUptoRow, standIns := [], harness := (true, "828cfe6adbbbe9256eb3d91d4e6ccbba2347a97ecd56f6b4a053e82f0b21a63f"), looks := false }, kinds := [], alts := [], laidByText := true, laidKinds := [.data, .data, .data], laidTests := true, laidLooks := .later }
def FnExactHeavyTextUptoCardSaid : Prop := Claim7.holds Tryd.pinned (.plain (OpenSpec.upto fnExactHeavyTextSpec)) fnExactHeavyTextUptoCard
end Rows
end Go.Proofs.YtjdncnajedglgaaDoor
