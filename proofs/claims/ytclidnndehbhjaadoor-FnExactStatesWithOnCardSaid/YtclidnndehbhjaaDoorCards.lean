/-
  DERIVED. GIVEN WITH THE SEED: THE CARDS: each row of YtclidnndehbhjaaDoorRows.lean that lists a variable, with what it lists TIED to the program's text (the seventh form; the later family's looks); each row that meets fmt, with fmt's text TOLD by the authors' own Lean function (tested against real Go, not proved from fmt's source: count such statements apart). THE CARD IS WHAT COUNTS. Prove the row's statement (the work); the ties are given (YtclidnndehbhjaaDoorTie.lean); close each card by the builder's one call (the guide's Derived/Test/ToyasCard.lean, 'card_holds'). Laid BY PROGRAM, IN A SANDBOX (cutbox-door.mjs). By AI agents, Wed Nov 11 2026. No macro, syntax, notation, axiom, sorry.
-/
import Derived.Test.YtclidnndehbhjaaDoorRows
import GoSem.ClaimSeven
namespace Go.Proofs.YtclidnndehbhjaaDoor
namespace Rows

/-- THE TIED CARD OF 'laws.FnExactMeanToClear'. -/
def fnExactMeanToClearCard : Claim7 := { stood := { row := fnExactMeanToClearRow, standIns := [], harness := (true, "e8c4d500a3412b2b400e52872e2b903141d5d583e542f3a3738a3b154430bf5b"), looks := false }, kinds := [], alts := [], laidByText := true, laidKinds := [.data, .pinned], laidTests := true, laidLooks := .later }
def FnExactMeanToClearCardSaid : Prop := Claim7.holds Tryd.pinned (.plain (OpenSpec.ofChange fnExactMeanToClearSpec)) fnExactMeanToClearCard

/-- THE TIED CARD OF 'laws.FnExactMeanFrom'. -/
def fnExactMeanFromCard : Claim7 := { stood := { row := fnExactMeanFromRow, standIns := [], harness := (true, "e8c4d500a3412b2b400e52872e2b903141d5d583e542f3a3738a3b154430bf5b"), looks := false }, kinds := [], alts := [], laidByText := true, laidKinds := [.data, .pinned], laidTests := true, laidLooks := .later }
def FnExactMeanFromCardSaid : Prop := Claim7.holds Tryd.pinned (.plain (OpenSpec.ofChange fnExactMeanFromSpec)) fnExactMeanFromCard

/-- THE TIED CARD OF 'laws.FnExactChanceBefore'. -/
def fnExactChanceBeforeCard : Claim7 := { stood := { row := fnExactChanceBeforeRow, standIns := [], harness := (true, "e8c4d500a3412b2b400e52872e2b903141d5d583e542f3a3738a3b154430bf5b"), looks := false }, kinds := [], alts := [], laidByText := true, laidKinds := [.data, .pinned], laidTests := true, laidLooks := .later }
def FnExactChanceBeforeCardSaid : Prop := Claim7.holds Tryd.pinned (.plain (OpenSpec.ofChange fnExactChanceBeforeSpec)) fnExactChanceBeforeCard

/-- THE TIED CARD OF 'laws.FnExactWalksTo'. -/
def fnExactWalksToCard : Claim7 := { stood := { row := fnExactWalksToRow, standIns := [], harness := (true, "e8c4d500a3412b2b400e52872e2b903141d5d583e542f3a3738a3b154430bf5b"), looks := false }, kinds := [], alts := [], laidByText := true, laidKinds := [.data, .pinned], laidTests := true, laidLooks := .later }
def FnExactWalksToCardSaid : Prop := Claim7.holds Tryd.pinned (.plain (OpenSpec.ofChange fnExactWalksToSpec)) fnExactWalksToCard

/-- THE TIED CARD OF 'laws.FnExactChanceAfter'. -/
def fnExactChanceAfterCard : Claim7 := { stood := { row := fnExactChanceAfterRow, standIns := [], harness := (true, "e8c4d500a3412b2b400e52872e2b903141d5d583e542f3a3738a3b154430bf5b"), looks := false }, kinds := [], alts := [], laidByText := true, laidKinds := [.data, .pinned], laidTests := true, laidLooks := .later }
def FnExactChanceAfterCardSaid : Prop := Claim7.holds Tryd.pinned (.plain (OpenSpec.ofChange fnExactChanceAfterSpec)) fnExactChanceAfterCard

/-- THE TIED CARD OF 'laws.FnExactLikeliestAfter'. -/
def fnExactLikeliestAfterCard : Claim7 := { stood := { row := fnExactLikeliestAfterRow, standIns := [], harness := (true, "e8c4d500a3412b2b400e52872e2b903141d5d583e542f3a3738a3b154430bf5b"), looks := false }, kinds := [], alts := [], laidByText := true, laidKinds := [.data, .pinned], laidTests := true, laidLooks := .later }
def FnExactLikeliestAfterCardSaid : Prop := Claim7.holds Tryd.pinned (.plain (OpenSpec.ofChange fnExactLikeliestAfterSpec)) fnExactLikeliestAfterCard

/-- THE TIED CARD OF 'laws.FnExactLeastWithOn'. -/
def fnExactLeastWithOnCard : Claim7 := { stood := { row := fnExactLeastWithOnRow, standIns := [], harness := (true, "e8c4d500a3412b2b400e52872e2b903141d5d583e542f3a3738a3b154430bf5b"), looks := false }, kinds := [], alts := [], laidByText := true, laidKinds := [.data, .pinned], laidTests := true, laidLooks := .later }
def FnExactLeastWithOnCardSaid : Prop := Claim7.holds Tryd.pinned (.plain (OpenSpec.ofChange fnExactLeastWithOnSpec)) fnExactLeastWithOnCard

/-- THE TIED CARD OF 'laws.FnExactGreatestWithOn'. -/
def fnExactGreatestWithOnCard : Claim7 := { stood := { row := fnExactGreatestWithOnRow, standIns := [], harness := (true, "e8c4d500a3412b2b400e52872e2b903141d5d583e542f3a3738a3b154430bf5b"), looks := false }, kinds := [], alts := [], laidByText := true, laidKinds := [.data, .pinned], laidTests := true, laidLooks := .later }
def FnExactGreatestWithOnCardSaid : Prop := Claim7.holds Tryd.pinned (.plain (OpenSpec.ofChange fnExactGreatestWithOnSpec)) fnExactGreatestWithOnCard

/-- THE TIED CARD OF 'laws.FnExactSumWithOn'. -/
def fnExactSumWithOnCard : Claim7 := { stood := { row := fnExactSumWithOnRow, standIns := [], harness := (true, "e8c4d500a3412b2b400e52872e2b903141d5d583e542f3a3738a3b154430bf5b"), looks := false }, kinds := [], alts := [], laidByText := true, laidKinds := [.data, .pinned], laidTests := true, laidLooks := .later }
def FnExactSumWithOnCardSaid : Prop := Claim7.holds Tryd.pinned (.plain (OpenSpec.ofChange fnExactSumWithOnSpec)) fnExactSumWithOnCard

/-- THE TIED CARD OF 'laws.FnExactMeanOnAlong'. -/
def fnExactMeanOnAlongCard : Claim7 := { stood := { row := fnExactMeanOnAlongRow, standIns := [], harness := (true, "e8c4d500a3412b2b400e52872e2b903141d5d583e542f3a3738a3b154430bf5b"), looks := false }, kinds := [], alts := [], laidByText := true, laidKinds := [.data, .pinned], laidTests := true, laidLooks := .later }
def FnExactMeanOnAlongCardSaid : Prop := Claim7.holds Tryd.pinned (.plain (OpenSpec.ofChange fnExactMeanOnAlongSpec)) fnExactMeanOnAlongCard

/-- THE TIED CARD OF 'laws.FnExactStatesWithOn'. -/
def fnExactStatesWithOnCard : Claim7 := { stood := { row := fnExactStatesWithOnRow, standIns := [], harness := (true, "e8c4d500a3412b2b400e52872e2b903141d5d583e542f3a3738a3b154430bf5b"), looks := false }, kinds := [], alts := [], laidByText := true, laidKinds := [.data, .pinned], laidTests := true, laidLooks := .later }
def FnExactStatesWithOnCardSaid : Prop := Claim7.holds Tryd.pinned (.plain (OpenSpec.ofChange fnExactStatesWithOnSpec)) fnExactStatesWithOnCard

/-- THE SECOND FORM's CARD OF 'laws.FnExactMeanToClear'. -/
def fnExactMeanToClearUptoCard : Claim7 := { stood := { row := fnExactMeanToClearUptoRow, standIns := [], harness := (true, "e8c4d500a3412b2b400e52872e2b903141d5d583e542f3a3738a3b154430bf5b"), looks := false }, kinds := [], alts := [], laidByText := true, laidKinds := [.data, .pinned], laidTests := true, laidLooks := .later }
def FnExactMeanToClearUptoCardSaid : Prop := Claim7.holds Tryd.pinned (.plain (OpenSpec.upto fnExactMeanToClearSpec)) fnExactMeanToClearUptoCard

/-- THE SECOND FORM's CARD OF 'laws.FnExactMeanFrom'. -/
def fnExactMeanFromUptoCard : Claim7 := { stood := { row := fnExactMeanFromUptoRow, standIns := [], harness := (true, "e8c4d500a3412b2b400e52872e2b903141d5d583e542f3a3738a3b154430bf5b"), looks := false }, kinds := [], alts := [], laidByText := true, laidKinds := [.data, .pinned], laidTests := true, laidLooks := .later }
def FnExactMeanFromUptoCardSaid : Prop := Claim7.holds Tryd.pinned (.plain (OpenSpec.upto fnExactMeanFromSpec)) fnExactMeanFromUptoCard

/-- THE SECOND FORM's CARD OF 'laws.FnExactChanceBefore'. -/
def fnExactChanceBeforeUptoCard : Claim7 := { stood := { row := fnExactChanceBeforeUptoRow, standIns := [], harness := (true, "e8c4d500a3412b2b400e52872e2b903141d5d583e542f3a3738a3b154430bf5b"), looks := false }, kinds := [], alts := [], laidByText := true, laidKinds := [.data, .pinned], laidTests := true, laidLooks := .later }
def FnExactChanceBeforeUptoCardSaid : Prop := Claim7.holds Tryd.pinned (.plain (OpenSpec.upto fnExactChanceBeforeSpec)) fnExactChanceBeforeUptoCard

/-- THE SECOND FORM's CARD OF 'laws.FnExactWalksTo'. -/
def fnExactWalksToUptoCard : Claim7 := { stood := { row := fnExactWalksToUptoRow, standIns := [], harness := (true, "e8c4d500a3412b2b400e52872e2b903141d5d583e542f3a3738a3b154430bf5b"), looks := false }, kinds := [], alts := [], laidByText := true, laidKinds := [.data, .pinned], laidTests := true, laidLooks := .later }
def FnExactWalksToUptoCardSaid : Prop := Claim7.holds Tryd.pinned (.plain (OpenSpec.upto fnExactWalksToSpec)) fnExactWalksToUptoCard

/-- THE SECOND FORM's CARD OF 'laws.FnExactChanceAfter'. -/
def fnExactChanceAfterUptoCard : Claim7 := { stood := { row := fnExactChanceAfterUptoRow, standIns := [], harness := (true, "e8c4d500a3412b2b400e52872e2b903141d5d583e542f3a3738a3b154430bf5b"), looks := false }, kinds := [], alts := [], laidByText := true, laidKinds := [.data, .pinned], laidTests := true, laidLooks := .later }
def FnExactChanceAfterUptoCardSaid : Prop := Claim7.holds Tryd.pinned (.plain (OpenSpec.upto fnExactChanceAfterSpec)) fnExactChanceAfterUptoCard

/-- THE SECOND FORM's CARD OF 'laws.FnExactLikeliestAfter'. -/
def fnExactLikeliestAfterUptoCard : Claim7 := { stood := { row := fnExactLikeliestAfterUptoRow, standIns := [], harness := (true, "e8c4d500a3412b2b400e52872e2b903141d5d583e542f3a3738a3b154430bf5b"), looks := false }, kinds := [], alts := [], laidByText := true, laidKinds := [.data, .pinned], laidTests := true, laidLooks := .later }
def FnExactLikeliestAfterUptoCardSaid : Prop := Claim7.holds Tryd.pinned (.plain (OpenSpec.upto fnExactLikeliestAfterSpec)) fnExactLikeliestAfterUptoCard

/-- THE SECOND FORM's CARD OF 'laws.FnExactLeastWithOn'. -/
def fnExactLeastWithOnUptoCard : Claim7 := { stood := { row := fnExactLeastWithOnUptoRow, standIns := [], harness := (true, "e8c4d500a3412b2b400e52872e2b903141d5d583e542f3a3738a3b154430bf5b"), looks := false }, kinds := [], alts := [], laidByText := true, laidKinds := [.data, .pinned], laidTests := true, laidLooks := .later }
def FnExactLeastWithOnUptoCardSaid : Prop := Claim7.holds Tryd.pinned (.plain (OpenSpec.upto fnExactLeastWithOnSpec)) fnExactLeastWithOnUptoCard

/-- THE SECOND FORM's CARD OF 'laws.FnExactGreatestWithOn'. -/
def fnExactGreatestWithOnUptoCard : Claim7 := { stood := { row := fnExactGreatestWithOnUptoRow, standIns := [], harness := (true, "e8c4d500a3412b2b400e52872e2b903141d5d583e542f3a3738a3b154430bf5b"), looks := false }, kinds := [], alts := [], laidByText := true, laidKinds := [.data, .pinned], laidTests := true, laidLooks := .later }
def FnExactGreatestWithOnUptoCardSaid : Prop := Claim7.holds Tryd.pinned (.plain (OpenSpec.upto fnExactGreatestWithOnSpec)) fnExactGreatestWithOnUptoCard

/-- THE SECOND FORM's CARD OF 'laws.FnExactSumWithOn'. -/
def fnExactSumWithOnUptoCard : Claim7 := { stood := { row := fnExactSumWithOnUptoRow, standIns := [], harness := (true, "e8c4d500a3412b2b400e52872e2b903141d5d583e542f3a3738a3b154430bf5b"), looks := false }, kinds := [], alts := [], laidByText := true, laidKinds := [.data, .pinned], laidTests := true, laidLooks := .later }
def FnExactSumWithOnUptoCardSaid : Prop := Claim7.holds Tryd.pinned (.plain (OpenSpec.upto fnExactSumWithOnSpec)) fnExactSumWithOnUptoCard

/-- THE SECOND FORM's CARD OF 'laws.FnExactMeanOnAlong'. -/
def fnExactMeanOnAlongUptoCard : Claim7 := { stood := { row := fnExactMeanOnAlongUptoRow, standIns := [], harness := (true, "e8c4d500a3412b2b400e52872e2b903141d5d583e542f3a3738a3b154430bf5b"), looks := false }, kinds := [], alts := [], laidByText := true, laidKinds := [.data, .pinned], laidTests := true, laidLooks := .later }
def FnExactMeanOnAlongUptoCardSaid : Prop := Claim7.holds Tryd.pinned (.plain (OpenSpec.upto fnExactMeanOnAlongSpec)) fnExactMeanOnAlongUptoCard

/-- THE SECOND FORM's CARD OF 'laws.FnExactStatesWithOn'. -/
def fnExactStatesWithOnUptoCard : Claim7 := { stood := { row := fnExactStatesWithOnUptoRow, standIns := [], harness := (true, "e8c4d500a3412b2b400e52872e2b903141d5d583e542f3a3738a3b154430bf5b"), looks := false }, kinds := [], alts := [], laidByText := true, laidKinds := [.data, .pinned], laidTests := true, laidLooks := .later }
def FnExactStatesWithOnUptoCardSaid : Prop := Claim7.holds Tryd.pinned (.plain (OpenSpec.upto fnExactStatesWithOnSpec)) fnExactStatesWithOnUptoCard
end Rows
end Go.Proofs.YtclidnndehbhjaaDoor
