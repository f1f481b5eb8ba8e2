/-
  DERIVED. GIVEN WITH THE SEED: THE CARDS: each row of YtaejlgdmalhhnaaDoorRows.lean that lists a variable, with what it lists TIED to the program's text (the seventh form; the later family's looks); each row that meets fmt, with fmt's text TOLD by the authors' own Lean function (tested against real Go, not proved from fmt's source: count such statements apart). THE CARD IS WHAT COUNTS. Prove the row's statement (the work); the ties are given (YtaejlgdmalhhnaaDoorTie.lean); close each card by the builder's one call (the guide's Derived/Test/ToyasCard.lean, 'card_holds'). Laid BY PROGRAM, IN A SANDBOX (cutbox-door.mjs). By AI agents, Wed Nov 11 2026. No macro, syntax, notation, axiom, sorry.
-/
import Derived.Test.YtaejlgdmalhhnaaDoorRows
import GoSem.ClaimSeven
namespace Go.Proofs.YtaejlgdmalhhnaaDoor
namespace Rows

/-- THE TIED CARD OF 'rubriclaw01.RunesTexts'. -/
def runesTextsCard : Claim7 := { stood := { row := runesTextsRow, standIns := [], harness := (true, "f13792dc4d3fb2f757519698d3479f9adf17df9ce2392c20ae2f351b4cc300c7"), looks := false }, kinds := [], alts := [], laidByText := true, laidKinds := [.data, .pinned], laidTests := true, laidLooks := .later }
def RunesTextsCardSaid : Prop := Claim7.holds Tryd.pinned (.plain (OpenSpec.ofChange runesTextsSpec)) runesTextsCard

/-- THE TIED CARD OF 'rubriclaw01.RunesBack'. -/
def runesBackCard : Claim7 := { stood := { row := runesBackRow, standIns := [], harness := (true, "f13792dc4d3fb2f757519698d3479f9adf17df9ce2392c20ae2f351b4cc300c7"), looks := false }, kinds := [], alts := [], laidByText := true, laidKinds := [.data, .pinned], laidTests := true, laidLooks := .later }
def RunesBackCardSaid : Prop := Claim7.holds Tryd.pinned (.plain (OpenSpec.ofChange runesBackSpec)) runesBackCard

/-- THE TIED CARD OF 'rubriclaw01.RunesJoin'. -/
def runesJoinCard : Claim7 := { stood := { row := runesJoinRow, standIns := [], harness := (true, "f13792dc4d3fb2f757519698d3479f9adf17df9ce2392c20ae2f351b4cc300c7"), looks := false }, kinds := [], alts := [], laidByText := true, laidKinds := [.data, .pinned], laidTests := true, laidLooks := .later }
def RunesJoinCardSaid : Prop := Claim7.holds Tryd.pinned (.plain (OpenSpec.ofChange runesJoinSpec)) runesJoinCard

/-- THE TIED CARD OF 'rubriclaw01.RunesOrder'. -/
def runesOrderCard : Claim7 := { stood := { row := runesOrderRow, standIns := [], harness := (true, "f13792dc4d3fb2f757519698d3479f9adf17df9ce2392c20ae2f351b4cc300c7"), looks := false }, kinds := [], alts := [], laidByText := true, laidKinds := [.data, .pinned], laidTests := true, laidLooks := .later }
def RunesOrderCardSaid : Prop := Claim7.holds Tryd.pinned (.plain (OpenSpec.ofChange runesOrderSpec)) runesOrderCard

/-- THE TIED CARD OF 'rubriclaw07.InternPlays'. -/
def internPlaysCard : Claim7 := { stood := { row := internPlaysRow, standIns := [], harness := (true, "f13792dc4d3fb2f757519698d3479f9adf17df9ce2392c20ae2f351b4cc300c7"), looks := false }, kinds := [], alts := [], laidByText := true, laidKinds := [.data, .pinned], laidTests := true, laidLooks := .later }
def InternPlaysCardSaid : Prop := Claim7.holds Tryd.pinned (.plain (OpenSpec.ofChange internPlaysSpec)) internPlaysCard

/-- THE TIED CARD OF 'rubriclaw03.ValueMay'. -/
def valueMayCard : Claim7 := { stood := { row := valueMayRow, standIns := [], harness := (true, "f13792dc4d3fb2f757519698d3479f9adf17df9ce2392c20ae2f351b4cc300c7"), looks := false }, kinds := [], alts := [], laidByText := true, laidKinds := [.data, .pinned], laidTests := true, laidLooks := .later }
def ValueMayCardSaid : Prop := Claim7.holds Tryd.pinned (.plain (OpenSpec.ofChange valueMaySpec)) valueMayCard

/-- THE TIED CARD OF 'rubriclaw07.InternNone'. -/
def internNoneCard : Claim7 := { stood := { row := internNoneRow, standIns := [], harness := (true, "f13792dc4d3fb2f757519698d3479f9adf17df9ce2392c20ae2f351b4cc300c7"), looks := false }, kinds := [], alts := [], laidByText := true, laidKinds := [.data, .pinned], laidTests := true, laidLooks := .later }
def InternNoneCardSaid : Prop := Claim7.holds Tryd.pinned (.plain (OpenSpec.ofChange internNoneSpec)) internNoneCard

/-- THE TIED CARD OF 'rubriclaw03.ValueOrders'. -/
def valueOrdersCard : Claim7 := { stood := { row := valueOrdersRow, standIns := [], harness := (true, "f13792dc4d3fb2f757519698d3479f9adf17df9ce2392c20ae2f351b4cc300c7"), looks := false }, kinds := [], alts := [], laidByText := true, laidKinds := [.data, .pinned], laidTests := true, laidLooks := .later }
def ValueOrdersCardSaid : Prop := Claim7.holds Tryd.pinned (.plain (OpenSpec.ofChange valueOrdersSpec)) valueOrdersCard

/-- THE TIED CARD OF 'rubriclaw03.ValueOrder'. -/
def valueOrderCard : Claim7 := { stood := { row := valueOrderRow, standIns := [], harness := (true, "f13792dc4d3fb2f757519698d3479f9adf17df9ce2392c20ae2f351b4cc300c7"), looks := false }, kinds := [], alts := [], laidByText := true, laidKinds := [.data, .pinned], laidTests := true, laidLooks := .later }
def ValueOrderCardSaid : Prop := Claim7.holds Tryd.pinned (.plain (OpenSpec.ofChange valueOrderSpec)) valueOrderCard

/-- THE TIED CARD OF 'rubriclaw03.ValueMade'. -/
def valueMadeCard : Claim7 := { stood := { row := valueMadeRow, standIns := [], harness := (true, "f13792dc4d3fb2f757519698d3479f9adf17df9ce2392c20ae2f351b4cc300c7"), looks := false }, kinds := [], alts := [], laidByText := true, laidKinds := [.data, .pinned], laidTests := true, laidLooks := .later }
def ValueMadeCardSaid : Prop := Claim7.holds Tryd.pinned (.plain (OpenSpec.ofChange valueMadeSpec)) valueMadeCard

/-- THE TIED CARD OF 'rubriclaw04.SchemaFits'. -/
def schemaFitsCard : Claim7 := { stood := { row := schemaFitsRow, standIns := [], harness := (true, "f13792dc4d3fb2f757519698d3479f9adf17df9ce2392c20ae2f351b4cc300c7"), looks := false }, kinds := [], alts := [], laidByText := true, laidKinds := [.data, .pinned], laidTests := true, laidLooks := .later }
def SchemaFitsCardSaid : Prop := Claim7.holds Tryd.pinned (.plain (OpenSpec.ofChange schemaFitsSpec)) schemaFitsCard

/-- THE TIED CARD OF 'rubriclaw04.SchemaKeys'. -/
def schemaKeysCard : Claim7 := { stood := { row := schemaKeysRow, standIns := [], harness := (true, "f13792dc4d3fb2f757519698d3479f9adf17df9ce2392c20ae2f351b4cc300c7"), looks := false }, kinds := [], alts := [], laidByText := true, laidKinds := [.data, .pinned], laidTests := true, laidLooks := .later }
def SchemaKeysCardSaid : Prop := Claim7.holds Tryd.pinned (.plain (OpenSpec.ofChange schemaKeysSpec)) schemaKeysCard

/-- THE TIED CARD OF 'rubriclaw04.SchemaNone'. -/
def schemaNoneCard : Claim7 := { stood := { row := schemaNoneRow, standIns := [], harness := (true, "f13792dc4d3fb2f757519698d3479f9adf17df9ce2392c20ae2f351b4cc300c7"), looks := false }, kinds := [], alts := [], laidByText := true, laidKinds := [.data, .pinned], laidTests := true, laidLooks := .later }
def SchemaNoneCardSaid : Prop := Claim7.holds Tryd.pinned (.plain (OpenSpec.ofChange schemaNoneSpec)) schemaNoneCard

/-- THE TIED CARD OF 'rubriclaw07.InternReuse'. -/
def internReuseCard : Claim7 := { stood := { row := internReuseRow, standIns := [], harness := (true, "f13792dc4d3fb2f757519698d3479f9adf17df9ce2392c20ae2f351b4cc300c7"), looks := false }, kinds := [], alts := [], laidByText := true, laidKinds := [.data, .pinned], laidTests := true, laidLooks := .later }
def InternReuseCardSaid : Prop := Claim7.holds Tryd.pinned (.plain (OpenSpec.ofChange internReuseSpec)) internReuseCard

/-- THE TIED CARD OF 'rubriclaw07.InternOne'. -/
def internOneCard : Claim7 := { stood := { row := internOneRow, standIns := [], harness := (true, "f13792dc4d3fb2f757519698d3479f9adf17df9ce2392c20ae2f351b4cc300c7"), looks := false }, kinds := [], alts := [], laidByText := true, laidKinds := [.data, .pinned], laidTests := true, laidLooks := .later }
def InternOneCardSaid : Prop := Claim7.holds Tryd.pinned (.plain (OpenSpec.ofChange internOneSpec)) internOneCard

/-- THE TIED CARD OF 'rubriclaw07.InternStays'. -/
def internStaysCard : Claim7 := { stood := { row := internStaysRow, standIns := [], harness := (true, "f13792dc4d3fb2f757519698d3479f9adf17df9ce2392c20ae2f351b4cc300c7"), looks := false }, kinds := [], alts := [], laidByText := true, laidKinds := [.data, .pinned], laidTests := true, laidLooks := .later }
def InternStaysCardSaid : Prop := Claim7.holds Tryd.pinned (.plain (OpenSpec.ofChange internStaysSpec)) internStaysCard

/-- THE TIED CARD OF 'rubriclaw07.InternHolds'. -/
def internHoldsCard : Claim7 := { stood := { row := internHoldsRow, standIns := [], harness := (true, "f13792dc4d3fb2f757519698d3479f9adf17df9ce2392c20ae2f351b4cc300c7"), looks := false }, kinds := [], alts := [], laidByText := true, laidKinds := [.data, .pinned], laidTests := true, laidLooks := .later }
def InternHoldsCardSaid : Prop := Claim7.holds Tryd.pinned (.plain (OpenSpec.ofChange internHoldsSpec)) internHoldsCard

/-- THE SECOND FORM's CARD OF 'rubriclaw01.RunesTexts'. -/
def runesTextsUptoCard : Claim7 := { stood := { row := runesTextsUptoRow, standIns := [], harness := (true, "f13792dc4d3fb2f757519698d3479f9adf17df9ce2392c20ae2f351b4cc300c7"), looks := false }, kinds := [], alts := [], laidByText := true, laidKinds := [.data, .pinned], laidTests := true, laidLooks := .later }
def RunesTextsUptoCardSaid : Prop := Claim7.holds Tryd.pinned (.plain (OpenSpec.upto runesTextsSpec)) runesTextsUptoCard

/-- THE SECOND FORM's CARD OF 'rubriclaw01.RunesBack'. -/
def runesBackUptoCard : Claim7 := { stood := { row := runesBackUptoRow, standIns := [], harness := (true, "f13792dc4d3fb2f757519698d3479f9adf17df9ce2392c20ae2f351b4cc300c7"), looks := false }, kinds := [], alts := [], laidByText := true, laidKinds := [.data, .pinned], laidTests := true, laidLooks := .later }
def RunesBackUptoCardSaid : Prop := Claim7.holds Tryd.pinned (.plain (OpenSpec.upto runesBackSpec)) runesBackUptoCard

/-- THE SECOND FORM's CARD OF 'rubriclaw01.RunesJoin'. -/
def runesJoinUptoCard : Claim7 := { stood := { row := runesJoinUptoRow, standIns := [], harness := (true, "f13792dc4d3fb2f757519698d3479f9adf17df9ce2392c20ae2f351b4cc300c7"), looks := false }, kinds := [], alts := [], laidByText := true, laidKinds := [.data, .pinned], laidTests := true, laidLooks := .later }
def RunesJoinUptoCardSaid : Prop := Claim7.holds Tryd.pinned (.plain (OpenSpec.upto runesJoinSpec)) runesJoinUptoCard

/-- THE SECOND FORM's CARD OF 'rubriclaw01.RunesOrder'. -/
def runesOrderUptoCard : Claim7 := { stood := { row := runesOrderUptoRow, standIns := [], harness := (true, "f13792dc4d3fb2f757519698d3479f9adf17df9ce2392c20ae2f351b4cc300c7"), looks := false }, kinds := [], alts := [], laidByText := true, laidKinds := [.data, .pinned], laidTests := true, laidLooks := .later }
def RunesOrderUptoCardSaid : Prop := Claim7.holds Tryd.pinned (.plain (OpenSpec.upto runesOrderSpec)) runesOrderUptoCard

/-- THE SECOND FORM's CARD OF 'rubriclaw07.InternPlays'. -/
def internPlaysUptoCard : Claim7 := { stood := { row := internPlaysUptoRow, standIns := [], harness := (true, "f13792dc4d3fb2f757519698d3479f9adf17df9ce2392c20ae2f351b4cc300c7"), looks := false }, kinds := [], alts := [], laidByText := true, laidKinds := [.data, .pinned], laidTests := true, laidLooks := .later }
def InternPlaysUptoCardSaid : Prop := Claim7.holds Tryd.pinned (.plain (OpenSpec.upto internPlaysSpec)) internPlaysUptoCard

/-- THE SECOND FORM's CARD OF 'rubriclaw03.ValueMay'. -/
def valueMayUptoCard : Claim7 := { stood := { row := valueMayUptoRow, standIns := [], harness := (true, "f13792dc4d3fb2f757519698d3479f9adf17df9ce2392c20ae2f351b4cc300c7"), looks := false }, kinds := [], alts := [], laidByText := true, laidKinds := [.data, .pinned], laidTests := true, laidLooks := .later }
def ValueMayUptoCardSaid : Prop := Claim7.holds Tryd.pinned (.plain (OpenSpec.upto valueMaySpec)) valueMayUptoCard

/-- THE SECOND FORM's CARD OF 'rubriclaw07.InternNone'. -/
def internNoneUptoCard : Claim7 := { stood := { row := internNoneUptoRow, standIns := [], harness := (true, "f13792dc4d3fb2f757519698d3479f9adf17df9ce2392c20ae2f351b4cc300c7"), looks := false }, kinds := [], alts := [], laidByText := true, laidKinds := [.data, .pinned], laidTests := true, laidLooks := .later }
def InternNoneUptoCardSaid : Prop := Claim7.holds Tryd.pinned (.plain (OpenSpec.upto internNoneSpec)) internNoneUptoCard

/-- THE SECOND FORM's CARD OF 'rubriclaw03.ValueOrders'. -/
def valueOrdersUptoCard : Claim7 := { stood := { row := valueOrdersUptoRow, standIns := [], harness := (true, "f13792dc4d3fb2f757519698d3479f9adf17df9ce2392c20ae2f351b4cc300c7"), looks := false }, kinds := [], alts := [], laidByText := true, laidKinds := [.data, .pinned], laidTests := true, laidLooks := .later }
def ValueOrdersUptoCardSaid : Prop := Claim7.holds Tryd.pinned (.plain (OpenSpec.upto valueOrdersSpec)) valueOrdersUptoCard

/-- THE SECOND FORM's CARD OF 'rubriclaw03.ValueOrder'. -/
def valueOrderUptoCard : Claim7 := { stood := { row := valueOrderUptoRow, standIns := [], harness := (true, "f13792dc4d3fb2f757519698d3479f9adf17df9ce2392c20ae2f351b4cc300c7"), looks := false }, kinds := [], alts := [], laidByText := true, laidKinds := [.data, .pinned], laidTests := true, laidLooks := .later }
def ValueOrderUptoCardSaid : Prop := Claim7.holds Tryd.pinned (.plain (OpenSpec.upto valueOrderSpec)) valueOrderUptoCard

/-- THE SECOND FORM's CARD OF 'rubriclaw03.ValueMade'. -/
def valueMadeUptoCard : Claim7 := { stood := { row := valueMadeUptoRow, standIns := [], harness := (true, "f13792dc4d3fb2f757519698d3479f9adf17df9ce2392c20ae2f351b4cc300c7"), looks := false }, kinds := [], alts := [], laidByText := true, laidKinds := [.data, .pinned], laidTests := true, laidLooks := .later }
def ValueMadeUptoCardSaid : Prop := Claim7.holds Tryd.pinned (.plain (OpenSpec.upto valueMadeSpec)) valueMadeUptoCard

/-- THE SECOND FORM's CARD OF 'rubriclaw04.SchemaFits'. -/
def schemaFitsUptoCard : Claim7 := { stood := { row := schemaFitsUptoRow, standIns := [], harness := (true, "f13792dc4d3fb2f757519698d3479f9adf17df9ce2392c20ae2f351b4cc300c7"), looks := false }, kinds := [], alts := [], laidByText := true, laidKinds := [.data, .pinned], laidTests := true, laidLooks := .later }
def SchemaFitsUptoCardSaid : Prop := Claim7.holds Tryd.pinned (.plain (OpenSpec.upto schemaFitsSpec)) schemaFitsUptoCard

/-- THE SECOND FORM's CARD OF 'rubriclaw04.SchemaKeys'. -/
def schemaKeysUptoCard : Claim7 := { stood := { row := schemaKeysUptoRow, standIns := [], harness := (true, "f13792dc4d3fb2f757519698d3479f9adf17df9ce2392c20ae2f351b4cc300c7"), looks := false }, kinds := [], alts := [], laidByText := true, laidKinds := [.data, .pinned], laidTests := true, laidLooks := .later }
def SchemaKeysUptoCardSaid : Prop := Claim7.holds Tryd.pinned (.plain (OpenSpec.upto schemaKeysSpec)) schemaKeysUptoCard

/-- THE SECOND FORM's CARD OF 'rubriclaw04.SchemaNone'. -/
def schemaNoneUptoCard : Claim7 := { stood := { row := schemaNoneUptoRow, standIns := [], harness := (true, "f13792dc4d3fb2f757519698d3479f9adf17df9ce2392c20ae2f351b4cc300c7"), looks := false }, kinds := [], alts := [], laidByText := true, laidKinds := [.data, .pinned], laidTests := true, laidLooks := .later }
def SchemaNoneUptoCardSaid : Prop := Claim7.holds Tryd.pinned (.plain (OpenSpec.upto schemaNoneSpec)) schemaNoneUptoCard

/-- THE SECOND FORM's CARD OF 'rubriclaw07.InternReuse'. -/
def internReuseUptoCard : Claim7 := { stood := { row := internReuseUptoRow, standIns := [], harness := (true, "f13792dc4d3fb2f757519698d3479f9adf17df9ce2392c20ae2f351b4cc300c7"), looks := false }, kinds := [], alts := [], laidByText := true, laidKinds := [.data, .pinned], laidTests := true, laidLooks := .later }
def InternReuseUptoCardSaid : Prop := Claim7.holds Tryd.pinned (.plain (OpenSpec.upto internReuseSpec)) internReuseUptoCard

/-- THE SECOND FORM's CARD OF 'rubriclaw07.InternOne'. -/
def internOneUptoCard : Claim7 := { stood := { row := internOneUptoRow, standIns := [], harness := (true, "f13792dc4d3fb2f757519698d3479f9adf17df9ce2392c20ae2f351b4cc300c7"), looks := false }, kinds := [], alts := [], laidByText := true, laidKinds := [.data, .pinned], laidTests := true, laidLooks := .later }
def InternOneUptoCardSaid : Prop := Claim7.holds Tryd.pinned (.plain (OpenSpec.upto internOneSpec)) internOneUptoCard

/-- THE SECOND FORM's CARD OF 'rubriclaw07.InternStays'. -/
def internStaysUptoCard : Claim7 := { stood := { row := internStaysUptoRow, standIns := [], harness := (true, "f13792dc4d3fb2f757519698d3479f9adf17df9ce2392c20ae2f351b4cc300c7"), looks := false }, kinds := [], alts := [], laidByText := true, laidKinds := [.data, .pinned], laidTests := true, laidLooks := .later }
def InternStaysUptoCardSaid : Prop := Claim7.holds Tryd.pinned (.plain (OpenSpec.upto internStaysSpec)) internStaysUptoCard

/-- THE SECOND FORM's CARD OF 'rubriclaw07.InternHolds'. -/
def internHoldsUptoCard : Claim7 := { stood := { row := internHoldsUptoRow, standIns := [], harness := (true, "f13792dc4d3fb2f757519698d3479f9adf17df9ce2392c20ae2f351b4cc300c7"), looks := false }, kinds := [], alts := [], laidByText := true, laidKinds := [.data, .pinned], laidTests := true, laidLooks := .later }
def InternHoldsUptoCardSaid : Prop := Claim7.holds Tryd.pinned (.plain (OpenSpec.upto internHoldsSpec)) internHoldsUptoCard
end Rows
end Go.Proofs.YtaejlgdmalhhnaaDoor
