/-
  DERIVED. GIVEN WITH THE SEED: THE CARDS: each row of YtkcemdfhhdjdaaaDoorRows.lean that lists a variable, with what it lists TIED to the program's text (the seventh form; the later family's looks); each row that meets fmt, with fmt's text TOLD by the authors' own Lean function (tested against real Go, not proved from fmt's source: count such statements apart). THE CARD IS WHAT COUNTS. Prove the row's statement (the work); the ties are given (YtkcemdfhhdjdaaaDoorTie.lean); close each card by the builder's one call (the guide's Derived/Test/ToyasCard.lean, 'card_holds'). Laid BY PROGRAM, IN A SANDBOX (cutbox-door.mjs). By AI agents, Wed Nov 11 2026. No macro, syntax, notation, axiom, sorry.
-/
import Derived.Test.YtkcemdfhhdjdaaaDoorRows
import GoSem.ClaimSeven
namespace Go.Proofs.YtkcemdfhhdjdaaaDoor
namespace Rows

/-- THE TIED CARD OF 'haversacklaw17.ScriptWords'. -/
def scriptWordsCard : Claim7 := { stood := { row := scriptWordsRow, standIns := [], harness := (true, "b564ecc3bda78392046bbe2d8a639e1848e20aaa785d817a202c0e025175ee52"), looks := false }, kinds := [], alts := [], laidByText := true, laidKinds := [.data, .data, .data, .data, .pinned], laidTests := true, laidLooks := .later }
def ScriptWordsCardSaid : Prop := Claim7.holds Tryd.pinned (.plain (OpenSpec.ofChange scriptWordsSpec)) scriptWordsCard

/-- THE TIED CARD OF 'haversacklaw17.ScriptBlocks'. -/
def scriptBlocksCard : Claim7 := { stood := { row := scriptBlocksRow, standIns := [], harness := (true, "b564ecc3bda78392046bbe2d8a639e1848e20aaa785d817a202c0e025175ee52"), looks := false }, kinds := [], alts := [], laidByText := true, laidKinds := [.data, .data, .data, .data, .pinned], laidTests := true, laidLooks := .later }
def ScriptBlocksCardSaid : Prop := Claim7.holds Tryd.pinned (.plain (OpenSpec.ofChange scriptBlocksSpec)) scriptBlocksCard

/-- THE TIED CARD OF 'haversacklaw17.ScriptMany'. -/
def scriptManyCard : Claim7 := { stood := { row := scriptManyRow, standIns := [], harness := (true, "b564ecc3bda78392046bbe2d8a639e1848e20aaa785d817a202c0e025175ee52"), looks := false }, kinds := [], alts := [], laidByText := true, laidKinds := [.data, .data, .data, .data, .pinned], laidTests := true, laidLooks := .later }
def ScriptManyCardSaid : Prop := Claim7.holds Tryd.pinned (.plain (OpenSpec.ofChange scriptManySpec)) scriptManyCard

/-- THE TIED CARD OF 'haversacklaw17.ScriptQuotes'. -/
def scriptQuotesCard : Claim7 := { stood := { row := scriptQuotesRow, standIns := [], harness := (true, "b564ecc3bda78392046bbe2d8a639e1848e20aaa785d817a202c0e025175ee52"), looks := false }, kinds := [], alts := [], laidByText := true, laidKinds := [.data, .data, .data, .data, .pinned], laidTests := true, laidLooks := .later }
def ScriptQuotesCardSaid : Prop := Claim7.holds Tryd.pinned (.plain (OpenSpec.ofChange scriptQuotesSpec)) scriptQuotesCard

/-- THE TIED CARD OF 'haversacklaw17.ScriptNoise'. -/
def scriptNoiseCard : Claim7 := { stood := { row := scriptNoiseRow, standIns := [], harness := (true, "b564ecc3bda78392046bbe2d8a639e1848e20aaa785d817a202c0e025175ee52"), looks := false }, kinds := [], alts := [], laidByText := true, laidKinds := [.data, .data, .data, .data, .pinned], laidTests := true, laidLooks := .later }
def ScriptNoiseCardSaid : Prop := Claim7.holds Tryd.pinned (.plain (OpenSpec.ofChange scriptNoiseSpec)) scriptNoiseCard

/-- THE SECOND FORM's CARD OF 'haversacklaw17.ScriptWords'. -/
def scriptWordsUptoCard : Claim7 := { stood := { row := scriptWordsUptoRow, standIns := [], harness := (true, "b564ecc3bda78392046bbe2d8a639e1848e20aaa785d817a202c0e025175ee52"), looks := false }, kinds := [], alts := [], laidByText := true, laidKinds := [.data, .data, .data, .data, .pinned], laidTests := true, laidLooks := .later }
def ScriptWordsUptoCardSaid : Prop := Claim7.holds Tryd.pinned (.plain (OpenSpec.upto scriptWordsSpec)) scriptWordsUptoCard

/-- THE SECOND FORM's CARD OF 'haversacklaw17.ScriptBlocks'. -/
def scriptBlocksUptoCard : Claim7 := { stood := { row := scriptBlocksUptoRow, standIns := [], harness := (true, "b564ecc3bda78392046bbe2d8a639e1848e20aaa785d817a202c0e025175ee52"), looks := false }, kinds := [], alts := [], laidByText := true, laidKinds := [.data, .data, .data, .data, .pinned], laidTests := true, laidLooks := .later }
def ScriptBlocksUptoCardSaid : Prop := Claim7.holds Tryd.pinned (.plain (OpenSpec.upto scriptBlocksSpec)) scriptBlocksUptoCard

/-- THE SECOND FORM's CARD OF 'haversacklaw17.ScriptMany'. -/
def scriptManyUptoCard : Claim7 := { stood := { row := scriptManyUptoRow, standIns := [], harness := (true, "b564ecc3bda78392046bbe2d8a639e1848e20aaa785d817a202c0e025175ee52"), looks := false }, kinds := [], alts := [], laidByText := true, laidKinds := [.data, .data, .data, .data, .pinned], laidTests := true, laidLooks := .later }
def ScriptManyUptoCardSaid : Prop := Claim7.holds Tryd.pinned (.plain (OpenSpec.upto scriptManySpec)) scriptManyUptoCard

/-- THE SECOND FORM's CARD OF 'haversacklaw17.ScriptQuotes'. -/
def scriptQuotesUptoCard : Claim7 := { stood := { row := scriptQuotesUptoRow, standIns := [], harness := (true, "b564ecc3bda78392046bbe2d8a639e1848e20aaa785d817a202c0e025175ee52"), looks := false }, kinds := [], alts := [], laidByText := true, laidKinds := [.data, .data, .data, .data, .pinned], laidTests := true, laidLooks := .later }
def ScriptQuotesUptoCardSaid : Prop := Claim7.holds Tryd.pinned (.plain (OpenSpec.upto scriptQuotesSpec)) scriptQuotesUptoCard

/-- THE SECOND FORM's CARD OF 'haversacklaw17.ScriptNoise'. -/
def scriptNoiseUptoCard : Claim7 := { stood := { row := scriptNoiseUptoRow, standIns := [], harness := (true, "b564ecc3bda78392046bbe2d8a639e1848e20aaa785d817a202c0e025175ee52"), looks := false }, kinds := [], alts := [], laidByText := true, laidKinds := [.data, .data, .data, .data, .pinned], laidTests := true, laidLooks := .later }
def ScriptNoiseUptoCardSaid : Prop := Claim7.holds Tryd.pinned (.plain (OpenSpec.upto scriptNoiseSpec)) scriptNoiseUptoCard
end Rows
end Go.Proofs.YtkcemdfhhdjdaaaDoor
