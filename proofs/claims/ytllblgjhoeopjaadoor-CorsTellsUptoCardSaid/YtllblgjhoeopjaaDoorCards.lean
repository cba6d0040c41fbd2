/-
  DERIVED. GIVEN WITH THE SEED: THE CARDS: each row of YtllblgjhoeopjaaDoorRows.lean that lists a variable, with what it lists TIED to the program's text (the seventh form; the later family's looks); each row that meets fmt, with fmt's text TOLD by the authors' own Lean function (tested against real Go, not proved from fmt's source: count such statements apart). THE CARD IS WHAT COUNTS. Prove the row's statement (the work); the ties are given (YtllblgjhoeopjaaDoorTie.lean); close each card by the builder's one call (the guide's Derived/Test/ToyasCard.lean, 'card_holds'). Laid BY PROGRAM, IN A SANDBOX (cutbox-door.mjs). By AI agents, Wed Nov 11 2026. No macro, syntax, notation, axiom, sorry.
-/
import Derived.Test.YtllblgjhoeopjaaDoorRows
import GoSem.ClaimSeven
namespace Go.Proofs.YtllblgjhoeopjaaDoor
namespace Rows

/-- THE TIED CARD OF 'postilionlaw09.ReplyHeads'. -/
def replyHeadsCard : Claim7 := { stood := { row := replyHeadsRow, standIns := [], harness := (true, "4bab7ab4fc3714cb1ecc72dfebaef7ac20d98c05f9ba47574dacf8281d4fdb84"), looks := false }, kinds := [], alts := [], laidByText := true, laidKinds := [.data, .pinned], laidTests := true, laidLooks := .later }
def ReplyHeadsCardSaid : Prop := Claim7.holds Tryd.pinned (.plain (OpenSpec.ofChange replyHeadsSpec)) replyHeadsCard

/-- THE TIED CARD OF 'postilionlaw13.CorsParts'. -/
def corsPartsCard : Claim7 := { stood := { row := corsPartsRow, standIns := [], harness := (true, "4bab7ab4fc3714cb1ecc72dfebaef7ac20d98c05f9ba47574dacf8281d4fdb84"), looks := false }, kinds := [], alts := [], laidByText := true, laidKinds := [.data, .pinned], laidTests := true, laidLooks := .later }
def CorsPartsCardSaid : Prop := Claim7.holds Tryd.pinned (.plain (OpenSpec.ofChange corsPartsSpec)) corsPartsCard

/-- THE TIED CARD OF 'postilionlaw13.CorsForms'. -/
def corsFormsCard : Claim7 := { stood := { row := corsFormsRow, standIns := [], harness := (true, "4bab7ab4fc3714cb1ecc72dfebaef7ac20d98c05f9ba47574dacf8281d4fdb84"), looks := false }, kinds := [], alts := [], laidByText := true, laidKinds := [.data, .pinned], laidTests := true, laidLooks := .later }
def CorsFormsCardSaid : Prop := Claim7.holds Tryd.pinned (.plain (OpenSpec.ofChange corsFormsSpec)) corsFormsCard

/-- THE TIED CARD OF 'postilionlaw13.CorsTells'. -/
def corsTellsCard : Claim7 := { stood := { row := corsTellsRow, standIns := [], harness := (true, "4bab7ab4fc3714cb1ecc72dfebaef7ac20d98c05f9ba47574dacf8281d4fdb84"), looks := false }, kinds := [], alts := [], laidByText := true, laidKinds := [.data, .pinned], laidTests := true, laidLooks := .later }
def CorsTellsCardSaid : Prop := Claim7.holds Tryd.pinned (.plain (OpenSpec.ofChange corsTellsSpec)) corsTellsCard

/-- THE TIED CARD OF 'postilionlaw13.CorsLaws'. -/
def corsLawsCard : Claim7 := { stood := { row := corsLawsRow, standIns := [], harness := (true, "4bab7ab4fc3714cb1ecc72dfebaef7ac20d98c05f9ba47574dacf8281d4fdb84"), looks := false }, kinds := [], alts := [], laidByText := true, laidKinds := [.data, .pinned], laidTests := true, laidLooks := .later }
def CorsLawsCardSaid : Prop := Claim7.holds Tryd.pinned (.plain (OpenSpec.ofChange corsLawsSpec)) corsLawsCard

/-- THE TIED CARD OF 'postilionlaw13.CorsMethods'. -/
def corsMethodsCard : Claim7 := { stood := { row := corsMethodsRow, standIns := [], harness := (true, "4bab7ab4fc3714cb1ecc72dfebaef7ac20d98c05f9ba47574dacf8281d4fdb84"), looks := false }, kinds := [], alts := [], laidByText := true, laidKinds := [.data, .pinned], laidTests := true, laidLooks := .later }
def CorsMethodsCardSaid : Prop := Claim7.holds Tryd.pinned (.plain (OpenSpec.ofChange corsMethodsSpec)) corsMethodsCard

/-- THE TIED CARD OF 'postilionlaw09.ReplyForms'. -/
def replyFormsCard : Claim7 := { stood := { row := replyFormsRow, standIns := [], harness := (true, "4bab7ab4fc3714cb1ecc72dfebaef7ac20d98c05f9ba47574dacf8281d4fdb84"), looks := false }, kinds := [], alts := [], laidByText := true, laidKinds := [.data, .data, .data, .data, .pinned], laidTests := true, laidLooks := .later }
def ReplyFormsCardSaid : Prop := Claim7.holds Tryd.pinned (.plain (OpenSpec.ofChange replyFormsSpec)) replyFormsCard

/-- THE TIED CARD OF 'postilionlaw09.ReplyTells'. -/
def replyTellsCard : Claim7 := { stood := { row := replyTellsRow, standIns := [], harness := (true, "4bab7ab4fc3714cb1ecc72dfebaef7ac20d98c05f9ba47574dacf8281d4fdb84"), looks := false }, kinds := [], alts := [], laidByText := true, laidKinds := [.data, .data, .data, .data, .pinned], laidTests := true, laidLooks := .later }
def ReplyTellsCardSaid : Prop := Claim7.holds Tryd.pinned (.plain (OpenSpec.ofChange replyTellsSpec)) replyTellsCard

/-- THE TIED CARD OF 'postilionlaw09.ReplyBack'. -/
def replyBackCard : Claim7 := { stood := { row := replyBackRow, standIns := [], harness := (true, "4bab7ab4fc3714cb1ecc72dfebaef7ac20d98c05f9ba47574dacf8281d4fdb84"), looks := false }, kinds := [], alts := [], laidByText := true, laidKinds := [.data, .data, .data, .data, .pinned], laidTests := true, laidLooks := .later }
def ReplyBackCardSaid : Prop := Claim7.holds Tryd.pinned (.plain (OpenSpec.ofChange replyBackSpec)) replyBackCard

/-- THE SECOND FORM's CARD OF 'postilionlaw09.ReplyHeads'. -/
def replyHeadsUptoCard : Claim7 := { stood := { row := replyHeadsUptoRow, standIns := [], harness := (true, "4bab7ab4fc3714cb1ecc72dfebaef7ac20d98c05f9ba47574dacf8281d4fdb84"), looks := false }, kinds := [], alts := [], laidByText := true, laidKinds := [.data, .pinned], laidTests := true, laidLooks := .later }
def ReplyHeadsUptoCardSaid : Prop := Claim7.holds Tryd.pinned (.plain (OpenSpec.upto replyHeadsSpec)) replyHeadsUptoCard

/-- THE SECOND FORM's CARD OF 'postilionlaw13.CorsParts'. -/
def corsPartsUptoCard : Claim7 := { stood := { row := corsPartsUptoRow, standIns := [], harness := (true, "4bab7ab4fc3714cb1ecc72dfebaef7ac20d98c05f9ba47574dacf8281d4fdb84"), looks := false }, kinds := [], alts := [], laidByText := true, laidKinds := [.data, .pinned], laidTests := true, laidLooks := .later }
def CorsPartsUptoCardSaid : Prop := Claim7.holds Tryd.pinned (.plain (OpenSpec.upto corsPartsSpec)) corsPartsUptoCard

/-- THE SECOND FORM's CARD OF 'postilionlaw13.CorsForms'. -/
def corsFormsUptoCard : Claim7 := { stood := { row := corsFormsUptoRow, standIns := [], harness := (true, "4bab7ab4fc3714cb1ecc72dfebaef7ac20d98c05f9ba47574dacf8281d4fdb84"), looks := false }, kinds := [], alts := [], laidByText := true, laidKinds := [.data, .pinned], laidTests := true, laidLooks := .later }
def CorsFormsUptoCardSaid : Prop := Claim7.holds Tryd.pinned (.plain (OpenSpec.upto corsFormsSpec)) corsFormsUptoCard

/-- THE SECOND FORM's CARD OF 'postilionlaw13.CorsTells'. -/
def corsTellsUptoCard : Claim7 := { stood := { row := corsTellsUptoRow, standIns := [], harness := (true, "4bab7ab4fc3714cb1ecc72dfebaef7ac20d98c05f9ba47574dacf8281d4fdb84"), looks := false }, kinds := [], alts := [], laidByText := true, laidKinds := [.data, .pinned], laidTests := true, laidLooks := .later }
def CorsTellsUptoCardSaid : Prop := Claim7.holds Tryd.pinned (.plain (OpenSpec.upto corsTellsSpec)) corsTellsUptoCard

/-- THE SECOND FORM's CARD OF 'postilionlaw13.CorsLaws'. -/
def corsLawsUptoCard : Claim7 := { stood := { row := corsLawsUptoRow, standIns := [], harness := (true, "4bab7ab4fc3714cb1ecc72dfebaef7ac20d98c05f9ba47574dacf8281d4fdb84"), looks := false }, kinds := [], alts := [], laidByText := true, laidKinds := [.data, .pinned], laidTests := true, laidLooks := .later }
def CorsLawsUptoCardSaid : Prop := Claim7.holds Tryd.pinned (.plain (OpenSpec.upto corsLawsSpec)) corsLawsUptoCard

/-- THE SECOND FORM's CARD OF 'postilionlaw13.CorsMethods'. -/
def corsMethodsUptoCard : Claim7 := { stood := { row := corsMethodsUptoRow, standIns := [], harness := (true, "4bab7ab4fc3714cb1ecc72dfebaef7ac20d98c05f9ba47574dacf8281d4fdb84"), looks := false }, kinds := [], alts := [], laidByText := true, laidKinds := [.data, .pinned], laidTests := true, laidLooks := .later }
def CorsMethodsUptoCardSaid : Prop := Claim7.holds Tryd.pinned (.plain (OpenSpec.upto corsMethodsSpec)) corsMethodsUptoCard

/-- THE SECOND FORM's CARD OF 'postilionlaw09.ReplyForms'. -/
def replyFormsUptoCard : Claim7 := { stood := { row := replyFormsUptoRow, standIns := [], harness := (true, "4bab7ab4fc3714cb1ecc72dfebaef7ac20d98c05f9ba47574dacf8281d4fdb84"), looks := false }, kinds := [], alts := [], laidByText := true, laidKinds := [.data, .data, .data, .data, .pinned], laidTests := true, laidLooks := .later }
def ReplyFormsUptoCardSaid : Prop := Claim7.holds Tryd.pinned (.plain (OpenSpec.upto replyFormsSpec)) replyFormsUptoCard

/-- THE SECOND FORM's CARD OF 'postilionlaw09.ReplyTells'. -/
def replyTellsUptoCard : Claim7 := { stood := { row := replyTellsUptoRow, standIns := [], harness := (true, "4bab7ab4fc3714cb1ecc72dfebaef7ac20d98c05f9ba47574dacf8281d4fdb84"), looks := false }, kinds := [], alts := [], laidByText := true, laidKinds := [.data, .data, .data, .data, .pinned], laidTests := true, laidLooks := .later }
def ReplyTellsUptoCardSaid : Prop := Claim7.holds Tryd.pinned (.plain (OpenSpec.upto replyTellsSpec)) replyTellsUptoCard

/-- THE SECOND FORM's CARD OF 'postilionlaw09.ReplyBack'. -/
def replyBackUptoCard : Claim7 := { stood := { row := replyBackUptoRow, standIns := [], harness := (true, "4bab7ab4fc3714cb1ecc72dfebaef7ac20d98c05f9ba47574dacf8281d4fdb84"), looks := false }, kinds := [], alts := [], laidByText := true, laidKinds := [.data, .data, .data, .data, .pinned], laidTests := true, laidLooks := .later }
def ReplyBackUptoCardSaid : Prop := Claim7.holds Tryd.pinned (.plain (OpenSpec.upto replyBackSpec)) replyBackUptoCard
end Rows
end Go.Proofs.YtllblgjhoeopjaaDoor
