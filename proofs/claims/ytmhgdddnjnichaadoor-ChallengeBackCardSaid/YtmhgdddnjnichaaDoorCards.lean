/-
  DERIVED. GIVEN WITH THE SEED: THE CARDS: each row of YtmhgdddnjnichaaDoorRows.lean that lists a variable, with what it lists TIED to the program's text (the seventh form; the later family's looks); each row that meets fmt, with fmt's text TOLD by the authors' own Lean function (tested against real Go, not proved from fmt's source: count such statements apart). THE CARD IS WHAT COUNTS. Prove the row's statement (the work); the ties are given (YtmhgdddnjnichaaDoorTie.lean); close each card by the builder's one call (the guide's Derived/Test/ToyasCard.lean, 'card_holds'). Laid BY PROGRAM, IN A SANDBOX (cutbox-door.mjs). By AI agents, Wed Nov 11 2026. No macro, syntax, notation, axiom, sorry.
-/
import Derived.Test.YtmhgdddnjnichaaDoorRows
import GoSem.ClaimSeven
namespace Go.Proofs.YtmhgdddnjnichaaDoor
namespace Rows

/-- THE TIED CARD OF 'viaticumlaw07.ShaParts'. -/
def shaPartsCard : Claim7 := { stood := { row := shaPartsRow, standIns := [], harness := (true, "ed8aa95a4a81bee766869e468cf37e264f1891744981333fa96c96c96c61e57f"), looks := false }, kinds := [], alts := [], laidByText := true, laidKinds := [.data], laidTests := true, laidLooks := .later }
def ShaPartsCardSaid : Prop := Claim7.holds Tryd.pinned (.plain (OpenSpec.ofChange shaPartsSpec)) shaPartsCard

/-- THE TIED CARD OF 'viaticumlaw07.ShaSums'. -/
def shaSumsCard : Claim7 := { stood := { row := shaSumsRow, standIns := [], harness := (true, "ed8aa95a4a81bee766869e468cf37e264f1891744981333fa96c96c96c61e57f"), looks := false }, kinds := [], alts := [], laidByText := true, laidKinds := [.data], laidTests := true, laidLooks := .later }
def ShaSumsCardSaid : Prop := Claim7.holds Tryd.pinned (.plain (OpenSpec.ofChange shaSumsSpec)) shaSumsCard

/-- THE TIED CARD OF 'viaticumlaw08.HmacTags'. -/
def hmacTagsCard : Claim7 := { stood := { row := hmacTagsRow, standIns := [], harness := (true, "ed8aa95a4a81bee766869e468cf37e264f1891744981333fa96c96c96c61e57f"), looks := false }, kinds := [], alts := [], laidByText := true, laidKinds := [.data], laidTests := true, laidLooks := .later }
def HmacTagsCardSaid : Prop := Claim7.holds Tryd.pinned (.plain (OpenSpec.ofChange hmacTagsSpec)) hmacTagsCard

/-- THE TIED CARD OF 'viaticumlaw08.HmacKeys'. -/
def hmacKeysCard : Claim7 := { stood := { row := hmacKeysRow, standIns := [], harness := (true, "ed8aa95a4a81bee766869e468cf37e264f1891744981333fa96c96c96c61e57f"), looks := false }, kinds := [], alts := [], laidByText := true, laidKinds := [.data], laidTests := true, laidLooks := .later }
def HmacKeysCardSaid : Prop := Claim7.holds Tryd.pinned (.plain (OpenSpec.ofChange hmacKeysSpec)) hmacKeysCard

/-- THE TIED CARD OF 'viaticumlaw09.RingTells'. -/
def ringTellsCard : Claim7 := { stood := { row := ringTellsRow, standIns := [], harness := (true, "ed8aa95a4a81bee766869e468cf37e264f1891744981333fa96c96c96c61e57f"), looks := false }, kinds := [], alts := [], laidByText := true, laidKinds := [.data], laidTests := true, laidLooks := .later }
def RingTellsCardSaid : Prop := Claim7.holds Tryd.pinned (.plain (OpenSpec.ofChange ringTellsSpec)) ringTellsCard

/-- THE TIED CARD OF 'viaticumlaw09.RingKeeps'. -/
def ringKeepsCard : Claim7 := { stood := { row := ringKeepsRow, standIns := [], harness := (true, "ed8aa95a4a81bee766869e468cf37e264f1891744981333fa96c96c96c61e57f"), looks := false }, kinds := [], alts := [], laidByText := true, laidKinds := [.data], laidTests := true, laidLooks := .later }
def RingKeepsCardSaid : Prop := Claim7.holds Tryd.pinned (.plain (OpenSpec.ofChange ringKeepsSpec)) ringKeepsCard

/-- THE TIED CARD OF 'viaticumlaw10.TokenIssues'. -/
def tokenIssuesCard : Claim7 := { stood := { row := tokenIssuesRow, standIns := [], harness := (true, "ed8aa95a4a81bee766869e468cf37e264f1891744981333fa96c96c96c61e57f"), looks := false }, kinds := [], alts := [], laidByText := true, laidKinds := [.data], laidTests := true, laidLooks := .later }
def TokenIssuesCardSaid : Prop := Claim7.holds Tryd.pinned (.plain (OpenSpec.ofChange tokenIssuesSpec)) tokenIssuesCard

/-- THE TIED CARD OF 'viaticumlaw10.TokenVerifies'. -/
def tokenVerifiesCard : Claim7 := { stood := { row := tokenVerifiesRow, standIns := [], harness := (true, "ed8aa95a4a81bee766869e468cf37e264f1891744981333fa96c96c96c61e57f"), looks := false }, kinds := [], alts := [], laidByText := true, laidKinds := [.data], laidTests := true, laidLooks := .later }
def TokenVerifiesCardSaid : Prop := Claim7.holds Tryd.pinned (.plain (OpenSpec.ofChange tokenVerifiesSpec)) tokenVerifiesCard

/-- THE TIED CARD OF 'viaticumlaw10.TokenTagged'. -/
def tokenTaggedCard : Claim7 := { stood := { row := tokenTaggedRow, standIns := [], harness := (true, "ed8aa95a4a81bee766869e468cf37e264f1891744981333fa96c96c96c61e57f"), looks := false }, kinds := [], alts := [], laidByText := true, laidKinds := [.data], laidTests := true, laidLooks := .later }
def TokenTaggedCardSaid : Prop := Claim7.holds Tryd.pinned (.plain (OpenSpec.ofChange tokenTaggedSpec)) tokenTaggedCard

/-- THE TIED CARD OF 'viaticumlaw10.TokenBack'. -/
def tokenBackCard : Claim7 := { stood := { row := tokenBackRow, standIns := [], harness := (true, "ed8aa95a4a81bee766869e468cf37e264f1891744981333fa96c96c96c61e57f"), looks := false }, kinds := [], alts := [], laidByText := true, laidKinds := [.data], laidTests := true, laidLooks := .later }
def TokenBackCardSaid : Prop := Claim7.holds Tryd.pinned (.plain (OpenSpec.ofChange tokenBackSpec)) tokenBackCard

/-- THE TIED CARD OF 'viaticumlaw11.ChallengeAnswers'. -/
def challengeAnswersCard : Claim7 := { stood := { row := challengeAnswersRow, standIns := [], harness := (true, "ed8aa95a4a81bee766869e468cf37e264f1891744981333fa96c96c96c61e57f"), looks := false }, kinds := [], alts := [], laidByText := true, laidKinds := [.data], laidTests := true, laidLooks := .later }
def ChallengeAnswersCardSaid : Prop := Claim7.holds Tryd.pinned (.plain (OpenSpec.ofChange challengeAnswersSpec)) challengeAnswersCard

/-- THE TIED CARD OF 'viaticumlaw11.ChallengeChecks'. -/
def challengeChecksCard : Claim7 := { stood := { row := challengeChecksRow, standIns := [], harness := (true, "ed8aa95a4a81bee766869e468cf37e264f1891744981333fa96c96c96c61e57f"), looks := false }, kinds := [], alts := [], laidByText := true, laidKinds := [.data], laidTests := true, laidLooks := .later }
def ChallengeChecksCardSaid : Prop := Claim7.holds Tryd.pinned (.plain (OpenSpec.ofChange challengeChecksSpec)) challengeChecksCard

/-- THE TIED CARD OF 'viaticumlaw11.ChallengeBack'. -/
def challengeBackCard : Claim7 := { stood := { row := challengeBackRow, standIns := [], harness := (true, "ed8aa95a4a81bee766869e468cf37e264f1891744981333fa96c96c96c61e57f"), looks := false }, kinds := [], alts := [], laidByText := true, laidKinds := [.data], laidTests := true, laidLooks := .later }
def ChallengeBackCardSaid : Prop := Claim7.holds Tryd.pinned (.plain (OpenSpec.ofChange challengeBackSpec)) challengeBackCard

/-- THE SECOND FORM's CARD OF 'viaticumlaw07.ShaParts'. -/
def shaPartsUptoCard : Claim7 := { stood := { row := shaPartsUptoRow, standIns := [], harness := (true, "ed8aa95a4a81bee766869e468cf37e264f1891744981333fa96c96c96c61e57f"), looks := false }, kinds := [], alts := [], laidByText := true, laidKinds := [.data], laidTests := true, laidLooks := .later }
def ShaPartsUptoCardSaid : Prop := Claim7.holds Tryd.pinned (.plain (OpenSpec.upto shaPartsSpec)) shaPartsUptoCard

/-- THE SECOND FORM's CARD OF 'viaticumlaw07.ShaSums'. -/
def shaSumsUptoCard : Claim7 := { stood := { row := shaSumsUptoRow, standIns := [], harness := (true, "ed8aa95a4a81bee766869e468cf37e264f1891744981333fa96c96c96c61e57f"), looks := false }, kinds := [], alts := [], laidByText := true, laidKinds := [.data], laidTests := true, laidLooks := .later }
def ShaSumsUptoCardSaid : Prop := Claim7.holds Tryd.pinned (.plain (OpenSpec.upto shaSumsSpec)) shaSumsUptoCard

/-- THE SECOND FORM's CARD OF 'viaticumlaw08.HmacTags'. -/
def hmacTagsUptoCard : Claim7 := { stood := { row := hmacTagsUptoRow, standIns := [], harness := (true, "ed8aa95a4a81bee766869e468cf37e264f1891744981333fa96c96c96c61e57f"), looks := false }, kinds := [], alts := [], laidByText := true, laidKinds := [.data], laidTests := true, laidLooks := .later }
def HmacTagsUptoCardSaid : Prop := Claim7.holds Tryd.pinned (.plain (OpenSpec.upto hmacTagsSpec)) hmacTagsUptoCard

/-- THE SECOND FORM's CARD OF 'viaticumlaw08.HmacKeys'. -/
def hmacKeysUptoCard : Claim7 := { stood := { row := hmacKeysUptoRow, standIns := [], harness := (true, "ed8aa95a4a81bee766869e468cf37e264f1891744981333fa96c96c96c61e57f"), looks := false }, kinds := [], alts := [], laidByText := true, laidKinds := [.data], laidTests := true, laidLooks := .later }
def HmacKeysUptoCardSaid : Prop := Claim7.holds Tryd.pinned (.plain (OpenSpec.upto hmacKeysSpec)) hmacKeysUptoCard

/-- THE SECOND FORM's CARD OF 'viaticumlaw09.RingTells'. -/
def ringTellsUptoCard : Claim7 := { stood := { row := ringTellsUptoRow, standIns := [], harness := (true, "ed8aa95a4a81bee766869e468cf37e264f1891744981333fa96c96c96c61e57f"), looks := false }, kinds := [], alts := [], laidByText := true, laidKinds := [.data], laidTests := true, laidLooks := .later }
def RingTellsUptoCardSaid : Prop := Claim7.holds Tryd.pinned (.plain (OpenSpec.upto ringTellsSpec)) ringTellsUptoCard

/-- THE SECOND FORM's CARD OF 'viaticumlaw09.RingKeeps'. -/
def ringKeepsUptoCard : Claim7 := { stood := { row := ringKeepsUptoRow, standIns := [], harness := (true, "ed8aa95a4a81bee766869e468cf37e264f1891744981333fa96c96c96c61e57f"), looks := false }, kinds := [], alts := [], laidByText := true, laidKinds := [.data], laidTests := true, laidLooks := .later }
def RingKeepsUptoCardSaid : Prop := Claim7.holds Tryd.pinned (.plain (OpenSpec.upto ringKeepsSpec)) ringKeepsUptoCard

/-- THE SECOND FORM's CARD OF 'viaticumlaw10.TokenIssues'. -/
def tokenIssuesUptoCard : Claim7 := { stood := { row := tokenIssuesUptoRow, standIns := [], harness := (true, "ed8aa95a4a81bee766869e468cf37e264f1891744981333fa96c96c96c61e57f"), looks := false }, kinds := [], alts := [], laidByText := true, laidKinds := [.data], laidTests := true, laidLooks := .later }
def TokenIssuesUptoCardSaid : Prop := Claim7.holds Tryd.pinned (.plain (OpenSpec.upto tokenIssuesSpec)) tokenIssuesUptoCard

/-- THE SECOND FORM's CARD OF 'viaticumlaw10.TokenVerifies'. -/
def tokenVerifiesUptoCard : Claim7 := { stood := { row := tokenVerifiesUptoRow, standIns := [], harness := (true, "ed8aa95a4a81bee766869e468cf37e264f1891744981333fa96c96c96c61e57f"), looks := false }, kinds := [], alts := [], laidByText := true, laidKinds := [.data], laidTests := true, laidLooks := .later }
def TokenVerifiesUptoCardSaid : Prop := Claim7.holds Tryd.pinned (.plain (OpenSpec.upto tokenVerifiesSpec)) tokenVerifiesUptoCard

/-- THE SECOND FORM's CARD OF 'viaticumlaw10.TokenTagged'. -/
def tokenTaggedUptoCard : Claim7 := { stood := { row := tokenTaggedUptoRow, standIns := [], harness := (true, "ed8aa95a4a81bee766869e468cf37e264f1891744981333fa96c96c96c61e57f"), looks := false }, kinds := [], alts := [], laidByText := true, laidKinds := [.data], laidTests := true, laidLooks := .later }
def TokenTaggedUptoCardSaid : Prop := Claim7.holds Tryd.pinned (.plain (OpenSpec.upto tokenTaggedSpec)) tokenTaggedUptoCard

/-- THE SECOND FORM's CARD OF 'viaticumlaw10.TokenBack'. -/
def tokenBackUptoCard : Claim7 := { stood := { row := tokenBackUptoRow, standIns := [], harness := (true, "ed8aa95a4a81bee766869e468cf37e264f1891744981333fa96c96c96c61e57f"), looks := false }, kinds := [], alts := [], laidByText := true, laidKinds := [.data], laidTests := true, laidLooks := .later }
def TokenBackUptoCardSaid : Prop := Claim7.holds Tryd.pinned (.plain (OpenSpec.upto tokenBackSpec)) tokenBackUptoCard

/-- THE SECOND FORM's CARD OF 'viaticumlaw11.ChallengeAnswers'. -/
def challengeAnswersUptoCard : Claim7 := { stood := { row := challengeAnswersUptoRow, standIns := [], harness := (true, "ed8aa95a4a81bee766869e468cf37e264f1891744981333fa96c96c96c61e57f"), looks := false }, kinds := [], alts := [], laidByText := true, laidKinds := [.data], laidTests := true, laidLooks := .later }
def ChallengeAnswersUptoCardSaid : Prop := Claim7.holds Tryd.pinned (.plain (OpenSpec.upto challengeAnswersSpec)) challengeAnswersUptoCard

/-- THE SECOND FORM's CARD OF 'viaticumlaw11.ChallengeChecks'. -/
def challengeChecksUptoCard : Claim7 := { stood := { row := challengeChecksUptoRow, standIns := [], harness := (true, "ed8aa95a4a81bee766869e468cf37e264f1891744981333fa96c96c96c61e57f"), looks := false }, kinds := [], alts := [], laidByText := true, laidKinds := [.data], laidTests := true, laidLooks := .later }
def ChallengeChecksUptoCardSaid : Prop := Claim7.holds Tryd.pinned (.plain (OpenSpec.upto challengeChecksSpec)) challengeChecksUptoCard

/-- THE SECOND FORM's CARD OF 'viaticumlaw11.ChallengeBack'. -/
def challengeBackUptoCard : Claim7 := { stood := { row := challengeBackUptoRow, standIns := [], harness := (true, "ed8aa95a4a81bee766869e468cf37e264f1891744981333fa96c96c96c61e57f"), looks := false }, kinds := [], alts := [], laidByText := true, laidKinds := [.data], laidTests := true, laidLooks := .later }
def ChallengeBackUptoCardSaid : Prop := Claim7.holds Tryd.pinned (.plain (OpenSpec.upto challengeBackSpec)) challengeBackUptoCard
end Rows
end Go.Proofs.YtmhgdddnjnichaaDoor
