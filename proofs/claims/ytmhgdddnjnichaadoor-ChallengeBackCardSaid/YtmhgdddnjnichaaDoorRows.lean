/-
  NARROWER THAN 'FOR EVERY INPUT', by the rows' own cells (each row's printed sentence says how): ShaParts: laid · ShaSums: laid · HmacTags: laid · HmacKeys: laid · RingTells: laid · RingKeeps: laid · TokenIssues: laid · TokenVerifies: laid · TokenTagged: laid · TokenBack: laid · ChallengeAnswers: laid · ChallengeChecks: laid · ChallengeBack: laid.
  DERIVED. THE GIVEN ROWS OF THIS SEAT. 13 by the template 'for every input the law returns true; each argument reads behind the call as it read before'; 0 by the template 'total and deterministic' (their statements: YtmhgdddnjnichaaDoorTotals.lean).
  GIVEN WITH THE SEED: the statements are not yours to turn. If you find one false, say at which input.
  Laid BY PROGRAM, IN A SANDBOX (cutbox-rows.mjs): the forced cells as the released guide's own fill.sh prints them over the translation 02252b7fa32bc60e… (all of the seat's roots in one cut). By AI agents, Wed Nov 11 2026. No macro, syntax, notation, axiom, sorry.
-/
import Derived.Test.YtmhgdddnjnichaaDoorChecked
import GoSem.Claim
import GoSem.ClaimJoined
import GoSem.ClaimMapViews
import Derived.JoinedTies
import Derived.KernelRfl
namespace Go.Proofs.YtmhgdddnjnichaaDoor
/- THE CELL 'sum', in the pinned program and in every row, IS THE sha256 OF THE DUMP (.gsa) THAT YtmhgdddnjnichaaDoorProg.lean LOADS. Nothing in Lean hashes anything: it is a label: what it is worth is what the hold of that sum in a sandbox is worth. -/
noncomputable def Tryd.pinned : Pinned := { name := "ytmhgdddnjnichaadoor", sum := "02252b7fa32bc60e986b4ae78ecb0d5eab5b9857d6729c3fa02a62b42ffb157e", checked := Tryd.checked }
namespace Rows
def none {H : Type} : Left H := { results := [], args := [] }

/- WHAT THE LISTED PACKAGE-LEVEL VARIABLES READ AS WHEN THE CALL BEGINS. Each datum BY PROGRAM (the guide's laid-datum.mjs) off the statement by which the dump's own 'gosem.cut.vars' lays the variable. In a bare row this is a premise. The card (YtmhgdddnjnichaaDoorCards.lean) ties it to the program's text. -/
def laid_viaticum_sha_rounds {H : Type} : DataW H := .agg [.lit (.int .u32 1116352408), .lit (.int .u32 1899447441), .lit (.int .u32 3049323471), .lit (.int .u32 3921009573), .lit (.int .u32 961987163), .lit (.int .u32 1508970993), .lit (.int .u32 2453635748), .lit (.int .u32 2870763221), .lit (.int .u32 3624381080), .lit (.int .u32 310598401), .lit (.int .u32 607225278), .lit (.int .u32 1426881987), .lit (.int .u32 1925078388), .lit (.int .u32 2162078206), .lit (.int .u32 2614888103), .lit (.int .u32 3248222580), .lit (.int .u32 3835390401), .lit (.int .u32 4022224774), .lit (.int .u32 264347078), .lit (.int .u32 604807628), .lit (.int .u32 770255983), .lit (.int .u32 1249150122), .lit (.int .u32 1555081692), .lit (.int .u32 1996064986), .lit (.int .u32 2554220882), .lit (.int .u32 2821834349), .lit (.int .u32 2952996808), .lit (.int .u32 3210313671), .lit (.int .u32 3336571891), .lit (.int .u32 3584528711), .lit (.int .u32 113926993), .lit (.int .u32 338241895), .lit (.int .u32 666307205), .lit (.int .u32 773529912), .lit (.int .u32 1294757372), .lit (.int .u32 1396182291), .lit (.int .u32 1695183700), .lit (.int .u32 1986661051), .lit (.int .u32 2177026350), .lit (.int .u32 2456956037), .lit (.int .u32 2730485921), .lit (.int .u32 2820302411), .lit (.int .u32 3259730800), .lit (.int .u32 3345764771), .lit (.int .u32 3516065817), .lit (.int .u32 3600352804), .lit (.int .u32 4094571909), .lit (.int .u32 275423344), .lit (.int .u32 430227734), .lit (.int .u32 506948616), .lit (.int .u32 659060556), .lit (.int .u32 883997877), .lit (.int .u32 958139571), .lit (.int .u32 1322822218), .lit (.int .u32 1537002063), .lit (.int .u32 1747873779), .lit (.int .u32 1955562222), .lit (.int .u32 2024104815), .lit (.int .u32 2227730452), .lit (.int .u32 2361852424), .lit (.int .u32 2428436474), .lit (.int .u32 2756734187), .lit (.int .u32 3204031479), .lit (.int .u32 3329325298)]

/-- 'viaticumlaw07.ShaParts': WHATEVER THE INPUT: true; the input reads as it did. -/
def shaPartsSpec : ChangeSpec := { name := "shaParts", fn := fun _ => fun
  | [d1, d2] => { results := [.lit (.bool true)], args := [d1, d2] }
  | _ => none }
def shaPartsRow : OpenClaim := { program := "ytmhgdddnjnichaadoor", sum := "02252b7fa32bc60e986b4ae78ecb0d5eab5b9857d6729c3fa02a62b42ffb157e", func := "viaticum/viaticumlaw07.ShaParts", spec := "shaParts", named := ["viaticum/sha.rounds"], apart := false, laid := [("viaticum/sha.rounds", laid_viaticum_sha_rounds)] }
def ShaPartsSaid : Prop := shaPartsRow.holds Tryd.pinned (OpenSpec.ofChange shaPartsSpec)

/-- ITS FALSE NEIGHBOUR: 'it returns false'. Refute it at one input. -/
def shaPartsWrong : ChangeSpec := { name := "shaParts", fn := fun _ => fun
  | [d1, d2] => { results := [.lit (.bool false)], args := [d1, d2] }
  | _ => none }
def ShaPartsWrongFalsely : Prop := shaPartsRow.holds Tryd.pinned (OpenSpec.ofChange shaPartsWrong)

/-- 'viaticumlaw07.ShaSums': WHATEVER THE INPUT: true; the input reads as it did. -/
def shaSumsSpec : ChangeSpec := { name := "shaSums", fn := fun _ => fun
  | [d1, d2] => { results := [.lit (.bool true)], args := [d1, d2] }
  | _ => none }
def shaSumsRow : OpenClaim := { program := "ytmhgdddnjnichaadoor", sum := "02252b7fa32bc60e986b4ae78ecb0d5eab5b9857d6729c3fa02a62b42ffb157e", func := "viaticum/viaticumlaw07.ShaSums", spec := "shaSums", named := ["viaticum/sha.rounds"], apart := false, laid := [("viaticum/sha.rounds", laid_viaticum_sha_rounds)] }
def ShaSumsSaid : Prop := shaSumsRow.holds Tryd.pinned (OpenSpec.ofChange shaSumsSpec)

/-- ITS FALSE NEIGHBOUR: 'it returns false'. Refute it at one input. -/
def shaSumsWrong : ChangeSpec := { name := "shaSums", fn := fun _ => fun
  | [d1, d2] => { results := [.lit (.bool false)], args := [d1, d2] }
  | _ => none }
def ShaSumsWrongFalsely : Prop := shaSumsRow.holds Tryd.pinned (OpenSpec.ofChange shaSumsWrong)

/-- 'viaticumlaw08.HmacTags': WHATEVER THE INPUT: true; the input reads as it did. -/
def hmacTagsSpec : ChangeSpec := { name := "hmacTags", fn := fun _ => fun
  | [d1, d2, d3] => { results := [.lit (.bool true)], args := [d1, d2, d3] }
  | _ => none }
def hmacTagsRow : OpenClaim := { program := "ytmhgdddnjnichaadoor", sum := "02252b7fa32bc60e986b4ae78ecb0d5eab5b9857d6729c3fa02a62b42ffb157e", func := "viaticum/viaticumlaw08.HmacTags", spec := "hmacTags", named := ["viaticum/sha.rounds"], apart := false, laid := [("viaticum/sha.rounds", laid_viaticum_sha_rounds)] }
def HmacTagsSaid : Prop := hmacTagsRow.holds Tryd.pinned (OpenSpec.ofChange hmacTagsSpec)

/-- ITS FALSE NEIGHBOUR: 'it returns false'. Refute it at one input. -/
def hmacTagsWrong : ChangeSpec := { name := "hmacTags", fn := fun _ => fun
  | [d1, d2, d3] => { results := [.lit (.bool false)], args := [d1, d2, d3] }
  | _ => none }
def HmacTagsWrongFalsely : Prop := hmacTagsRow.holds Tryd.pinned (OpenSpec.ofChange hmacTagsWrong)

/-- 'viaticumlaw08.HmacKeys': WHATEVER THE INPUT: true; the input reads as it did. -/
def hmacKeysSpec : ChangeSpec := { name := "hmacKeys", fn := fun _ => fun
  | [d1, d2, d3] => { results := [.lit (.bool true)], args := [d1, d2, d3] }
  | _ => none }
def hmacKeysRow : OpenClaim := { program := "ytmhgdddnjnichaadoor", sum := "02252b7fa32bc60e986b4ae78ecb0d5eab5b9857d6729c3fa02a62b42ffb157e", func := "viaticum/viaticumlaw08.HmacKeys", spec := "hmacKeys", named := ["viaticum/sha.rounds"], apart := false, laid := [("viaticum/sha.rounds", laid_viaticum_sha_rounds)] }
def HmacKeysSaid : Prop := hmacKeysRow.holds Tryd.pinned (OpenSpec.ofChange hmacKeysSpec)

/-- ITS FALSE NEIGHBOUR: 'it returns false'. Refute it at one input. -/
def hmacKeysWrong : ChangeSpec := { name := "hmacKeys", fn := fun _ => fun
  | [d1, d2, d3] => { results := [.lit (.bool false)], args := [d1, d2, d3] }
  | _ => none }
def HmacKeysWrongFalsely : Prop := hmacKeysRow.holds Tryd.pinned (OpenSpec.ofChange hmacKeysWrong)

/-- 'viaticumlaw09.RingTells': WHATEVER THE INPUT: true; the input reads as it did. -/
def ringTellsSpec : ChangeSpec := { name := "ringTells", fn := fun _ => fun
  | [d1, d2, d3] => { results := [.lit (.bool true)], args := [d1, d2, d3] }
  | _ => none }
def ringTellsRow : OpenClaim := { program := "ytmhgdddnjnichaadoor", sum := "02252b7fa32bc60e986b4ae78ecb0d5eab5b9857d6729c3fa02a62b42ffb157e", func := "viaticum/viaticumlaw09.RingTells", spec := "ringTells", unfollowed := true, recurses := true, named := ["viaticum/sha.rounds"], apart := false, laid := [("viaticum/sha.rounds", laid_viaticum_sha_rounds)] }
def RingTellsSaid : Prop := ringTellsRow.holds Tryd.pinned (OpenSpec.ofChange ringTellsSpec)

/-- ITS FALSE NEIGHBOUR: 'it returns false'. Refute it at one input. -/
def ringTellsWrong : ChangeSpec := { name := "ringTells", fn := fun _ => fun
  | [d1, d2, d3] => { results := [.lit (.bool false)], args := [d1, d2, d3] }
  | _ => none }
def RingTellsWrongFalsely : Prop := ringTellsRow.holds Tryd.pinned (OpenSpec.ofChange ringTellsWrong)

/-- 'viaticumlaw09.RingKeeps': WHATEVER THE INPUT: true; the input reads as it did. -/
def ringKeepsSpec : ChangeSpec := { name := "ringKeeps", fn := fun _ => fun
  | [d1, d2] => { results := [.lit (.bool true)], args := [d1, d2] }
  | _ => none }
def ringKeepsRow : OpenClaim := { program := "ytmhgdddnjnichaadoor", sum := "02252b7fa32bc60e986b4ae78ecb0d5eab5b9857d6729c3fa02a62b42ffb157e", func := "viaticum/viaticumlaw09.RingKeeps", spec := "ringKeeps", unfollowed := true, recurses := true, named := ["viaticum/sha.rounds"], apart := false, laid := [("viaticum/sha.rounds", laid_viaticum_sha_rounds)] }
def RingKeepsSaid : Prop := ringKeepsRow.holds Tryd.pinned (OpenSpec.ofChange ringKeepsSpec)

/-- ITS FALSE NEIGHBOUR: 'it returns false'. Refute it at one input. -/
def ringKeepsWrong : ChangeSpec := { name := "ringKeeps", fn := fun _ => fun
  | [d1, d2] => { results := [.lit (.bool false)], args := [d1, d2] }
  | _ => none }
def RingKeepsWrongFalsely : Prop := ringKeepsRow.holds Tryd.pinned (OpenSpec.ofChange ringKeepsWrong)

/-- 'viaticumlaw10.TokenIssues': WHATEVER THE INPUT: true; the input reads as it did. -/
def tokenIssuesSpec : ChangeSpec := { name := "tokenIssues", fn := fun _ => fun
  | [d1, d2] => { results := [.lit (.bool true)], args := [d1, d2] }
  | _ => none }
def tokenIssuesRow : OpenClaim := { program := "ytmhgdddnjnichaadoor", sum := "02252b7fa32bc60e986b4ae78ecb0d5eab5b9857d6729c3fa02a62b42ffb157e", func := "viaticum/viaticumlaw10.TokenIssues", spec := "tokenIssues", unfollowed := true, recurses := true, named := ["viaticum/sha.rounds"], apart := false, laid := [("viaticum/sha.rounds", laid_viaticum_sha_rounds)] }
def TokenIssuesSaid : Prop := tokenIssuesRow.holds Tryd.pinned (OpenSpec.ofChange tokenIssuesSpec)

/-- ITS FALSE NEIGHBOUR: 'it returns false'. Refute it at one input. -/
def tokenIssuesWrong : ChangeSpec := { name := "tokenIssues", fn := fun _ => fun
  | [d1, d2] => { results := [.lit (.bool false)], args := [d1, d2] }
  | _ => none }
def TokenIssuesWrongFalsely : Prop := tokenIssuesRow.holds Tryd.pinned (OpenSpec.ofChange tokenIssuesWrong)

/-- 'viaticumlaw10.TokenVerifies': WHATEVER THE INPUT: true; the input reads as it did. -/
def tokenVerifiesSpec : ChangeSpec := { name := "tokenVerifies", fn := fun _ => fun
  | [d1, d2, d3] => { results := [.lit (.bool true)], args := [d1, d2, d3] }
  | _ => none }
def tokenVerifiesRow : OpenClaim := { program := "ytmhgdddnjnichaadoor", sum := "02252b7fa32bc60e986b4ae78ecb0d5eab5b9857d6729c3fa02a62b42ffb157e", func := "viaticum/viaticumlaw10.TokenVerifies", spec := "tokenVerifies", unfollowed := true, recurses := true, named := ["viaticum/sha.rounds"], apart := false, laid := [("viaticum/sha.rounds", laid_viaticum_sha_rounds)] }
def TokenVerifiesSaid : Prop := tokenVerifiesRow.holds Tryd.pinned (OpenSpec.ofChange tokenVerifiesSpec)

/-- ITS FALSE NEIGHBOUR: 'it returns false'. Refute it at one input. -/
def tokenVerifiesWrong : ChangeSpec := { name := "tokenVerifies", fn := fun _ => fun
  | [d1, d2, d3] => { results := [.lit (.bool false)], args := [d1, d2, d3] }
  | _ => none }
def TokenVerifiesWrongFalsely : Prop := tokenVerifiesRow.holds Tryd.pinned (OpenSpec.ofChange tokenVerifiesWrong)

/-- 'viaticumlaw10.TokenTagged': WHATEVER THE INPUT: true; the input reads as it did. -/
def tokenTaggedSpec : ChangeSpec := { name := "tokenTagged", fn := fun _ => fun
  | [d1, d2, d3] => { results := [.lit (.bool true)], args := [d1, d2, d3] }
  | _ => none }
def tokenTaggedRow : OpenClaim := { program := "ytmhgdddnjnichaadoor", sum := "02252b7fa32bc60e986b4ae78ecb0d5eab5b9857d6729c3fa02a62b42ffb157e", func := "viaticum/viaticumlaw10.TokenTagged", spec := "tokenTagged", unfollowed := true, recurses := true, named := ["viaticum/sha.rounds"], apart := false, laid := [("viaticum/sha.rounds", laid_viaticum_sha_rounds)] }
def TokenTaggedSaid : Prop := tokenTaggedRow.holds Tryd.pinned (OpenSpec.ofChange tokenTaggedSpec)

/-- ITS FALSE NEIGHBOUR: 'it returns false'. Refute it at one input. -/
def tokenTaggedWrong : ChangeSpec := { name := "tokenTagged", fn := fun _ => fun
  | [d1, d2, d3] => { results := [.lit (.bool false)], args := [d1, d2, d3] }
  | _ => none }
def TokenTaggedWrongFalsely : Prop := tokenTaggedRow.holds Tryd.pinned (OpenSpec.ofChange tokenTaggedWrong)

/-- 'viaticumlaw10.TokenBack': WHATEVER THE INPUT: true; the input reads as it did. -/
def tokenBackSpec : ChangeSpec := { name := "tokenBack", fn := fun _ => fun
  | [d1, d2, d3] => { results := [.lit (.bool true)], args := [d1, d2, d3] }
  | _ => none }
def tokenBackRow : OpenClaim := { program := "ytmhgdddnjnichaadoor", sum := "02252b7fa32bc60e986b4ae78ecb0d5eab5b9857d6729c3fa02a62b42ffb157e", func := "viaticum/viaticumlaw10.TokenBack", spec := "tokenBack", unfollowed := true, recurses := true, named := ["viaticum/sha.rounds"], apart := false, laid := [("viaticum/sha.rounds", laid_viaticum_sha_rounds)] }
def TokenBackSaid : Prop := tokenBackRow.holds Tryd.pinned (OpenSpec.ofChange tokenBackSpec)

/-- ITS FALSE NEIGHBOUR: 'it returns false'. Refute it at one input. -/
def tokenBackWrong : ChangeSpec := { name := "tokenBack", fn := fun _ => fun
  | [d1, d2, d3] => { results := [.lit (.bool false)], args := [d1, d2, d3] }
  | _ => none }
def TokenBackWrongFalsely : Prop := tokenBackRow.holds Tryd.pinned (OpenSpec.ofChange tokenBackWrong)

/-- 'viaticumlaw11.ChallengeAnswers': WHATEVER THE INPUT: true; the input reads as it did. -/
def challengeAnswersSpec : ChangeSpec := { name := "challengeAnswers", fn := fun _ => fun
  | [d1, d2, d3] => { results := [.lit (.bool true)], args := [d1, d2, d3] }
  | _ => none }
def challengeAnswersRow : OpenClaim := { program := "ytmhgdddnjnichaadoor", sum := "02252b7fa32bc60e986b4ae78ecb0d5eab5b9857d6729c3fa02a62b42ffb157e", func := "viaticum/viaticumlaw11.ChallengeAnswers", spec := "challengeAnswers", unfollowed := true, recurses := true, named := ["viaticum/sha.rounds"], apart := false, laid := [("viaticum/sha.rounds", laid_viaticum_sha_rounds)] }
def ChallengeAnswersSaid : Prop := challengeAnswersRow.holds Tryd.pinned (OpenSpec.ofChange challengeAnswersSpec)

/-- ITS FALSE NEIGHBOUR: 'it returns false'. Refute it at one input. -/
def challengeAnswersWrong : ChangeSpec := { name := "challengeAnswers", fn := fun _ => fun
  | [d1, d2, d3] => { results := [.lit (.bool false)], args := [d1, d2, d3] }
  | _ => none }
def ChallengeAnswersWrongFalsely : Prop := challengeAnswersRow.holds Tryd.pinned (OpenSpec.ofChange challengeAnswersWrong)

/-- 'viaticumlaw11.ChallengeChecks': WHATEVER THE INPUT: true; the input reads as it did. -/
def challengeChecksSpec : ChangeSpec := { name := "challengeChecks", fn := fun _ => fun
  | [d1, d2, d3] => { results := [.lit (.bool true)], args := [d1, d2, d3] }
  | _ => none }
def challengeChecksRow : OpenClaim := { program := "ytmhgdddnjnichaadoor", sum := "02252b7fa32bc60e986b4ae78ecb0d5eab5b9857d6729c3fa02a62b42ffb157e", func := "viaticum/viaticumlaw11.ChallengeChecks", spec := "challengeChecks", unfollowed := true, recurses := true, named := ["viaticum/sha.rounds"], apart := false, laid := [("viaticum/sha.rounds", laid_viaticum_sha_rounds)] }
def ChallengeChecksSaid : Prop := challengeChecksRow.holds Tryd.pinned (OpenSpec.ofChange challengeChecksSpec)

/-- ITS FALSE NEIGHBOUR: 'it returns false'. Refute it at one input. -/
def challengeChecksWrong : ChangeSpec := { name := "challengeChecks", fn := fun _ => fun
  | [d1, d2, d3] => { results := [.lit (.bool false)], args := [d1, d2, d3] }
  | _ => none }
def ChallengeChecksWrongFalsely : Prop := challengeChecksRow.holds Tryd.pinned (OpenSpec.ofChange challengeChecksWrong)

/-- 'viaticumlaw11.ChallengeBack': WHATEVER THE INPUT: true; the input reads as it did. -/
def challengeBackSpec : ChangeSpec := { name := "challengeBack", fn := fun _ => fun
  | [d1, d2, d3] => { results := [.lit (.bool true)], args := [d1, d2, d3] }
  | _ => none }
def challengeBackRow : OpenClaim := { program := "ytmhgdddnjnichaadoor", sum := "02252b7fa32bc60e986b4ae78ecb0d5eab5b9857d6729c3fa02a62b42ffb157e", func := "viaticum/viaticumlaw11.ChallengeBack", spec := "challengeBack", unfollowed := true, recurses := true, named := ["viaticum/sha.rounds"], apart := false, laid := [("viaticum/sha.rounds", laid_viaticum_sha_rounds)] }
def ChallengeBackSaid : Prop := challengeBackRow.holds Tryd.pinned (OpenSpec.ofChange challengeBackSpec)

/-- ITS FALSE NEIGHBOUR: 'it returns false'. Refute it at one input. -/
def challengeBackWrong : ChangeSpec := { name := "challengeBack", fn := fun _ => fun
  | [d1, d2, d3] => { results := [.lit (.bool false)], args := [d1, d2, d3] }
  | _ => none }
def ChallengeBackWrongFalsely : Prop := challengeBackRow.holds Tryd.pinned (OpenSpec.ofChange challengeBackWrong)

/- THE SECOND FORM. 'bulk': how many values and letters a reading holds, each counted each time it is reached (what is shared counts as often as it is met; a slice's spare places count too). A statement '..UptoSaid' is the law's where the arguments, and the package variables that the reading takes, are together of bulk at most 1048576: NARROWER than '..Said'. Prove '..Said' where nothing that the law and all that it calls make is longer than what came in: it says more and counts as full. Else prove '..UptoSaid'. A law counts once. -/
mutual
def uptoBulk {H : Type} : DataW H → Nat
  | .lit (.string bytes) => bytes.length + 1
  | .lit _ => 1
  | .nil => 1
  | .ptr d => uptoBulk d + 1
  | .slice elems spare => uptoBulkAll elems + uptoBulkAll spare + 1
  | .agg parts => uptoBulkAll parts + 1
  | .iface _ d => uptoBulk d + 1
  | .map entries => uptoBulkEntries entries + 1
  | .held _ => 1
def uptoBulkAll {H : Type} : List (DataW H) → Nat
  | [] => 0
  | d :: r => uptoBulk d + uptoBulkAll r
def uptoBulkEntries {H : Type} : List (Lit × DataW H) → Nat
  | [] => 0
  | x :: r => uptoBulkEntry x + uptoBulkEntries r
def uptoBulkEntry {H : Type} : Lit × DataW H → Nat
  | (.string bytes, d) => bytes.length + uptoBulk d + 1
  | (_, d) => uptoBulk d + 1
 end
def uptoSmall : (H : Type) → List (DataW H) → Bool := fun _ ds => decide (uptoBulkAll ds ≤ 1048576)
def OpenSpec.upto (s : _root_.Go.ChangeSpec) : _root_.Go.OpenSpec := { _root_.Go.OpenSpec.ofChange s with cond := some uptoSmall }

/-- 'viaticumlaw07.ShaParts', WHERE WHAT IT READS IS OF BULK AT MOST 1048576: true; the input reads as it did. -/
def shaPartsUptoRow : OpenClaim := { program := "ytmhgdddnjnichaadoor", sum := "02252b7fa32bc60e986b4ae78ecb0d5eab5b9857d6729c3fa02a62b42ffb157e", func := "viaticum/viaticumlaw07.ShaParts", spec := "shaParts", named := ["viaticum/sha.rounds"], apart := false, laid := [("viaticum/sha.rounds", laid_viaticum_sha_rounds)], narrowed := true }
def ShaPartsUptoSaid : Prop := shaPartsUptoRow.holds Tryd.pinned (OpenSpec.upto shaPartsSpec)

/-- 'viaticumlaw07.ShaSums', WHERE WHAT IT READS IS OF BULK AT MOST 1048576: true; the input reads as it did. -/
def shaSumsUptoRow : OpenClaim := { program := "ytmhgdddnjnichaadoor", sum := "02252b7fa32bc60e986b4ae78ecb0d5eab5b9857d6729c3fa02a62b42ffb157e", func := "viaticum/viaticumlaw07.ShaSums", spec := "shaSums", named := ["viaticum/sha.rounds"], apart := false, laid := [("viaticum/sha.rounds", laid_viaticum_sha_rounds)], narrowed := true }
def ShaSumsUptoSaid : Prop := shaSumsUptoRow.holds Tryd.pinned (OpenSpec.upto shaSumsSpec)

/-- 'viaticumlaw08.HmacTags', WHERE WHAT IT READS IS OF BULK AT MOST 1048576: true; the input reads as it did. -/
def hmacTagsUptoRow : OpenClaim := { program := "ytmhgdddnjnichaadoor", sum := "02252b7fa32bc60e986b4ae78ecb0d5eab5b9857d6729c3fa02a62b42ffb157e", func := "viaticum/viaticumlaw08.HmacTags", spec := "hmacTags", named := ["viaticum/sha.rounds"], apart := false, laid := [("viaticum/sha.rounds", laid_viaticum_sha_rounds)], narrowed := true }
def HmacTagsUptoSaid : Prop := hmacTagsUptoRow.holds Tryd.pinned (OpenSpec.upto hmacTagsSpec)

/-- 'viaticumlaw08.HmacKeys', WHERE WHAT IT READS IS OF BULK AT MOST 1048576: true; the input reads as it did. -/
def hmacKeysUptoRow : OpenClaim := { program := "ytmhgdddnjnichaadoor", sum := "02252b7fa32bc60e986b4ae78ecb0d5eab5b9857d6729c3fa02a62b42ffb157e", func := "viaticum/viaticumlaw08.HmacKeys", spec := "hmacKeys", named := ["viaticum/sha.rounds"], apart := false, laid := [("viaticum/sha.rounds", laid_viaticum_sha_rounds)], narrowed := true }
def HmacKeysUptoSaid : Prop := hmacKeysUptoRow.holds Tryd.pinned (OpenSpec.upto hmacKeysSpec)

/-- 'viaticumlaw09.RingTells', WHERE WHAT IT READS IS OF BULK AT MOST 1048576: true; the input reads as it did. -/
def ringTellsUptoRow : OpenClaim := { program := "ytmhgdddnjnichaadoor", sum := "02252b7fa32bc60e986b4ae78ecb0d5eab5b9857d6729c3fa02a62b42ffb157e", func := "viaticum/viaticumlaw09.RingTells", spec := "ringTells", unfollowed := true, recurses := true, named := ["viaticum/sha.rounds"], apart := false, laid := [("viaticum/sha.rounds", laid_viaticum_sha_rounds)], narrowed := true }
def RingTellsUptoSaid : Prop := ringTellsUptoRow.holds Tryd.pinned (OpenSpec.upto ringTellsSpec)

/-- 'viaticumlaw09.RingKeeps', WHERE WHAT IT READS IS OF BULK AT MOST 1048576: true; the input reads as it did. -/
def ringKeepsUptoRow : OpenClaim := { program := "ytmhgdddnjnichaadoor", sum := "02252b7fa32bc60e986b4ae78ecb0d5eab5b9857d6729c3fa02a62b42ffb157e", func := "viaticum/viaticumlaw09.RingKeeps", spec := "ringKeeps", unfollowed := true, recurses := true, named := ["viaticum/sha.rounds"], apart := false, laid := [("viaticum/sha.rounds", laid_viaticum_sha_rounds)], narrowed := true }
def RingKeepsUptoSaid : Prop := ringKeepsUptoRow.holds Tryd.pinned (OpenSpec.upto ringKeepsSpec)

/-- 'viaticumlaw10.TokenIssues', WHERE WHAT IT READS IS OF BULK AT MOST 1048576: true; the input reads as it did. -/
def tokenIssuesUptoRow : OpenClaim := { program := "ytmhgdddnjnichaadoor", sum := "02252b7fa32bc60e986b4ae78ecb0d5eab5b9857d6729c3fa02a62b42ffb157e", func := "viaticum/viaticumlaw10.TokenIssues", spec := "tokenIssues", unfollowed := true, recurses := true, named := ["viaticum/sha.rounds"], apart := false, laid := [("viaticum/sha.rounds", laid_viaticum_sha_rounds)], narrowed := true }
def TokenIssuesUptoSaid : Prop := tokenIssuesUptoRow.holds Tryd.pinned (OpenSpec.upto tokenIssuesSpec)

/-- 'viaticumlaw10.TokenVerifies', WHERE WHAT IT READS IS OF BULK AT MOST 1048576: true; the input reads as it did. -/
def tokenVerifiesUptoRow : OpenClaim := { program := "ytmhgdddnjnichaadoor", sum := "02252b7fa32bc60e986b4ae78ecb0d5eab5b9857d6729c3fa02a62b42ffb157e", func := "viaticum/viaticumlaw10.TokenVerifies", spec := "tokenVerifies", unfollowed := true, recurses := true, named := ["viaticum/sha.rounds"], apart := false, laid := [("viaticum/sha.rounds", laid_viaticum_sha_rounds)], narrowed := true }
def TokenVerifiesUptoSaid : Prop := tokenVerifiesUptoRow.holds Tryd.pinned (OpenSpec.upto tokenVerifiesSpec)

/-- 'viaticumlaw10.TokenTagged', WHERE WHAT IT READS IS OF BULK AT MOST 1048576: true; the input reads as it did. -/
def tokenTaggedUptoRow : OpenClaim := { program := "ytmhgdddnjnichaadoor", sum := "02252b7fa32bc60e986b4ae78ecb0d5eab5b9857d6729c3fa02a62b42ffb157e", func := "viaticum/viaticumlaw10.TokenTagged", spec := "tokenTagged", unfollowed := true, recurses := true, named := ["viaticum/sha.rounds"], apart := false, laid := [("viaticum/sha.rounds", laid_viaticum_sha_rounds)], narrowed := true }
def TokenTaggedUptoSaid : Prop := tokenTaggedUptoRow.holds Tryd.pinned (OpenSpec.upto tokenTaggedSpec)

/-- 'viaticumlaw10.TokenBack', WHERE WHAT IT READS IS OF BULK AT MOST 1048576: true; the input reads as it did. -/
def tokenBackUptoRow : OpenClaim := { program := "ytmhgdddnjnichaadoor", sum := "02252b7fa32bc60e986b4ae78ecb0d5eab5b9857d6729c3fa02a62b42ffb157e", func := "viaticum/viaticumlaw10.TokenBack", spec := "tokenBack", unfollowed := true, recurses := true, named := ["viaticum/sha.rounds"], apart := false, laid := [("viaticum/sha.rounds", laid_viaticum_sha_rounds)], narrowed := true }
def TokenBackUptoSaid : Prop := tokenBackUptoRow.holds Tryd.pinned (OpenSpec.upto tokenBackSpec)

/-- 'viaticumlaw11.ChallengeAnswers', WHERE WHAT IT READS IS OF BULK AT MOST 1048576: true; the input reads as it did. -/
def challengeAnswersUptoRow : OpenClaim := { program := "ytmhgdddnjnichaadoor", sum := "02252b7fa32bc60e986b4ae78ecb0d5eab5b9857d6729c3fa02a62b42ffb157e", func := "viaticum/viaticumlaw11.ChallengeAnswers", spec := "challengeAnswers", unfollowed := true, recurses := true, named := ["viaticum/sha.rounds"], apart := false, laid := [("viaticum/sha.rounds", laid_viaticum_sha_rounds)], narrowed := true }
def ChallengeAnswersUptoSaid : Prop := challengeAnswersUptoRow.holds Tryd.pinned (OpenSpec.upto challengeAnswersSpec)

/-- 'viaticumlaw11.ChallengeChecks', WHERE WHAT IT READS IS OF BULK AT MOST 1048576: true; the input reads as it did. -/
def challengeChecksUptoRow : OpenClaim := { program := "ytmhgdddnjnichaadoor", sum := "02252b7fa32bc60e986b4ae78ecb0d5eab5b9857d6729c3fa02a62b42ffb157e", func := "viaticum/viaticumlaw11.ChallengeChecks", spec := "challengeChecks", unfollowed := true, recurses := true, named := ["viaticum/sha.rounds"], apart := false, laid := [("viaticum/sha.rounds", laid_viaticum_sha_rounds)], narrowed := true }
def ChallengeChecksUptoSaid : Prop := challengeChecksUptoRow.holds Tryd.pinned (OpenSpec.upto challengeChecksSpec)

/-- 'viaticumlaw11.ChallengeBack', WHERE WHAT IT READS IS OF BULK AT MOST 1048576: true; the input reads as it did. -/
def challengeBackUptoRow : OpenClaim := { program := "ytmhgdddnjnichaadoor", sum := "02252b7fa32bc60e986b4ae78ecb0d5eab5b9857d6729c3fa02a62b42ffb157e", func := "viaticum/viaticumlaw11.ChallengeBack", spec := "challengeBack", unfollowed := true, recurses := true, named := ["viaticum/sha.rounds"], apart := false, laid := [("viaticum/sha.rounds", laid_viaticum_sha_rounds)], narrowed := true }
def ChallengeBackUptoSaid : Prop := challengeBackUptoRow.holds Tryd.pinned (OpenSpec.upto challengeBackSpec)

end Rows
end Go.Proofs.YtmhgdddnjnichaaDoor
