/-
  NARROWER THAN 'FOR EVERY INPUT', by the rows' own cells (each row's printed sentence says how): ShaSums: laid · ShaPieces: laid · ShaKeys: laid · ShaBack: laid · ShaTexts: laid · AuthOthers: laid · AuthLets: laid · AuthPlays: laid · AuthNames: laid.
  DERIVED. THE GIVEN ROWS OF THIS SEAT. 9 by the template 'for every input the law returns true; each argument reads behind the call as it read before'; 0 by the template 'total and deterministic' (their statements: YtdnmllodefbekaaDoorTotals.lean).
  GIVEN WITH THE SEED: the statements are not yours to turn. If you find one false, say at which input.
  Laid BY PROGRAM, IN A SANDBOX (cutbox-rows.mjs): the forced cells as the released guide's own fill.sh prints them over the translation e2c66c9f34ebb6d1… (all of the seat's roots in one cut). By AI agents, Wed Nov 11 2026. No macro, syntax, notation, axiom, sorry.
-/
import Derived.Test.YtdnmllodefbekaaDoorChecked
import GoSem.PinnedTables
import GoSem.Claim
import GoSem.ClaimJoined
import GoSem.ClaimMapViews
import Derived.JoinedTies
import Derived.KernelRfl
namespace Go.Proofs.YtdnmllodefbekaaDoor
/- THE CELL 'sum', in the pinned program and in every row, IS THE sha256 OF THE DUMP (.gsa) THAT YtdnmllodefbekaaDoorProg.lean LOADS. Nothing in Lean hashes anything: it is a label: what it is worth is what the hold of that sum in a sandbox is worth. -/
noncomputable def Tryd.pinned : Pinned := { name := "ytdnmllodefbekaadoor", sum := "e2c66c9f34ebb6d16627de76a818526a20ee6b8132b67496153bdf8526ea4b7c", checked := Tryd.checked }
namespace Rows
def none {H : Type} : Left H := { results := [], args := [] }

/- WHAT THE LISTED PACKAGE-LEVEL VARIABLES READ AS WHEN THE CALL BEGINS. Each datum BY PROGRAM (the guide's laid-datum.mjs) off the statement by which the dump's own 'gosem.cut.vars' lays the variable. In a bare row this is a premise. The card (YtdnmllodefbekaaDoorCards.lean) ties it to the program's text. -/
def laid_hopper_sha_begun {H : Type} : DataW H := .agg [.lit (.int .u32 1779033703), .lit (.int .u32 3144134277), .lit (.int .u32 1013904242), .lit (.int .u32 2773480762), .lit (.int .u32 1359893119), .lit (.int .u32 2600822924), .lit (.int .u32 528734635), .lit (.int .u32 1541459225)]
def laid_hopper_sha_constants {H : Type} : DataW H := .agg [.lit (.int .u32 1116352408), .lit (.int .u32 1899447441), .lit (.int .u32 3049323471), .lit (.int .u32 3921009573), .lit (.int .u32 961987163), .lit (.int .u32 1508970993), .lit (.int .u32 2453635748), .lit (.int .u32 2870763221), .lit (.int .u32 3624381080), .lit (.int .u32 310598401), .lit (.int .u32 607225278), .lit (.int .u32 1426881987), .lit (.int .u32 1925078388), .lit (.int .u32 2162078206), .lit (.int .u32 2614888103), .lit (.int .u32 3248222580), .lit (.int .u32 3835390401), .lit (.int .u32 4022224774), .lit (.int .u32 264347078), .lit (.int .u32 604807628), .lit (.int .u32 770255983), .lit (.int .u32 1249150122), .lit (.int .u32 1555081692), .lit (.int .u32 1996064986), .lit (.int .u32 2554220882), .lit (.int .u32 2821834349), .lit (.int .u32 2952996808), .lit (.int .u32 3210313671), .lit (.int .u32 3336571891), .lit (.int .u32 3584528711), .lit (.int .u32 113926993), .lit (.int .u32 338241895), .lit (.int .u32 666307205), .lit (.int .u32 773529912), .lit (.int .u32 1294757372), .lit (.int .u32 1396182291), .lit (.int .u32 1695183700), .lit (.int .u32 1986661051), .lit (.int .u32 2177026350), .lit (.int .u32 2456956037), .lit (.int .u32 2730485921), .lit (.int .u32 2820302411), .lit (.int .u32 3259730800), .lit (.int .u32 3345764771), .lit (.int .u32 3516065817), .lit (.int .u32 3600352804), .lit (.int .u32 4094571909), .lit (.int .u32 275423344), .lit (.int .u32 430227734), .lit (.int .u32 506948616), .lit (.int .u32 659060556), .lit (.int .u32 883997877), .lit (.int .u32 958139571), .lit (.int .u32 1322822218), .lit (.int .u32 1537002063), .lit (.int .u32 1747873779), .lit (.int .u32 1955562222), .lit (.int .u32 2024104815), .lit (.int .u32 2227730452), .lit (.int .u32 2361852424), .lit (.int .u32 2428436474), .lit (.int .u32 2756734187), .lit (.int .u32 3204031479), .lit (.int .u32 3329325298)]
def laid_unicode_utf8_acceptRanges {H : Type} : DataW H := .agg [.agg [.lit (.int .u8 128), .lit (.int .u8 191)], .agg [.lit (.int .u8 160), .lit (.int .u8 191)], .agg [.lit (.int .u8 128), .lit (.int .u8 159)], .agg [.lit (.int .u8 144), .lit (.int .u8 191)], .agg [.lit (.int .u8 128), .lit (.int .u8 143)], .agg [.lit (.int .u8 0), .lit (.int .u8 0)], .agg [.lit (.int .u8 0), .lit (.int .u8 0)], .agg [.lit (.int .u8 0), .lit (.int .u8 0)], .agg [.lit (.int .u8 0), .lit (.int .u8 0)], .agg [.lit (.int .u8 0), .lit (.int .u8 0)], .agg [.lit (.int .u8 0), .lit (.int .u8 0)], .agg [.lit (.int .u8 0), .lit (.int .u8 0)], .agg [.lit (.int .u8 0), .lit (.int .u8 0)], .agg [.lit (.int .u8 0), .lit (.int .u8 0)], .agg [.lit (.int .u8 0), .lit (.int .u8 0)], .agg [.lit (.int .u8 0), .lit (.int .u8 0)]]
/-- One of Go's own tables, pinned by name: the form's constant. -/
def laid_unicode_utf8_first : DataW Unit := Go.Pinned.utf8First

/-- 'hopperlaw24.ShaSums': WHATEVER THE INPUT: true; the input reads as it did. -/
def shaSumsSpec : ChangeSpec := { name := "shaSums", fn := fun _ => fun
  | [d1, d2] => { results := [.lit (.bool true)], args := [d1, d2] }
  | _ => none }
def shaSumsRow : OpenClaim := { program := "ytdnmllodefbekaadoor", sum := "e2c66c9f34ebb6d16627de76a818526a20ee6b8132b67496153bdf8526ea4b7c", func := "hopper/hopperlaw24.ShaSums", spec := "shaSums", named := ["hopper/sha.begun", "hopper/sha.constants"], apart := false, laid := [("hopper/sha.begun", laid_hopper_sha_begun), ("hopper/sha.constants", laid_hopper_sha_constants)] }
def ShaSumsSaid : Prop := shaSumsRow.holds Tryd.pinned (OpenSpec.ofChange shaSumsSpec)

/-- ITS FALSE NEIGHBOUR: 'it returns false'. Refute it at one input. -/
def shaSumsWrong : ChangeSpec := { name := "shaSums", fn := fun _ => fun
  | [d1, d2] => { results := [.lit (.bool false)], args := [d1, d2] }
  | _ => none }
def ShaSumsWrongFalsely : Prop := shaSumsRow.holds Tryd.pinned (OpenSpec.ofChange shaSumsWrong)

/-- 'hopperlaw24.ShaPieces': WHATEVER THE INPUT: true; the input reads as it did. -/
def shaPiecesSpec : ChangeSpec := { name := "shaPieces", fn := fun _ => fun
  | [d] => { results := [.lit (.bool true)], args := [d] }
  | _ => none }
def shaPiecesRow : OpenClaim := { program := "ytdnmllodefbekaadoor", sum := "e2c66c9f34ebb6d16627de76a818526a20ee6b8132b67496153bdf8526ea4b7c", func := "hopper/hopperlaw24.ShaPieces", spec := "shaPieces", named := ["hopper/sha.begun", "hopper/sha.constants"], apart := false, laid := [("hopper/sha.begun", laid_hopper_sha_begun), ("hopper/sha.constants", laid_hopper_sha_constants)] }
def ShaPiecesSaid : Prop := shaPiecesRow.holds Tryd.pinned (OpenSpec.ofChange shaPiecesSpec)

/-- ITS FALSE NEIGHBOUR: 'it returns false'. Refute it at one input. -/
def shaPiecesWrong : ChangeSpec := { name := "shaPieces", fn := fun _ => fun
  | [d] => { results := [.lit (.bool false)], args := [d] }
  | _ => none }
def ShaPiecesWrongFalsely : Prop := shaPiecesRow.holds Tryd.pinned (OpenSpec.ofChange shaPiecesWrong)

/-- 'hopperlaw24.ShaKeys': WHATEVER THE INPUT: true; the input reads as it did. -/
def shaKeysSpec : ChangeSpec := { name := "shaKeys", fn := fun _ => fun
  | [d1, d2, d3] => { results := [.lit (.bool true)], args := [d1, d2, d3] }
  | _ => none }
def shaKeysRow : OpenClaim := { program := "ytdnmllodefbekaadoor", sum := "e2c66c9f34ebb6d16627de76a818526a20ee6b8132b67496153bdf8526ea4b7c", func := "hopper/hopperlaw24.ShaKeys", spec := "shaKeys", named := ["hopper/sha.begun", "hopper/sha.constants"], apart := false, laid := [("hopper/sha.begun", laid_hopper_sha_begun), ("hopper/sha.constants", laid_hopper_sha_constants)] }
def ShaKeysSaid : Prop := shaKeysRow.holds Tryd.pinned (OpenSpec.ofChange shaKeysSpec)

/-- ITS FALSE NEIGHBOUR: 'it returns false'. Refute it at one input. -/
def shaKeysWrong : ChangeSpec := { name := "shaKeys", fn := fun _ => fun
  | [d1, d2, d3] => { results := [.lit (.bool false)], args := [d1, d2, d3] }
  | _ => none }
def ShaKeysWrongFalsely : Prop := shaKeysRow.holds Tryd.pinned (OpenSpec.ofChange shaKeysWrong)

/-- 'hopperlaw24.ShaBack': WHATEVER THE INPUT: true; the input reads as it did. -/
def shaBackSpec : ChangeSpec := { name := "shaBack", fn := fun _ => fun
  | [d1, d2] => { results := [.lit (.bool true)], args := [d1, d2] }
  | _ => none }
def shaBackRow : OpenClaim := { program := "ytdnmllodefbekaadoor", sum := "e2c66c9f34ebb6d16627de76a818526a20ee6b8132b67496153bdf8526ea4b7c", func := "hopper/hopperlaw24.ShaBack", spec := "shaBack", named := ["hopper/sha.begun", "hopper/sha.constants"], apart := false, laid := [("hopper/sha.begun", laid_hopper_sha_begun), ("hopper/sha.constants", laid_hopper_sha_constants)] }
def ShaBackSaid : Prop := shaBackRow.holds Tryd.pinned (OpenSpec.ofChange shaBackSpec)

/-- ITS FALSE NEIGHBOUR: 'it returns false'. Refute it at one input. -/
def shaBackWrong : ChangeSpec := { name := "shaBack", fn := fun _ => fun
  | [d1, d2] => { results := [.lit (.bool false)], args := [d1, d2] }
  | _ => none }
def ShaBackWrongFalsely : Prop := shaBackRow.holds Tryd.pinned (OpenSpec.ofChange shaBackWrong)

/-- 'hopperlaw24.ShaTexts': WHATEVER THE INPUT: true; the input reads as it did. -/
def shaTextsSpec : ChangeSpec := { name := "shaTexts", fn := fun _ => fun
  | [d1, d2] => { results := [.lit (.bool true)], args := [d1, d2] }
  | _ => none }
def shaTextsRow : OpenClaim := { program := "ytdnmllodefbekaadoor", sum := "e2c66c9f34ebb6d16627de76a818526a20ee6b8132b67496153bdf8526ea4b7c", func := "hopper/hopperlaw24.ShaTexts", spec := "shaTexts", named := ["hopper/sha.begun", "hopper/sha.constants"], apart := false, laid := [("hopper/sha.begun", laid_hopper_sha_begun), ("hopper/sha.constants", laid_hopper_sha_constants)] }
def ShaTextsSaid : Prop := shaTextsRow.holds Tryd.pinned (OpenSpec.ofChange shaTextsSpec)

/-- ITS FALSE NEIGHBOUR: 'it returns false'. Refute it at one input. -/
def shaTextsWrong : ChangeSpec := { name := "shaTexts", fn := fun _ => fun
  | [d1, d2] => { results := [.lit (.bool false)], args := [d1, d2] }
  | _ => none }
def ShaTextsWrongFalsely : Prop := shaTextsRow.holds Tryd.pinned (OpenSpec.ofChange shaTextsWrong)

/-- 'hopperlaw25.AuthOthers': WHATEVER THE INPUT: true; the input reads as it did. -/
def authOthersSpec : ChangeSpec := { name := "authOthers", fn := fun _ => fun
  | [d1, d2, d3] => { results := [.lit (.bool true)], args := [d1, d2, d3] }
  | _ => none }
def authOthersRow : OpenClaim := { program := "ytdnmllodefbekaadoor", sum := "e2c66c9f34ebb6d16627de76a818526a20ee6b8132b67496153bdf8526ea4b7c", func := "hopper/hopperlaw25.AuthOthers", spec := "authOthers", inPlace := ["internal/bytealg.IndexByteString", "internal/bytealg.IndexString"], named := ["unicode/utf8.first", "unicode/utf8.acceptRanges", "hopper/sha.begun", "hopper/sha.constants", "internal/bytealg.MaxLen"], apart := false, laid := [("hopper/sha.begun", laid_hopper_sha_begun), ("hopper/sha.constants", laid_hopper_sha_constants), ("unicode/utf8.acceptRanges", laid_unicode_utf8_acceptRanges), ("unicode/utf8.first", laid_unicode_utf8_first)] }
def AuthOthersSaid : Prop := authOthersRow.holds Tryd.pinned (OpenSpec.ofChange authOthersSpec)

/-- ITS FALSE NEIGHBOUR: 'it returns false'. Refute it at one input. -/
def authOthersWrong : ChangeSpec := { name := "authOthers", fn := fun _ => fun
  | [d1, d2, d3] => { results := [.lit (.bool false)], args := [d1, d2, d3] }
  | _ => none }
def AuthOthersWrongFalsely : Prop := authOthersRow.holds Tryd.pinned (OpenSpec.ofChange authOthersWrong)

/-- 'hopperlaw25.AuthLets': WHATEVER THE INPUT: true; the input reads as it did. -/
def authLetsSpec : ChangeSpec := { name := "authLets", fn := fun _ => fun
  | [d1, d2, d3] => { results := [.lit (.bool true)], args := [d1, d2, d3] }
  | _ => none }
def authLetsRow : OpenClaim := { program := "ytdnmllodefbekaadoor", sum := "e2c66c9f34ebb6d16627de76a818526a20ee6b8132b67496153bdf8526ea4b7c", func := "hopper/hopperlaw25.AuthLets", spec := "authLets", inPlace := ["internal/bytealg.IndexByteString", "internal/bytealg.IndexString"], named := ["unicode/utf8.first", "unicode/utf8.acceptRanges", "hopper/sha.begun", "hopper/sha.constants", "internal/bytealg.MaxLen"], apart := false, laid := [("hopper/sha.begun", laid_hopper_sha_begun), ("hopper/sha.constants", laid_hopper_sha_constants), ("unicode/utf8.acceptRanges", laid_unicode_utf8_acceptRanges), ("unicode/utf8.first", laid_unicode_utf8_first)] }
def AuthLetsSaid : Prop := authLetsRow.holds Tryd.pinned (OpenSpec.ofChange authLetsSpec)

/-- ITS FALSE NEIGHBOUR: 'it returns false'. Refute it at one input. -/
def authLetsWrong : ChangeSpec := { name := "authLets", fn := fun _ => fun
  | [d1, d2, d3] => { results := [.lit (.bool false)], args := [d1, d2, d3] }
  | _ => none }
def AuthLetsWrongFalsely : Prop := authLetsRow.holds Tryd.pinned (OpenSpec.ofChange authLetsWrong)

/-- 'hopperlaw25.AuthPlays': WHATEVER THE INPUT: true; the input reads as it did. -/
def authPlaysSpec : ChangeSpec := { name := "authPlays", fn := fun _ => fun
  | [d] => { results := [.lit (.bool true)], args := [d] }
  | _ => none }
def authPlaysRow : OpenClaim := { program := "ytdnmllodefbekaadoor", sum := "e2c66c9f34ebb6d16627de76a818526a20ee6b8132b67496153bdf8526ea4b7c", func := "hopper/hopperlaw25.AuthPlays", spec := "authPlays", inPlace := ["internal/bytealg.IndexByteString", "internal/bytealg.IndexString"], unfollowed := true, recurses := true, named := ["unicode/utf8.first", "unicode/utf8.acceptRanges", "hopper/sha.begun", "hopper/sha.constants", "internal/bytealg.MaxLen"], apart := false, laid := [("hopper/sha.begun", laid_hopper_sha_begun), ("hopper/sha.constants", laid_hopper_sha_constants), ("unicode/utf8.acceptRanges", laid_unicode_utf8_acceptRanges), ("unicode/utf8.first", laid_unicode_utf8_first)] }
def AuthPlaysSaid : Prop := authPlaysRow.holds Tryd.pinned (OpenSpec.ofChange authPlaysSpec)

/-- ITS FALSE NEIGHBOUR: 'it returns false'. Refute it at one input. -/
def authPlaysWrong : ChangeSpec := { name := "authPlays", fn := fun _ => fun
  | [d] => { results := [.lit (.bool false)], args := [d] }
  | _ => none }
def AuthPlaysWrongFalsely : Prop := authPlaysRow.holds Tryd.pinned (OpenSpec.ofChange authPlaysWrong)

/-- 'hopperlaw25.AuthNames': WHATEVER THE INPUT: true; the input reads as it did. -/
def authNamesSpec : ChangeSpec := { name := "authNames", fn := fun _ => fun
  | [d1, d2] => { results := [.lit (.bool true)], args := [d1, d2] }
  | _ => none }
def authNamesRow : OpenClaim := { program := "ytdnmllodefbekaadoor", sum := "e2c66c9f34ebb6d16627de76a818526a20ee6b8132b67496153bdf8526ea4b7c", func := "hopper/hopperlaw25.AuthNames", spec := "authNames", inPlace := ["internal/bytealg.IndexByteString", "internal/bytealg.IndexString"], unfollowed := true, recurses := true, named := ["unicode/utf8.first", "unicode/utf8.acceptRanges", "hopper/sha.begun", "hopper/sha.constants", "internal/bytealg.MaxLen"], apart := false, laid := [("hopper/sha.begun", laid_hopper_sha_begun), ("hopper/sha.constants", laid_hopper_sha_constants), ("unicode/utf8.acceptRanges", laid_unicode_utf8_acceptRanges), ("unicode/utf8.first", laid_unicode_utf8_first)] }
def AuthNamesSaid : Prop := authNamesRow.holds Tryd.pinned (OpenSpec.ofChange authNamesSpec)

/-- ITS FALSE NEIGHBOUR: 'it returns false'. Refute it at one input. -/
def authNamesWrong : ChangeSpec := { name := "authNames", fn := fun _ => fun
  | [d1, d2] => { results := [.lit (.bool false)], args := [d1, d2] }
  | _ => none }
def AuthNamesWrongFalsely : Prop := authNamesRow.holds Tryd.pinned (OpenSpec.ofChange authNamesWrong)

/- THE SECOND FORM. 'bulk': how many values and letters a reading holds, each counted each time it is reached (what is shared counts as often as it is met; a slice's spare places count too). A statement '..UptoSaid' is the law's where the arguments, and the package variables that the reading takes, are together of bulk at most 1048576: NARROWER than '..Said'. Prove '..Said' where nothing that the law and all that it calls make is longer than what came in: it says more and counts as full. Else prove '..UptoSaid'. A law counts once. -/
mutual
def uptoBulk {H : Type} : DataW H → Nat
  | .lit (.string bytes) => bytes.length + 1
  | .lit _ => 1
  | .nil => 1
  | .ptr d => uptoBulk d + 1
  | .slice elems spare => uptoBulkAll elems + uptoBulkAll spare + 1
  | .agg parts => uptoBulkAll parts + 1
  | .iface _ d => uptoBulk d + 1
  | .map entries => uptoBulkEntries entries + 1
  | .held _ => 1
def uptoBulkAll {H : Type} : List (DataW H) → Nat
  | [] => 0
  | d :: r => uptoBulk d + uptoBulkAll r
def uptoBulkEntries {H : Type} : List (Lit × DataW H) → Nat
  | [] => 0
  | x :: r => uptoBulkEntry x + uptoBulkEntries r
def uptoBulkEntry {H : Type} : Lit × DataW H → Nat
  | (.string bytes, d) => bytes.length + uptoBulk d + 1
  | (_, d) => uptoBulk d + 1
 end
def uptoSmall : (H : Type) → List (DataW H) → Bool := fun _ ds => decide (uptoBulkAll ds ≤ 1048576)
def OpenSpec.upto (s : _root_.Go.ChangeSpec) : _root_.Go.OpenSpec := { _root_.Go.OpenSpec.ofChange s with cond := some uptoSmall }

/-- 'hopperlaw24.ShaSums', WHERE WHAT IT READS IS OF BULK AT MOST 1048576: true; the input reads as it did. -/
def shaSumsUptoRow : OpenClaim := { program := "ytdnmllodefbekaadoor", sum := "e2c66c9f34ebb6d16627de76a818526a20ee6b8132b67496153bdf8526ea4b7c", func := "hopper/hopperlaw24.ShaSums", spec := "shaSums", named := ["hopper/sha.begun", "hopper/sha.constants"], apart := false, laid := [("hopper/sha.begun", laid_hopper_sha_begun), ("hopper/sha.constants", laid_hopper_sha_constants)], narrowed := true }
def ShaSumsUptoSaid : Prop := shaSumsUptoRow.holds Tryd.pinned (OpenSpec.upto shaSumsSpec)

/-- 'hopperlaw24.ShaPieces', WHERE WHAT IT READS IS OF BULK AT MOST 1048576: true; the input reads as it did. -/
def shaPiecesUptoRow : OpenClaim := { program := "ytdnmllodefbekaadoor", sum := "e2c66c9f34ebb6d16627de76a818526a20ee6b8132b67496153bdf8526ea4b7c", func := "hopper/hopperlaw24.ShaPieces", spec := "shaPieces", named := ["hopper/sha.begun", "hopper/sha.constants"], apart := false, laid := [("hopper/sha.begun", laid_hopper_sha_begun), ("hopper/sha.constants", laid_hopper_sha_constants)], narrowed := true }
def ShaPiecesUptoSaid : Prop := shaPiecesUptoRow.holds Tryd.pinned (OpenSpec.upto shaPiecesSpec)

/-- 'hopperlaw24.ShaKeys', WHERE WHAT IT READS IS OF BULK AT MOST 1048576: true; the input reads as it did. -/
def shaKeysUptoRow : OpenClaim := { program := "ytdnmllodefbekaadoor", sum := "e2c66c9f34ebb6d16627de76a818526a20ee6b8132b67496153bdf8526ea4b7c", func := "hopper/hopperlaw24.ShaKeys", spec := "shaKeys", named := ["hopper/sha.begun", "hopper/sha.constants"], apart := false, laid := [("hopper/sha.begun", laid_hopper_sha_begun), ("hopper/sha.constants", laid_hopper_sha_constants)], narrowed := true }
def ShaKeysUptoSaid : Prop := shaKeysUptoRow.holds Tryd.pinned (OpenSpec.upto shaKeysSpec)

/-- 'hopperlaw24.ShaBack', WHERE WHAT IT READS IS OF BULK AT MOST 1048576: true; the input reads as it did. -/
def shaBackUptoRow : OpenClaim := { program := "ytdnmllodefbekaadoor", sum := "e2c66c9f34ebb6d16627de76a818526a20ee6b8132b67496153bdf8526ea4b7c", func := "hopper/hopperlaw24.ShaBack", spec := "shaBack", named := ["hopper/sha.begun", "hopper/sha.constants"], apart := false, laid := [("hopper/sha.begun", laid_hopper_sha_begun), ("hopper/sha.constants", laid_hopper_sha_constants)], narrowed := true }
def ShaBackUptoSaid : Prop := shaBackUptoRow.holds Tryd.pinned (OpenSpec.upto shaBackSpec)

/-- 'hopperlaw24.ShaTexts', WHERE WHAT IT READS IS OF BULK AT MOST 1048576: true; the input reads as it did. -/
def shaTextsUptoRow : OpenClaim := { program := "ytdnmllodefbekaadoor", sum := "e2c66c9f34ebb6d16627de76a818526a20ee6b8132b67496153bdf8526ea4b7c", func := "hopper/hopperlaw24.ShaTexts", spec := "shaTexts", named := ["hopper/sha.begun", "hopper/sha.constants"], apart := false, laid := [("hopper/sha.begun", laid_hopper_sha_begun), ("hopper/sha.constants", laid_hopper_sha_constants)], narrowed := true }
def ShaTextsUptoSaid : Prop := shaTextsUptoRow.holds Tryd.pinned (OpenSpec.upto shaTextsSpec)

/-- 'hopperlaw25.AuthOthers', WHERE WHAT IT READS IS OF BULK AT MOST 1048576: true; the input reads as it did. -/
def authOthersUptoRow : OpenClaim := { program := "ytdnmllodefbekaadoor", sum := "e2c66c9f34ebb6d16627de76a818526a20ee6b8132b67496153bdf8526ea4b7c", func := "hopper/hopperlaw25.AuthOthers", spec := "authOthers", inPlace := ["internal/bytealg.IndexByteString", "internal/bytealg.IndexString"], named := ["unicode/utf8.first", "unicode/utf8.acceptRanges", "hopper/sha.begun", "hopper/sha.constants", "internal/bytealg.MaxLen"], apart := false, laid := [("hopper/sha.begun", laid_hopper_sha_begun), ("hopper/sha.constants", laid_hopper_sha_constants), ("unicode/utf8.acceptRanges", laid_unicode_utf8_acceptRanges), ("unicode/utf8.first", laid_unicode_utf8_first)], narrowed := true }
def AuthOthersUptoSaid : Prop := authOthersUptoRow.holds Tryd.pinned (OpenSpec.upto authOthersSpec)

/-- 'hopperlaw25.AuthLets', WHERE WHAT IT READS IS OF BULK AT MOST 1048576: true; the input reads as it did. -/
def authLetsUptoRow : OpenClaim := { program := "ytdnmllodefbekaadoor", sum := "e2c66c9f34ebb6d16627de76a818526a20ee6b8132b67496153bdf8526ea4b7c", func := "hopper/hopperlaw25.AuthLets", spec := "authLets", inPlace := ["internal/bytealg.IndexByteString", "internal/bytealg.IndexString"], named := ["unicode/utf8.first", "unicode/utf8.acceptRanges", "hopper/sha.begun", "hopper/sha.constants", "internal/bytealg.MaxLen"], apart := false, laid := [("hopper/sha.begun", laid_hopper_sha_begun), ("hopper/sha.constants", laid_hopper_sha_constants), ("unicode/utf8.acceptRanges", laid_unicode_utf8_acceptRanges), ("unicode/utf8.first", laid_unicode_utf8_first)], narrowed := true }
def AuthLetsUptoSaid : Prop := authLetsUptoRow.holds Tryd.pinned (OpenSpec.upto authLetsSpec)

/-- 'hopperlaw25.AuthPlays', WHERE WHAT IT READS IS OF BULK AT MOST 1048576: true; the input reads as it did. -/
def authPlaysUptoRow : OpenClaim := { program := "ytdnmllodefbekaadoor", sum := "e2c66c9f34ebb6d16627de76a818526a20ee6b8132b67496153bdf8526ea4b7c", func := "hopper/hopperlaw25.AuthPlays", spec := "authPlays", inPlace := ["internal/bytealg.IndexByteString", "internal/bytealg.IndexString"], unfollowed := true, recurses := true, named := ["unicode/utf8.first", "unicode/utf8.acceptRanges", "hopper/sha.begun", "hopper/sha.constants", "internal/bytealg.MaxLen"], apart := false, laid := [("hopper/sha.begun", laid_hopper_sha_begun), ("hopper/sha.constants", laid_hopper_sha_constants), ("unicode/utf8.acceptRanges", laid_unicode_utf8_acceptRanges), ("unicode/utf8.first", laid_unicode_utf8_first)], narrowed := true }
def AuthPlaysUptoSaid : Prop := authPlaysUptoRow.holds Tryd.pinned (OpenSpec.upto authPlaysSpec)

/-- 'hopperlaw25.AuthNames', WHERE WHAT IT READS IS OF BULK AT MOST 1048576: true; the input reads as it did. -/
def authNamesUptoRow : OpenClaim := { program := "ytdnmllodefbekaadoor", sum := "e2c66c9f34ebb6d16627de76a818526a20ee6b8132b67496153bdf8526ea4b7c", func := "hopper/hopperlaw25.AuthNames", spec := "authNames", inPlace := ["internal/bytealg.IndexByteString", "internal/bytealg.IndexString"], unfollowed := true, recurses := true, named := ["unicode/utf8.first", "unicode/utf8.acceptRanges", "hopper/sha.begun", "hopper/sha.constants", "internal/bytealg.MaxLen"], apart := false, laid := [("hopper/sha.begun", laid_hopper_sha_begun), ("hopper/sha.constants", laid_hopper_sha_constants), ("unicode/utf8.acceptRanges", laid_unicode_utf8_acceptRanges), ("unicode/utf8.first", laid_unicode_utf8_first)], narrowed := true }
def AuthNamesUptoSaid : Prop := authNamesUptoRow.holds Tryd.pinned (OpenSpec.upto authNamesSpec)

end Rows
end Go.Proofs.YtdnmllodefbekaaDoor
