/-
  No cell of these rows narrows 'for every input' (looked for: loops, veiled, ifaces, maps, wideKeys, modest, calm, conditions, laid).
  DERIVED. THE GIVEN ROWS OF THIS SEAT. 12 by the template 'for every input the law returns true; each argument reads behind the call as it read before'; 0 by the template 'total and deterministic' (their statements: YtmfbmagbpceomaaTotals.lean).
  GIVEN WITH THE SEED: the statements are not yours to turn. If you find one false, say at which input.
  Laid BY PROGRAM, IN A SANDBOX (cutbox-rows.mjs): the forced cells as the released guide's own fill.sh prints them over the translation 020073f06587d4d8… (all of the seat's roots in one cut). By AI agents, Wed Nov 11 2026. No macro, syntax, notation, axiom, sorry.
-/
import Derived.Test.YtmfbmagbpceomaaChecked
import GoSem.Claim
import GoSem.ClaimJoined
import GoSem.ClaimMapViews
import Derived.JoinedTies
import Derived.KernelRfl
namespace Go.Proofs.Ytmfbmagbpceomaa
/- THE CELL 'sum', in the pinned program and in every row, IS THE sha256 OF THE DUMP (.gsa) THAT YtmfbmagbpceomaaProg.lean LOADS. Nothing in Lean hashes anything: it is a label: what it is worth is what the hold of that sum in a sandbox is worth. -/
noncomputable def Try.pinned : Pinned := { name := "ytmfbmagbpceomaa", sum := "020073f06587d4d8646db7e045246054e6c765c1f556fbdfe5ca000ea84839e6", checked := Try.checked }
namespace Rows
def none {H : Type} : Left H := { results := [], args := [] }

/-- 'hopperlaw06.FrameSums': WHATEVER THE INPUT: true; the input reads as it did. -/
def frameSumsSpec : ChangeSpec := { name := "frameSums", fn := fun _ => fun
  | [d1, d2] => { results := [.lit (.bool true)], args := [d1, d2] }
  | _ => none }
def frameSumsRow : OpenClaim := { program := "ytmfbmagbpceomaa", sum := "020073f06587d4d8646db7e045246054e6c765c1f556fbdfe5ca000ea84839e6", func := "hopper/hopperlaw06.FrameSums", spec := "frameSums", apart := false }
def FrameSumsSaid : Prop := frameSumsRow.holds Try.pinned (OpenSpec.ofChange frameSumsSpec)

/-- ITS FALSE NEIGHBOUR: 'it returns false'. Refute it at one input. -/
def frameSumsWrong : ChangeSpec := { name := "frameSums", fn := fun _ => fun
  | [d1, d2] => { results := [.lit (.bool false)], args := [d1, d2] }
  | _ => none }
def FrameSumsWrongFalsely : Prop := frameSumsRow.holds Try.pinned (OpenSpec.ofChange frameSumsWrong)

/-- 'hopperlaw07.WireLeft': WHATEVER THE INPUT: true; the input reads as it did. -/
def wireLeftSpec : ChangeSpec := { name := "wireLeft", fn := fun _ => fun
  | [d] => { results := [.lit (.bool true)], args := [d] }
  | _ => none }
def wireLeftRow : OpenClaim := { program := "ytmfbmagbpceomaa", sum := "020073f06587d4d8646db7e045246054e6c765c1f556fbdfe5ca000ea84839e6", func := "hopper/hopperlaw07.WireLeft", spec := "wireLeft", apart := false }
def WireLeftSaid : Prop := wireLeftRow.holds Try.pinned (OpenSpec.ofChange wireLeftSpec)

/-- ITS FALSE NEIGHBOUR: 'it returns false'. Refute it at one input. -/
def wireLeftWrong : ChangeSpec := { name := "wireLeft", fn := fun _ => fun
  | [d] => { results := [.lit (.bool false)], args := [d] }
  | _ => none }
def WireLeftWrongFalsely : Prop := wireLeftRow.holds Try.pinned (OpenSpec.ofChange wireLeftWrong)

/-- 'hopperlaw09.TidNext': WHATEVER THE INPUT: true; the input reads as it did. -/
def tidNextSpec : ChangeSpec := { name := "tidNext", fn := fun _ => fun
  | [d1, d2] => { results := [.lit (.bool true)], args := [d1, d2] }
  | _ => none }
def tidNextRow : OpenClaim := { program := "ytmfbmagbpceomaa", sum := "020073f06587d4d8646db7e045246054e6c765c1f556fbdfe5ca000ea84839e6", func := "hopper/hopperlaw09.TidNext", spec := "tidNext", apart := false }
def TidNextSaid : Prop := tidNextRow.holds Try.pinned (OpenSpec.ofChange tidNextSpec)

/-- ITS FALSE NEIGHBOUR: 'it returns false'. Refute it at one input. -/
def tidNextWrong : ChangeSpec := { name := "tidNext", fn := fun _ => fun
  | [d1, d2] => { results := [.lit (.bool false)], args := [d1, d2] }
  | _ => none }
def TidNextWrongFalsely : Prop := tidNextRow.holds Try.pinned (OpenSpec.ofChange tidNextWrong)

/-- 'hopperlaw09.TidParts': WHATEVER THE INPUT: true; the input reads as it did. -/
def tidPartsSpec : ChangeSpec := { name := "tidParts", fn := fun _ => fun
  | [d1, d2] => { results := [.lit (.bool true)], args := [d1, d2] }
  | _ => none }
def tidPartsRow : OpenClaim := { program := "ytmfbmagbpceomaa", sum := "020073f06587d4d8646db7e045246054e6c765c1f556fbdfe5ca000ea84839e6", func := "hopper/hopperlaw09.TidParts", spec := "tidParts", apart := false }
def TidPartsSaid : Prop := tidPartsRow.holds Try.pinned (OpenSpec.ofChange tidPartsSpec)

/-- ITS FALSE NEIGHBOUR: 'it returns false'. Refute it at one input. -/
def tidPartsWrong : ChangeSpec := { name := "tidParts", fn := fun _ => fun
  | [d1, d2] => { results := [.lit (.bool false)], args := [d1, d2] }
  | _ => none }
def TidPartsWrongFalsely : Prop := tidPartsRow.holds Try.pinned (OpenSpec.ofChange tidPartsWrong)

/-- 'hopperlaw09.TidOrder': WHATEVER THE INPUT: true; the input reads as it did. -/
def tidOrderSpec : ChangeSpec := { name := "tidOrder", fn := fun _ => fun
  | [d1, d2] => { results := [.lit (.bool true)], args := [d1, d2] }
  | _ => none }
def tidOrderRow : OpenClaim := { program := "ytmfbmagbpceomaa", sum := "020073f06587d4d8646db7e045246054e6c765c1f556fbdfe5ca000ea84839e6", func := "hopper/hopperlaw09.TidOrder", spec := "tidOrder", apart := false }
def TidOrderSaid : Prop := tidOrderRow.holds Try.pinned (OpenSpec.ofChange tidOrderSpec)

/-- ITS FALSE NEIGHBOUR: 'it returns false'. Refute it at one input. -/
def tidOrderWrong : ChangeSpec := { name := "tidOrder", fn := fun _ => fun
  | [d1, d2] => { results := [.lit (.bool false)], args := [d1, d2] }
  | _ => none }
def TidOrderWrongFalsely : Prop := tidOrderRow.holds Try.pinned (OpenSpec.ofChange tidOrderWrong)

/-- 'hopperlaw09.TidAbove': WHATEVER THE INPUT: true; the input reads as it did. -/
def tidAboveSpec : ChangeSpec := { name := "tidAbove", fn := fun _ => fun
  | [d1, d2] => { results := [.lit (.bool true)], args := [d1, d2] }
  | _ => none }
def tidAboveRow : OpenClaim := { program := "ytmfbmagbpceomaa", sum := "020073f06587d4d8646db7e045246054e6c765c1f556fbdfe5ca000ea84839e6", func := "hopper/hopperlaw09.TidAbove", spec := "tidAbove", apart := false }
def TidAboveSaid : Prop := tidAboveRow.holds Try.pinned (OpenSpec.ofChange tidAboveSpec)

/-- ITS FALSE NEIGHBOUR: 'it returns false'. Refute it at one input. -/
def tidAboveWrong : ChangeSpec := { name := "tidAbove", fn := fun _ => fun
  | [d1, d2] => { results := [.lit (.bool false)], args := [d1, d2] }
  | _ => none }
def TidAboveWrongFalsely : Prop := tidAboveRow.holds Try.pinned (OpenSpec.ofChange tidAboveWrong)

/-- 'hopperlaw07.WireFeeds': WHATEVER THE INPUT: true; the input reads as it did. -/
def wireFeedsSpec : ChangeSpec := { name := "wireFeeds", fn := fun _ => fun
  | [d] => { results := [.lit (.bool true)], args := [d] }
  | _ => none }
def wireFeedsRow : OpenClaim := { program := "ytmfbmagbpceomaa", sum := "020073f06587d4d8646db7e045246054e6c765c1f556fbdfe5ca000ea84839e6", func := "hopper/hopperlaw07.WireFeeds", spec := "wireFeeds", apart := false }
def WireFeedsSaid : Prop := wireFeedsRow.holds Try.pinned (OpenSpec.ofChange wireFeedsSpec)

/-- ITS FALSE NEIGHBOUR: 'it returns false'. Refute it at one input. -/
def wireFeedsWrong : ChangeSpec := { name := "wireFeeds", fn := fun _ => fun
  | [d] => { results := [.lit (.bool false)], args := [d] }
  | _ => none }
def WireFeedsWrongFalsely : Prop := wireFeedsRow.holds Try.pinned (OpenSpec.ofChange wireFeedsWrong)

/-- 'hopperlaw07.WireCuts': WHATEVER THE INPUT: true; the input reads as it did. -/
def wireCutsSpec : ChangeSpec := { name := "wireCuts", fn := fun _ => fun
  | [d1, d2] => { results := [.lit (.bool true)], args := [d1, d2] }
  | _ => none }
def wireCutsRow : OpenClaim := { program := "ytmfbmagbpceomaa", sum := "020073f06587d4d8646db7e045246054e6c765c1f556fbdfe5ca000ea84839e6", func := "hopper/hopperlaw07.WireCuts", spec := "wireCuts", apart := false }
def WireCutsSaid : Prop := wireCutsRow.holds Try.pinned (OpenSpec.ofChange wireCutsSpec)

/-- ITS FALSE NEIGHBOUR: 'it returns false'. Refute it at one input. -/
def wireCutsWrong : ChangeSpec := { name := "wireCuts", fn := fun _ => fun
  | [d1, d2] => { results := [.lit (.bool false)], args := [d1, d2] }
  | _ => none }
def WireCutsWrongFalsely : Prop := wireCutsRow.holds Try.pinned (OpenSpec.ofChange wireCutsWrong)

/-- 'hopperlaw07.WireBad': WHATEVER THE INPUT: true; the input reads as it did. -/
def wireBadSpec : ChangeSpec := { name := "wireBad", fn := fun _ => fun
  | [d1, d2, d3] => { results := [.lit (.bool true)], args := [d1, d2, d3] }
  | _ => none }
def wireBadRow : OpenClaim := { program := "ytmfbmagbpceomaa", sum := "020073f06587d4d8646db7e045246054e6c765c1f556fbdfe5ca000ea84839e6", func := "hopper/hopperlaw07.WireBad", spec := "wireBad", apart := false }
def WireBadSaid : Prop := wireBadRow.holds Try.pinned (OpenSpec.ofChange wireBadSpec)

/-- ITS FALSE NEIGHBOUR: 'it returns false'. Refute it at one input. -/
def wireBadWrong : ChangeSpec := { name := "wireBad", fn := fun _ => fun
  | [d1, d2, d3] => { results := [.lit (.bool false)], args := [d1, d2, d3] }
  | _ => none }
def WireBadWrongFalsely : Prop := wireBadRow.holds Try.pinned (OpenSpec.ofChange wireBadWrong)

/-- 'hopperlaw06.FrameTorn': WHATEVER THE INPUT: true; the input reads as it did. -/
def frameTornSpec : ChangeSpec := { name := "frameTorn", fn := fun _ => fun
  | [d1, d2, d3] => { results := [.lit (.bool true)], args := [d1, d2, d3] }
  | _ => none }
def frameTornRow : OpenClaim := { program := "ytmfbmagbpceomaa", sum := "020073f06587d4d8646db7e045246054e6c765c1f556fbdfe5ca000ea84839e6", func := "hopper/hopperlaw06.FrameTorn", spec := "frameTorn", apart := false }
def FrameTornSaid : Prop := frameTornRow.holds Try.pinned (OpenSpec.ofChange frameTornSpec)

/-- ITS FALSE NEIGHBOUR: 'it returns false'. Refute it at one input. -/
def frameTornWrong : ChangeSpec := { name := "frameTorn", fn := fun _ => fun
  | [d1, d2, d3] => { results := [.lit (.bool false)], args := [d1, d2, d3] }
  | _ => none }
def FrameTornWrongFalsely : Prop := frameTornRow.holds Try.pinned (OpenSpec.ofChange frameTornWrong)

/-- 'hopperlaw06.FrameBytes': WHATEVER THE INPUT: true; the input reads as it did. -/
def frameBytesSpec : ChangeSpec := { name := "frameBytes", fn := fun _ => fun
  | [d1, d2] => { results := [.lit (.bool true)], args := [d1, d2] }
  | _ => none }
def frameBytesRow : OpenClaim := { program := "ytmfbmagbpceomaa", sum := "020073f06587d4d8646db7e045246054e6c765c1f556fbdfe5ca000ea84839e6", func := "hopper/hopperlaw06.FrameBytes", spec := "frameBytes", apart := false }
def FrameBytesSaid : Prop := frameBytesRow.holds Try.pinned (OpenSpec.ofChange frameBytesSpec)

/-- ITS FALSE NEIGHBOUR: 'it returns false'. Refute it at one input. -/
def frameBytesWrong : ChangeSpec := { name := "frameBytes", fn := fun _ => fun
  | [d1, d2] => { results := [.lit (.bool false)], args := [d1, d2] }
  | _ => none }
def FrameBytesWrongFalsely : Prop := frameBytesRow.holds Try.pinned (OpenSpec.ofChange frameBytesWrong)

/-- 'hopperlaw06.FrameBack': WHATEVER THE INPUT: true; the input reads as it did. -/
def frameBackSpec : ChangeSpec := { name := "frameBack", fn := fun _ => fun
  | [d1, d2, d3] => { results := [.lit (.bool true)], args := [d1, d2, d3] }
  | _ => none }
def frameBackRow : OpenClaim := { program := "ytmfbmagbpceomaa", sum := "020073f06587d4d8646db7e045246054e6c765c1f556fbdfe5ca000ea84839e6", func := "hopper/hopperlaw06.FrameBack", spec := "frameBack", apart := false }
def FrameBackSaid : Prop := frameBackRow.holds Try.pinned (OpenSpec.ofChange frameBackSpec)

/-- ITS FALSE NEIGHBOUR: 'it returns false'. Refute it at one input. -/
def frameBackWrong : ChangeSpec := { name := "frameBack", fn := fun _ => fun
  | [d1, d2, d3] => { results := [.lit (.bool false)], args := [d1, d2, d3] }
  | _ => none }
def FrameBackWrongFalsely : Prop := frameBackRow.holds Try.pinned (OpenSpec.ofChange frameBackWrong)

/- THE SECOND FORM. 'bulk': how many values and letters a reading holds, each counted each time it is reached (what is shared counts as often as it is met; a slice's spare places count too). A statement '..UptoSaid' is the law's where the arguments, and the package variables that the reading takes, are together of bulk at most 1048576: NARROWER than '..Said'. Prove '..Said' where nothing that the law and all that it calls make is longer than what came in: it says more and counts as full. Else prove '..UptoSaid'. A law counts once. -/
mutual
def uptoBulk {H : Type} : DataW H → Nat
  | .lit (.string bytes) => bytes.length + 1
  | .lit _ => 1
  | .nil => 1
  | .ptr d => uptoBulk d + 1
  | .slice elems spare => uptoBulkAll elems + uptoBulkAll spare + 1
  | .agg parts => uptoBulkAll parts + 1
  | .iface _ d => uptoBulk d + 1
  | .map entries => uptoBulkEntries entries + 1
  | .held _ => 1
def uptoBulkAll {H : Type} : List (DataW H) → Nat
  | [] => 0
  | d :: r => uptoBulk d + uptoBulkAll r
def uptoBulkEntries {H : Type} : List (Lit × DataW H) → Nat
  | [] => 0
  | x :: r => uptoBulkEntry x + uptoBulkEntries r
def uptoBulkEntry {H : Type} : Lit × DataW H → Nat
  | (.string bytes, d) => bytes.length + uptoBulk d + 1
  | (_, d) => uptoBulk d + 1
 end
def uptoSmall : (H : Type) → List (DataW H) → Bool := fun _ ds => decide (uptoBulkAll ds ≤ 1048576)
def OpenSpec.upto (s : _root_.Go.ChangeSpec) : _root_.Go.OpenSpec := { _root_.Go.OpenSpec.ofChange s with cond := some uptoSmall }

/-- 'hopperlaw06.FrameSums', WHERE WHAT IT READS IS OF BULK AT MOST 1048576: true; the input reads as it did. -/
def frameSumsUptoRow : OpenClaim := { program := "ytmfbmagbpceomaa", sum := "020073f06587d4d8646db7e045246054e6c765c1f556fbdfe5ca000ea84839e6", func := "hopper/hopperlaw06.FrameSums", spec := "frameSums", apart := false, narrowed := true }
def FrameSumsUptoSaid : Prop := frameSumsUptoRow.holds Try.pinned (OpenSpec.upto frameSumsSpec)

/-- 'hopperlaw07.WireLeft', WHERE WHAT IT READS IS OF BULK AT MOST 1048576: true; the input reads as it did. -/
def wireLeftUptoRow : OpenClaim := { program := "ytmfbmagbpceomaa", sum := "020073f06587d4d8646db7e045246054e6c765c1f556fbdfe5ca000ea84839e6", func := "hopper/hopperlaw07.WireLeft", spec := "wireLeft", apart := false, narrowed := true }
def WireLeftUptoSaid : Prop := wireLeftUptoRow.holds Try.pinned (OpenSpec.upto wireLeftSpec)

/-- 'hopperlaw09.TidNext', WHERE WHAT IT READS IS OF BULK AT MOST 1048576: true; the input reads as it did. -/
def tidNextUptoRow : OpenClaim := { program := "ytmfbmagbpceomaa", sum := "020073f06587d4d8646db7e045246054e6c765c1f556fbdfe5ca000ea84839e6", func := "hopper/hopperlaw09.TidNext", spec := "tidNext", apart := false, narrowed := true }
def TidNextUptoSaid : Prop := tidNextUptoRow.holds Try.pinned (OpenSpec.upto tidNextSpec)

/-- 'hopperlaw09.TidParts', WHERE WHAT IT READS IS OF BULK AT MOST 1048576: true; the input reads as it did. -/
def tidPartsUptoRow : OpenClaim := { program := "ytmfbmagbpceomaa", sum := "020073f06587d4d8646db7e045246054e6c765c1f556fbdfe5ca000ea84839e6", func := "hopper/hopperlaw09.TidParts", spec := "tidParts", apart := false, narrowed := true }
def TidPartsUptoSaid : Prop := tidPartsUptoRow.holds Try.pinned (OpenSpec.upto tidPartsSpec)

/-- 'hopperlaw09.TidOrder', WHERE WHAT IT READS IS OF BULK AT MOST 1048576: true; the input reads as it did. -/
def tidOrderUptoRow : OpenClaim := { program := "ytmfbmagbpceomaa", sum := "020073f06587d4d8646db7e045246054e6c765c1f556fbdfe5ca000ea84839e6", func := "hopper/hopperlaw09.TidOrder", spec := "tidOrder", apart := false, narrowed := true }
def TidOrderUptoSaid : Prop := tidOrderUptoRow.holds Try.pinned (OpenSpec.upto tidOrderSpec)

/-- 'hopperlaw09.TidAbove', WHERE WHAT IT READS IS OF BULK AT MOST 1048576: true; the input reads as it did. -/
def tidAboveUptoRow : OpenClaim := { program := "ytmfbmagbpceomaa", sum := "020073f06587d4d8646db7e045246054e6c765c1f556fbdfe5ca000ea84839e6", func := "hopper/hopperlaw09.TidAbove", spec := "tidAbove", apart := false, narrowed := true }
def TidAboveUptoSaid : Prop := tidAboveUptoRow.holds Try.pinned (OpenSpec.upto tidAboveSpec)

/-- 'hopperlaw07.WireFeeds', WHERE WHAT IT READS IS OF BULK AT MOST 1048576: true; the input reads as it did. -/
def wireFeedsUptoRow : OpenClaim := { program := "ytmfbmagbpceomaa", sum := "020073f06587d4d8646db7e045246054e6c765c1f556fbdfe5ca000ea84839e6", func := "hopper/hopperlaw07.WireFeeds", spec := "wireFeeds", apart := false, narrowed := true }
def WireFeedsUptoSaid : Prop := wireFeedsUptoRow.holds Try.pinned (OpenSpec.upto wireFeedsSpec)

/-- 'hopperlaw07.WireCuts', WHERE WHAT IT READS IS OF BULK AT MOST 1048576: true; the input reads as it did. -/
def wireCutsUptoRow : OpenClaim := { program := "ytmfbmagbpceomaa", sum := "020073f06587d4d8646db7e045246054e6c765c1f556fbdfe5ca000ea84839e6", func := "hopper/hopperlaw07.WireCuts", spec := "wireCuts", apart := false, narrowed := true }
def WireCutsUptoSaid : Prop := wireCutsUptoRow.holds Try.pinned (OpenSpec.upto wireCutsSpec)

/-- 'hopperlaw07.WireBad', WHERE WHAT IT READS IS OF BULK AT MOST 1048576: true; the input reads as it did. -/
def wireBadUptoRow : OpenClaim := { program := "ytmfbmagbpceomaa", sum := "020073f06587d4d8646db7e045246054e6c765c1f556fbdfe5ca000ea84839e6", func := "hopper/hopperlaw07.WireBad", spec := "wireBad", apart := false, narrowed := true }
def WireBadUptoSaid : Prop := wireBadUptoRow.holds Try.pinned (OpenSpec.upto wireBadSpec)

/-- 'hopperlaw06.FrameTorn', WHERE WHAT IT READS IS OF BULK AT MOST 1048576: true; the input reads as it did. -/
def frameTornUptoRow : OpenClaim := { program := "ytmfbmagbpceomaa", sum := "020073f06587d4d8646db7e045246054e6c765c1f556fbdfe5ca000ea84839e6", func := "hopper/hopperlaw06.FrameTorn", spec := "frameTorn", apart := false, narrowed := true }
def FrameTornUptoSaid : Prop := frameTornUptoRow.holds Try.pinned (OpenSpec.upto frameTornSpec)

/-- 'hopperlaw06.FrameBytes', WHERE WHAT IT READS IS OF BULK AT MOST 1048576: true; the input reads as it did. -/
def frameBytesUptoRow : OpenClaim := { program := "ytmfbmagbpceomaa", sum := "020073f06587d4d8646db7e045246054e6c765c1f556fbdfe5ca000ea84839e6", func := "hopper/hopperlaw06.FrameBytes", spec := "frameBytes", apart := false, narrowed := true }
def FrameBytesUptoSaid : Prop := frameBytesUptoRow.holds Try.pinned (OpenSpec.upto frameBytesSpec)

/-- 'hopperlaw06.FrameBack', WHERE WHAT IT READS IS OF BULK AT MOST 1048576: true; the input reads as it did. -/
def frameBackUptoRow : OpenClaim := { program := "ytmfbmagbpceomaa", sum := "020073f06587d4d8646db7e045246054e6c765c1f556fbdfe5ca000ea84839e6", func := "hopper/hopperlaw06.FrameBack", spec := "frameBack", apart := false, narrowed := true }
def FrameBackUptoSaid : Prop := frameBackUptoRow.holds Try.pinned (OpenSpec.upto frameBackSpec)

end Rows
end Go.Proofs.Ytmfbmagbpceomaa
