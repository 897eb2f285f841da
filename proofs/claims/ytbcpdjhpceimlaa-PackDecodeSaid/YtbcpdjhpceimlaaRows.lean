/-
  No cell of these rows narrows 'for every input' (looked for: loops, veiled, ifaces, maps, wideKeys, modest, calm, conditions, laid).
  DERIVED. THE GIVEN ROWS OF THIS SEAT. 11 by the template 'for every input the law returns true; each argument reads behind the call as it read before'; 0 by the template 'total and deterministic' (their statements: YtbcpdjhpceimlaaTotals.lean).
  GIVEN WITH THE SEED: the statements are not yours to turn. If you find one false, say at which input.
  Laid BY PROGRAM, IN A SANDBOX (cutbox-rows.mjs): the forced cells as the released guide's own fill.sh prints them over the translation 73172b6127a6dfa9… (all of the seat's roots in one cut). By AI agents, Wed Nov 11 2026. No macro, syntax, notation, axiom, sorry.
-/
import Derived.Test.YtbcpdjhpceimlaaChecked
import GoSem.Claim
import GoSem.ClaimJoined
import GoSem.ClaimMapViews
import Derived.JoinedTies
import Derived.KernelRfl
namespace Go.Proofs.Ytbcpdjhpceimlaa
/- THE CELL 'sum', in the pinned program and in every row, IS THE sha256 OF THE DUMP (.gsa) THAT YtbcpdjhpceimlaaProg.lean LOADS. Nothing in Lean hashes anything: it is a label: what it is worth is what the hold of that sum in a sandbox is worth. -/
noncomputable def Try.pinned : Pinned := { name := "ytbcpdjhpceimlaa", sum := "73172b6127a6dfa972497afab369929641c70606e4ef5fba9f76e5f93f7a5e94", checked := Try.checked }
namespace Rows
def none {H : Type} : Left H := { results := [], args := [] }

/-- 'cardgamelaw27.PackCut': WHATEVER THE INPUT: true; the input reads as it did. -/
def packCutSpec : ChangeSpec := { name := "packCut", fn := fun _ => fun
  | [d1, d2, d3] => { results := [.lit (.bool true)], args := [d1, d2, d3] }
  | _ => none }
def packCutRow : OpenClaim := { program := "ytbcpdjhpceimlaa", sum := "73172b6127a6dfa972497afab369929641c70606e4ef5fba9f76e5f93f7a5e94", func := "cardgame/cardgamelaw27.PackCut", spec := "packCut", unfollowed := true, recurses := true, apart := false }
def PackCutSaid : Prop := packCutRow.holds Try.pinned (OpenSpec.ofChange packCutSpec)

/-- ITS FALSE NEIGHBOUR: 'it returns false'. Refute it at one input. -/
def packCutWrong : ChangeSpec := { name := "packCut", fn := fun _ => fun
  | [d1, d2, d3] => { results := [.lit (.bool false)], args := [d1, d2, d3] }
  | _ => none }
def PackCutWrongFalsely : Prop := packCutRow.holds Try.pinned (OpenSpec.ofChange packCutWrong)

/-- 'cardgamelaw27.PackLong': WHATEVER THE INPUT: true; the input reads as it did. -/
def packLongSpec : ChangeSpec := { name := "packLong", fn := fun _ => fun
  | [d1, d2] => { results := [.lit (.bool true)], args := [d1, d2] }
  | _ => none }
def packLongRow : OpenClaim := { program := "ytbcpdjhpceimlaa", sum := "73172b6127a6dfa972497afab369929641c70606e4ef5fba9f76e5f93f7a5e94", func := "cardgame/cardgamelaw27.PackLong", spec := "packLong", unfollowed := true, recurses := true, apart := false }
def PackLongSaid : Prop := packLongRow.holds Try.pinned (OpenSpec.ofChange packLongSpec)

/-- ITS FALSE NEIGHBOUR: 'it returns false'. Refute it at one input. -/
def packLongWrong : ChangeSpec := { name := "packLong", fn := fun _ => fun
  | [d1, d2] => { results := [.lit (.bool false)], args := [d1, d2] }
  | _ => none }
def PackLongWrongFalsely : Prop := packLongRow.holds Try.pinned (OpenSpec.ofChange packLongWrong)

/-- 'cardgamelaw04.OctetAgain': WHATEVER THE INPUT: true; the input reads as it did. -/
def octetAgainSpec : ChangeSpec := { name := "octetAgain", fn := fun _ => fun
  | [d] => { results := [.lit (.bool true)], args := [d] }
  | _ => none }
def octetAgainRow : OpenClaim := { program := "ytbcpdjhpceimlaa", sum := "73172b6127a6dfa972497afab369929641c70606e4ef5fba9f76e5f93f7a5e94", func := "cardgame/cardgamelaw04.OctetAgain", spec := "octetAgain", apart := false }
def OctetAgainSaid : Prop := octetAgainRow.holds Try.pinned (OpenSpec.ofChange octetAgainSpec)

/-- ITS FALSE NEIGHBOUR: 'it returns false'. Refute it at one input. -/
def octetAgainWrong : ChangeSpec := { name := "octetAgain", fn := fun _ => fun
  | [d] => { results := [.lit (.bool false)], args := [d] }
  | _ => none }
def OctetAgainWrongFalsely : Prop := octetAgainRow.holds Try.pinned (OpenSpec.ofChange octetAgainWrong)

/-- 'cardgamelaw04.OctetWrites': WHATEVER THE INPUT: true; the input reads as it did. -/
def octetWritesSpec : ChangeSpec := { name := "octetWrites", fn := fun _ => fun
  | [d1, d2, d3] => { results := [.lit (.bool true)], args := [d1, d2, d3] }
  | _ => none }
def octetWritesRow : OpenClaim := { program := "ytbcpdjhpceimlaa", sum := "73172b6127a6dfa972497afab369929641c70606e4ef5fba9f76e5f93f7a5e94", func := "cardgame/cardgamelaw04.OctetWrites", spec := "octetWrites", apart := false }
def OctetWritesSaid : Prop := octetWritesRow.holds Try.pinned (OpenSpec.ofChange octetWritesSpec)

/-- ITS FALSE NEIGHBOUR: 'it returns false'. Refute it at one input. -/
def octetWritesWrong : ChangeSpec := { name := "octetWrites", fn := fun _ => fun
  | [d1, d2, d3] => { results := [.lit (.bool false)], args := [d1, d2, d3] }
  | _ => none }
def OctetWritesWrongFalsely : Prop := octetWritesRow.holds Try.pinned (OpenSpec.ofChange octetWritesWrong)

/-- 'cardgamelaw04.OctetReads': WHATEVER THE INPUT: true; the input reads as it did. -/
def octetReadsSpec : ChangeSpec := { name := "octetReads", fn := fun _ => fun
  | [d1, d2] => { results := [.lit (.bool true)], args := [d1, d2] }
  | _ => none }
def octetReadsRow : OpenClaim := { program := "ytbcpdjhpceimlaa", sum := "73172b6127a6dfa972497afab369929641c70606e4ef5fba9f76e5f93f7a5e94", func := "cardgame/cardgamelaw04.OctetReads", spec := "octetReads", apart := false }
def OctetReadsSaid : Prop := octetReadsRow.holds Try.pinned (OpenSpec.ofChange octetReadsSpec)

/-- ITS FALSE NEIGHBOUR: 'it returns false'. Refute it at one input. -/
def octetReadsWrong : ChangeSpec := { name := "octetReads", fn := fun _ => fun
  | [d1, d2] => { results := [.lit (.bool false)], args := [d1, d2] }
  | _ => none }
def OctetReadsWrongFalsely : Prop := octetReadsRow.holds Try.pinned (OpenSpec.ofChange octetReadsWrong)

/-- 'cardgamelaw04.OctetStops': WHATEVER THE INPUT: true; the input reads as it did. -/
def octetStopsSpec : ChangeSpec := { name := "octetStops", fn := fun _ => fun
  | [d1, d2] => { results := [.lit (.bool true)], args := [d1, d2] }
  | _ => none }
def octetStopsRow : OpenClaim := { program := "ytbcpdjhpceimlaa", sum := "73172b6127a6dfa972497afab369929641c70606e4ef5fba9f76e5f93f7a5e94", func := "cardgame/cardgamelaw04.OctetStops", spec := "octetStops", apart := false }
def OctetStopsSaid : Prop := octetStopsRow.holds Try.pinned (OpenSpec.ofChange octetStopsSpec)

/-- ITS FALSE NEIGHBOUR: 'it returns false'. Refute it at one input. -/
def octetStopsWrong : ChangeSpec := { name := "octetStops", fn := fun _ => fun
  | [d1, d2] => { results := [.lit (.bool false)], args := [d1, d2] }
  | _ => none }
def OctetStopsWrongFalsely : Prop := octetStopsRow.holds Try.pinned (OpenSpec.ofChange octetStopsWrong)

/-- 'cardgamelaw04.OctetBack': WHATEVER THE INPUT: true; the input reads as it did. -/
def octetBackSpec : ChangeSpec := { name := "octetBack", fn := fun _ => fun
  | [d1, d2] => { results := [.lit (.bool true)], args := [d1, d2] }
  | _ => none }
def octetBackRow : OpenClaim := { program := "ytbcpdjhpceimlaa", sum := "73172b6127a6dfa972497afab369929641c70606e4ef5fba9f76e5f93f7a5e94", func := "cardgame/cardgamelaw04.OctetBack", spec := "octetBack", apart := false }
def OctetBackSaid : Prop := octetBackRow.holds Try.pinned (OpenSpec.ofChange octetBackSpec)

/-- ITS FALSE NEIGHBOUR: 'it returns false'. Refute it at one input. -/
def octetBackWrong : ChangeSpec := { name := "octetBack", fn := fun _ => fun
  | [d1, d2] => { results := [.lit (.bool false)], args := [d1, d2] }
  | _ => none }
def OctetBackWrongFalsely : Prop := octetBackRow.holds Try.pinned (OpenSpec.ofChange octetBackWrong)

/-- 'cardgamelaw27.PackEncode': WHATEVER THE INPUT: true; the input reads as it did. -/
def packEncodeSpec : ChangeSpec := { name := "packEncode", fn := fun _ => fun
  | [d] => { results := [.lit (.bool true)], args := [d] }
  | _ => none }
def packEncodeRow : OpenClaim := { program := "ytbcpdjhpceimlaa", sum := "73172b6127a6dfa972497afab369929641c70606e4ef5fba9f76e5f93f7a5e94", func := "cardgame/cardgamelaw27.PackEncode", spec := "packEncode", unfollowed := true, recurses := true, apart := false }
def PackEncodeSaid : Prop := packEncodeRow.holds Try.pinned (OpenSpec.ofChange packEncodeSpec)

/-- ITS FALSE NEIGHBOUR: 'it returns false'. Refute it at one input. -/
def packEncodeWrong : ChangeSpec := { name := "packEncode", fn := fun _ => fun
  | [d] => { results := [.lit (.bool false)], args := [d] }
  | _ => none }
def PackEncodeWrongFalsely : Prop := packEncodeRow.holds Try.pinned (OpenSpec.ofChange packEncodeWrong)

/-- 'cardgamelaw27.PackDecode': WHATEVER THE INPUT: true; the input reads as it did. -/
def packDecodeSpec : ChangeSpec := { name := "packDecode", fn := fun _ => fun
  | [d] => { results := [.lit (.bool true)], args := [d] }
  | _ => none }
def packDecodeRow : OpenClaim := { program := "ytbcpdjhpceimlaa", sum := "73172b6127a6dfa972497afab369929641c70606e4ef5fba9f76e5f93f7a5e94", func := "cardgame/cardgamelaw27.PackDecode", spec := "packDecode", unfollowed := true, recurses := true, apart := false }
def PackDecodeSaid : Prop := packDecodeRow.holds Try.pinned (OpenSpec.ofChange packDecodeSpec)

/-- ITS FALSE NEIGHBOUR: 'it returns false'. Refute it at one input. -/
def packDecodeWrong : ChangeSpec := { name := "packDecode", fn := fun _ => fun
  | [d] => { results := [.lit (.bool false)], args := [d] }
  | _ => none }
def PackDecodeWrongFalsely : Prop := packDecodeRow.holds Try.pinned (OpenSpec.ofChange packDecodeWrong)

/-- 'cardgamelaw27.PackBack': WHATEVER THE INPUT: true; the input reads as it did. -/
def packBackSpec : ChangeSpec := { name := "packBack", fn := fun _ => fun
  | [d] => { results := [.lit (.bool true)], args := [d] }
  | _ => none }
def packBackRow : OpenClaim := { program := "ytbcpdjhpceimlaa", sum := "73172b6127a6dfa972497afab369929641c70606e4ef5fba9f76e5f93f7a5e94", func := "cardgame/cardgamelaw27.PackBack", spec := "packBack", unfollowed := true, recurses := true, apart := false }
def PackBackSaid : Prop := packBackRow.holds Try.pinned (OpenSpec.ofChange packBackSpec)

/-- ITS FALSE NEIGHBOUR: 'it returns false'. Refute it at one input. -/
def packBackWrong : ChangeSpec := { name := "packBack", fn := fun _ => fun
  | [d] => { results := [.lit (.bool false)], args := [d] }
  | _ => none }
def PackBackWrongFalsely : Prop := packBackRow.holds Try.pinned (OpenSpec.ofChange packBackWrong)

/-- 'cardgamelaw27.PackCanonical': WHATEVER THE INPUT: true; the input reads as it did. -/
def packCanonicalSpec : ChangeSpec := { name := "packCanonical", fn := fun _ => fun
  | [d] => { results := [.lit (.bool true)], args := [d] }
  | _ => none }
def packCanonicalRow : OpenClaim := { program := "ytbcpdjhpceimlaa", sum := "73172b6127a6dfa972497afab369929641c70606e4ef5fba9f76e5f93f7a5e94", func := "cardgame/cardgamelaw27.PackCanonical", spec := "packCanonical", unfollowed := true, recurses := true, apart := false }
def PackCanonicalSaid : Prop := packCanonicalRow.holds Try.pinned (OpenSpec.ofChange packCanonicalSpec)

/-- ITS FALSE NEIGHBOUR: 'it returns false'. Refute it at one input. -/
def packCanonicalWrong : ChangeSpec := { name := "packCanonical", fn := fun _ => fun
  | [d] => { results := [.lit (.bool false)], args := [d] }
  | _ => none }
def PackCanonicalWrongFalsely : Prop := packCanonicalRow.holds Try.pinned (OpenSpec.ofChange packCanonicalWrong)

/- THE SECOND FORM. 'bulk': how many values and letters a reading holds, each counted each time it is reached (what is shared counts as often as it is met; a slice's spare places count too). A statement '..UptoSaid' is the law's where the arguments, and the package variables that the reading takes, are together of bulk at most 1048576: NARROWER than '..Said'. Prove '..Said' where nothing that the law and all that it calls make is longer than what came in: it says more and counts as full. Else prove '..UptoSaid'. A law counts once. -/
mutual
def uptoBulk {H : Type} : DataW H → Nat
  | .lit (.string bytes) => bytes.length + 1
  | .lit _ => 1
  | .nil => 1
  | .ptr d => uptoBulk d + 1
  | .slice elems spare => uptoBulkAll elems + uptoBulkAll spare + 1
  | .agg parts => uptoBulkAll parts + 1
  | .iface _ d => uptoBulk d + 1
  | .map entries => uptoBulkEntries entries + 1
  | .held _ => 1
def uptoBulkAll {H : Type} : List (DataW H) → Nat
  | [] => 0
  | d :: r => uptoBulk d + uptoBulkAll r
def uptoBulkEntries {H : Type} : List (Lit × DataW H) → Nat
  | [] => 0
  | x :: r => uptoBulkEntry x + uptoBulkEntries r
def uptoBulkEntry {H : Type} : Lit × DataW H → Nat
  | (.string bytes, d) => bytes.length + uptoBulk d + 1
  | (_, d) => uptoBulk d + 1
 end
def uptoSmall : (H : Type) → List (DataW H) → Bool := fun _ ds => decide (uptoBulkAll ds ≤ 1048576)
def OpenSpec.upto (s : _root_.Go.ChangeSpec) : _root_.Go.OpenSpec := { _root_.Go.OpenSpec.ofChange s with cond := some uptoSmall }

/-- 'cardgamelaw27.PackCut', WHERE WHAT IT READS IS OF BULK AT MOST 1048576: true; the input reads as it did. -/
def packCutUptoRow : OpenClaim := { program := "ytbcpdjhpceimlaa", sum := "73172b6127a6dfa972497afab369929641c70606e4ef5fba9f76e5f93f7a5e94", func := "cardgame/cardgamelaw27.PackCut", spec := "packCut", unfollowed := true, recurses := true, apart := false, narrowed := true }
def PackCutUptoSaid : Prop := packCutUptoRow.holds Try.pinned (OpenSpec.upto packCutSpec)

/-- 'cardgamelaw27.PackLong', WHERE WHAT IT READS IS OF BULK AT MOST 1048576: true; the input reads as it did. -/
def packLongUptoRow : OpenClaim := { program := "ytbcpdjhpceimlaa", sum := "73172b6127a6dfa972497afab369929641c70606e4ef5fba9f76e5f93f7a5e94", func := "cardgame/cardgamelaw27.PackLong", spec := "packLong", unfollowed := true, recurses := true, apart := false, narrowed := true }
def PackLongUptoSaid : Prop := packLongUptoRow.holds Try.pinned (OpenSpec.upto packLongSpec)

/-- 'cardgamelaw04.OctetAgain', WHERE WHAT IT READS IS OF BULK AT MOST 1048576: true; the input reads as it did. -/
def octetAgainUptoRow : OpenClaim := { program := "ytbcpdjhpceimlaa", sum := "73172b6127a6dfa972497afab369929641c70606e4ef5fba9f76e5f93f7a5e94", func := "cardgame/cardgamelaw04.OctetAgain", spec := "octetAgain", apart := false, narrowed := true }
def OctetAgainUptoSaid : Prop := octetAgainUptoRow.holds Try.pinned (OpenSpec.upto octetAgainSpec)

/-- 'cardgamelaw04.OctetWrites', WHERE WHAT IT READS IS OF BULK AT MOST 1048576: true; the input reads as it did. -/
def octetWritesUptoRow : OpenClaim := { program := "ytbcpdjhpceimlaa", sum := "73172b6127a6dfa972497afab369929641c70606e4ef5fba9f76e5f93f7a5e94", func := "cardgame/cardgamelaw04.OctetWrites", spec := "octetWrites", apart := false, narrowed := true }
def OctetWritesUptoSaid : Prop := octetWritesUptoRow.holds Try.pinned (OpenSpec.upto octetWritesSpec)

/-- 'cardgamelaw04.OctetReads', WHERE WHAT IT READS IS OF BULK AT MOST 1048576: true; the input reads as it did. -/
def octetReadsUptoRow : OpenClaim := { program := "ytbcpdjhpceimlaa", sum := "73172b6127a6dfa972497afab369929641c70606e4ef5fba9f76e5f93f7a5e94", func := "cardgame/cardgamelaw04.OctetReads", spec := "octetReads", apart := false, narrowed := true }
def OctetReadsUptoSaid : Prop := octetReadsUptoRow.holds Try.pinned (OpenSpec.upto octetReadsSpec)

/-- 'cardgamelaw04.OctetStops', WHERE WHAT IT READS IS OF BULK AT MOST 1048576: true; the input reads as it did. -/
def octetStopsUptoRow : OpenClaim := { program := "ytbcpdjhpceimlaa", sum := "73172b6127a6dfa972497afab369929641c70606e4ef5fba9f76e5f93f7a5e94", func := "cardgame/cardgamelaw04.OctetStops", spec := "octetStops", apart := false, narrowed := true }
def OctetStopsUptoSaid : Prop := octetStopsUptoRow.holds Try.pinned (OpenSpec.upto octetStopsSpec)

/-- 'cardgamelaw04.OctetBack', WHERE WHAT IT READS IS OF BULK AT MOST 1048576: true; the input reads as it did. -/
def octetBackUptoRow : OpenClaim := { program := "ytbcpdjhpceimlaa", sum := "73172b6127a6dfa972497afab369929641c70606e4ef5fba9f76e5f93f7a5e94", func := "cardgame/cardgamelaw04.OctetBack", spec := "octetBack", apart := false, narrowed := true }
def OctetBackUptoSaid : Prop := octetBackUptoRow.holds Try.pinned (OpenSpec.upto octetBackSpec)

/-- 'cardgamelaw27.PackEncode', WHERE WHAT IT READS IS OF BULK AT MOST 1048576: true; the input reads as it did. -/
def packEncodeUptoRow : OpenClaim := { program := "ytbcpdjhpceimlaa", sum := "73172b6127a6dfa972497afab369929641c70606e4ef5fba9f76e5f93f7a5e94", func := "cardgame/cardgamelaw27.PackEncode", spec := "packEncode", unfollowed := true, recurses := true, apart := false, narrowed := true }
def PackEncodeUptoSaid : Prop := packEncodeUptoRow.holds Try.pinned (OpenSpec.upto packEncodeSpec)

/-- 'cardgamelaw27.PackDecode', WHERE WHAT IT READS IS OF BULK AT MOST 1048576: true; the input reads as it did. -/
def packDecodeUptoRow : OpenClaim := { program := "ytbcpdjhpceimlaa", sum := "73172b6127a6dfa972497afab369929641c70606e4ef5fba9f76e5f93f7a5e94", func := "cardgame/cardgamelaw27.PackDecode", spec := "packDecode", unfollowed := true, recurses := true, apart := false, narrowed := true }
def PackDecodeUptoSaid : Prop := packDecodeUptoRow.holds Try.pinned (OpenSpec.upto packDecodeSpec)

/-- 'cardgamelaw27.PackBack', WHERE WHAT IT READS IS OF BULK AT MOST 1048576: true; the input reads as it did. -/
def packBackUptoRow : OpenClaim := { program := "ytbcpdjhpceimlaa", sum := "73172b6127a6dfa972497afab369929641c70606e4ef5fba9f76e5f93f7a5e94", func := "cardgame/cardgamelaw27.PackBack", spec := "packBack", unfollowed := true, recurses := true, apart := false, narrowed := true }
def PackBackUptoSaid : Prop := packBackUptoRow.holds Try.pinned (OpenSpec.upto packBackSpec)

/-- 'cardgamelaw27.PackCanonical', WHERE WHAT IT READS IS OF BULK AT MOST 1048576: true; the input reads as it did. -/
def packCanonicalUptoRow : OpenClaim := { program := "ytbcpdjhpceimlaa", sum := "73172b6127a6dfa972497afab369929641c70606e4ef5fba9f76e5f93f7a5e94", func := "cardgame/cardgamelaw27.PackCanonical", spec := "packCanonical", unfollowed := true, recurses := true, apart := false, narrowed := true }
def PackCanonicalUptoSaid : Prop := packCanonicalUptoRow.holds Try.pinned (OpenSpec.upto packCanonicalSpec)

end Rows
end Go.Proofs.Ytbcpdjhpceimlaa
