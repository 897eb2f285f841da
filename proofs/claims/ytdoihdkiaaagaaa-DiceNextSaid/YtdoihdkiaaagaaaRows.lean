/-
  No cell of these rows narrows 'for every input' (looked for: loops, veiled, ifaces, maps, wideKeys, modest, calm, conditions, laid).
  DERIVED. THE GIVEN ROWS OF THIS SEAT. 5 by the template 'for every input the law returns true; each argument reads behind the call as it read before'; 0 by the template 'total and deterministic' (their statements: YtdoihdkiaaagaaaTotals.lean).
  GIVEN WITH THE SEED: the statements are not yours to turn. If you find one false, say at which input.
  Laid BY PROGRAM, IN A SANDBOX (cutbox-rows.mjs): the forced cells as the released guide's own fill.sh prints them over the translation 52f7b340cf1b845b… (all of the seat's roots in one cut). By AI agents, Wed Nov 11 2026. No macro, syntax, notation, axiom, sorry.
-/
import Derived.Test.YtdoihdkiaaagaaaChecked
import GoSem.Claim
import GoSem.ClaimJoined
import GoSem.ClaimMapViews
import Derived.JoinedTies
import Derived.KernelRfl
namespace Go.Proofs.Ytdoihdkiaaagaaa
/- THE CELL 'sum', in the pinned program and in every row, IS THE sha256 OF THE DUMP (.gsa) THAT YtdoihdkiaaagaaaProg.lean LOADS. Nothing in Lean hashes anything: it is a label: what it is worth is what the hold of that sum in a sandbox is worth. -/
noncomputable def Try.pinned : Pinned := { name := "ytdoihdkiaaagaaa", sum := "52f7b340cf1b845bfb32c563be124327cab455fc95818043d63b0a91c063dd30", checked := Try.checked }
namespace Rows
def none {H : Type} : Left H := { results := [], args := [] }

/-- 'cardgamelaw06.DiceNext': WHATEVER THE INPUT: true; the input reads as it did. -/
def diceNextSpec : ChangeSpec := { name := "diceNext", fn := fun _ => fun
  | [d] => { results := [.lit (.bool true)], args := [d] }
  | _ => none }
def diceNextRow : OpenClaim := { program := "ytdoihdkiaaagaaa", sum := "52f7b340cf1b845bfb32c563be124327cab455fc95818043d63b0a91c063dd30", func := "cardgame/cardgamelaw06.DiceNext", spec := "diceNext", apart := false }
def DiceNextSaid : Prop := diceNextRow.holds Try.pinned (OpenSpec.ofChange diceNextSpec)

/-- ITS FALSE NEIGHBOUR: 'it returns false'. Refute it at one input. -/
def diceNextWrong : ChangeSpec := { name := "diceNext", fn := fun _ => fun
  | [d] => { results := [.lit (.bool false)], args := [d] }
  | _ => none }
def DiceNextWrongFalsely : Prop := diceNextRow.holds Try.pinned (OpenSpec.ofChange diceNextWrong)

/-- 'cardgamelaw06.DiceBelow': WHATEVER THE INPUT: true; the input reads as it did. -/
def diceBelowSpec : ChangeSpec := { name := "diceBelow", fn := fun _ => fun
  | [d1, d2] => { results := [.lit (.bool true)], args := [d1, d2] }
  | _ => none }
def diceBelowRow : OpenClaim := { program := "ytdoihdkiaaagaaa", sum := "52f7b340cf1b845bfb32c563be124327cab455fc95818043d63b0a91c063dd30", func := "cardgame/cardgamelaw06.DiceBelow", spec := "diceBelow", apart := false }
def DiceBelowSaid : Prop := diceBelowRow.holds Try.pinned (OpenSpec.ofChange diceBelowSpec)

/-- ITS FALSE NEIGHBOUR: 'it returns false'. Refute it at one input. -/
def diceBelowWrong : ChangeSpec := { name := "diceBelow", fn := fun _ => fun
  | [d1, d2] => { results := [.lit (.bool false)], args := [d1, d2] }
  | _ => none }
def DiceBelowWrongFalsely : Prop := diceBelowRow.holds Try.pinned (OpenSpec.ofChange diceBelowWrong)

/-- 'cardgamelaw06.DiceShuffle': WHATEVER THE INPUT: true; the input reads as it did. -/
def diceShuffleSpec : ChangeSpec := { name := "diceShuffle", fn := fun _ => fun
  | [d1, d2] => { results := [.lit (.bool true)], args := [d1, d2] }
  | _ => none }
def diceShuffleRow : OpenClaim := { program := "ytdoihdkiaaagaaa", sum := "52f7b340cf1b845bfb32c563be124327cab455fc95818043d63b0a91c063dd30", func := "cardgame/cardgamelaw06.DiceShuffle", spec := "diceShuffle", apart := false }
def DiceShuffleSaid : Prop := diceShuffleRow.holds Try.pinned (OpenSpec.ofChange diceShuffleSpec)

/-- ITS FALSE NEIGHBOUR: 'it returns false'. Refute it at one input. -/
def diceShuffleWrong : ChangeSpec := { name := "diceShuffle", fn := fun _ => fun
  | [d1, d2] => { results := [.lit (.bool false)], args := [d1, d2] }
  | _ => none }
def DiceShuffleWrongFalsely : Prop := diceShuffleRow.holds Try.pinned (OpenSpec.ofChange diceShuffleWrong)

/-- 'cardgamelaw06.DiceShuffles': WHATEVER THE INPUT: true; the input reads as it did. -/
def diceShufflesSpec : ChangeSpec := { name := "diceShuffles", fn := fun _ => fun
  | [d1, d2] => { results := [.lit (.bool true)], args := [d1, d2] }
  | _ => none }
def diceShufflesRow : OpenClaim := { program := "ytdoihdkiaaagaaa", sum := "52f7b340cf1b845bfb32c563be124327cab455fc95818043d63b0a91c063dd30", func := "cardgame/cardgamelaw06.DiceShuffles", spec := "diceShuffles", apart := false }
def DiceShufflesSaid : Prop := diceShufflesRow.holds Try.pinned (OpenSpec.ofChange diceShufflesSpec)

/-- ITS FALSE NEIGHBOUR: 'it returns false'. Refute it at one input. -/
def diceShufflesWrong : ChangeSpec := { name := "diceShuffles", fn := fun _ => fun
  | [d1, d2] => { results := [.lit (.bool false)], args := [d1, d2] }
  | _ => none }
def DiceShufflesWrongFalsely : Prop := diceShufflesRow.holds Try.pinned (OpenSpec.ofChange diceShufflesWrong)

/-- 'cardgamelaw06.DiceSequence': WHATEVER THE INPUT: true; the input reads as it did. -/
def diceSequenceSpec : ChangeSpec := { name := "diceSequence", fn := fun _ => fun
  | [d1, d2] => { results := [.lit (.bool true)], args := [d1, d2] }
  | _ => none }
def diceSequenceRow : OpenClaim := { program := "ytdoihdkiaaagaaa", sum := "52f7b340cf1b845bfb32c563be124327cab455fc95818043d63b0a91c063dd30", func := "cardgame/cardgamelaw06.DiceSequence", spec := "diceSequence", apart := false }
def DiceSequenceSaid : Prop := diceSequenceRow.holds Try.pinned (OpenSpec.ofChange diceSequenceSpec)

/-- ITS FALSE NEIGHBOUR: 'it returns false'. Refute it at one input. -/
def diceSequenceWrong : ChangeSpec := { name := "diceSequence", fn := fun _ => fun
  | [d1, d2] => { results := [.lit (.bool false)], args := [d1, d2] }
  | _ => none }
def DiceSequenceWrongFalsely : Prop := diceSequenceRow.holds Try.pinned (OpenSpec.ofChange diceSequenceWrong)

/- THE SECOND FORM. 'bulk': how many values and letters a reading holds, each counted each time it is reached (what is shared counts as often as it is met; a slice's spare places count too). A statement '..UptoSaid' is the law's where the arguments, and the package variables that the reading takes, are together of bulk at most 1048576: NARROWER than '..Said'. Prove '..Said' where nothing that the law and all that it calls make is longer than what came in: it says more and counts as full. Else prove '..UptoSaid'. A law counts once. -/
mutual
def uptoBulk {H : Type} : DataW H → Nat
  | .lit (.string bytes) => bytes.length + 1
  | .lit _ => 1
  | .nil => 1
  | .ptr d => uptoBulk d + 1
  | .slice elems spare => uptoBulkAll elems + uptoBulkAll spare + 1
  | .agg parts => uptoBulkAll parts + 1
  | .iface _ d => uptoBulk d + 1
  | .map entries => uptoBulkEntries entries + 1
  | .held _ => 1
def uptoBulkAll {H : Type} : List (DataW H) → Nat
  | [] => 0
  | d :: r => uptoBulk d + uptoBulkAll r
def uptoBulkEntries {H : Type} : List (Lit × DataW H) → Nat
  | [] => 0
  | x :: r => uptoBulkEntry x + uptoBulkEntries r
def uptoBulkEntry {H : Type} : Lit × DataW H → Nat
  | (.string bytes, d) => bytes.length + uptoBulk d + 1
  | (_, d) => uptoBulk d + 1
 end
def uptoSmall : (H : Type) → List (DataW H) → Bool := fun _ ds => decide (uptoBulkAll ds ≤ 1048576)
def OpenSpec.upto (s : _root_.Go.ChangeSpec) : _root_.Go.OpenSpec := { _root_.Go.OpenSpec.ofChange s with cond := some uptoSmall }

/-- 'cardgamelaw06.DiceNext', WHERE WHAT IT READS IS OF BULK AT MOST 1048576: true; the input reads as it did. -/
def diceNextUptoRow : OpenClaim := { program := "ytdoihdkiaaagaaa", sum := "52f7b340cf1b845bfb32c563be124327cab455fc95818043d63b0a91c063dd30", func := "cardgame/cardgamelaw06.DiceNext", spec := "diceNext", apart := false, narrowed := true }
def DiceNextUptoSaid : Prop := diceNextUptoRow.holds Try.pinned (OpenSpec.upto diceNextSpec)

/-- 'cardgamelaw06.DiceBelow', WHERE WHAT IT READS IS OF BULK AT MOST 1048576: true; the input reads as it did. -/
def diceBelowUptoRow : OpenClaim := { program := "ytdoihdkiaaagaaa", sum := "52f7b340cf1b845bfb32c563be124327cab455fc95818043d63b0a91c063dd30", func := "cardgame/cardgamelaw06.DiceBelow", spec := "diceBelow", apart := false, narrowed := true }
def DiceBelowUptoSaid : Prop := diceBelowUptoRow.holds Try.pinned (OpenSpec.upto diceBelowSpec)

/-- 'cardgamelaw06.DiceShuffle', WHERE WHAT IT READS IS OF BULK AT MOST 1048576: true; the input reads as it did. -/
def diceShuffleUptoRow : OpenClaim := { program := "ytdoihdkiaaagaaa", sum := "52f7b340cf1b845bfb32c563be124327cab455fc95818043d63b0a91c063dd30", func := "cardgame/cardgamelaw06.DiceShuffle", spec := "diceShuffle", apart := false, narrowed := true }
def DiceShuffleUptoSaid : Prop := diceShuffleUptoRow.holds Try.pinned (OpenSpec.upto diceShuffleSpec)

/-- 'cardgamelaw06.DiceShuffles', WHERE WHAT IT READS IS OF BULK AT MOST 1048576: true; the input reads as it did. -/
def diceShufflesUptoRow : OpenClaim := { program := "ytdoihdkiaaagaaa", sum := "52f7b340cf1b845bfb32c563be124327cab455fc95818043d63b0a91c063dd30", func := "cardgame/cardgamelaw06.DiceShuffles", spec := "diceShuffles", apart := false, narrowed := true }
def DiceShufflesUptoSaid : Prop := diceShufflesUptoRow.holds Try.pinned (OpenSpec.upto diceShufflesSpec)

/-- 'cardgamelaw06.DiceSequence', WHERE WHAT IT READS IS OF BULK AT MOST 1048576: true; the input reads as it did. -/
def diceSequenceUptoRow : OpenClaim := { program := "ytdoihdkiaaagaaa", sum := "52f7b340cf1b845bfb32c563be124327cab455fc95818043d63b0a91c063dd30", func := "cardgame/cardgamelaw06.DiceSequence", spec := "diceSequence", apart := false, narrowed := true }
def DiceSequenceUptoSaid : Prop := diceSequenceUptoRow.holds Try.pinned (OpenSpec.upto diceSequenceSpec)

end Rows
end Go.Proofs.Ytdoihdkiaaagaaa
