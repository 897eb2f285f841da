/-
  No cell of these rows narrows 'for every input' (looked for: loops, veiled, ifaces, maps, wideKeys, modest, calm, conditions, laid).
  DERIVED. THE GIVEN ROWS OF THIS SEAT. 5 by the template 'for every input the law returns true; each argument reads behind the call as it read before'; 0 by the template 'total and deterministic' (their statements: YtclhahmnllegpaaTotals.lean).
  GIVEN WITH THE SEED: the statements are not yours to turn. If you find one false, say at which input.
  Laid BY PROGRAM, IN A SANDBOX (cutbox-rows.mjs): the forced cells as the released guide's own fill.sh prints them over the translation 689980830f513417… (all of the seat's roots in one cut). By AI agents, Wed Nov 11 2026. No macro, syntax, notation, axiom, sorry.
-/
import Derived.Test.YtclhahmnllegpaaChecked
import GoSem.Claim
import GoSem.ClaimJoined
import GoSem.ClaimMapViews
import Derived.JoinedTies
import Derived.KernelRfl
namespace Go.Proofs.Ytclhahmnllegpaa
/- THE CELL 'sum', in the pinned program and in every row, IS THE sha256 OF THE DUMP (.gsa) THAT YtclhahmnllegpaaProg.lean LOADS. Nothing in Lean hashes anything: it is a label: what it is worth is what the hold of that sum in a sandbox is worth. -/
noncomputable def Try.pinned : Pinned := { name := "ytclhahmnllegpaa", sum := "689980830f51341727d66d29fc38b470eceb2423336917fadf61f4eb8d9dbeab", checked := Try.checked }
namespace Rows
def none {H : Type} : Left H := { results := [], args := [] }

/-- 'cardgamelaw55.SeriesCounts': WHATEVER THE INPUT: true; the input reads as it did. -/
def seriesCountsSpec : ChangeSpec := { name := "seriesCounts", fn := fun _ => fun
  | [d1, d2] => { results := [.lit (.bool true)], args := [d1, d2] }
  | _ => none }
def seriesCountsRow : OpenClaim := { program := "ytclhahmnllegpaa", sum := "689980830f51341727d66d29fc38b470eceb2423336917fadf61f4eb8d9dbeab", func := "cardgame/cardgamelaw55.SeriesCounts", spec := "seriesCounts", unfollowed := true, recurses := true, apart := false }
def SeriesCountsSaid : Prop := seriesCountsRow.holds Try.pinned (OpenSpec.ofChange seriesCountsSpec)

/-- ITS FALSE NEIGHBOUR: 'it returns false'. Refute it at one input. -/
def seriesCountsWrong : ChangeSpec := { name := "seriesCounts", fn := fun _ => fun
  | [d1, d2] => { results := [.lit (.bool false)], args := [d1, d2] }
  | _ => none }
def SeriesCountsWrongFalsely : Prop := seriesCountsRow.holds Try.pinned (OpenSpec.ofChange seriesCountsWrong)

/-- 'cardgamelaw55.SeriesDecides': WHATEVER THE INPUT: true; the input reads as it did. -/
def seriesDecidesSpec : ChangeSpec := { name := "seriesDecides", fn := fun _ => fun
  | [d1, d2] => { results := [.lit (.bool true)], args := [d1, d2] }
  | _ => none }
def seriesDecidesRow : OpenClaim := { program := "ytclhahmnllegpaa", sum := "689980830f51341727d66d29fc38b470eceb2423336917fadf61f4eb8d9dbeab", func := "cardgame/cardgamelaw55.SeriesDecides", spec := "seriesDecides", unfollowed := true, recurses := true, apart := false }
def SeriesDecidesSaid : Prop := seriesDecidesRow.holds Try.pinned (OpenSpec.ofChange seriesDecidesSpec)

/-- ITS FALSE NEIGHBOUR: 'it returns false'. Refute it at one input. -/
def seriesDecidesWrong : ChangeSpec := { name := "seriesDecides", fn := fun _ => fun
  | [d1, d2] => { results := [.lit (.bool false)], args := [d1, d2] }
  | _ => none }
def SeriesDecidesWrongFalsely : Prop := seriesDecidesRow.holds Try.pinned (OpenSpec.ofChange seriesDecidesWrong)

/-- 'cardgamelaw55.SeriesDecided': WHATEVER THE INPUT: true; the input reads as it did. -/
def seriesDecidedSpec : ChangeSpec := { name := "seriesDecided", fn := fun _ => fun
  | [d1, d2, d3] => { results := [.lit (.bool true)], args := [d1, d2, d3] }
  | _ => none }
def seriesDecidedRow : OpenClaim := { program := "ytclhahmnllegpaa", sum := "689980830f51341727d66d29fc38b470eceb2423336917fadf61f4eb8d9dbeab", func := "cardgame/cardgamelaw55.SeriesDecided", spec := "seriesDecided", unfollowed := true, recurses := true, apart := false }
def SeriesDecidedSaid : Prop := seriesDecidedRow.holds Try.pinned (OpenSpec.ofChange seriesDecidedSpec)

/-- ITS FALSE NEIGHBOUR: 'it returns false'. Refute it at one input. -/
def seriesDecidedWrong : ChangeSpec := { name := "seriesDecided", fn := fun _ => fun
  | [d1, d2, d3] => { results := [.lit (.bool false)], args := [d1, d2, d3] }
  | _ => none }
def SeriesDecidedWrongFalsely : Prop := seriesDecidedRow.holds Try.pinned (OpenSpec.ofChange seriesDecidedWrong)

/-- 'cardgamelaw55.SeriesSwaps': WHATEVER THE INPUT: true; the input reads as it did. -/
def seriesSwapsSpec : ChangeSpec := { name := "seriesSwaps", fn := fun _ => fun
  | [d1, d2] => { results := [.lit (.bool true)], args := [d1, d2] }
  | _ => none }
def seriesSwapsRow : OpenClaim := { program := "ytclhahmnllegpaa", sum := "689980830f51341727d66d29fc38b470eceb2423336917fadf61f4eb8d9dbeab", func := "cardgame/cardgamelaw55.SeriesSwaps", spec := "seriesSwaps", unfollowed := true, recurses := true, apart := false }
def SeriesSwapsSaid : Prop := seriesSwapsRow.holds Try.pinned (OpenSpec.ofChange seriesSwapsSpec)

/-- ITS FALSE NEIGHBOUR: 'it returns false'. Refute it at one input. -/
def seriesSwapsWrong : ChangeSpec := { name := "seriesSwaps", fn := fun _ => fun
  | [d1, d2] => { results := [.lit (.bool false)], args := [d1, d2] }
  | _ => none }
def SeriesSwapsWrongFalsely : Prop := seriesSwapsRow.holds Try.pinned (OpenSpec.ofChange seriesSwapsWrong)

/-- 'cardgamelaw55.SeriesDraws': WHATEVER THE INPUT: true; the input reads as it did. -/
def seriesDrawsSpec : ChangeSpec := { name := "seriesDraws", fn := fun _ => fun
  | [d1, d2, d3] => { results := [.lit (.bool true)], args := [d1, d2, d3] }
  | _ => none }
def seriesDrawsRow : OpenClaim := { program := "ytclhahmnllegpaa", sum := "689980830f51341727d66d29fc38b470eceb2423336917fadf61f4eb8d9dbeab", func := "cardgame/cardgamelaw55.SeriesDraws", spec := "seriesDraws", unfollowed := true, recurses := true, apart := false }
def SeriesDrawsSaid : Prop := seriesDrawsRow.holds Try.pinned (OpenSpec.ofChange seriesDrawsSpec)

/-- ITS FALSE NEIGHBOUR: 'it returns false'. Refute it at one input. -/
def seriesDrawsWrong : ChangeSpec := { name := "seriesDraws", fn := fun _ => fun
  | [d1, d2, d3] => { results := [.lit (.bool false)], args := [d1, d2, d3] }
  | _ => none }
def SeriesDrawsWrongFalsely : Prop := seriesDrawsRow.holds Try.pinned (OpenSpec.ofChange seriesDrawsWrong)

/- THE SECOND FORM. 'bulk': how many values and letters a reading holds, each counted each time it is reached (what is shared counts as often as it is met; a slice's spare places count too). A statement '..UptoSaid' is the law's where the arguments, and the package variables that the reading takes, are together of bulk at most 1048576: NARROWER than '..Said'. Prove '..Said' where nothing that the law and all that it calls make is longer than what came in: it says more and counts as full. Else prove '..UptoSaid'. A law counts once. -/
mutual
def uptoBulk {H : Type} : DataW H → Nat
  | .lit (.string bytes) => bytes.length + 1
  | .lit _ => 1
  | .nil => 1
  | .ptr d => uptoBulk d + 1
  | .slice elems spare => uptoBulkAll elems + uptoBulkAll spare + 1
  | .agg parts => uptoBulkAll parts + 1
  | .iface _ d => uptoBulk d + 1
  | .map entries => uptoBulkEntries entries + 1
  | .held _ => 1
def uptoBulkAll {H : Type} : List (DataW H) → Nat
  | [] => 0
  | d :: r => uptoBulk d + uptoBulkAll r
def uptoBulkEntries {H : Type} : List (Lit × DataW H) → Nat
  | [] => 0
  | x :: r => uptoBulkEntry x + uptoBulkEntries r
def uptoBulkEntry {H : Type} : Lit × DataW H → Nat
  | (.string bytes, d) => bytes.length + uptoBulk d + 1
  | (_, d) => uptoBulk d + 1
 end
def uptoSmall : (H : Type) → List (DataW H) → Bool := fun _ ds => decide (uptoBulkAll ds ≤ 1048576)
def OpenSpec.upto (s : _root_.Go.ChangeSpec) : _root_.Go.OpenSpec := { _root_.Go.OpenSpec.ofChange s with cond := some uptoSmall }

/-- 'cardgamelaw55.SeriesCounts', WHERE WHAT IT READS IS OF BULK AT MOST 1048576: true; the input reads as it did. -/
def seriesCountsUptoRow : OpenClaim := { program := "ytclhahmnllegpaa", sum := "689980830f51341727d66d29fc38b470eceb2423336917fadf61f4eb8d9dbeab", func := "cardgame/cardgamelaw55.SeriesCounts", spec := "seriesCounts", unfollowed := true, recurses := true, apart := false, narrowed := true }
def SeriesCountsUptoSaid : Prop := seriesCountsUptoRow.holds Try.pinned (OpenSpec.upto seriesCountsSpec)

/-- 'cardgamelaw55.SeriesDecides', WHERE WHAT IT READS IS OF BULK AT MOST 1048576: true; the input reads as it did. -/
def seriesDecidesUptoRow : OpenClaim := { program := "ytclhahmnllegpaa", sum := "689980830f51341727d66d29fc38b470eceb2423336917fadf61f4eb8d9dbeab", func := "cardgame/cardgamelaw55.SeriesDecides", spec := "seriesDecides", unfollowed := true, recurses := true, apart := false, narrowed := true }
def SeriesDecidesUptoSaid : Prop := seriesDecidesUptoRow.holds Try.pinned (OpenSpec.upto seriesDecidesSpec)

/-- 'cardgamelaw55.SeriesDecided', WHERE WHAT IT READS IS OF BULK AT MOST 1048576: true; the input reads as it did. -/
def seriesDecidedUptoRow : OpenClaim := { program := "ytclhahmnllegpaa", sum := "689980830f51341727d66d29fc38b470eceb2423336917fadf61f4eb8d9dbeab", func := "cardgame/cardgamelaw55.SeriesDecided", spec := "seriesDecided", unfollowed := true, recurses := true, apart := false, narrowed := true }
def SeriesDecidedUptoSaid : Prop := seriesDecidedUptoRow.holds Try.pinned (OpenSpec.upto seriesDecidedSpec)

/-- 'cardgamelaw55.SeriesSwaps', WHERE WHAT IT READS IS OF BULK AT MOST 1048576: true; the input reads as it did. -/
def seriesSwapsUptoRow : OpenClaim := { program := "ytclhahmnllegpaa", sum := "689980830f51341727d66d29fc38b470eceb2423336917fadf61f4eb8d9dbeab", func := "cardgame/cardgamelaw55.SeriesSwaps", spec := "seriesSwaps", unfollowed := true, recurses := true, apart := false, narrowed := true }
def SeriesSwapsUptoSaid : Prop := seriesSwapsUptoRow.holds Try.pinned (OpenSpec.upto seriesSwapsSpec)

/-- 'cardgamelaw55.SeriesDraws', WHERE WHAT IT READS IS OF BULK AT MOST 1048576: true; the input reads as it did. -/
def seriesDrawsUptoRow : OpenClaim := { program := "ytclhahmnllegpaa", sum := "689980830f51341727d66d29fc38b470eceb2423336917fadf61f4eb8d9dbeab", func := "cardgame/cardgamelaw55.SeriesDraws", spec := "seriesDraws", unfollowed := true, recurses := true, apart := false, narrowed := true }
def SeriesDrawsUptoSaid : Prop := seriesDrawsUptoRow.holds Try.pinned (OpenSpec.upto seriesDrawsSpec)

end Rows
end Go.Proofs.Ytclhahmnllegpaa
