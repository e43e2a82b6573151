/-
  No cell of these rows narrows 'for every input' (looked for: loops, veiled, ifaces, maps, wideKeys, modest, calm, conditions, laid).
  DERIVED. THE GIVEN ROWS OF THIS SEAT. 12 by the template 'for every input the law returns true; each argument reads behind the call as it read before'; 0 by the template 'total and deterministic' (their statements: YtefalfalapnllaaTotals.lean).
  GIVEN WITH THE SEED: the statements are not yours to turn. If you find one false, say at which input.
  Laid BY PROGRAM, IN A SANDBOX (cutbox-rows.mjs): the forced cells as the released guide's own fill.sh prints them over the translation 19d23d77089ac634… (all of the seat's roots in one cut). By AI agents, Wed Nov 11 2026. No macro, syntax, notation, axiom, sorry.
-/
import Derived.Test.YtefalfalapnllaaChecked
import GoSem.Claim
import GoSem.ClaimJoined
import GoSem.ClaimMapViews
import Derived.JoinedTies
import Derived.KernelRfl
namespace Go.Proofs.Ytefalfalapnllaa
/- THE CELL 'sum', in the pinned program and in every row, IS THE sha256 OF THE DUMP (.gsa) THAT YtefalfalapnllaaProg.lean LOADS. Nothing in Lean hashes anything: it is a label: what it is worth is what the hold of that sum in a sandbox is worth. -/
noncomputable def Try.pinned : Pinned := { name := "ytefalfalapnllaa", sum := "19d23d77089ac634c61fbe6a9056c15d3658ca52697ff64fa2c3be6d1d7a62ab", checked := Try.checked }
namespace Rows
def none {H : Type} : Left H := { results := [], args := [] }

/-- 'scrivenerlaw09.SlabSure': WHATEVER THE INPUT: true; the input reads as it did. -/
def slabSureSpec : ChangeSpec := { name := "slabSure", fn := fun _ => fun
  | [d1, d2, d3] => { results := [.lit (.bool true)], args := [d1, d2, d3] }
  | _ => none }
def slabSureRow : OpenClaim := { program := "ytefalfalapnllaa", sum := "19d23d77089ac634c61fbe6a9056c15d3658ca52697ff64fa2c3be6d1d7a62ab", func := "scrivener/scrivenerlaw09.SlabSure", spec := "slabSure", apart := false }
def SlabSureSaid : Prop := slabSureRow.holds Try.pinned (OpenSpec.ofChange slabSureSpec)

/-- ITS FALSE NEIGHBOUR: 'it returns false'. Refute it at one input. -/
def slabSureWrong : ChangeSpec := { name := "slabSure", fn := fun _ => fun
  | [d1, d2, d3] => { results := [.lit (.bool false)], args := [d1, d2, d3] }
  | _ => none }
def SlabSureWrongFalsely : Prop := slabSureRow.holds Try.pinned (OpenSpec.ofChange slabSureWrong)

/-- 'scrivenerlaw09.SlabOwn': WHATEVER THE INPUT: true; the input reads as it did. -/
def slabOwnSpec : ChangeSpec := { name := "slabOwn", fn := fun _ => fun
  | [d] => { results := [.lit (.bool true)], args := [d] }
  | _ => none }
def slabOwnRow : OpenClaim := { program := "ytefalfalapnllaa", sum := "19d23d77089ac634c61fbe6a9056c15d3658ca52697ff64fa2c3be6d1d7a62ab", func := "scrivener/scrivenerlaw09.SlabOwn", spec := "slabOwn", apart := false }
def SlabOwnSaid : Prop := slabOwnRow.holds Try.pinned (OpenSpec.ofChange slabOwnSpec)

/-- ITS FALSE NEIGHBOUR: 'it returns false'. Refute it at one input. -/
def slabOwnWrong : ChangeSpec := { name := "slabOwn", fn := fun _ => fun
  | [d] => { results := [.lit (.bool false)], args := [d] }
  | _ => none }
def SlabOwnWrongFalsely : Prop := slabOwnRow.holds Try.pinned (OpenSpec.ofChange slabOwnWrong)

/-- 'scrivenerlaw09.SlabSteps': WHATEVER THE INPUT: true; the input reads as it did. -/
def slabStepsSpec : ChangeSpec := { name := "slabSteps", fn := fun _ => fun
  | [d1, d2, d3] => { results := [.lit (.bool true)], args := [d1, d2, d3] }
  | _ => none }
def slabStepsRow : OpenClaim := { program := "ytefalfalapnllaa", sum := "19d23d77089ac634c61fbe6a9056c15d3658ca52697ff64fa2c3be6d1d7a62ab", func := "scrivener/scrivenerlaw09.SlabSteps", spec := "slabSteps", apart := false }
def SlabStepsSaid : Prop := slabStepsRow.holds Try.pinned (OpenSpec.ofChange slabStepsSpec)

/-- ITS FALSE NEIGHBOUR: 'it returns false'. Refute it at one input. -/
def slabStepsWrong : ChangeSpec := { name := "slabSteps", fn := fun _ => fun
  | [d1, d2, d3] => { results := [.lit (.bool false)], args := [d1, d2, d3] }
  | _ => none }
def SlabStepsWrongFalsely : Prop := slabStepsRow.holds Try.pinned (OpenSpec.ofChange slabStepsWrong)

/-- 'scrivenerlaw09.SlabCuts': WHATEVER THE INPUT: true; the input reads as it did. -/
def slabCutsSpec : ChangeSpec := { name := "slabCuts", fn := fun _ => fun
  | [d1, d2, d3] => { results := [.lit (.bool true)], args := [d1, d2, d3] }
  | _ => none }
def slabCutsRow : OpenClaim := { program := "ytefalfalapnllaa", sum := "19d23d77089ac634c61fbe6a9056c15d3658ca52697ff64fa2c3be6d1d7a62ab", func := "scrivener/scrivenerlaw09.SlabCuts", spec := "slabCuts", apart := false }
def SlabCutsSaid : Prop := slabCutsRow.holds Try.pinned (OpenSpec.ofChange slabCutsSpec)

/-- ITS FALSE NEIGHBOUR: 'it returns false'. Refute it at one input. -/
def slabCutsWrong : ChangeSpec := { name := "slabCuts", fn := fun _ => fun
  | [d1, d2, d3] => { results := [.lit (.bool false)], args := [d1, d2, d3] }
  | _ => none }
def SlabCutsWrongFalsely : Prop := slabCutsRow.holds Try.pinned (OpenSpec.ofChange slabCutsWrong)

/-- 'scrivenerlaw09.SlabPlays': WHATEVER THE INPUT: true; the input reads as it did. -/
def slabPlaysSpec : ChangeSpec := { name := "slabPlays", fn := fun _ => fun
  | [d1, d2] => { results := [.lit (.bool true)], args := [d1, d2] }
  | _ => none }
def slabPlaysRow : OpenClaim := { program := "ytefalfalapnllaa", sum := "19d23d77089ac634c61fbe6a9056c15d3658ca52697ff64fa2c3be6d1d7a62ab", func := "scrivener/scrivenerlaw09.SlabPlays", spec := "slabPlays", apart := false }
def SlabPlaysSaid : Prop := slabPlaysRow.holds Try.pinned (OpenSpec.ofChange slabPlaysSpec)

/-- ITS FALSE NEIGHBOUR: 'it returns false'. Refute it at one input. -/
def slabPlaysWrong : ChangeSpec := { name := "slabPlays", fn := fun _ => fun
  | [d1, d2] => { results := [.lit (.bool false)], args := [d1, d2] }
  | _ => none }
def SlabPlaysWrongFalsely : Prop := slabPlaysRow.holds Try.pinned (OpenSpec.ofChange slabPlaysWrong)

/-- 'scrivenertop.WholeFiled': WHATEVER THE INPUT: true; the input reads as it did. -/
def wholeFiledSpec : ChangeSpec := { name := "wholeFiled", fn := fun _ => fun
  | [d1, d2] => { results := [.lit (.bool true)], args := [d1, d2] }
  | _ => none }
def wholeFiledRow : OpenClaim := { program := "ytefalfalapnllaa", sum := "19d23d77089ac634c61fbe6a9056c15d3658ca52697ff64fa2c3be6d1d7a62ab", func := "scrivener/scrivenertop.WholeFiled", spec := "wholeFiled", unfollowed := true, recurses := true, apart := false }
def WholeFiledSaid : Prop := wholeFiledRow.holds Try.pinned (OpenSpec.ofChange wholeFiledSpec)

/-- ITS FALSE NEIGHBOUR: 'it returns false'. Refute it at one input. -/
def wholeFiledWrong : ChangeSpec := { name := "wholeFiled", fn := fun _ => fun
  | [d1, d2] => { results := [.lit (.bool false)], args := [d1, d2] }
  | _ => none }
def WholeFiledWrongFalsely : Prop := wholeFiledRow.holds Try.pinned (OpenSpec.ofChange wholeFiledWrong)

/-- 'scrivenerlaw10.JournalAgain': WHATEVER THE INPUT: true; the input reads as it did. -/
def journalAgainSpec : ChangeSpec := { name := "journalAgain", fn := fun _ => fun
  | [d1, d2] => { results := [.lit (.bool true)], args := [d1, d2] }
  | _ => none }
def journalAgainRow : OpenClaim := { program := "ytefalfalapnllaa", sum := "19d23d77089ac634c61fbe6a9056c15d3658ca52697ff64fa2c3be6d1d7a62ab", func := "scrivener/scrivenerlaw10.JournalAgain", spec := "journalAgain", unfollowed := true, recurses := true, apart := false }
def JournalAgainSaid : Prop := journalAgainRow.holds Try.pinned (OpenSpec.ofChange journalAgainSpec)

/-- ITS FALSE NEIGHBOUR: 'it returns false'. Refute it at one input. -/
def journalAgainWrong : ChangeSpec := { name := "journalAgain", fn := fun _ => fun
  | [d1, d2] => { results := [.lit (.bool false)], args := [d1, d2] }
  | _ => none }
def JournalAgainWrongFalsely : Prop := journalAgainRow.holds Try.pinned (OpenSpec.ofChange journalAgainWrong)

/-- 'scrivenerlaw10.JournalOwn': WHATEVER THE INPUT: true; the input reads as it did. -/
def journalOwnSpec : ChangeSpec := { name := "journalOwn", fn := fun _ => fun
  | [d] => { results := [.lit (.bool true)], args := [d] }
  | _ => none }
def journalOwnRow : OpenClaim := { program := "ytefalfalapnllaa", sum := "19d23d77089ac634c61fbe6a9056c15d3658ca52697ff64fa2c3be6d1d7a62ab", func := "scrivener/scrivenerlaw10.JournalOwn", spec := "journalOwn", unfollowed := true, recurses := true, apart := false }
def JournalOwnSaid : Prop := journalOwnRow.holds Try.pinned (OpenSpec.ofChange journalOwnSpec)

/-- ITS FALSE NEIGHBOUR: 'it returns false'. Refute it at one input. -/
def journalOwnWrong : ChangeSpec := { name := "journalOwn", fn := fun _ => fun
  | [d] => { results := [.lit (.bool false)], args := [d] }
  | _ => none }
def JournalOwnWrongFalsely : Prop := journalOwnRow.holds Try.pinned (OpenSpec.ofChange journalOwnWrong)

/-- 'scrivenerlaw10.JournalBound': WHATEVER THE INPUT: true; the input reads as it did. -/
def journalBoundSpec : ChangeSpec := { name := "journalBound", fn := fun _ => fun
  | [d1, d2] => { results := [.lit (.bool true)], args := [d1, d2] }
  | _ => none }
def journalBoundRow : OpenClaim := { program := "ytefalfalapnllaa", sum := "19d23d77089ac634c61fbe6a9056c15d3658ca52697ff64fa2c3be6d1d7a62ab", func := "scrivener/scrivenerlaw10.JournalBound", spec := "journalBound", unfollowed := true, recurses := true, apart := false }
def JournalBoundSaid : Prop := journalBoundRow.holds Try.pinned (OpenSpec.ofChange journalBoundSpec)

/-- ITS FALSE NEIGHBOUR: 'it returns false'. Refute it at one input. -/
def journalBoundWrong : ChangeSpec := { name := "journalBound", fn := fun _ => fun
  | [d1, d2] => { results := [.lit (.bool false)], args := [d1, d2] }
  | _ => none }
def JournalBoundWrongFalsely : Prop := journalBoundRow.holds Try.pinned (OpenSpec.ofChange journalBoundWrong)

/-- 'scrivenerlaw10.JournalWhole': WHATEVER THE INPUT: true; the input reads as it did. -/
def journalWholeSpec : ChangeSpec := { name := "journalWhole", fn := fun _ => fun
  | [d1, d2, d3] => { results := [.lit (.bool true)], args := [d1, d2, d3] }
  | _ => none }
def journalWholeRow : OpenClaim := { program := "ytefalfalapnllaa", sum := "19d23d77089ac634c61fbe6a9056c15d3658ca52697ff64fa2c3be6d1d7a62ab", func := "scrivener/scrivenerlaw10.JournalWhole", spec := "journalWhole", unfollowed := true, recurses := true, apart := false }
def JournalWholeSaid : Prop := journalWholeRow.holds Try.pinned (OpenSpec.ofChange journalWholeSpec)

/-- ITS FALSE NEIGHBOUR: 'it returns false'. Refute it at one input. -/
def journalWholeWrong : ChangeSpec := { name := "journalWhole", fn := fun _ => fun
  | [d1, d2, d3] => { results := [.lit (.bool false)], args := [d1, d2, d3] }
  | _ => none }
def JournalWholeWrongFalsely : Prop := journalWholeRow.holds Try.pinned (OpenSpec.ofChange journalWholeWrong)

/-- 'scrivenerlaw10.JournalSpoilt': WHATEVER THE INPUT: true; the input reads as it did. -/
def journalSpoiltSpec : ChangeSpec := { name := "journalSpoilt", fn := fun _ => fun
  | [d1, d2, d3] => { results := [.lit (.bool true)], args := [d1, d2, d3] }
  | _ => none }
def journalSpoiltRow : OpenClaim := { program := "ytefalfalapnllaa", sum := "19d23d77089ac634c61fbe6a9056c15d3658ca52697ff64fa2c3be6d1d7a62ab", func := "scrivener/scrivenerlaw10.JournalSpoilt", spec := "journalSpoilt", unfollowed := true, recurses := true, apart := false }
def JournalSpoiltSaid : Prop := journalSpoiltRow.holds Try.pinned (OpenSpec.ofChange journalSpoiltSpec)

/-- ITS FALSE NEIGHBOUR: 'it returns false'. Refute it at one input. -/
def journalSpoiltWrong : ChangeSpec := { name := "journalSpoilt", fn := fun _ => fun
  | [d1, d2, d3] => { results := [.lit (.bool false)], args := [d1, d2, d3] }
  | _ => none }
def JournalSpoiltWrongFalsely : Prop := journalSpoiltRow.holds Try.pinned (OpenSpec.ofChange journalSpoiltWrong)

/-- 'scrivenerlaw10.JournalPlays': WHATEVER THE INPUT: true; the input reads as it did. -/
def journalPlaysSpec : ChangeSpec := { name := "journalPlays", fn := fun _ => fun
  | [d1, d2] => { results := [.lit (.bool true)], args := [d1, d2] }
  | _ => none }
def journalPlaysRow : OpenClaim := { program := "ytefalfalapnllaa", sum := "19d23d77089ac634c61fbe6a9056c15d3658ca52697ff64fa2c3be6d1d7a62ab", func := "scrivener/scrivenerlaw10.JournalPlays", spec := "journalPlays", unfollowed := true, recurses := true, apart := false }
def JournalPlaysSaid : Prop := journalPlaysRow.holds Try.pinned (OpenSpec.ofChange journalPlaysSpec)

/-- ITS FALSE NEIGHBOUR: 'it returns false'. Refute it at one input. -/
def journalPlaysWrong : ChangeSpec := { name := "journalPlays", fn := fun _ => fun
  | [d1, d2] => { results := [.lit (.bool false)], args := [d1, d2] }
  | _ => none }
def JournalPlaysWrongFalsely : Prop := journalPlaysRow.holds Try.pinned (OpenSpec.ofChange journalPlaysWrong)

/- THE SECOND FORM. 'bulk': how many values and letters a reading holds, each counted each time it is reached (what is shared counts as often as it is met; a slice's spare places count too). A statement '..UptoSaid' is the law's where the arguments, and the package variables that the reading takes, are together of bulk at most 1048576: NARROWER than '..Said'. Prove '..Said' where nothing that the law and all that it calls make is longer than what came in: it says more and counts as full. Else prove '..UptoSaid'. A law counts once. -/
mutual
def uptoBulk {H : Type} : DataW H → Nat
  | .lit (.string bytes) => bytes.length + 1
  | .lit _ => 1
  | .nil => 1
  | .ptr d => uptoBulk d + 1
  | .slice elems spare => uptoBulkAll elems + uptoBulkAll spare + 1
  | .agg parts => uptoBulkAll parts + 1
  | .iface _ d => uptoBulk d + 1
  | .map entries => uptoBulkEntries entries + 1
  | .held _ => 1
def uptoBulkAll {H : Type} : List (DataW H) → Nat
  | [] => 0
  | d :: r => uptoBulk d + uptoBulkAll r
def uptoBulkEntries {H : Type} : List (Lit × DataW H) → Nat
  | [] => 0
  | x :: r => uptoBulkEntry x + uptoBulkEntries r
def uptoBulkEntry {H : Type} : Lit × DataW H → Nat
  | (.string bytes, d) => bytes.length + uptoBulk d + 1
  | (_, d) => uptoBulk d + 1
 end
def uptoSmall : (H : Type) → List (DataW H) → Bool := fun _ ds => decide (uptoBulkAll ds ≤ 1048576)
def OpenSpec.upto (s : _root_.Go.ChangeSpec) : _root_.Go.OpenSpec := { _root_.Go.OpenSpec.ofChange s with cond := some uptoSmall }

/-- 'scrivenerlaw09.SlabSure', WHERE WHAT IT READS IS OF BULK AT MOST 1048576: true; the input reads as it did. -/
def slabSureUptoRow : OpenClaim := { program := "ytefalfalapnllaa", sum := "19d23d77089ac634c61fbe6a9056c15d3658ca52697ff64fa2c3be6d1d7a62ab", func := "scrivener/scrivenerlaw09.SlabSure", spec := "slabSure", apart := false, narrowed := true }
def SlabSureUptoSaid : Prop := slabSureUptoRow.holds Try.pinned (OpenSpec.upto slabSureSpec)

/-- 'scrivenerlaw09.SlabOwn', WHERE WHAT IT READS IS OF BULK AT MOST 1048576: true; the input reads as it did. -/
def slabOwnUptoRow : OpenClaim := { program := "ytefalfalapnllaa", sum := "19d23d77089ac634c61fbe6a9056c15d3658ca52697ff64fa2c3be6d1d7a62ab", func := "scrivener/scrivenerlaw09.SlabOwn", spec := "slabOwn", apart := false, narrowed := true }
def SlabOwnUptoSaid : Prop := slabOwnUptoRow.holds Try.pinned (OpenSpec.upto slabOwnSpec)

/-- 'scrivenerlaw09.SlabSteps', WHERE WHAT IT READS IS OF BULK AT MOST 1048576: true; the input reads as it did. -/
def slabStepsUptoRow : OpenClaim := { program := "ytefalfalapnllaa", sum := "19d23d77089ac634c61fbe6a9056c15d3658ca52697ff64fa2c3be6d1d7a62ab", func := "scrivener/scrivenerlaw09.SlabSteps", spec := "slabSteps", apart := false, narrowed := true }
def SlabStepsUptoSaid : Prop := slabStepsUptoRow.holds Try.pinned (OpenSpec.upto slabStepsSpec)

/-- 'scrivenerlaw09.SlabCuts', WHERE WHAT IT READS IS OF BULK AT MOST 1048576: true; the input reads as it did. -/
def slabCutsUptoRow : OpenClaim := { program := "ytefalfalapnllaa", sum := "19d23d77089ac634c61fbe6a9056c15d3658ca52697ff64fa2c3be6d1d7a62ab", func := "scrivener/scrivenerlaw09.SlabCuts", spec := "slabCuts", apart := false, narrowed := true }
def SlabCutsUptoSaid : Prop := slabCutsUptoRow.holds Try.pinned (OpenSpec.upto slabCutsSpec)

/-- 'scrivenerlaw09.SlabPlays', WHERE WHAT IT READS IS OF BULK AT MOST 1048576: true; the input reads as it did. -/
def slabPlaysUptoRow : OpenClaim := { program := "ytefalfalapnllaa", sum := "19d23d77089ac634c61fbe6a9056c15d3658ca52697ff64fa2c3be6d1d7a62ab", func := "scrivener/scrivenerlaw09.SlabPlays", spec := "slabPlays", apart := false, narrowed := true }
def SlabPlaysUptoSaid : Prop := slabPlaysUptoRow.holds Try.pinned (OpenSpec.upto slabPlaysSpec)

/-- 'scrivenertop.WholeFiled', WHERE WHAT IT READS IS OF BULK AT MOST 1048576: true; the input reads as it did. -/
def wholeFiledUptoRow : OpenClaim := { program := "ytefalfalapnllaa", sum := "19d23d77089ac634c61fbe6a9056c15d3658ca52697ff64fa2c3be6d1d7a62ab", func := "scrivener/scrivenertop.WholeFiled", spec := "wholeFiled", unfollowed := true, recurses := true, apart := false, narrowed := true }
def WholeFiledUptoSaid : Prop := wholeFiledUptoRow.holds Try.pinned (OpenSpec.upto wholeFiledSpec)

/-- 'scrivenerlaw10.JournalAgain', WHERE WHAT IT READS IS OF BULK AT MOST 1048576: true; the input reads as it did. -/
def journalAgainUptoRow : OpenClaim := { program := "ytefalfalapnllaa", sum := "19d23d77089ac634c61fbe6a9056c15d3658ca52697ff64fa2c3be6d1d7a62ab", func := "scrivener/scrivenerlaw10.JournalAgain", spec := "journalAgain", unfollowed := true, recurses := true, apart := false, narrowed := true }
def JournalAgainUptoSaid : Prop := journalAgainUptoRow.holds Try.pinned (OpenSpec.upto journalAgainSpec)

/-- 'scrivenerlaw10.JournalOwn', WHERE WHAT IT READS IS OF BULK AT MOST 1048576: true; the input reads as it did. -/
def journalOwnUptoRow : OpenClaim := { program := "ytefalfalapnllaa", sum := "19d23d77089ac634c61fbe6a9056c15d3658ca52697ff64fa2c3be6d1d7a62ab", func := "scrivener/scrivenerlaw10.JournalOwn", spec := "journalOwn", unfollowed := true, recurses := true, apart := false, narrowed := true }
def JournalOwnUptoSaid : Prop := journalOwnUptoRow.holds Try.pinned (OpenSpec.upto journalOwnSpec)

/-- 'scrivenerlaw10.JournalBound', WHERE WHAT IT READS IS OF BULK AT MOST 1048576: true; the input reads as it did. -/
def journalBoundUptoRow : OpenClaim := { program := "ytefalfalapnllaa", sum := "19d23d77089ac634c61fbe6a9056c15d3658ca52697ff64fa2c3be6d1d7a62ab", func := "scrivener/scrivenerlaw10.JournalBound", spec := "journalBound", unfollowed := true, recurses := true, apart := false, narrowed := true }
def JournalBoundUptoSaid : Prop := journalBoundUptoRow.holds Try.pinned (OpenSpec.upto journalBoundSpec)

/-- 'scrivenerlaw10.JournalWhole', WHERE WHAT IT READS IS OF BULK AT MOST 1048576: true; the input reads as it did. -/
def journalWholeUptoRow : OpenClaim := { program := "ytefalfalapnllaa", sum := "19d23d77089ac634c61fbe6a9056c15d3658ca52697ff64fa2c3be6d1d7a62ab", func := "scrivener/scrivenerlaw10.JournalWhole", spec := "journalWhole", unfollowed := true, recurses := true, apart := false, narrowed := true }
def JournalWholeUptoSaid : Prop := journalWholeUptoRow.holds Try.pinned (OpenSpec.upto journalWholeSpec)

/-- 'scrivenerlaw10.JournalSpoilt', WHERE WHAT IT READS IS OF BULK AT MOST 1048576: true; the input reads as it did. -/
def journalSpoiltUptoRow : OpenClaim := { program := "ytefalfalapnllaa", sum := "19d23d77089ac634c61fbe6a9056c15d3658ca52697ff64fa2c3be6d1d7a62ab", func := "scrivener/scrivenerlaw10.JournalSpoilt", spec := "journalSpoilt", unfollowed := true, recurses := true, apart := false, narrowed := true }
def JournalSpoiltUptoSaid : Prop := journalSpoiltUptoRow.holds Try.pinned (OpenSpec.upto journalSpoiltSpec)

/-- 'scrivenerlaw10.JournalPlays', WHERE WHAT IT READS IS OF BULK AT MOST 1048576: true; the input reads as it did. -/
def journalPlaysUptoRow : OpenClaim := { program := "ytefalfalapnllaa", sum := "19d23d77089ac634c61fbe6a9056c15d3658ca52697ff64fa2c3be6d1d7a62ab", func := "scrivener/scrivenerlaw10.JournalPlays", spec := "journalPlays", unfollowed := true, recurses := true, apart := false, narrowed := true }
def JournalPlaysUptoSaid : Prop := journalPlaysUptoRow.holds Try.pinned (OpenSpec.upto journalPlaysSpec)

end Rows
end Go.Proofs.Ytefalfalapnllaa
