/-
  No cell of these rows narrows 'for every input' (looked for: loops, veiled, ifaces, maps, wideKeys, modest, calm, conditions, laid).
  DERIVED. THE GIVEN ROWS OF THIS SEAT. 11 by the template 'for every input the law returns true; each argument reads behind the call as it read before'; 0 by the template 'total and deterministic' (their statements: YtepmlmfacpbhkaaRTotals.lean).
  GIVEN WITH THE SEED: the statements are not yours to turn. If you find one false, say at which input.
  Laid BY PROGRAM, IN A SANDBOX (cutbox-rows.mjs): the forced cells as the released guide's own fill.sh prints them over the translation 6ba16662a7ab3e5d… (all of the seat's roots in one cut). By AI agents, Wed Nov 11 2026. No macro, syntax, notation, axiom, sorry.
-/
import Derived.Test.YtepmlmfacpbhkaaRChecked
import GoSem.Claim
import GoSem.ClaimJoined
import GoSem.ClaimMapViews
import Derived.JoinedTies
import Derived.KernelRfl
namespace Go.Proofs.YtepmlmfacpbhkaaR
/- THE CELL 'sum', in the pinned program and in every row, IS THE sha256 OF THE DUMP (.gsa) THAT YtepmlmfacpbhkaaRProg.lean LOADS. Nothing in Lean hashes anything: it is a label: what it is worth is what the hold of that sum in a sandbox is worth. -/
noncomputable def Try.pinned : Pinned := { name := "ytepmlmfacpbhkaar", sum := "6ba16662a7ab3e5d994413f202ad888bce3b34cf73141b2633de6e18ef8a4d82", checked := Try.checked }
namespace Rows
def none {H : Type} : Left H := { results := [], args := [] }

/-- 'scrivenerlaw13.CountOne': WHATEVER THE INPUT: true; the input reads as it did. -/
def countOneSpec : ChangeSpec := { name := "countOne", fn := fun _ => fun
  | [d1, d2, d3] => { results := [.lit (.bool true)], args := [d1, d2, d3] }
  | _ => none }
def countOneRow : OpenClaim := { program := "ytepmlmfacpbhkaar", sum := "6ba16662a7ab3e5d994413f202ad888bce3b34cf73141b2633de6e18ef8a4d82", func := "scrivener/scrivenerlaw13.CountOne", spec := "countOne", unfollowed := true, recurses := true, plainKeys := false, apart := false }
def CountOneSaid : Prop := countOneRow.holds Try.pinned (OpenSpec.ofChange countOneSpec)

/-- ITS FALSE NEIGHBOUR: 'it returns false'. Refute it at one input. -/
def countOneWrong : ChangeSpec := { name := "countOne", fn := fun _ => fun
  | [d1, d2, d3] => { results := [.lit (.bool false)], args := [d1, d2, d3] }
  | _ => none }
def CountOneWrongFalsely : Prop := countOneRow.holds Try.pinned (OpenSpec.ofChange countOneWrong)

/-- 'scrivenerlaw13.CountNeeds': WHATEVER THE INPUT: true; the input reads as it did. -/
def countNeedsSpec : ChangeSpec := { name := "countNeeds", fn := fun _ => fun
  | [d] => { results := [.lit (.bool true)], args := [d] }
  | _ => none }
def countNeedsRow : OpenClaim := { program := "ytepmlmfacpbhkaar", sum := "6ba16662a7ab3e5d994413f202ad888bce3b34cf73141b2633de6e18ef8a4d82", func := "scrivener/scrivenerlaw13.CountNeeds", spec := "countNeeds", unfollowed := true, recurses := true, plainKeys := false, apart := false }
def CountNeedsSaid : Prop := countNeedsRow.holds Try.pinned (OpenSpec.ofChange countNeedsSpec)

/-- ITS FALSE NEIGHBOUR: 'it returns false'. Refute it at one input. -/
def countNeedsWrong : ChangeSpec := { name := "countNeeds", fn := fun _ => fun
  | [d] => { results := [.lit (.bool false)], args := [d] }
  | _ => none }
def CountNeedsWrongFalsely : Prop := countNeedsRow.holds Try.pinned (OpenSpec.ofChange countNeedsWrong)

/-- 'scrivenerlaw13.CountOrder': WHATEVER THE INPUT: true; the input reads as it did. -/
def countOrderSpec : ChangeSpec := { name := "countOrder", fn := fun _ => fun
  | [d1, d2, d3] => { results := [.lit (.bool true)], args := [d1, d2, d3] }
  | _ => none }
def countOrderRow : OpenClaim := { program := "ytepmlmfacpbhkaar", sum := "6ba16662a7ab3e5d994413f202ad888bce3b34cf73141b2633de6e18ef8a4d82", func := "scrivener/scrivenerlaw13.CountOrder", spec := "countOrder", unfollowed := true, recurses := true, plainKeys := false, apart := false }
def CountOrderSaid : Prop := countOrderRow.holds Try.pinned (OpenSpec.ofChange countOrderSpec)

/-- ITS FALSE NEIGHBOUR: 'it returns false'. Refute it at one input. -/
def countOrderWrong : ChangeSpec := { name := "countOrder", fn := fun _ => fun
  | [d1, d2, d3] => { results := [.lit (.bool false)], args := [d1, d2, d3] }
  | _ => none }
def CountOrderWrongFalsely : Prop := countOrderRow.holds Try.pinned (OpenSpec.ofChange countOrderWrong)

/-- 'scrivenerlaw13.CountStays': WHATEVER THE INPUT: true; the input reads as it did. -/
def countStaysSpec : ChangeSpec := { name := "countStays", fn := fun _ => fun
  | [d1, d2] => { results := [.lit (.bool true)], args := [d1, d2] }
  | _ => none }
def countStaysRow : OpenClaim := { program := "ytepmlmfacpbhkaar", sum := "6ba16662a7ab3e5d994413f202ad888bce3b34cf73141b2633de6e18ef8a4d82", func := "scrivener/scrivenerlaw13.CountStays", spec := "countStays", unfollowed := true, recurses := true, plainKeys := false, apart := false }
def CountStaysSaid : Prop := countStaysRow.holds Try.pinned (OpenSpec.ofChange countStaysSpec)

/-- ITS FALSE NEIGHBOUR: 'it returns false'. Refute it at one input. -/
def countStaysWrong : ChangeSpec := { name := "countStays", fn := fun _ => fun
  | [d1, d2] => { results := [.lit (.bool false)], args := [d1, d2] }
  | _ => none }
def CountStaysWrongFalsely : Prop := countStaysRow.holds Try.pinned (OpenSpec.ofChange countStaysWrong)

/-- 'scrivenerlaw13.CountPlays': WHATEVER THE INPUT: true; the input reads as it did. -/
def countPlaysSpec : ChangeSpec := { name := "countPlays", fn := fun _ => fun
  | [d1, d2, d3] => { results := [.lit (.bool true)], args := [d1, d2, d3] }
  | _ => none }
def countPlaysRow : OpenClaim := { program := "ytepmlmfacpbhkaar", sum := "6ba16662a7ab3e5d994413f202ad888bce3b34cf73141b2633de6e18ef8a4d82", func := "scrivener/scrivenerlaw13.CountPlays", spec := "countPlays", unfollowed := true, recurses := true, plainKeys := false, apart := false }
def CountPlaysSaid : Prop := countPlaysRow.holds Try.pinned (OpenSpec.ofChange countPlaysSpec)

/-- ITS FALSE NEIGHBOUR: 'it returns false'. Refute it at one input. -/
def countPlaysWrong : ChangeSpec := { name := "countPlays", fn := fun _ => fun
  | [d1, d2, d3] => { results := [.lit (.bool false)], args := [d1, d2, d3] }
  | _ => none }
def CountPlaysWrongFalsely : Prop := countPlaysRow.holds Try.pinned (OpenSpec.ofChange countPlaysWrong)

/-- 'scrivenerlaw03.OnceKeys': WHATEVER THE INPUT: true; the input reads as it did. -/
def onceKeysSpec : ChangeSpec := { name := "onceKeys", fn := fun _ => fun
  | [d1, d2] => { results := [.lit (.bool true)], args := [d1, d2] }
  | _ => none }
def onceKeysRow : OpenClaim := { program := "ytepmlmfacpbhkaar", sum := "6ba16662a7ab3e5d994413f202ad888bce3b34cf73141b2633de6e18ef8a4d82", func := "scrivener/scrivenerlaw03.OnceKeys", spec := "onceKeys", unfollowed := true, recurses := true, plainKeys := false, apart := false }
def OnceKeysSaid : Prop := onceKeysRow.holds Try.pinned (OpenSpec.ofChange onceKeysSpec)

/-- ITS FALSE NEIGHBOUR: 'it returns false'. Refute it at one input. -/
def onceKeysWrong : ChangeSpec := { name := "onceKeys", fn := fun _ => fun
  | [d1, d2] => { results := [.lit (.bool false)], args := [d1, d2] }
  | _ => none }
def OnceKeysWrongFalsely : Prop := onceKeysRow.holds Try.pinned (OpenSpec.ofChange onceKeysWrong)

/-- 'scrivenerlaw03.OnceShows': WHATEVER THE INPUT: true; the input reads as it did. -/
def onceShowsSpec : ChangeSpec := { name := "onceShows", fn := fun _ => fun
  | [d1, d2, d3] => { results := [.lit (.bool true)], args := [d1, d2, d3] }
  | _ => none }
def onceShowsRow : OpenClaim := { program := "ytepmlmfacpbhkaar", sum := "6ba16662a7ab3e5d994413f202ad888bce3b34cf73141b2633de6e18ef8a4d82", func := "scrivener/scrivenerlaw03.OnceShows", spec := "onceShows", unfollowed := true, recurses := true, plainKeys := false, apart := false }
def OnceShowsSaid : Prop := onceShowsRow.holds Try.pinned (OpenSpec.ofChange onceShowsSpec)

/-- ITS FALSE NEIGHBOUR: 'it returns false'. Refute it at one input. -/
def onceShowsWrong : ChangeSpec := { name := "onceShows", fn := fun _ => fun
  | [d1, d2, d3] => { results := [.lit (.bool false)], args := [d1, d2, d3] }
  | _ => none }
def OnceShowsWrongFalsely : Prop := onceShowsRow.holds Try.pinned (OpenSpec.ofChange onceShowsWrong)

/-- 'scrivenerlaw03.OnceSides': WHATEVER THE INPUT: true; the input reads as it did. -/
def onceSidesSpec : ChangeSpec := { name := "onceSides", fn := fun _ => fun
  | [d1, d2, d3] => { results := [.lit (.bool true)], args := [d1, d2, d3] }
  | _ => none }
def onceSidesRow : OpenClaim := { program := "ytepmlmfacpbhkaar", sum := "6ba16662a7ab3e5d994413f202ad888bce3b34cf73141b2633de6e18ef8a4d82", func := "scrivener/scrivenerlaw03.OnceSides", spec := "onceSides", unfollowed := true, recurses := true, plainKeys := false, apart := false }
def OnceSidesSaid : Prop := onceSidesRow.holds Try.pinned (OpenSpec.ofChange onceSidesSpec)

/-- ITS FALSE NEIGHBOUR: 'it returns false'. Refute it at one input. -/
def onceSidesWrong : ChangeSpec := { name := "onceSides", fn := fun _ => fun
  | [d1, d2, d3] => { results := [.lit (.bool false)], args := [d1, d2, d3] }
  | _ => none }
def OnceSidesWrongFalsely : Prop := onceSidesRow.holds Try.pinned (OpenSpec.ofChange onceSidesWrong)

/-- 'scrivenerlaw03.OnceLow': WHATEVER THE INPUT: true; the input reads as it did. -/
def onceLowSpec : ChangeSpec := { name := "onceLow", fn := fun _ => fun
  | [d1, d2, d3] => { results := [.lit (.bool true)], args := [d1, d2, d3] }
  | _ => none }
def onceLowRow : OpenClaim := { program := "ytepmlmfacpbhkaar", sum := "6ba16662a7ab3e5d994413f202ad888bce3b34cf73141b2633de6e18ef8a4d82", func := "scrivener/scrivenerlaw03.OnceLow", spec := "onceLow", unfollowed := true, recurses := true, plainKeys := false, apart := false }
def OnceLowSaid : Prop := onceLowRow.holds Try.pinned (OpenSpec.ofChange onceLowSpec)

/-- ITS FALSE NEIGHBOUR: 'it returns false'. Refute it at one input. -/
def onceLowWrong : ChangeSpec := { name := "onceLow", fn := fun _ => fun
  | [d1, d2, d3] => { results := [.lit (.bool false)], args := [d1, d2, d3] }
  | _ => none }
def OnceLowWrongFalsely : Prop := onceLowRow.holds Try.pinned (OpenSpec.ofChange onceLowWrong)

/-- 'scrivenerlaw03.OnceForged': WHATEVER THE INPUT: true; the input reads as it did. -/
def onceForgedSpec : ChangeSpec := { name := "onceForged", fn := fun _ => fun
  | [d1, d2] => { results := [.lit (.bool true)], args := [d1, d2] }
  | _ => none }
def onceForgedRow : OpenClaim := { program := "ytepmlmfacpbhkaar", sum := "6ba16662a7ab3e5d994413f202ad888bce3b34cf73141b2633de6e18ef8a4d82", func := "scrivener/scrivenerlaw03.OnceForged", spec := "onceForged", unfollowed := true, recurses := true, plainKeys := false, apart := false }
def OnceForgedSaid : Prop := onceForgedRow.holds Try.pinned (OpenSpec.ofChange onceForgedSpec)

/-- ITS FALSE NEIGHBOUR: 'it returns false'. Refute it at one input. -/
def onceForgedWrong : ChangeSpec := { name := "onceForged", fn := fun _ => fun
  | [d1, d2] => { results := [.lit (.bool false)], args := [d1, d2] }
  | _ => none }
def OnceForgedWrongFalsely : Prop := onceForgedRow.holds Try.pinned (OpenSpec.ofChange onceForgedWrong)

/-- 'scrivenerlaw03.OnceTells': WHATEVER THE INPUT: true; the input reads as it did. -/
def onceTellsSpec : ChangeSpec := { name := "onceTells", fn := fun _ => fun
  | [d1, d2, d3] => { results := [.lit (.bool true)], args := [d1, d2, d3] }
  | _ => none }
def onceTellsRow : OpenClaim := { program := "ytepmlmfacpbhkaar", sum := "6ba16662a7ab3e5d994413f202ad888bce3b34cf73141b2633de6e18ef8a4d82", func := "scrivener/scrivenerlaw03.OnceTells", spec := "onceTells", unfollowed := true, recurses := true, plainKeys := false, apart := false }
def OnceTellsSaid : Prop := onceTellsRow.holds Try.pinned (OpenSpec.ofChange onceTellsSpec)

/-- ITS FALSE NEIGHBOUR: 'it returns false'. Refute it at one input. -/
def onceTellsWrong : ChangeSpec := { name := "onceTells", fn := fun _ => fun
  | [d1, d2, d3] => { results := [.lit (.bool false)], args := [d1, d2, d3] }
  | _ => none }
def OnceTellsWrongFalsely : Prop := onceTellsRow.holds Try.pinned (OpenSpec.ofChange onceTellsWrong)

/- THE SECOND FORM. 'bulk': how many values and letters a reading holds, each counted each time it is reached (what is shared counts as often as it is met; a slice's spare places count too). A statement '..UptoSaid' is the law's where the arguments, and the package variables that the reading takes, are together of bulk at most 1048576: NARROWER than '..Said'. Prove '..Said' where nothing that the law and all that it calls make is longer than what came in: it says more and counts as full. Else prove '..UptoSaid'. A law counts once. -/
mutual
def uptoBulk {H : Type} : DataW H → Nat
  | .lit (.string bytes) => bytes.length + 1
  | .lit _ => 1
  | .nil => 1
  | .ptr d => uptoBulk d + 1
  | .slice elems spare => uptoBulkAll elems + uptoBulkAll spare + 1
  | .agg parts => uptoBulkAll parts + 1
  | .iface _ d => uptoBulk d + 1
  | .map entries => uptoBulkEntries entries + 1
  | .held _ => 1
def uptoBulkAll {H : Type} : List (DataW H) → Nat
  | [] => 0
  | d :: r => uptoBulk d + uptoBulkAll r
def uptoBulkEntries {H : Type} : List (Lit × DataW H) → Nat
  | [] => 0
  | x :: r => uptoBulkEntry x + uptoBulkEntries r
def uptoBulkEntry {H : Type} : Lit × DataW H → Nat
  | (.string bytes, d) => bytes.length + uptoBulk d + 1
  | (_, d) => uptoBulk d + 1
 end
def uptoSmall : (H : Type) → List (DataW H) → Bool := fun _ ds => decide (uptoBulkAll ds ≤ 1048576)
def OpenSpec.upto (s : _root_.Go.ChangeSpec) : _root_.Go.OpenSpec := { _root_.Go.OpenSpec.ofChange s with cond := some uptoSmall }

/-- 'scrivenerlaw13.CountOne', WHERE WHAT IT READS IS OF BULK AT MOST 1048576: true; the input reads as it did. -/
def countOneUptoRow : OpenClaim := { program := "ytepmlmfacpbhkaar", sum := "6ba16662a7ab3e5d994413f202ad888bce3b34cf73141b2633de6e18ef8a4d82", func := "scrivener/scrivenerlaw13.CountOne", spec := "countOne", unfollowed := true, recurses := true, plainKeys := false, apart := false, narrowed := true }
def CountOneUptoSaid : Prop := countOneUptoRow.holds Try.pinned (OpenSpec.upto countOneSpec)

/-- 'scrivenerlaw13.CountNeeds', WHERE WHAT IT READS IS OF BULK AT MOST 1048576: true; the input reads as it did. -/
def countNeedsUptoRow : OpenClaim := { program := "ytepmlmfacpbhkaar", sum := "6ba16662a7ab3e5d994413f202ad888bce3b34cf73141b2633de6e18ef8a4d82", func := "scrivener/scrivenerlaw13.CountNeeds", spec := "countNeeds", unfollowed := true, recurses := true, plainKeys := false, apart := false, narrowed := true }
def CountNeedsUptoSaid : Prop := countNeedsUptoRow.holds Try.pinned (OpenSpec.upto countNeedsSpec)

/-- 'scrivenerlaw13.CountOrder', WHERE WHAT IT READS IS OF BULK AT MOST 1048576: true; the input reads as it did. -/
def countOrderUptoRow : OpenClaim := { program := "ytepmlmfacpbhkaar", sum := "6ba16662a7ab3e5d994413f202ad888bce3b34cf73141b2633de6e18ef8a4d82", func := "scrivener/scrivenerlaw13.CountOrder", spec := "countOrder", unfollowed := true, recurses := true, plainKeys := false, apart := false, narrowed := true }
def CountOrderUptoSaid : Prop := countOrderUptoRow.holds Try.pinned (OpenSpec.upto countOrderSpec)

/-- 'scrivenerlaw13.CountStays', WHERE WHAT IT READS IS OF BULK AT MOST 1048576: true; the input reads as it did. -/
def countStaysUptoRow : OpenClaim := { program := "ytepmlmfacpbhkaar", sum := "6ba16662a7ab3e5d994413f202ad888bce3b34cf73141b2633de6e18ef8a4d82", func := "scrivener/scrivenerlaw13.CountStays", spec := "countStays", unfollowed := true, recurses := true, plainKeys := false, apart := false, narrowed := true }
def CountStaysUptoSaid : Prop := countStaysUptoRow.holds Try.pinned (OpenSpec.upto countStaysSpec)

/-- 'scrivenerlaw13.CountPlays', WHERE WHAT IT READS IS OF BULK AT MOST 1048576: true; the input reads as it did. -/
def countPlaysUptoRow : OpenClaim := { program := "ytepmlmfacpbhkaar", sum := "6ba16662a7ab3e5d994413f202ad888bce3b34cf73141b2633de6e18ef8a4d82", func := "scrivener/scrivenerlaw13.CountPlays", spec := "countPlays", unfollowed := true, recurses := true, plainKeys := false, apart := false, narrowed := true }
def CountPlaysUptoSaid : Prop := countPlaysUptoRow.holds Try.pinned (OpenSpec.upto countPlaysSpec)

/-- 'scrivenerlaw03.OnceKeys', WHERE WHAT IT READS IS OF BULK AT MOST 1048576: true; the input reads as it did. -/
def onceKeysUptoRow : OpenClaim := { program := "ytepmlmfacpbhkaar", sum := "6ba16662a7ab3e5d994413f202ad888bce3b34cf73141b2633de6e18ef8a4d82", func := "scrivener/scrivenerlaw03.OnceKeys", spec := "onceKeys", unfollowed := true, recurses := true, plainKeys := false, apart := false, narrowed := true }
def OnceKeysUptoSaid : Prop := onceKeysUptoRow.holds Try.pinned (OpenSpec.upto onceKeysSpec)

/-- 'scrivenerlaw03.OnceShows', WHERE WHAT IT READS IS OF BULK AT MOST 1048576: true; the input reads as it did. -/
def onceShowsUptoRow : OpenClaim := { program := "ytepmlmfacpbhkaar", sum := "6ba16662a7ab3e5d994413f202ad888bce3b34cf73141b2633de6e18ef8a4d82", func := "scrivener/scrivenerlaw03.OnceShows", spec := "onceShows", unfollowed := true, recurses := true, plainKeys := false, apart := false, narrowed := true }
def OnceShowsUptoSaid : Prop := onceShowsUptoRow.holds Try.pinned (OpenSpec.upto onceShowsSpec)

/-- 'scrivenerlaw03.OnceSides', WHERE WHAT IT READS IS OF BULK AT MOST 1048576: true; the input reads as it did. -/
def onceSidesUptoRow : OpenClaim := { program := "ytepmlmfacpbhkaar", sum := "6ba16662a7ab3e5d994413f202ad888bce3b34cf73141b2633de6e18ef8a4d82", func := "scrivener/scrivenerlaw03.OnceSides", spec := "onceSides", unfollowed := true, recurses := true, plainKeys := false, apart := false, narrowed := true }
def OnceSidesUptoSaid : Prop := onceSidesUptoRow.holds Try.pinned (OpenSpec.upto onceSidesSpec)

/-- 'scrivenerlaw03.OnceLow', WHERE WHAT IT READS IS OF BULK AT MOST 1048576: true; the input reads as it did. -/
def onceLowUptoRow : OpenClaim := { program := "ytepmlmfacpbhkaar", sum := "6ba16662a7ab3e5d994413f202ad888bce3b34cf73141b2633de6e18ef8a4d82", func := "scrivener/scrivenerlaw03.OnceLow", spec := "onceLow", unfollowed := true, recurses := true, plainKeys := false, apart := false, narrowed := true }
def OnceLowUptoSaid : Prop := onceLowUptoRow.holds Try.pinned (OpenSpec.upto onceLowSpec)

/-- 'scrivenerlaw03.OnceForged', WHERE WHAT IT READS IS OF BULK AT MOST 1048576: true; the input reads as it did. -/
def onceForgedUptoRow : OpenClaim := { program := "ytepmlmfacpbhkaar", sum := "6ba16662a7ab3e5d994413f202ad888bce3b34cf73141b2633de6e18ef8a4d82", func := "scrivener/scrivenerlaw03.OnceForged", spec := "onceForged", unfollowed := true, recurses := true, plainKeys := false, apart := false, narrowed := true }
def OnceForgedUptoSaid : Prop := onceForgedUptoRow.holds Try.pinned (OpenSpec.upto onceForgedSpec)

/-- 'scrivenerlaw03.OnceTells', WHERE WHAT IT READS IS OF BULK AT MOST 1048576: true; the input reads as it did. -/
def onceTellsUptoRow : OpenClaim := { program := "ytepmlmfacpbhkaar", sum := "6ba16662a7ab3e5d994413f202ad888bce3b34cf73141b2633de6e18ef8a4d82", func := "scrivener/scrivenerlaw03.OnceTells", spec := "onceTells", unfollowed := true, recurses := true, plainKeys := false, apart := false, narrowed := true }
def OnceTellsUptoSaid : Prop := onceTellsUptoRow.holds Try.pinned (OpenSpec.upto onceTellsSpec)

end Rows
end Go.Proofs.YtepmlmfacpbhkaaR
