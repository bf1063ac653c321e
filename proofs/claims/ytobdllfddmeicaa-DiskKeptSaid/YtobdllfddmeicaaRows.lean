/-
  No cell of these rows narrows 'for every input' (looked for: loops, veiled, ifaces, maps, wideKeys, modest, calm, conditions, laid).
  DERIVED. THE GIVEN ROWS OF THIS SEAT. 8 by the template 'for every input the law returns true; each argument reads behind the call as it read before'; 0 by the template 'total and deterministic' (their statements: YtobdllfddmeicaaTotals.lean).
  GIVEN WITH THE SEED: the statements are not yours to turn. If you find one false, say at which input.
  Laid BY PROGRAM, IN A SANDBOX (cutbox-rows.mjs): the forced cells as the released guide's own fill.sh prints them over the translation 37f5ae12da409297… (all of the seat's roots in one cut). By AI agents, Wed Nov 11 2026. No macro, syntax, notation, axiom, sorry.
-/
import Derived.Test.YtobdllfddmeicaaChecked
import GoSem.Claim
import GoSem.ClaimJoined
import GoSem.ClaimMapViews
import Derived.JoinedTies
import Derived.KernelRfl
namespace Go.Proofs.Ytobdllfddmeicaa
/- THE CELL 'sum', in the pinned program and in every row, IS THE sha256 OF THE DUMP (.gsa) THAT YtobdllfddmeicaaProg.lean LOADS. Nothing in Lean hashes anything: it is a label: what it is worth is what the hold of that sum in a sandbox is worth. -/
noncomputable def Try.pinned : Pinned := { name := "ytobdllfddmeicaa", sum := "37f5ae12da409297cb26051292913c213f858194d21f0df26f2aba3c0d70b918", checked := Try.checked }
namespace Rows
def none {H : Type} : Left H := { results := [], args := [] }

/-- 'palaverlaw07.CrcSums': WHATEVER THE INPUT: true; the input reads as it did. -/
def crcSumsSpec : ChangeSpec := { name := "crcSums", fn := fun _ => fun
  | [d] => { results := [.lit (.bool true)], args := [d] }
  | _ => none }
def crcSumsRow : OpenClaim := { program := "ytobdllfddmeicaa", sum := "37f5ae12da409297cb26051292913c213f858194d21f0df26f2aba3c0d70b918", func := "palaver/palaverlaw07.CrcSums", spec := "crcSums", apart := false }
def CrcSumsSaid : Prop := crcSumsRow.holds Try.pinned (OpenSpec.ofChange crcSumsSpec)

/-- ITS FALSE NEIGHBOUR: 'it returns false'. Refute it at one input. -/
def crcSumsWrong : ChangeSpec := { name := "crcSums", fn := fun _ => fun
  | [d] => { results := [.lit (.bool false)], args := [d] }
  | _ => none }
def CrcSumsWrongFalsely : Prop := crcSumsRow.holds Try.pinned (OpenSpec.ofChange crcSumsWrong)

/-- 'palaverlaw07.CrcNought': WHATEVER THE INPUT: true; the input reads as it did. -/
def crcNoughtSpec : ChangeSpec := { name := "crcNought", fn := fun _ => fun
  | [d] => { results := [.lit (.bool true)], args := [d] }
  | _ => none }
def crcNoughtRow : OpenClaim := { program := "ytobdllfddmeicaa", sum := "37f5ae12da409297cb26051292913c213f858194d21f0df26f2aba3c0d70b918", func := "palaver/palaverlaw07.CrcNought", spec := "crcNought", apart := false }
def CrcNoughtSaid : Prop := crcNoughtRow.holds Try.pinned (OpenSpec.ofChange crcNoughtSpec)

/-- ITS FALSE NEIGHBOUR: 'it returns false'. Refute it at one input. -/
def crcNoughtWrong : ChangeSpec := { name := "crcNought", fn := fun _ => fun
  | [d] => { results := [.lit (.bool false)], args := [d] }
  | _ => none }
def CrcNoughtWrongFalsely : Prop := crcNoughtRow.holds Try.pinned (OpenSpec.ofChange crcNoughtWrong)

/-- 'palaverlaw07.CrcFound': WHATEVER THE INPUT: true; the input reads as it did. -/
def crcFoundSpec : ChangeSpec := { name := "crcFound", fn := fun _ => fun
  | [d1, d2, d3] => { results := [.lit (.bool true)], args := [d1, d2, d3] }
  | _ => none }
def crcFoundRow : OpenClaim := { program := "ytobdllfddmeicaa", sum := "37f5ae12da409297cb26051292913c213f858194d21f0df26f2aba3c0d70b918", func := "palaver/palaverlaw07.CrcFound", spec := "crcFound", apart := false }
def CrcFoundSaid : Prop := crcFoundRow.holds Try.pinned (OpenSpec.ofChange crcFoundSpec)

/-- ITS FALSE NEIGHBOUR: 'it returns false'. Refute it at one input. -/
def crcFoundWrong : ChangeSpec := { name := "crcFound", fn := fun _ => fun
  | [d1, d2, d3] => { results := [.lit (.bool false)], args := [d1, d2, d3] }
  | _ => none }
def CrcFoundWrongFalsely : Prop := crcFoundRow.holds Try.pinned (OpenSpec.ofChange crcFoundWrong)

/-- 'palaverlaw07.CrcTogether': WHATEVER THE INPUT: true; the input reads as it did. -/
def crcTogetherSpec : ChangeSpec := { name := "crcTogether", fn := fun _ => fun
  | [d1, d2] => { results := [.lit (.bool true)], args := [d1, d2] }
  | _ => none }
def crcTogetherRow : OpenClaim := { program := "ytobdllfddmeicaa", sum := "37f5ae12da409297cb26051292913c213f858194d21f0df26f2aba3c0d70b918", func := "palaver/palaverlaw07.CrcTogether", spec := "crcTogether", apart := false }
def CrcTogetherSaid : Prop := crcTogetherRow.holds Try.pinned (OpenSpec.ofChange crcTogetherSpec)

/-- ITS FALSE NEIGHBOUR: 'it returns false'. Refute it at one input. -/
def crcTogetherWrong : ChangeSpec := { name := "crcTogether", fn := fun _ => fun
  | [d1, d2] => { results := [.lit (.bool false)], args := [d1, d2] }
  | _ => none }
def CrcTogetherWrongFalsely : Prop := crcTogetherRow.holds Try.pinned (OpenSpec.ofChange crcTogetherWrong)

/-- 'palaverlaw08.DiskWrites': WHATEVER THE INPUT: true; the input reads as it did. -/
def diskWritesSpec : ChangeSpec := { name := "diskWrites", fn := fun _ => fun
  | [d1, d2, d3] => { results := [.lit (.bool true)], args := [d1, d2, d3] }
  | _ => none }
def diskWritesRow : OpenClaim := { program := "ytobdllfddmeicaa", sum := "37f5ae12da409297cb26051292913c213f858194d21f0df26f2aba3c0d70b918", func := "palaver/palaverlaw08.DiskWrites", spec := "diskWrites", apart := false }
def DiskWritesSaid : Prop := diskWritesRow.holds Try.pinned (OpenSpec.ofChange diskWritesSpec)

/-- ITS FALSE NEIGHBOUR: 'it returns false'. Refute it at one input. -/
def diskWritesWrong : ChangeSpec := { name := "diskWrites", fn := fun _ => fun
  | [d1, d2, d3] => { results := [.lit (.bool false)], args := [d1, d2, d3] }
  | _ => none }
def DiskWritesWrongFalsely : Prop := diskWritesRow.holds Try.pinned (OpenSpec.ofChange diskWritesWrong)

/-- 'palaverlaw08.DiskFails': WHATEVER THE INPUT: true; the input reads as it did. -/
def diskFailsSpec : ChangeSpec := { name := "diskFails", fn := fun _ => fun
  | [d1, d2, d3] => { results := [.lit (.bool true)], args := [d1, d2, d3] }
  | _ => none }
def diskFailsRow : OpenClaim := { program := "ytobdllfddmeicaa", sum := "37f5ae12da409297cb26051292913c213f858194d21f0df26f2aba3c0d70b918", func := "palaver/palaverlaw08.DiskFails", spec := "diskFails", apart := false }
def DiskFailsSaid : Prop := diskFailsRow.holds Try.pinned (OpenSpec.ofChange diskFailsSpec)

/-- ITS FALSE NEIGHBOUR: 'it returns false'. Refute it at one input. -/
def diskFailsWrong : ChangeSpec := { name := "diskFails", fn := fun _ => fun
  | [d1, d2, d3] => { results := [.lit (.bool false)], args := [d1, d2, d3] }
  | _ => none }
def DiskFailsWrongFalsely : Prop := diskFailsRow.holds Try.pinned (OpenSpec.ofChange diskFailsWrong)

/-- 'palavertop.TopTorn': WHATEVER THE INPUT: true; the input reads as it did. -/
def topTornSpec : ChangeSpec := { name := "topTorn", fn := fun _ => fun
  | [d1, d2, d3, d4] => { results := [.lit (.bool true)], args := [d1, d2, d3, d4] }
  | _ => none }
def topTornRow : OpenClaim := { program := "ytobdllfddmeicaa", sum := "37f5ae12da409297cb26051292913c213f858194d21f0df26f2aba3c0d70b918", func := "palaver/palavertop.TopTorn", spec := "topTorn", apart := false }
def TopTornSaid : Prop := topTornRow.holds Try.pinned (OpenSpec.ofChange topTornSpec)

/-- ITS FALSE NEIGHBOUR: 'it returns false'. Refute it at one input. -/
def topTornWrong : ChangeSpec := { name := "topTorn", fn := fun _ => fun
  | [d1, d2, d3, d4] => { results := [.lit (.bool false)], args := [d1, d2, d3, d4] }
  | _ => none }
def TopTornWrongFalsely : Prop := topTornRow.holds Try.pinned (OpenSpec.ofChange topTornWrong)

/-- 'palaverlaw08.DiskKept': WHATEVER THE INPUT: true; the input reads as it did. -/
def diskKeptSpec : ChangeSpec := { name := "diskKept", fn := fun _ => fun
  | [d1, d2] => { results := [.lit (.bool true)], args := [d1, d2] }
  | _ => none }
def diskKeptRow : OpenClaim := { program := "ytobdllfddmeicaa", sum := "37f5ae12da409297cb26051292913c213f858194d21f0df26f2aba3c0d70b918", func := "palaver/palaverlaw08.DiskKept", spec := "diskKept", apart := false }
def DiskKeptSaid : Prop := diskKeptRow.holds Try.pinned (OpenSpec.ofChange diskKeptSpec)

/-- ITS FALSE NEIGHBOUR: 'it returns false'. Refute it at one input. -/
def diskKeptWrong : ChangeSpec := { name := "diskKept", fn := fun _ => fun
  | [d1, d2] => { results := [.lit (.bool false)], args := [d1, d2] }
  | _ => none }
def DiskKeptWrongFalsely : Prop := diskKeptRow.holds Try.pinned (OpenSpec.ofChange diskKeptWrong)

/- THE SECOND FORM. 'bulk': how many values and letters a reading holds, each counted each time it is reached (what is shared counts as often as it is met; a slice's spare places count too). A statement '..UptoSaid' is the law's where the arguments, and the package variables that the reading takes, are together of bulk at most 1048576: NARROWER than '..Said'. Prove '..Said' where nothing that the law and all that it calls make is longer than what came in: it says more and counts as full. Else prove '..UptoSaid'. A law counts once. -/
mutual
def uptoBulk {H : Type} : DataW H → Nat
  | .lit (.string bytes) => bytes.length + 1
  | .lit _ => 1
  | .nil => 1
  | .ptr d => uptoBulk d + 1
  | .slice elems spare => uptoBulkAll elems + uptoBulkAll spare + 1
  | .agg parts => uptoBulkAll parts + 1
  | .iface _ d => uptoBulk d + 1
  | .map entries => uptoBulkEntries entries + 1
  | .held _ => 1
def uptoBulkAll {H : Type} : List (DataW H) → Nat
  | [] => 0
  | d :: r => uptoBulk d + uptoBulkAll r
def uptoBulkEntries {H : Type} : List (Lit × DataW H) → Nat
  | [] => 0
  | x :: r => uptoBulkEntry x + uptoBulkEntries r
def uptoBulkEntry {H : Type} : Lit × DataW H → Nat
  | (.string bytes, d) => bytes.length + uptoBulk d + 1
  | (_, d) => uptoBulk d + 1
 end
def uptoSmall : (H : Type) → List (DataW H) → Bool := fun _ ds => decide (uptoBulkAll ds ≤ 1048576)
def OpenSpec.upto (s : _root_.Go.ChangeSpec) : _root_.Go.OpenSpec := { _root_.Go.OpenSpec.ofChange s with cond := some uptoSmall }

/-- 'palaverlaw07.CrcSums', WHERE WHAT IT READS IS OF BULK AT MOST 1048576: true; the input reads as it did. -/
def crcSumsUptoRow : OpenClaim := { program := "ytobdllfddmeicaa", sum := "37f5ae12da409297cb26051292913c213f858194d21f0df26f2aba3c0d70b918", func := "palaver/palaverlaw07.CrcSums", spec := "crcSums", apart := false, narrowed := true }
def CrcSumsUptoSaid : Prop := crcSumsUptoRow.holds Try.pinned (OpenSpec.upto crcSumsSpec)

/-- 'palaverlaw07.CrcNought', WHERE WHAT IT READS IS OF BULK AT MOST 1048576: true; the input reads as it did. -/
def crcNoughtUptoRow : OpenClaim := { program := "ytobdllfddmeicaa", sum := "37f5ae12da409297cb26051292913c213f858194d21f0df26f2aba3c0d70b918", func := "palaver/palaverlaw07.CrcNought", spec := "crcNought", apart := false, narrowed := true }
def CrcNoughtUptoSaid : Prop := crcNoughtUptoRow.holds Try.pinned (OpenSpec.upto crcNoughtSpec)

/-- 'palaverlaw07.CrcFound', WHERE WHAT IT READS IS OF BULK AT MOST 1048576: true; the input reads as it did. -/
def crcFoundUptoRow : OpenClaim := { program := "ytobdllfddmeicaa", sum := "37f5ae12da409297cb26051292913c213f858194d21f0df26f2aba3c0d70b918", func := "palaver/palaverlaw07.CrcFound", spec := "crcFound", apart := false, narrowed := true }
def CrcFoundUptoSaid : Prop := crcFoundUptoRow.holds Try.pinned (OpenSpec.upto crcFoundSpec)

/-- 'palaverlaw07.CrcTogether', WHERE WHAT IT READS IS OF BULK AT MOST 1048576: true; the input reads as it did. -/
def crcTogetherUptoRow : OpenClaim := { program := "ytobdllfddmeicaa", sum := "37f5ae12da409297cb26051292913c213f858194d21f0df26f2aba3c0d70b918", func := "palaver/palaverlaw07.CrcTogether", spec := "crcTogether", apart := false, narrowed := true }
def CrcTogetherUptoSaid : Prop := crcTogetherUptoRow.holds Try.pinned (OpenSpec.upto crcTogetherSpec)

/-- 'palaverlaw08.DiskWrites', WHERE WHAT IT READS IS OF BULK AT MOST 1048576: true; the input reads as it did. -/
def diskWritesUptoRow : OpenClaim := { program := "ytobdllfddmeicaa", sum := "37f5ae12da409297cb26051292913c213f858194d21f0df26f2aba3c0d70b918", func := "palaver/palaverlaw08.DiskWrites", spec := "diskWrites", apart := false, narrowed := true }
def DiskWritesUptoSaid : Prop := diskWritesUptoRow.holds Try.pinned (OpenSpec.upto diskWritesSpec)

/-- 'palaverlaw08.DiskFails', WHERE WHAT IT READS IS OF BULK AT MOST 1048576: true; the input reads as it did. -/
def diskFailsUptoRow : OpenClaim := { program := "ytobdllfddmeicaa", sum := "37f5ae12da409297cb26051292913c213f858194d21f0df26f2aba3c0d70b918", func := "palaver/palaverlaw08.DiskFails", spec := "diskFails", apart := false, narrowed := true }
def DiskFailsUptoSaid : Prop := diskFailsUptoRow.holds Try.pinned (OpenSpec.upto diskFailsSpec)

/-- 'palavertop.TopTorn', WHERE WHAT IT READS IS OF BULK AT MOST 1048576: true; the input reads as it did. -/
def topTornUptoRow : OpenClaim := { program := "ytobdllfddmeicaa", sum := "37f5ae12da409297cb26051292913c213f858194d21f0df26f2aba3c0d70b918", func := "palaver/palavertop.TopTorn", spec := "topTorn", apart := false, narrowed := true }
def TopTornUptoSaid : Prop := topTornUptoRow.holds Try.pinned (OpenSpec.upto topTornSpec)

/-- 'palaverlaw08.DiskKept', WHERE WHAT IT READS IS OF BULK AT MOST 1048576: true; the input reads as it did. -/
def diskKeptUptoRow : OpenClaim := { program := "ytobdllfddmeicaa", sum := "37f5ae12da409297cb26051292913c213f858194d21f0df26f2aba3c0d70b918", func := "palaver/palaverlaw08.DiskKept", spec := "diskKept", apart := false, narrowed := true }
def DiskKeptUptoSaid : Prop := diskKeptUptoRow.holds Try.pinned (OpenSpec.upto diskKeptSpec)

end Rows
end Go.Proofs.Ytobdllfddmeicaa
