/-
  No cell of these rows narrows 'for every input' (looked for: loops, veiled, ifaces, maps, wideKeys, modest, calm, conditions, laid).
  DERIVED. THE GIVEN ROWS OF THIS SEAT. 8 by the template 'for every input the law returns true; each argument reads behind the call as it read before'; 0 by the template 'total and deterministic' (their statements: YtgbhkmgmpodnkaaTotals.lean).
  GIVEN WITH THE SEED: the statements are not yours to turn. If you find one false, say at which input.
  Laid BY PROGRAM, IN A SANDBOX (cutbox-rows.mjs): the forced cells as the released guide's own fill.sh prints them over the translation 0a0fce72467a1320… (all of the seat's roots in one cut). By AI agents, Wed Nov 11 2026. No macro, syntax, notation, axiom, sorry.
-/
import Derived.Test.YtgbhkmgmpodnkaaChecked
import GoSem.Claim
import GoSem.ClaimJoined
import GoSem.ClaimMapViews
import Derived.JoinedTies
import Derived.KernelRfl
namespace Go.Proofs.Ytgbhkmgmpodnkaa
/- THE CELL 'sum', in the pinned program and in every row, IS THE sha256 OF THE DUMP (.gsa) THAT YtgbhkmgmpodnkaaProg.lean LOADS. Nothing in Lean hashes anything: it is a label: what it is worth is what the hold of that sum in a sandbox is worth. -/
noncomputable def Try.pinned : Pinned := { name := "ytgbhkmgmpodnkaa", sum := "0a0fce72467a1320b4cb751a02feca9ca64ffcf9ba80d6ee2ff2427e95fc8653", checked := Try.checked }
namespace Rows
def none {H : Type} : Left H := { results := [], args := [] }

/-- 'tympanlaw18.VlistFirst': WHATEVER THE INPUT: true; the input reads as it did. -/
def vlistFirstSpec : ChangeSpec := { name := "vlistFirst", fn := fun _ => fun
  | [d1, d2] => { results := [.lit (.bool true)], args := [d1, d2] }
  | _ => none }
def vlistFirstRow : OpenClaim := { program := "ytgbhkmgmpodnkaa", sum := "0a0fce72467a1320b4cb751a02feca9ca64ffcf9ba80d6ee2ff2427e95fc8653", func := "tympan/tympanlaw18.VlistFirst", spec := "vlistFirst", unfollowed := true, recurses := true, apart := false }
def VlistFirstSaid : Prop := vlistFirstRow.holds Try.pinned (OpenSpec.ofChange vlistFirstSpec)

/-- ITS FALSE NEIGHBOUR: 'it returns false'. Refute it at one input. -/
def vlistFirstWrong : ChangeSpec := { name := "vlistFirst", fn := fun _ => fun
  | [d1, d2] => { results := [.lit (.bool false)], args := [d1, d2] }
  | _ => none }
def VlistFirstWrongFalsely : Prop := vlistFirstRow.holds Try.pinned (OpenSpec.ofChange vlistFirstWrong)

/-- 'tympanlaw20.ParaTells': WHATEVER THE INPUT: true; the input reads as it did. -/
def paraTellsSpec : ChangeSpec := { name := "paraTells", fn := fun _ => fun
  | [d1, d2, d3] => { results := [.lit (.bool true)], args := [d1, d2, d3] }
  | _ => none }
def paraTellsRow : OpenClaim := { program := "ytgbhkmgmpodnkaa", sum := "0a0fce72467a1320b4cb751a02feca9ca64ffcf9ba80d6ee2ff2427e95fc8653", func := "tympan/tympanlaw20.ParaTells", spec := "paraTells", unfollowed := true, recurses := true, apart := false }
def ParaTellsSaid : Prop := paraTellsRow.holds Try.pinned (OpenSpec.ofChange paraTellsSpec)

/-- ITS FALSE NEIGHBOUR: 'it returns false'. Refute it at one input. -/
def paraTellsWrong : ChangeSpec := { name := "paraTells", fn := fun _ => fun
  | [d1, d2, d3] => { results := [.lit (.bool false)], args := [d1, d2, d3] }
  | _ => none }
def ParaTellsWrongFalsely : Prop := paraTellsRow.holds Try.pinned (OpenSpec.ofChange paraTellsWrong)

/-- 'tympanlaw20.ParaPlain': WHATEVER THE INPUT: true; the input reads as it did. -/
def paraPlainSpec : ChangeSpec := { name := "paraPlain", fn := fun _ => fun
  | [d1, d2, d3] => { results := [.lit (.bool true)], args := [d1, d2, d3] }
  | _ => none }
def paraPlainRow : OpenClaim := { program := "ytgbhkmgmpodnkaa", sum := "0a0fce72467a1320b4cb751a02feca9ca64ffcf9ba80d6ee2ff2427e95fc8653", func := "tympan/tympanlaw20.ParaPlain", spec := "paraPlain", unfollowed := true, recurses := true, apart := false }
def ParaPlainSaid : Prop := paraPlainRow.holds Try.pinned (OpenSpec.ofChange paraPlainSpec)

/-- ITS FALSE NEIGHBOUR: 'it returns false'. Refute it at one input. -/
def paraPlainWrong : ChangeSpec := { name := "paraPlain", fn := fun _ => fun
  | [d1, d2, d3] => { results := [.lit (.bool false)], args := [d1, d2, d3] }
  | _ => none }
def ParaPlainWrongFalsely : Prop := paraPlainRow.holds Try.pinned (OpenSpec.ofChange paraPlainWrong)

/-- 'tympanlaw20.ParaNone': WHATEVER THE INPUT: true; the input reads as it did. -/
def paraNoneSpec : ChangeSpec := { name := "paraNone", fn := fun _ => fun
  | [d1, d2] => { results := [.lit (.bool true)], args := [d1, d2] }
  | _ => none }
def paraNoneRow : OpenClaim := { program := "ytgbhkmgmpodnkaa", sum := "0a0fce72467a1320b4cb751a02feca9ca64ffcf9ba80d6ee2ff2427e95fc8653", func := "tympan/tympanlaw20.ParaNone", spec := "paraNone", unfollowed := true, recurses := true, apart := false }
def ParaNoneSaid : Prop := paraNoneRow.holds Try.pinned (OpenSpec.ofChange paraNoneSpec)

/-- ITS FALSE NEIGHBOUR: 'it returns false'. Refute it at one input. -/
def paraNoneWrong : ChangeSpec := { name := "paraNone", fn := fun _ => fun
  | [d1, d2] => { results := [.lit (.bool false)], args := [d1, d2] }
  | _ => none }
def ParaNoneWrongFalsely : Prop := paraNoneRow.holds Try.pinned (OpenSpec.ofChange paraNoneWrong)

/-- 'tympanlaw18.VlistNone': WHATEVER THE INPUT: true; the input reads as it did. -/
def vlistNoneSpec : ChangeSpec := { name := "vlistNone", fn := fun _ => fun
  | [d1, d2] => { results := [.lit (.bool true)], args := [d1, d2] }
  | _ => none }
def vlistNoneRow : OpenClaim := { program := "ytgbhkmgmpodnkaa", sum := "0a0fce72467a1320b4cb751a02feca9ca64ffcf9ba80d6ee2ff2427e95fc8653", func := "tympan/tympanlaw18.VlistNone", spec := "vlistNone", unfollowed := true, recurses := true, apart := false }
def VlistNoneSaid : Prop := vlistNoneRow.holds Try.pinned (OpenSpec.ofChange vlistNoneSpec)

/-- ITS FALSE NEIGHBOUR: 'it returns false'. Refute it at one input. -/
def vlistNoneWrong : ChangeSpec := { name := "vlistNone", fn := fun _ => fun
  | [d1, d2] => { results := [.lit (.bool false)], args := [d1, d2] }
  | _ => none }
def VlistNoneWrongFalsely : Prop := vlistNoneRow.holds Try.pinned (OpenSpec.ofChange vlistNoneWrong)

/-- 'tympanlaw32.PilePlays': WHATEVER THE INPUT: true; the input reads as it did. -/
def pilePlaysSpec : ChangeSpec := { name := "pilePlays", fn := fun _ => fun
  | [d] => { results := [.lit (.bool true)], args := [d] }
  | _ => none }
def pilePlaysRow : OpenClaim := { program := "ytgbhkmgmpodnkaa", sum := "0a0fce72467a1320b4cb751a02feca9ca64ffcf9ba80d6ee2ff2427e95fc8653", func := "tympan/tympanlaw32.PilePlays", spec := "pilePlays", unfollowed := true, recurses := true, apart := false }
def PilePlaysSaid : Prop := pilePlaysRow.holds Try.pinned (OpenSpec.ofChange pilePlaysSpec)

/-- ITS FALSE NEIGHBOUR: 'it returns false'. Refute it at one input. -/
def pilePlaysWrong : ChangeSpec := { name := "pilePlays", fn := fun _ => fun
  | [d] => { results := [.lit (.bool false)], args := [d] }
  | _ => none }
def PilePlaysWrongFalsely : Prop := pilePlaysRow.holds Try.pinned (OpenSpec.ofChange pilePlaysWrong)

/-- 'tympanlaw32.PileDrains': WHATEVER THE INPUT: true; the input reads as it did. -/
def pileDrainsSpec : ChangeSpec := { name := "pileDrains", fn := fun _ => fun
  | [d1, d2] => { results := [.lit (.bool true)], args := [d1, d2] }
  | _ => none }
def pileDrainsRow : OpenClaim := { program := "ytgbhkmgmpodnkaa", sum := "0a0fce72467a1320b4cb751a02feca9ca64ffcf9ba80d6ee2ff2427e95fc8653", func := "tympan/tympanlaw32.PileDrains", spec := "pileDrains", unfollowed := true, recurses := true, apart := false }
def PileDrainsSaid : Prop := pileDrainsRow.holds Try.pinned (OpenSpec.ofChange pileDrainsSpec)

/-- ITS FALSE NEIGHBOUR: 'it returns false'. Refute it at one input. -/
def pileDrainsWrong : ChangeSpec := { name := "pileDrains", fn := fun _ => fun
  | [d1, d2] => { results := [.lit (.bool false)], args := [d1, d2] }
  | _ => none }
def PileDrainsWrongFalsely : Prop := pileDrainsRow.holds Try.pinned (OpenSpec.ofChange pileDrainsWrong)

/-- 'tympanlaw32.PileNone': WHATEVER THE INPUT: true; the input reads as it did. -/
def pileNoneSpec : ChangeSpec := { name := "pileNone", fn := fun _ => fun
  | [d] => { results := [.lit (.bool true)], args := [d] }
  | _ => none }
def pileNoneRow : OpenClaim := { program := "ytgbhkmgmpodnkaa", sum := "0a0fce72467a1320b4cb751a02feca9ca64ffcf9ba80d6ee2ff2427e95fc8653", func := "tympan/tympanlaw32.PileNone", spec := "pileNone", unfollowed := true, recurses := true, apart := false }
def PileNoneSaid : Prop := pileNoneRow.holds Try.pinned (OpenSpec.ofChange pileNoneSpec)

/-- ITS FALSE NEIGHBOUR: 'it returns false'. Refute it at one input. -/
def pileNoneWrong : ChangeSpec := { name := "pileNone", fn := fun _ => fun
  | [d] => { results := [.lit (.bool false)], args := [d] }
  | _ => none }
def PileNoneWrongFalsely : Prop := pileNoneRow.holds Try.pinned (OpenSpec.ofChange pileNoneWrong)

/- THE SECOND FORM. 'bulk': how many values and letters a reading holds, each counted each time it is reached (what is shared counts as often as it is met; a slice's spare places count too). A statement '..UptoSaid' is the law's where the arguments, and the package variables that the reading takes, are together of bulk at most 1048576: NARROWER than '..Said'. Prove '..Said' where nothing that the law and all that it calls make is longer than what came in: it says more and counts as full. Else prove '..UptoSaid'. A law counts once. -/
mutual
def uptoBulk {H : Type} : DataW H → Nat
  | .lit (.string bytes) => bytes.length + 1
  | .lit _ => 1
  | .nil => 1
  | .ptr d => uptoBulk d + 1
  | .slice elems spare => uptoBulkAll elems + uptoBulkAll spare + 1
  | .agg parts => uptoBulkAll parts + 1
  | .iface _ d => uptoBulk d + 1
  | .map entries => uptoBulkEntries entries + 1
  | .held _ => 1
def uptoBulkAll {H : Type} : List (DataW H) → Nat
  | [] => 0
  | d :: r => uptoBulk d + uptoBulkAll r
def uptoBulkEntries {H : Type} : List (Lit × DataW H) → Nat
  | [] => 0
  | x :: r => uptoBulkEntry x + uptoBulkEntries r
def uptoBulkEntry {H : Type} : Lit × DataW H → Nat
  | (.string bytes, d) => bytes.length + uptoBulk d + 1
  | (_, d) => uptoBulk d + 1
 end
def uptoSmall : (H : Type) → List (DataW H) → Bool := fun _ ds => decide (uptoBulkAll ds ≤ 1048576)
def OpenSpec.upto (s : _root_.Go.ChangeSpec) : _root_.Go.OpenSpec := { _root_.Go.OpenSpec.ofChange s with cond := some uptoSmall }

/-- 'tympanlaw18.VlistFirst', WHERE WHAT IT READS IS OF BULK AT MOST 1048576: true; the input reads as it did. -/
def vlistFirstUptoRow : OpenClaim := { program := "ytgbhkmgmpodnkaa", sum := "0a0fce72467a1320b4cb751a02feca9ca64ffcf9ba80d6ee2ff2427e95fc8653", func := "tympan/tympanlaw18.VlistFirst", spec := "vlistFirst", unfollowed := true, recurses := true, apart := false, narrowed := true }
def VlistFirstUptoSaid : Prop := vlistFirstUptoRow.holds Try.pinned (OpenSpec.upto vlistFirstSpec)

/-- 'tympanlaw20.ParaTells', WHERE WHAT IT READS IS OF BULK AT MOST 1048576: true; the input reads as it did. -/
def paraTellsUptoRow : OpenClaim := { program := "ytgbhkmgmpodnkaa", sum := "0a0fce72467a1320b4cb751a02feca9ca64ffcf9ba80d6ee2ff2427e95fc8653", func := "tympan/tympanlaw20.ParaTells", spec := "paraTells", unfollowed := true, recurses := true, apart := false, narrowed := true }
def ParaTellsUptoSaid : Prop := paraTellsUptoRow.holds Try.pinned (OpenSpec.upto paraTellsSpec)

/-- 'tympanlaw20.ParaPlain', WHERE WHAT IT READS IS OF BULK AT MOST 1048576: true; the input reads as it did. -/
def paraPlainUptoRow : OpenClaim := { program := "ytgbhkmgmpodnkaa", sum := "0a0fce72467a1320b4cb751a02feca9ca64ffcf9ba80d6ee2ff2427e95fc8653", func := "tympan/tympanlaw20.ParaPlain", spec := "paraPlain", unfollowed := true, recurses := true, apart := false, narrowed := true }
def ParaPlainUptoSaid : Prop := paraPlainUptoRow.holds Try.pinned (OpenSpec.upto paraPlainSpec)

/-- 'tympanlaw20.ParaNone', WHERE WHAT IT READS IS OF BULK AT MOST 1048576: true; the input reads as it did. -/
def paraNoneUptoRow : OpenClaim := { program := "ytgbhkmgmpodnkaa", sum := "0a0fce72467a1320b4cb751a02feca9ca64ffcf9ba80d6ee2ff2427e95fc8653", func := "tympan/tympanlaw20.ParaNone", spec := "paraNone", unfollowed := true, recurses := true, apart := false, narrowed := true }
def ParaNoneUptoSaid : Prop := paraNoneUptoRow.holds Try.pinned (OpenSpec.upto paraNoneSpec)

/-- 'tympanlaw18.VlistNone', WHERE WHAT IT READS IS OF BULK AT MOST 1048576: true; the input reads as it did. -/
def vlistNoneUptoRow : OpenClaim := { program := "ytgbhkmgmpodnkaa", sum := "0a0fce72467a1320b4cb751a02feca9ca64ffcf9ba80d6ee2ff2427e95fc8653", func := "tympan/tympanlaw18.VlistNone", spec := "vlistNone", unfollowed := true, recurses := true, apart := false, narrowed := true }
def VlistNoneUptoSaid : Prop := vlistNoneUptoRow.holds Try.pinned (OpenSpec.upto vlistNoneSpec)

/-- 'tympanlaw32.PilePlays', WHERE WHAT IT READS IS OF BULK AT MOST 1048576: true; the input reads as it did. -/
def pilePlaysUptoRow : OpenClaim := { program := "ytgbhkmgmpodnkaa", sum := "0a0fce72467a1320b4cb751a02feca9ca64ffcf9ba80d6ee2ff2427e95fc8653", func := "tympan/tympanlaw32.PilePlays", spec := "pilePlays", unfollowed := true, recurses := true, apart := false, narrowed := true }
def PilePlaysUptoSaid : Prop := pilePlaysUptoRow.holds Try.pinned (OpenSpec.upto pilePlaysSpec)

/-- 'tympanlaw32.PileDrains', WHERE WHAT IT READS IS OF BULK AT MOST 1048576: true; the input reads as it did. -/
def pileDrainsUptoRow : OpenClaim := { program := "ytgbhkmgmpodnkaa", sum := "0a0fce72467a1320b4cb751a02feca9ca64ffcf9ba80d6ee2ff2427e95fc8653", func := "tympan/tympanlaw32.PileDrains", spec := "pileDrains", unfollowed := true, recurses := true, apart := false, narrowed := true }
def PileDrainsUptoSaid : Prop := pileDrainsUptoRow.holds Try.pinned (OpenSpec.upto pileDrainsSpec)

/-- 'tympanlaw32.PileNone', WHERE WHAT IT READS IS OF BULK AT MOST 1048576: true; the input reads as it did. -/
def pileNoneUptoRow : OpenClaim := { program := "ytgbhkmgmpodnkaa", sum := "0a0fce72467a1320b4cb751a02feca9ca64ffcf9ba80d6ee2ff2427e95fc8653", func := "tympan/tympanlaw32.PileNone", spec := "pileNone", unfollowed := true, recurses := true, apart := false, narrowed := true }
def PileNoneUptoSaid : Prop := pileNoneUptoRow.holds Try.pinned (OpenSpec.upto pileNoneSpec)

end Rows
end Go.Proofs.Ytgbhkmgmpodnkaa
