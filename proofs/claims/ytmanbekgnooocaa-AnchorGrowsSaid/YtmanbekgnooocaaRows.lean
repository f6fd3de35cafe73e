/-
  No cell of these rows narrows 'for every input' (looked for: loops, veiled, ifaces, maps, wideKeys, modest, calm, conditions, laid).
  DERIVED. THE GIVEN ROWS OF THIS SEAT. 12 by the template 'for every input the law returns true; each argument reads behind the call as it read before'; 0 by the template 'total and deterministic' (their statements: YtmanbekgnooocaaTotals.lean).
  GIVEN WITH THE SEED: the statements are not yours to turn. If you find one false, say at which input.
  Laid BY PROGRAM, IN A SANDBOX (cutbox-rows.mjs): the forced cells as the released guide's own fill.sh prints them over the translation a500ac6b1e2553ab… (all of the seat's roots in one cut). By AI agents, Wed Nov 11 2026. No macro, syntax, notation, axiom, sorry.
-/
import Derived.Test.YtmanbekgnooocaaChecked
import GoSem.Claim
import GoSem.ClaimJoined
import GoSem.ClaimMapViews
import Derived.JoinedTies
import Derived.KernelRfl
namespace Go.Proofs.Ytmanbekgnooocaa
/- THE CELL 'sum', in the pinned program and in every row, IS THE sha256 OF THE DUMP (.gsa) THAT YtmanbekgnooocaaProg.lean LOADS. Nothing in Lean hashes anything: it is a label: what it is worth is what the hold of that sum in a sandbox is worth. -/
noncomputable def Try.pinned : Pinned := { name := "ytmanbekgnooocaa", sum := "a500ac6b1e2553abca4b859f5cd7084f3f7eef7e25f13aa3b3dd8bb156fdeca2", checked := Try.checked }
namespace Rows
def none {H : Type} : Left H := { results := [], args := [] }

/-- 'tympanlaw12.FigureTells': WHATEVER THE INPUT: true; the input reads as it did. -/
def figureTellsSpec : ChangeSpec := { name := "figureTells", fn := fun _ => fun
  | [d] => { results := [.lit (.bool true)], args := [d] }
  | _ => none }
def figureTellsRow : OpenClaim := { program := "ytmanbekgnooocaa", sum := "a500ac6b1e2553abca4b859f5cd7084f3f7eef7e25f13aa3b3dd8bb156fdeca2", func := "tympan/tympanlaw12.FigureTells", spec := "figureTells", unfollowed := true, recurses := true, apart := false }
def FigureTellsSaid : Prop := figureTellsRow.holds Try.pinned (OpenSpec.ofChange figureTellsSpec)

/-- ITS FALSE NEIGHBOUR: 'it returns false'. Refute it at one input. -/
def figureTellsWrong : ChangeSpec := { name := "figureTells", fn := fun _ => fun
  | [d] => { results := [.lit (.bool false)], args := [d] }
  | _ => none }
def FigureTellsWrongFalsely : Prop := figureTellsRow.holds Try.pinned (OpenSpec.ofChange figureTellsWrong)

/-- 'tympanlaw12.FigureHigh': WHATEVER THE INPUT: true; the input reads as it did. -/
def figureHighSpec : ChangeSpec := { name := "figureHigh", fn := fun _ => fun
  | [d1, d2, d3] => { results := [.lit (.bool true)], args := [d1, d2, d3] }
  | _ => none }
def figureHighRow : OpenClaim := { program := "ytmanbekgnooocaa", sum := "a500ac6b1e2553abca4b859f5cd7084f3f7eef7e25f13aa3b3dd8bb156fdeca2", func := "tympan/tympanlaw12.FigureHigh", spec := "figureHigh", unfollowed := true, recurses := true, apart := false }
def FigureHighSaid : Prop := figureHighRow.holds Try.pinned (OpenSpec.ofChange figureHighSpec)

/-- ITS FALSE NEIGHBOUR: 'it returns false'. Refute it at one input. -/
def figureHighWrong : ChangeSpec := { name := "figureHigh", fn := fun _ => fun
  | [d1, d2, d3] => { results := [.lit (.bool false)], args := [d1, d2, d3] }
  | _ => none }
def FigureHighWrongFalsely : Prop := figureHighRow.holds Try.pinned (OpenSpec.ofChange figureHighWrong)

/-- 'tympanlaw12.FigureClasses': WHATEVER THE INPUT: true; the input reads as it did. -/
def figureClassesSpec : ChangeSpec := { name := "figureClasses", fn := fun _ => fun
  | [d1, d2] => { results := [.lit (.bool true)], args := [d1, d2] }
  | _ => none }
def figureClassesRow : OpenClaim := { program := "ytmanbekgnooocaa", sum := "a500ac6b1e2553abca4b859f5cd7084f3f7eef7e25f13aa3b3dd8bb156fdeca2", func := "tympan/tympanlaw12.FigureClasses", spec := "figureClasses", unfollowed := true, recurses := true, apart := false }
def FigureClassesSaid : Prop := figureClassesRow.holds Try.pinned (OpenSpec.ofChange figureClassesSpec)

/-- ITS FALSE NEIGHBOUR: 'it returns false'. Refute it at one input. -/
def figureClassesWrong : ChangeSpec := { name := "figureClasses", fn := fun _ => fun
  | [d1, d2] => { results := [.lit (.bool false)], args := [d1, d2] }
  | _ => none }
def FigureClassesWrongFalsely : Prop := figureClassesRow.holds Try.pinned (OpenSpec.ofChange figureClassesWrong)

/-- 'tympanlaw05.ChainTells': WHATEVER THE INPUT: true; the input reads as it did. -/
def chainTellsSpec : ChangeSpec := { name := "chainTells", fn := fun _ => fun
  | [d1, d2, d3] => { results := [.lit (.bool true)], args := [d1, d2, d3] }
  | _ => none }
def chainTellsRow : OpenClaim := { program := "ytmanbekgnooocaa", sum := "a500ac6b1e2553abca4b859f5cd7084f3f7eef7e25f13aa3b3dd8bb156fdeca2", func := "tympan/tympanlaw05.ChainTells", spec := "chainTells", apart := false }
def ChainTellsSaid : Prop := chainTellsRow.holds Try.pinned (OpenSpec.ofChange chainTellsSpec)

/-- ITS FALSE NEIGHBOUR: 'it returns false'. Refute it at one input. -/
def chainTellsWrong : ChangeSpec := { name := "chainTells", fn := fun _ => fun
  | [d1, d2, d3] => { results := [.lit (.bool false)], args := [d1, d2, d3] }
  | _ => none }
def ChainTellsWrongFalsely : Prop := chainTellsRow.holds Try.pinned (OpenSpec.ofChange chainTellsWrong)

/-- 'tympanlaw05.ChainGets': WHATEVER THE INPUT: true; the input reads as it did. -/
def chainGetsSpec : ChangeSpec := { name := "chainGets", fn := fun _ => fun
  | [d1, d2] => { results := [.lit (.bool true)], args := [d1, d2] }
  | _ => none }
def chainGetsRow : OpenClaim := { program := "ytmanbekgnooocaa", sum := "a500ac6b1e2553abca4b859f5cd7084f3f7eef7e25f13aa3b3dd8bb156fdeca2", func := "tympan/tympanlaw05.ChainGets", spec := "chainGets", apart := false }
def ChainGetsSaid : Prop := chainGetsRow.holds Try.pinned (OpenSpec.ofChange chainGetsSpec)

/-- ITS FALSE NEIGHBOUR: 'it returns false'. Refute it at one input. -/
def chainGetsWrong : ChangeSpec := { name := "chainGets", fn := fun _ => fun
  | [d1, d2] => { results := [.lit (.bool false)], args := [d1, d2] }
  | _ => none }
def ChainGetsWrongFalsely : Prop := chainGetsRow.holds Try.pinned (OpenSpec.ofChange chainGetsWrong)

/-- 'tympanlaw05.ChainBack': WHATEVER THE INPUT: true; the input reads as it did. -/
def chainBackSpec : ChangeSpec := { name := "chainBack", fn := fun _ => fun
  | [d1, d2, d3] => { results := [.lit (.bool true)], args := [d1, d2, d3] }
  | _ => none }
def chainBackRow : OpenClaim := { program := "ytmanbekgnooocaa", sum := "a500ac6b1e2553abca4b859f5cd7084f3f7eef7e25f13aa3b3dd8bb156fdeca2", func := "tympan/tympanlaw05.ChainBack", spec := "chainBack", apart := false }
def ChainBackSaid : Prop := chainBackRow.holds Try.pinned (OpenSpec.ofChange chainBackSpec)

/-- ITS FALSE NEIGHBOUR: 'it returns false'. Refute it at one input. -/
def chainBackWrong : ChangeSpec := { name := "chainBack", fn := fun _ => fun
  | [d1, d2, d3] => { results := [.lit (.bool false)], args := [d1, d2, d3] }
  | _ => none }
def ChainBackWrongFalsely : Prop := chainBackRow.holds Try.pinned (OpenSpec.ofChange chainBackWrong)

/-- 'tympanlaw13.GeomTells': WHATEVER THE INPUT: true; the input reads as it did. -/
def geomTellsSpec : ChangeSpec := { name := "geomTells", fn := fun _ => fun
  | [d1, d2] => { results := [.lit (.bool true)], args := [d1, d2] }
  | _ => none }
def geomTellsRow : OpenClaim := { program := "ytmanbekgnooocaa", sum := "a500ac6b1e2553abca4b859f5cd7084f3f7eef7e25f13aa3b3dd8bb156fdeca2", func := "tympan/tympanlaw13.GeomTells", spec := "geomTells", unfollowed := true, recurses := true, apart := false }
def GeomTellsSaid : Prop := geomTellsRow.holds Try.pinned (OpenSpec.ofChange geomTellsSpec)

/-- ITS FALSE NEIGHBOUR: 'it returns false'. Refute it at one input. -/
def geomTellsWrong : ChangeSpec := { name := "geomTells", fn := fun _ => fun
  | [d1, d2] => { results := [.lit (.bool false)], args := [d1, d2] }
  | _ => none }
def GeomTellsWrongFalsely : Prop := geomTellsRow.holds Try.pinned (OpenSpec.ofChange geomTellsWrong)

/-- 'tympanlaw13.GeomPlain': WHATEVER THE INPUT: true; the input reads as it did. -/
def geomPlainSpec : ChangeSpec := { name := "geomPlain", fn := fun _ => fun
  | [d1, d2] => { results := [.lit (.bool true)], args := [d1, d2] }
  | _ => none }
def geomPlainRow : OpenClaim := { program := "ytmanbekgnooocaa", sum := "a500ac6b1e2553abca4b859f5cd7084f3f7eef7e25f13aa3b3dd8bb156fdeca2", func := "tympan/tympanlaw13.GeomPlain", spec := "geomPlain", unfollowed := true, recurses := true, apart := false }
def GeomPlainSaid : Prop := geomPlainRow.holds Try.pinned (OpenSpec.ofChange geomPlainSpec)

/-- ITS FALSE NEIGHBOUR: 'it returns false'. Refute it at one input. -/
def geomPlainWrong : ChangeSpec := { name := "geomPlain", fn := fun _ => fun
  | [d1, d2] => { results := [.lit (.bool false)], args := [d1, d2] }
  | _ => none }
def GeomPlainWrongFalsely : Prop := geomPlainRow.holds Try.pinned (OpenSpec.ofChange geomPlainWrong)

/-- 'tympanlaw13.GeomApart': WHATEVER THE INPUT: true; the input reads as it did. -/
def geomApartSpec : ChangeSpec := { name := "geomApart", fn := fun _ => fun
  | [d1, d2] => { results := [.lit (.bool true)], args := [d1, d2] }
  | _ => none }
def geomApartRow : OpenClaim := { program := "ytmanbekgnooocaa", sum := "a500ac6b1e2553abca4b859f5cd7084f3f7eef7e25f13aa3b3dd8bb156fdeca2", func := "tympan/tympanlaw13.GeomApart", spec := "geomApart", unfollowed := true, recurses := true, apart := false }
def GeomApartSaid : Prop := geomApartRow.holds Try.pinned (OpenSpec.ofChange geomApartSpec)

/-- ITS FALSE NEIGHBOUR: 'it returns false'. Refute it at one input. -/
def geomApartWrong : ChangeSpec := { name := "geomApart", fn := fun _ => fun
  | [d1, d2] => { results := [.lit (.bool false)], args := [d1, d2] }
  | _ => none }
def GeomApartWrongFalsely : Prop := geomApartRow.holds Try.pinned (OpenSpec.ofChange geomApartWrong)

/-- 'tympanlaw21.AnchorTells': WHATEVER THE INPUT: true; the input reads as it did. -/
def anchorTellsSpec : ChangeSpec := { name := "anchorTells", fn := fun _ => fun
  | [d1, d2, d3] => { results := [.lit (.bool true)], args := [d1, d2, d3] }
  | _ => none }
def anchorTellsRow : OpenClaim := { program := "ytmanbekgnooocaa", sum := "a500ac6b1e2553abca4b859f5cd7084f3f7eef7e25f13aa3b3dd8bb156fdeca2", func := "tympan/tympanlaw21.AnchorTells", spec := "anchorTells", apart := false }
def AnchorTellsSaid : Prop := anchorTellsRow.holds Try.pinned (OpenSpec.ofChange anchorTellsSpec)

/-- ITS FALSE NEIGHBOUR: 'it returns false'. Refute it at one input. -/
def anchorTellsWrong : ChangeSpec := { name := "anchorTells", fn := fun _ => fun
  | [d1, d2, d3] => { results := [.lit (.bool false)], args := [d1, d2, d3] }
  | _ => none }
def AnchorTellsWrongFalsely : Prop := anchorTellsRow.holds Try.pinned (OpenSpec.ofChange anchorTellsWrong)

/-- 'tympanlaw21.AnchorGrows': WHATEVER THE INPUT: true; the input reads as it did. -/
def anchorGrowsSpec : ChangeSpec := { name := "anchorGrows", fn := fun _ => fun
  | [d1, d2, d3] => { results := [.lit (.bool true)], args := [d1, d2, d3] }
  | _ => none }
def anchorGrowsRow : OpenClaim := { program := "ytmanbekgnooocaa", sum := "a500ac6b1e2553abca4b859f5cd7084f3f7eef7e25f13aa3b3dd8bb156fdeca2", func := "tympan/tympanlaw21.AnchorGrows", spec := "anchorGrows", apart := false }
def AnchorGrowsSaid : Prop := anchorGrowsRow.holds Try.pinned (OpenSpec.ofChange anchorGrowsSpec)

/-- ITS FALSE NEIGHBOUR: 'it returns false'. Refute it at one input. -/
def anchorGrowsWrong : ChangeSpec := { name := "anchorGrows", fn := fun _ => fun
  | [d1, d2, d3] => { results := [.lit (.bool false)], args := [d1, d2, d3] }
  | _ => none }
def AnchorGrowsWrongFalsely : Prop := anchorGrowsRow.holds Try.pinned (OpenSpec.ofChange anchorGrowsWrong)

/-- 'tympanlaw21.AnchorNone': WHATEVER THE INPUT: true; the input reads as it did. -/
def anchorNoneSpec : ChangeSpec := { name := "anchorNone", fn := fun _ => fun
  | [d1, d2] => { results := [.lit (.bool true)], args := [d1, d2] }
  | _ => none }
def anchorNoneRow : OpenClaim := { program := "ytmanbekgnooocaa", sum := "a500ac6b1e2553abca4b859f5cd7084f3f7eef7e25f13aa3b3dd8bb156fdeca2", func := "tympan/tympanlaw21.AnchorNone", spec := "anchorNone", apart := false }
def AnchorNoneSaid : Prop := anchorNoneRow.holds Try.pinned (OpenSpec.ofChange anchorNoneSpec)

/-- ITS FALSE NEIGHBOUR: 'it returns false'. Refute it at one input. -/
def anchorNoneWrong : ChangeSpec := { name := "anchorNone", fn := fun _ => fun
  | [d1, d2] => { results := [.lit (.bool false)], args := [d1, d2] }
  | _ => none }
def AnchorNoneWrongFalsely : Prop := anchorNoneRow.holds Try.pinned (OpenSpec.ofChange anchorNoneWrong)

/- THE SECOND FORM. 'bulk': how many values and letters a reading holds, each counted each time it is reached (what is shared counts as often as it is met; a slice's spare places count too). A statement '..UptoSaid' is the law's where the arguments, and the package variables that the reading takes, are together of bulk at most 1048576: NARROWER than '..Said'. Prove '..Said' where nothing that the law and all that it calls make is longer than what came in: it says more and counts as full. Else prove '..UptoSaid'. A law counts once. -/
mutual
def uptoBulk {H : Type} : DataW H → Nat
  | .lit (.string bytes) => bytes.length + 1
  | .lit _ => 1
  | .nil => 1
  | .ptr d => uptoBulk d + 1
  | .slice elems spare => uptoBulkAll elems + uptoBulkAll spare + 1
  | .agg parts => uptoBulkAll parts + 1
  | .iface _ d => uptoBulk d + 1
  | .map entries => uptoBulkEntries entries + 1
  | .held _ => 1
def uptoBulkAll {H : Type} : List (DataW H) → Nat
  | [] => 0
  | d :: r => uptoBulk d + uptoBulkAll r
def uptoBulkEntries {H : Type} : List (Lit × DataW H) → Nat
  | [] => 0
  | x :: r => uptoBulkEntry x + uptoBulkEntries r
def uptoBulkEntry {H : Type} : Lit × DataW H → Nat
  | (.string bytes, d) => bytes.length + uptoBulk d + 1
  | (_, d) => uptoBulk d + 1
 end
def uptoSmall : (H : Type) → List (DataW H) → Bool := fun _ ds => decide (uptoBulkAll ds ≤ 1048576)
def OpenSpec.upto (s : _root_.Go.ChangeSpec) : _root_.Go.OpenSpec := { _root_.Go.OpenSpec.ofChange s with cond := some uptoSmall }

/-- 'tympanlaw12.FigureTells', WHERE WHAT IT READS IS OF BULK AT MOST 1048576: true; the input reads as it did. -/
def figureTellsUptoRow : OpenClaim := { program := "ytmanbekgnooocaa", sum := "a500ac6b1e2553abca4b859f5cd7084f3f7eef7e25f13aa3b3dd8bb156fdeca2", func := "tympan/tympanlaw12.FigureTells", spec := "figureTells", unfollowed := true, recurses := true, apart := false, narrowed := true }
def FigureTellsUptoSaid : Prop := figureTellsUptoRow.holds Try.pinned (OpenSpec.upto figureTellsSpec)

/-- 'tympanlaw12.FigureHigh', WHERE WHAT IT READS IS OF BULK AT MOST 1048576: true; the input reads as it did. -/
def figureHighUptoRow : OpenClaim := { program := "ytmanbekgnooocaa", sum := "a500ac6b1e2553abca4b859f5cd7084f3f7eef7e25f13aa3b3dd8bb156fdeca2", func := "tympan/tympanlaw12.FigureHigh", spec := "figureHigh", unfollowed := true, recurses := true, apart := false, narrowed := true }
def FigureHighUptoSaid : Prop := figureHighUptoRow.holds Try.pinned (OpenSpec.upto figureHighSpec)

/-- 'tympanlaw12.FigureClasses', WHERE WHAT IT READS IS OF BULK AT MOST 1048576: true; the input reads as it did. -/
def figureClassesUptoRow : OpenClaim := { program := "ytmanbekgnooocaa", sum := "a500ac6b1e2553abca4b859f5cd7084f3f7eef7e25f13aa3b3dd8bb156fdeca2", func := "tympan/tympanlaw12.FigureClasses", spec := "figureClasses", unfollowed := true, recurses := true, apart := false, narrowed := true }
def FigureClassesUptoSaid : Prop := figureClassesUptoRow.holds Try.pinned (OpenSpec.upto figureClassesSpec)

/-- 'tympanlaw05.ChainTells', WHERE WHAT IT READS IS OF BULK AT MOST 1048576: true; the input reads as it did. -/
def chainTellsUptoRow : OpenClaim := { program := "ytmanbekgnooocaa", sum := "a500ac6b1e2553abca4b859f5cd7084f3f7eef7e25f13aa3b3dd8bb156fdeca2", func := "tympan/tympanlaw05.ChainTells", spec := "chainTells", apart := false, narrowed := true }
def ChainTellsUptoSaid : Prop := chainTellsUptoRow.holds Try.pinned (OpenSpec.upto chainTellsSpec)

/-- 'tympanlaw05.ChainGets', WHERE WHAT IT READS IS OF BULK AT MOST 1048576: true; the input reads as it did. -/
def chainGetsUptoRow : OpenClaim := { program := "ytmanbekgnooocaa", sum := "a500ac6b1e2553abca4b859f5cd7084f3f7eef7e25f13aa3b3dd8bb156fdeca2", func := "tympan/tympanlaw05.ChainGets", spec := "chainGets", apart := false, narrowed := true }
def ChainGetsUptoSaid : Prop := chainGetsUptoRow.holds Try.pinned (OpenSpec.upto chainGetsSpec)

/-- 'tympanlaw05.ChainBack', WHERE WHAT IT READS IS OF BULK AT MOST 1048576: true; the input reads as it did. -/
def chainBackUptoRow : OpenClaim := { program := "ytmanbekgnooocaa", sum := "a500ac6b1e2553abca4b859f5cd7084f3f7eef7e25f13aa3b3dd8bb156fdeca2", func := "tympan/tympanlaw05.ChainBack", spec := "chainBack", apart := false, narrowed := true }
def ChainBackUptoSaid : Prop := chainBackUptoRow.holds Try.pinned (OpenSpec.upto chainBackSpec)

/-- 'tympanlaw13.GeomTells', WHERE WHAT IT READS IS OF BULK AT MOST 1048576: true; the input reads as it did. -/
def geomTellsUptoRow : OpenClaim := { program := "ytmanbekgnooocaa", sum := "a500ac6b1e2553abca4b859f5cd7084f3f7eef7e25f13aa3b3dd8bb156fdeca2", func := "tympan/tympanlaw13.GeomTells", spec := "geomTells", unfollowed := true, recurses := true, apart := false, narrowed := true }
def GeomTellsUptoSaid : Prop := geomTellsUptoRow.holds Try.pinned (OpenSpec.upto geomTellsSpec)

/-- 'tympanlaw13.GeomPlain', WHERE WHAT IT READS IS OF BULK AT MOST 1048576: true; the input reads as it did. -/
def geomPlainUptoRow : OpenClaim := { program := "ytmanbekgnooocaa", sum := "a500ac6b1e2553abca4b859f5cd7084f3f7eef7e25f13aa3b3dd8bb156fdeca2", func := "tympan/tympanlaw13.GeomPlain", spec := "geomPlain", unfollowed := true, recurses := true, apart := false, narrowed := true }
def GeomPlainUptoSaid : Prop := geomPlainUptoRow.holds Try.pinned (OpenSpec.upto geomPlainSpec)

/-- 'tympanlaw13.GeomApart', WHERE WHAT IT READS IS OF BULK AT MOST 1048576: true; the input reads as it did. -/
def geomApartUptoRow : OpenClaim := { program := "ytmanbekgnooocaa", sum := "a500ac6b1e2553abca4b859f5cd7084f3f7eef7e25f13aa3b3dd8bb156fdeca2", func := "tympan/tympanlaw13.GeomApart", spec := "geomApart", unfollowed := true, recurses := true, apart := false, narrowed := true }
def GeomApartUptoSaid : Prop := geomApartUptoRow.holds Try.pinned (OpenSpec.upto geomApartSpec)

/-- 'tympanlaw21.AnchorTells', WHERE WHAT IT READS IS OF BULK AT MOST 1048576: true; the input reads as it did. -/
def anchorTellsUptoRow : OpenClaim := { program := "ytmanbekgnooocaa", sum := "a500ac6b1e2553abca4b859f5cd7084f3f7eef7e25f13aa3b3dd8bb156fdeca2", func := "tympan/tympanlaw21.AnchorTells", spec := "anchorTells", apart := false, narrowed := true }
def AnchorTellsUptoSaid : Prop := anchorTellsUptoRow.holds Try.pinned (OpenSpec.upto anchorTellsSpec)

/-- 'tympanlaw21.AnchorGrows', WHERE WHAT IT READS IS OF BULK AT MOST 1048576: true; the input reads as it did. -/
def anchorGrowsUptoRow : OpenClaim := { program := "ytmanbekgnooocaa", sum := "a500ac6b1e2553abca4b859f5cd7084f3f7eef7e25f13aa3b3dd8bb156fdeca2", func := "tympan/tympanlaw21.AnchorGrows", spec := "anchorGrows", apart := false, narrowed := true }
def AnchorGrowsUptoSaid : Prop := anchorGrowsUptoRow.holds Try.pinned (OpenSpec.upto anchorGrowsSpec)

/-- 'tympanlaw21.AnchorNone', WHERE WHAT IT READS IS OF BULK AT MOST 1048576: true; the input reads as it did. -/
def anchorNoneUptoRow : OpenClaim := { program := "ytmanbekgnooocaa", sum := "a500ac6b1e2553abca4b859f5cd7084f3f7eef7e25f13aa3b3dd8bb156fdeca2", func := "tympan/tympanlaw21.AnchorNone", spec := "anchorNone", apart := false, narrowed := true }
def AnchorNoneUptoSaid : Prop := anchorNoneUptoRow.holds Try.pinned (OpenSpec.upto anchorNoneSpec)

end Rows
end Go.Proofs.Ytmanbekgnooocaa
