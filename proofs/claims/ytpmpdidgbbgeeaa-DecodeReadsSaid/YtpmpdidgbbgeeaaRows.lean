/-
  No cell of these rows narrows 'for every input' (looked for: loops, veiled, ifaces, maps, wideKeys, modest, calm, conditions, laid).
  DERIVED. THE GIVEN ROWS OF THIS SEAT. 16 by the template 'for every input the law returns true; each argument reads behind the call as it read before'; 0 by the template 'total and deterministic' (their statements: YtpmpdidgbbgeeaaTotals.lean).
  GIVEN WITH THE SEED: the statements are not yours to turn. If you find one false, say at which input.
  Laid BY PROGRAM, IN A SANDBOX (cutbox-rows.mjs): the forced cells as the released guide's own fill.sh prints them over the translation 567c756acaa0206a… (all of the seat's roots in one cut). By AI agents, Wed Nov 11 2026. No macro, syntax, notation, axiom, sorry.
-/
import Derived.Test.YtpmpdidgbbgeeaaChecked
import GoSem.Claim
import GoSem.ClaimJoined
import GoSem.ClaimMapViews
import Derived.JoinedTies
import Derived.KernelRfl
namespace Go.Proofs.Ytpmpdidgbbgeeaa
/- THE CELL 'sum', in the pinned program and in every row, IS THE sha256 OF THE DUMP (.gsa) THAT YtpmpdidgbbgeeaaProg.lean LOADS. Nothing in Lean hashes anything: it is a label: what it is worth is what the hold of that sum in a sandbox is worth. -/
noncomputable def Try.pinned : Pinned := { name := "ytpmpdidgbbgeeaa", sum := "567c756acaa0206a38cf074896aa45607da2034ec30ba1a39e3988f83d43d480", checked := Try.checked }
namespace Rows
def none {H : Type} : Left H := { results := [], args := [] }

/-- 'tympanlaw39.PressPages': WHATEVER THE INPUT: true; the input reads as it did. -/
def pressPagesSpec : ChangeSpec := { name := "pressPages", fn := fun _ => fun
  | [d] => { results := [.lit (.bool true)], args := [d] }
  | _ => none }
def pressPagesRow : OpenClaim := { program := "ytpmpdidgbbgeeaa", sum := "567c756acaa0206a38cf074896aa45607da2034ec30ba1a39e3988f83d43d480", func := "tympan/tympanlaw39.PressPages", spec := "pressPages", unfollowed := true, recurses := true, apart := false }
def PressPagesSaid : Prop := pressPagesRow.holds Try.pinned (OpenSpec.ofChange pressPagesSpec)

/-- ITS FALSE NEIGHBOUR: 'it returns false'. Refute it at one input. -/
def pressPagesWrong : ChangeSpec := { name := "pressPages", fn := fun _ => fun
  | [d] => { results := [.lit (.bool false)], args := [d] }
  | _ => none }
def PressPagesWrongFalsely : Prop := pressPagesRow.holds Try.pinned (OpenSpec.ofChange pressPagesWrong)

/-- 'tympanlaw39.PressPut': WHATEVER THE INPUT: true; the input reads as it did. -/
def pressPutSpec : ChangeSpec := { name := "pressPut", fn := fun _ => fun
  | [d1, d2] => { results := [.lit (.bool true)], args := [d1, d2] }
  | _ => none }
def pressPutRow : OpenClaim := { program := "ytpmpdidgbbgeeaa", sum := "567c756acaa0206a38cf074896aa45607da2034ec30ba1a39e3988f83d43d480", func := "tympan/tympanlaw39.PressPut", spec := "pressPut", unfollowed := true, recurses := true, apart := false }
def PressPutSaid : Prop := pressPutRow.holds Try.pinned (OpenSpec.ofChange pressPutSpec)

/-- ITS FALSE NEIGHBOUR: 'it returns false'. Refute it at one input. -/
def pressPutWrong : ChangeSpec := { name := "pressPut", fn := fun _ => fun
  | [d1, d2] => { results := [.lit (.bool false)], args := [d1, d2] }
  | _ => none }
def PressPutWrongFalsely : Prop := pressPutRow.holds Try.pinned (OpenSpec.ofChange pressPutWrong)

/-- 'tympanlaw39.PressApart': WHATEVER THE INPUT: true; the input reads as it did. -/
def pressApartSpec : ChangeSpec := { name := "pressApart", fn := fun _ => fun
  | [d1, d2] => { results := [.lit (.bool true)], args := [d1, d2] }
  | _ => none }
def pressApartRow : OpenClaim := { program := "ytpmpdidgbbgeeaa", sum := "567c756acaa0206a38cf074896aa45607da2034ec30ba1a39e3988f83d43d480", func := "tympan/tympanlaw39.PressApart", spec := "pressApart", unfollowed := true, recurses := true, apart := false }
def PressApartSaid : Prop := pressApartRow.holds Try.pinned (OpenSpec.ofChange pressApartSpec)

/-- ITS FALSE NEIGHBOUR: 'it returns false'. Refute it at one input. -/
def pressApartWrong : ChangeSpec := { name := "pressApart", fn := fun _ => fun
  | [d1, d2] => { results := [.lit (.bool false)], args := [d1, d2] }
  | _ => none }
def PressApartWrongFalsely : Prop := pressApartRow.holds Try.pinned (OpenSpec.ofChange pressApartWrong)

/-- 'tympanlaw16.EncodeItems': WHATEVER THE INPUT: true; the input reads as it did. -/
def encodeItemsSpec : ChangeSpec := { name := "encodeItems", fn := fun _ => fun
  | [d] => { results := [.lit (.bool true)], args := [d] }
  | _ => none }
def encodeItemsRow : OpenClaim := { program := "ytpmpdidgbbgeeaa", sum := "567c756acaa0206a38cf074896aa45607da2034ec30ba1a39e3988f83d43d480", func := "tympan/tympanlaw16.EncodeItems", spec := "encodeItems", unfollowed := true, recurses := true, apart := false }
def EncodeItemsSaid : Prop := encodeItemsRow.holds Try.pinned (OpenSpec.ofChange encodeItemsSpec)

/-- ITS FALSE NEIGHBOUR: 'it returns false'. Refute it at one input. -/
def encodeItemsWrong : ChangeSpec := { name := "encodeItems", fn := fun _ => fun
  | [d] => { results := [.lit (.bool false)], args := [d] }
  | _ => none }
def EncodeItemsWrongFalsely : Prop := encodeItemsRow.holds Try.pinned (OpenSpec.ofChange encodeItemsWrong)

/-- 'tympanlaw06.CodecWrites': WHATEVER THE INPUT: true; the input reads as it did. -/
def codecWritesSpec : ChangeSpec := { name := "codecWrites", fn := fun _ => fun
  | [d] => { results := [.lit (.bool true)], args := [d] }
  | _ => none }
def codecWritesRow : OpenClaim := { program := "ytpmpdidgbbgeeaa", sum := "567c756acaa0206a38cf074896aa45607da2034ec30ba1a39e3988f83d43d480", func := "tympan/tympanlaw06.CodecWrites", spec := "codecWrites", unfollowed := true, recurses := true, apart := false }
def CodecWritesSaid : Prop := codecWritesRow.holds Try.pinned (OpenSpec.ofChange codecWritesSpec)

/-- ITS FALSE NEIGHBOUR: 'it returns false'. Refute it at one input. -/
def codecWritesWrong : ChangeSpec := { name := "codecWrites", fn := fun _ => fun
  | [d] => { results := [.lit (.bool false)], args := [d] }
  | _ => none }
def CodecWritesWrongFalsely : Prop := codecWritesRow.holds Try.pinned (OpenSpec.ofChange codecWritesWrong)

/-- 'tympanlaw16.EncodeApart': WHATEVER THE INPUT: true; the input reads as it did. -/
def encodeApartSpec : ChangeSpec := { name := "encodeApart", fn := fun _ => fun
  | [d1, d2] => { results := [.lit (.bool true)], args := [d1, d2] }
  | _ => none }
def encodeApartRow : OpenClaim := { program := "ytpmpdidgbbgeeaa", sum := "567c756acaa0206a38cf074896aa45607da2034ec30ba1a39e3988f83d43d480", func := "tympan/tympanlaw16.EncodeApart", spec := "encodeApart", unfollowed := true, recurses := true, apart := false }
def EncodeApartSaid : Prop := encodeApartRow.holds Try.pinned (OpenSpec.ofChange encodeApartSpec)

/-- ITS FALSE NEIGHBOUR: 'it returns false'. Refute it at one input. -/
def encodeApartWrong : ChangeSpec := { name := "encodeApart", fn := fun _ => fun
  | [d1, d2] => { results := [.lit (.bool false)], args := [d1, d2] }
  | _ => none }
def EncodeApartWrongFalsely : Prop := encodeApartRow.holds Try.pinned (OpenSpec.ofChange encodeApartWrong)

/-- 'tympanlaw16.EncodeJobs': WHATEVER THE INPUT: true; the input reads as it did. -/
def encodeJobsSpec : ChangeSpec := { name := "encodeJobs", fn := fun _ => fun
  | [d] => { results := [.lit (.bool true)], args := [d] }
  | _ => none }
def encodeJobsRow : OpenClaim := { program := "ytpmpdidgbbgeeaa", sum := "567c756acaa0206a38cf074896aa45607da2034ec30ba1a39e3988f83d43d480", func := "tympan/tympanlaw16.EncodeJobs", spec := "encodeJobs", unfollowed := true, recurses := true, apart := false }
def EncodeJobsSaid : Prop := encodeJobsRow.holds Try.pinned (OpenSpec.ofChange encodeJobsSpec)

/-- ITS FALSE NEIGHBOUR: 'it returns false'. Refute it at one input. -/
def encodeJobsWrong : ChangeSpec := { name := "encodeJobs", fn := fun _ => fun
  | [d] => { results := [.lit (.bool false)], args := [d] }
  | _ => none }
def EncodeJobsWrongFalsely : Prop := encodeJobsRow.holds Try.pinned (OpenSpec.ofChange encodeJobsWrong)

/-- 'tympanlaw06.CodecReads': WHATEVER THE INPUT: true; the input reads as it did. -/
def codecReadsSpec : ChangeSpec := { name := "codecReads", fn := fun _ => fun
  | [d1, d2] => { results := [.lit (.bool true)], args := [d1, d2] }
  | _ => none }
def codecReadsRow : OpenClaim := { program := "ytpmpdidgbbgeeaa", sum := "567c756acaa0206a38cf074896aa45607da2034ec30ba1a39e3988f83d43d480", func := "tympan/tympanlaw06.CodecReads", spec := "codecReads", unfollowed := true, recurses := true, apart := false }
def CodecReadsSaid : Prop := codecReadsRow.holds Try.pinned (OpenSpec.ofChange codecReadsSpec)

/-- ITS FALSE NEIGHBOUR: 'it returns false'. Refute it at one input. -/
def codecReadsWrong : ChangeSpec := { name := "codecReads", fn := fun _ => fun
  | [d1, d2] => { results := [.lit (.bool false)], args := [d1, d2] }
  | _ => none }
def CodecReadsWrongFalsely : Prop := codecReadsRow.holds Try.pinned (OpenSpec.ofChange codecReadsWrong)

/-- 'tympanlaw40.ProofReads': WHATEVER THE INPUT: true; the input reads as it did. -/
def proofReadsSpec : ChangeSpec := { name := "proofReads", fn := fun _ => fun
  | [d] => { results := [.lit (.bool true)], args := [d] }
  | _ => none }
def proofReadsRow : OpenClaim := { program := "ytpmpdidgbbgeeaa", sum := "567c756acaa0206a38cf074896aa45607da2034ec30ba1a39e3988f83d43d480", func := "tympan/tympanlaw40.ProofReads", spec := "proofReads", unfollowed := true, recurses := true, apart := false }
def ProofReadsSaid : Prop := proofReadsRow.holds Try.pinned (OpenSpec.ofChange proofReadsSpec)

/-- ITS FALSE NEIGHBOUR: 'it returns false'. Refute it at one input. -/
def proofReadsWrong : ChangeSpec := { name := "proofReads", fn := fun _ => fun
  | [d] => { results := [.lit (.bool false)], args := [d] }
  | _ => none }
def ProofReadsWrongFalsely : Prop := proofReadsRow.holds Try.pinned (OpenSpec.ofChange proofReadsWrong)

/-- 'tympanlaw06.CodecBack': WHATEVER THE INPUT: true; the input reads as it did. -/
def codecBackSpec : ChangeSpec := { name := "codecBack", fn := fun _ => fun
  | [d] => { results := [.lit (.bool true)], args := [d] }
  | _ => none }
def codecBackRow : OpenClaim := { program := "ytpmpdidgbbgeeaa", sum := "567c756acaa0206a38cf074896aa45607da2034ec30ba1a39e3988f83d43d480", func := "tympan/tympanlaw06.CodecBack", spec := "codecBack", unfollowed := true, recurses := true, apart := false }
def CodecBackSaid : Prop := codecBackRow.holds Try.pinned (OpenSpec.ofChange codecBackSpec)

/-- ITS FALSE NEIGHBOUR: 'it returns false'. Refute it at one input. -/
def codecBackWrong : ChangeSpec := { name := "codecBack", fn := fun _ => fun
  | [d] => { results := [.lit (.bool false)], args := [d] }
  | _ => none }
def CodecBackWrongFalsely : Prop := codecBackRow.holds Try.pinned (OpenSpec.ofChange codecBackWrong)

/-- 'tympanlaw06.CodecNone': WHATEVER THE INPUT: true; the input reads as it did. -/
def codecNoneSpec : ChangeSpec := { name := "codecNone", fn := fun _ => fun
  | [d1, d2] => { results := [.lit (.bool true)], args := [d1, d2] }
  | _ => none }
def codecNoneRow : OpenClaim := { program := "ytpmpdidgbbgeeaa", sum := "567c756acaa0206a38cf074896aa45607da2034ec30ba1a39e3988f83d43d480", func := "tympan/tympanlaw06.CodecNone", spec := "codecNone", unfollowed := true, recurses := true, apart := false }
def CodecNoneSaid : Prop := codecNoneRow.holds Try.pinned (OpenSpec.ofChange codecNoneSpec)

/-- ITS FALSE NEIGHBOUR: 'it returns false'. Refute it at one input. -/
def codecNoneWrong : ChangeSpec := { name := "codecNone", fn := fun _ => fun
  | [d1, d2] => { results := [.lit (.bool false)], args := [d1, d2] }
  | _ => none }
def CodecNoneWrongFalsely : Prop := codecNoneRow.holds Try.pinned (OpenSpec.ofChange codecNoneWrong)

/-- 'tympanlaw40.ProofBack': WHATEVER THE INPUT: true; the input reads as it did. -/
def proofBackSpec : ChangeSpec := { name := "proofBack", fn := fun _ => fun
  | [d1, d2] => { results := [.lit (.bool true)], args := [d1, d2] }
  | _ => none }
def proofBackRow : OpenClaim := { program := "ytpmpdidgbbgeeaa", sum := "567c756acaa0206a38cf074896aa45607da2034ec30ba1a39e3988f83d43d480", func := "tympan/tympanlaw40.ProofBack", spec := "proofBack", unfollowed := true, recurses := true, apart := false }
def ProofBackSaid : Prop := proofBackRow.holds Try.pinned (OpenSpec.ofChange proofBackSpec)

/-- ITS FALSE NEIGHBOUR: 'it returns false'. Refute it at one input. -/
def proofBackWrong : ChangeSpec := { name := "proofBack", fn := fun _ => fun
  | [d1, d2] => { results := [.lit (.bool false)], args := [d1, d2] }
  | _ => none }
def ProofBackWrongFalsely : Prop := proofBackRow.holds Try.pinned (OpenSpec.ofChange proofBackWrong)

/-- 'tympanlaw40.ProofCut': WHATEVER THE INPUT: true; the input reads as it did. -/
def proofCutSpec : ChangeSpec := { name := "proofCut", fn := fun _ => fun
  | [d1, d2, d3] => { results := [.lit (.bool true)], args := [d1, d2, d3] }
  | _ => none }
def proofCutRow : OpenClaim := { program := "ytpmpdidgbbgeeaa", sum := "567c756acaa0206a38cf074896aa45607da2034ec30ba1a39e3988f83d43d480", func := "tympan/tympanlaw40.ProofCut", spec := "proofCut", unfollowed := true, recurses := true, apart := false }
def ProofCutSaid : Prop := proofCutRow.holds Try.pinned (OpenSpec.ofChange proofCutSpec)

/-- ITS FALSE NEIGHBOUR: 'it returns false'. Refute it at one input. -/
def proofCutWrong : ChangeSpec := { name := "proofCut", fn := fun _ => fun
  | [d1, d2, d3] => { results := [.lit (.bool false)], args := [d1, d2, d3] }
  | _ => none }
def ProofCutWrongFalsely : Prop := proofCutRow.holds Try.pinned (OpenSpec.ofChange proofCutWrong)

/-- 'tympanlaw17.DecodeReads': WHATEVER THE INPUT: true; the input reads as it did. -/
def decodeReadsSpec : ChangeSpec := { name := "decodeReads", fn := fun _ => fun
  | [d] => { results := [.lit (.bool true)], args := [d] }
  | _ => none }
def decodeReadsRow : OpenClaim := { program := "ytpmpdidgbbgeeaa", sum := "567c756acaa0206a38cf074896aa45607da2034ec30ba1a39e3988f83d43d480", func := "tympan/tympanlaw17.DecodeReads", spec := "decodeReads", unfollowed := true, recurses := true, apart := false }
def DecodeReadsSaid : Prop := decodeReadsRow.holds Try.pinned (OpenSpec.ofChange decodeReadsSpec)

/-- ITS FALSE NEIGHBOUR: 'it returns false'. Refute it at one input. -/
def decodeReadsWrong : ChangeSpec := { name := "decodeReads", fn := fun _ => fun
  | [d] => { results := [.lit (.bool false)], args := [d] }
  | _ => none }
def DecodeReadsWrongFalsely : Prop := decodeReadsRow.holds Try.pinned (OpenSpec.ofChange decodeReadsWrong)

/-- 'tympanlaw17.DecodeBack': WHATEVER THE INPUT: true; the input reads as it did. -/
def decodeBackSpec : ChangeSpec := { name := "decodeBack", fn := fun _ => fun
  | [d1, d2] => { results := [.lit (.bool true)], args := [d1, d2] }
  | _ => none }
def decodeBackRow : OpenClaim := { program := "ytpmpdidgbbgeeaa", sum := "567c756acaa0206a38cf074896aa45607da2034ec30ba1a39e3988f83d43d480", func := "tympan/tympanlaw17.DecodeBack", spec := "decodeBack", unfollowed := true, recurses := true, apart := false }
def DecodeBackSaid : Prop := decodeBackRow.holds Try.pinned (OpenSpec.ofChange decodeBackSpec)

/-- ITS FALSE NEIGHBOUR: 'it returns false'. Refute it at one input. -/
def decodeBackWrong : ChangeSpec := { name := "decodeBack", fn := fun _ => fun
  | [d1, d2] => { results := [.lit (.bool false)], args := [d1, d2] }
  | _ => none }
def DecodeBackWrongFalsely : Prop := decodeBackRow.holds Try.pinned (OpenSpec.ofChange decodeBackWrong)

/-- 'tympanlaw17.DecodeCut': WHATEVER THE INPUT: true; the input reads as it did. -/
def decodeCutSpec : ChangeSpec := { name := "decodeCut", fn := fun _ => fun
  | [d1, d2, d3] => { results := [.lit (.bool true)], args := [d1, d2, d3] }
  | _ => none }
def decodeCutRow : OpenClaim := { program := "ytpmpdidgbbgeeaa", sum := "567c756acaa0206a38cf074896aa45607da2034ec30ba1a39e3988f83d43d480", func := "tympan/tympanlaw17.DecodeCut", spec := "decodeCut", unfollowed := true, recurses := true, apart := false }
def DecodeCutSaid : Prop := decodeCutRow.holds Try.pinned (OpenSpec.ofChange decodeCutSpec)

/-- ITS FALSE NEIGHBOUR: 'it returns false'. Refute it at one input. -/
def decodeCutWrong : ChangeSpec := { name := "decodeCut", fn := fun _ => fun
  | [d1, d2, d3] => { results := [.lit (.bool false)], args := [d1, d2, d3] }
  | _ => none }
def DecodeCutWrongFalsely : Prop := decodeCutRow.holds Try.pinned (OpenSpec.ofChange decodeCutWrong)

/- THE SECOND FORM. 'bulk': how many values and letters a reading holds, each counted each time it is reached (what is shared counts as often as it is met; a slice's spare places count too). A statement '..UptoSaid' is the law's where the arguments, and the package variables that the reading takes, are together of bulk at most 1048576: NARROWER than '..Said'. Prove '..Said' where nothing that the law and all that it calls make is longer than what came in: it says more and counts as full. Else prove '..UptoSaid'. A law counts once. -/
mutual
def uptoBulk {H : Type} : DataW H → Nat
  | .lit (.string bytes) => bytes.length + 1
  | .lit _ => 1
  | .nil => 1
  | .ptr d => uptoBulk d + 1
  | .slice elems spare => uptoBulkAll elems + uptoBulkAll spare + 1
  | .agg parts => uptoBulkAll parts + 1
  | .iface _ d => uptoBulk d + 1
  | .map entries => uptoBulkEntries entries + 1
  | .held _ => 1
def uptoBulkAll {H : Type} : List (DataW H) → Nat
  | [] => 0
  | d :: r => uptoBulk d + uptoBulkAll r
def uptoBulkEntries {H : Type} : List (Lit × DataW H) → Nat
  | [] => 0
  | x :: r => uptoBulkEntry x + uptoBulkEntries r
def uptoBulkEntry {H : Type} : Lit × DataW H → Nat
  | (.string bytes, d) => bytes.length + uptoBulk d + 1
  | (_, d) => uptoBulk d + 1
 end
def uptoSmall : (H : Type) → List (DataW H) → Bool := fun _ ds => decide (uptoBulkAll ds ≤ 1048576)
def OpenSpec.upto (s : _root_.Go.ChangeSpec) : _root_.Go.OpenSpec := { _root_.Go.OpenSpec.ofChange s with cond := some uptoSmall }

/-- 'tympanlaw39.PressPages', WHERE WHAT IT READS IS OF BULK AT MOST 1048576: true; the input reads as it did. -/
def pressPagesUptoRow : OpenClaim := { program := "ytpmpdidgbbgeeaa", sum := "567c756acaa0206a38cf074896aa45607da2034ec30ba1a39e3988f83d43d480", func := "tympan/tympanlaw39.PressPages", spec := "pressPages", unfollowed := true, recurses := true, apart := false, narrowed := true }
def PressPagesUptoSaid : Prop := pressPagesUptoRow.holds Try.pinned (OpenSpec.upto pressPagesSpec)

/-- 'tympanlaw39.PressPut', WHERE WHAT IT READS IS OF BULK AT MOST 1048576: true; the input reads as it did. -/
def pressPutUptoRow : OpenClaim := { program := "ytpmpdidgbbgeeaa", sum := "567c756acaa0206a38cf074896aa45607da2034ec30ba1a39e3988f83d43d480", func := "tympan/tympanlaw39.PressPut", spec := "pressPut", unfollowed := true, recurses := true, apart := false, narrowed := true }
def PressPutUptoSaid : Prop := pressPutUptoRow.holds Try.pinned (OpenSpec.upto pressPutSpec)

/-- 'tympanlaw39.PressApart', WHERE WHAT IT READS IS OF BULK AT MOST 1048576: true; the input reads as it did. -/
def pressApartUptoRow : OpenClaim := { program := "ytpmpdidgbbgeeaa", sum := "567c756acaa0206a38cf074896aa45607da2034ec30ba1a39e3988f83d43d480", func := "tympan/tympanlaw39.PressApart", spec := "pressApart", unfollowed := true, recurses := true, apart := false, narrowed := true }
def PressApartUptoSaid : Prop := pressApartUptoRow.holds Try.pinned (OpenSpec.upto pressApartSpec)

/-- 'tympanlaw16.EncodeItems', WHERE WHAT IT READS IS OF BULK AT MOST 1048576: true; the input reads as it did. -/
def encodeItemsUptoRow : OpenClaim := { program := "ytpmpdidgbbgeeaa", sum := "567c756acaa0206a38cf074896aa45607da2034ec30ba1a39e3988f83d43d480", func := "tympan/tympanlaw16.EncodeItems", spec := "encodeItems", unfollowed := true, recurses := true, apart := false, narrowed := true }
def EncodeItemsUptoSaid : Prop := encodeItemsUptoRow.holds Try.pinned (OpenSpec.upto encodeItemsSpec)

/-- 'tympanlaw06.CodecWrites', WHERE WHAT IT READS IS OF BULK AT MOST 1048576: true; the input reads as it did. -/
def codecWritesUptoRow : OpenClaim := { program := "ytpmpdidgbbgeeaa", sum := "567c756acaa0206a38cf074896aa45607da2034ec30ba1a39e3988f83d43d480", func := "tympan/tympanlaw06.CodecWrites", spec := "codecWrites", unfollowed := true, recurses := true, apart := false, narrowed := true }
def CodecWritesUptoSaid : Prop := codecWritesUptoRow.holds Try.pinned (OpenSpec.upto codecWritesSpec)

/-- 'tympanlaw16.EncodeApart', WHERE WHAT IT READS IS OF BULK AT MOST 1048576: true; the input reads as it did. -/
def encodeApartUptoRow : OpenClaim := { program := "ytpmpdidgbbgeeaa", sum := "567c756acaa0206a38cf074896aa45607da2034ec30ba1a39e3988f83d43d480", func := "tympan/tympanlaw16.EncodeApart", spec := "encodeApart", unfollowed := true, recurses := true, apart := false, narrowed := true }
def EncodeApartUptoSaid : Prop := encodeApartUptoRow.holds Try.pinned (OpenSpec.upto encodeApartSpec)

/-- 'tympanlaw16.EncodeJobs', WHERE WHAT IT READS IS OF BULK AT MOST 1048576: true; the input reads as it did. -/
def encodeJobsUptoRow : OpenClaim := { program := "ytpmpdidgbbgeeaa", sum := "567c756acaa0206a38cf074896aa45607da2034ec30ba1a39e3988f83d43d480", func := "tympan/tympanlaw16.EncodeJobs", spec := "encodeJobs", unfollowed := true, recurses := true, apart := false, narrowed := true }
def EncodeJobsUptoSaid : Prop := encodeJobsUptoRow.holds Try.pinned (OpenSpec.upto encodeJobsSpec)

/-- 'tympanlaw06.CodecReads', WHERE WHAT IT READS IS OF BULK AT MOST 1048576: true; the input reads as it did. -/
def codecReadsUptoRow : OpenClaim := { program := "ytpmpdidgbbgeeaa", sum := "567c756acaa0206a38cf074896aa45607da2034ec30ba1a39e3988f83d43d480", func := "tympan/tympanlaw06.CodecReads", spec := "codecReads", unfollowed := true, recurses := true, apart := false, narrowed := true }
def CodecReadsUptoSaid : Prop := codecReadsUptoRow.holds Try.pinned (OpenSpec.upto codecReadsSpec)

/-- 'tympanlaw40.ProofReads', WHERE WHAT IT READS IS OF BULK AT MOST 1048576: true; the input reads as it did. -/
def proofReadsUptoRow : OpenClaim := { program := "ytpmpdidgbbgeeaa", sum := "567c756acaa0206a38cf074896aa45607da2034ec30ba1a39e3988f83d43d480", func := "tympan/tympanlaw40.ProofReads", spec := "proofReads", unfollowed := true, recurses := true, apart := false, narrowed := true }
def ProofReadsUptoSaid : Prop := proofReadsUptoRow.holds Try.pinned (OpenSpec.upto proofReadsSpec)

/-- 'tympanlaw06.CodecBack', WHERE WHAT IT READS IS OF BULK AT MOST 1048576: true; the input reads as it did. -/
def codecBackUptoRow : OpenClaim := { program := "ytpmpdidgbbgeeaa", sum := "567c756acaa0206a38cf074896aa45607da2034ec30ba1a39e3988f83d43d480", func := "tympan/tympanlaw06.CodecBack", spec := "codecBack", unfollowed := true, recurses := true, apart := false, narrowed := true }
def CodecBackUptoSaid : Prop := codecBackUptoRow.holds Try.pinned (OpenSpec.upto codecBackSpec)

/-- 'tympanlaw06.CodecNone', WHERE WHAT IT READS IS OF BULK AT MOST 1048576: true; the input reads as it did. -/
def codecNoneUptoRow : OpenClaim := { program := "ytpmpdidgbbgeeaa", sum := "567c756acaa0206a38cf074896aa45607da2034ec30ba1a39e3988f83d43d480", func := "tympan/tympanlaw06.CodecNone", spec := "codecNone", unfollowed := true, recurses := true, apart := false, narrowed := true }
def CodecNoneUptoSaid : Prop := codecNoneUptoRow.holds Try.pinned (OpenSpec.upto codecNoneSpec)

/-- 'tympanlaw40.ProofBack', WHERE WHAT IT READS IS OF BULK AT MOST 1048576: true; the input reads as it did. -/
def proofBackUptoRow : OpenClaim := { program := "ytpmpdidgbbgeeaa", sum := "567c756acaa0206a38cf074896aa45607da2034ec30ba1a39e3988f83d43d480", func := "tympan/tympanlaw40.ProofBack", spec := "proofBack", unfollowed := true, recurses := true, apart := false, narrowed := true }
def ProofBackUptoSaid : Prop := proofBackUptoRow.holds Try.pinned (OpenSpec.upto proofBackSpec)

/-- 'tympanlaw40.ProofCut', WHERE WHAT IT READS IS OF BULK AT MOST 1048576: true; the input reads as it did. -/
def proofCutUptoRow : OpenClaim := { program := "ytpmpdidgbbgeeaa", sum := "567c756acaa0206a38cf074896aa45607da2034ec30ba1a39e3988f83d43d480", func := "tympan/tympanlaw40.ProofCut", spec := "proofCut", unfollowed := true, recurses := true, apart := false, narrowed := true }
def ProofCutUptoSaid : Prop := proofCutUptoRow.holds Try.pinned (OpenSpec.upto proofCutSpec)

/-- 'tympanlaw17.DecodeReads', WHERE WHAT IT READS IS OF BULK AT MOST 1048576: true; the input reads as it did. -/
def decodeReadsUptoRow : OpenClaim := { program := "ytpmpdidgbbgeeaa", sum := "567c756acaa0206a38cf074896aa45607da2034ec30ba1a39e3988f83d43d480", func := "tympan/tympanlaw17.DecodeReads", spec := "decodeReads", unfollowed := true, recurses := true, apart := false, narrowed := true }
def DecodeReadsUptoSaid : Prop := decodeReadsUptoRow.holds Try.pinned (OpenSpec.upto decodeReadsSpec)

/-- 'tympanlaw17.DecodeBack', WHERE WHAT IT READS IS OF BULK AT MOST 1048576: true; the input reads as it did. -/
def decodeBackUptoRow : OpenClaim := { program := "ytpmpdidgbbgeeaa", sum := "567c756acaa0206a38cf074896aa45607da2034ec30ba1a39e3988f83d43d480", func := "tympan/tympanlaw17.DecodeBack", spec := "decodeBack", unfollowed := true, recurses := true, apart := false, narrowed := true }
def DecodeBackUptoSaid : Prop := decodeBackUptoRow.holds Try.pinned (OpenSpec.upto decodeBackSpec)

/-- 'tympanlaw17.DecodeCut', WHERE WHAT IT READS IS OF BULK AT MOST 1048576: true; the input reads as it did. -/
def decodeCutUptoRow : OpenClaim := { program := "ytpmpdidgbbgeeaa", sum := "567c756acaa0206a38cf074896aa45607da2034ec30ba1a39e3988f83d43d480", func := "tympan/tympanlaw17.DecodeCut", spec := "decodeCut", unfollowed := true, recurses := true, apart := false, narrowed := true }
def DecodeCutUptoSaid : Prop := decodeCutUptoRow.holds Try.pinned (OpenSpec.upto decodeCutSpec)

end Rows
end Go.Proofs.Ytpmpdidgbbgeeaa
