/-
  No cell of these rows narrows 'for every input' (looked for: loops, veiled, ifaces, maps, wideKeys, modest, calm, conditions, laid).
  DERIVED. THE GIVEN ROWS OF THIS SEAT. 11 by the template 'for every input the law returns true; each argument reads behind the call as it read before'; 0 by the template 'total and deterministic' (their statements: YtpjmbdoidibckaaTotals.lean).
  GIVEN WITH THE SEED: the statements are not yours to turn. If you find one false, say at which input.
  Laid BY PROGRAM, IN A SANDBOX (cutbox-rows.mjs): the forced cells as the released guide's own fill.sh prints them over the translation 072fca1983be2ded… (all of the seat's roots in one cut). By AI agents, Wed Nov 11 2026. No macro, syntax, notation, axiom, sorry.
-/
import Derived.Test.YtpjmbdoidibckaaChecked
import GoSem.Claim
import GoSem.ClaimJoined
import GoSem.ClaimMapViews
import Derived.JoinedTies
import Derived.KernelRfl
namespace Go.Proofs.Ytpjmbdoidibckaa
/- THE CELL 'sum', in the pinned program and in every row, IS THE sha256 OF THE DUMP (.gsa) THAT YtpjmbdoidibckaaProg.lean LOADS. Nothing in Lean hashes anything: it is a label: what it is worth is what the hold of that sum in a sandbox is worth. -/
noncomputable def Try.pinned : Pinned := { name := "ytpjmbdoidibckaa", sum := "072fca1983be2ded8d6c9d0a690d83c011ac10a79f9967d5231c240963dafffd", checked := Try.checked }
namespace Rows
def none {H : Type} : Left H := { results := [], args := [] }

/-- 'incunabletop.TopCodes': WHATEVER THE INPUT: true; the input reads as it did. -/
def topCodesSpec : ChangeSpec := { name := "topCodes", fn := fun _ => fun
  | [d1, d2] => { results := [.lit (.bool true)], args := [d1, d2] }
  | _ => none }
def topCodesRow : OpenClaim := { program := "ytpjmbdoidibckaa", sum := "072fca1983be2ded8d6c9d0a690d83c011ac10a79f9967d5231c240963dafffd", func := "incunable/incunabletop.TopCodes", spec := "topCodes", plainKeys := false, apart := false }
def TopCodesSaid : Prop := topCodesRow.holds Try.pinned (OpenSpec.ofChange topCodesSpec)

/-- ITS FALSE NEIGHBOUR: 'it returns false'. Refute it at one input. -/
def topCodesWrong : ChangeSpec := { name := "topCodes", fn := fun _ => fun
  | [d1, d2] => { results := [.lit (.bool false)], args := [d1, d2] }
  | _ => none }
def TopCodesWrongFalsely : Prop := topCodesRow.holds Try.pinned (OpenSpec.ofChange topCodesWrong)

/-- 'incunabletop.TopPrefix': WHATEVER THE INPUT: true; the input reads as it did. -/
def topPrefixSpec : ChangeSpec := { name := "topPrefix", fn := fun _ => fun
  | [d] => { results := [.lit (.bool true)], args := [d] }
  | _ => none }
def topPrefixRow : OpenClaim := { program := "ytpjmbdoidibckaa", sum := "072fca1983be2ded8d6c9d0a690d83c011ac10a79f9967d5231c240963dafffd", func := "incunable/incunabletop.TopPrefix", spec := "topPrefix", unfollowed := true, recurses := true, plainKeys := false, apart := false }
def TopPrefixSaid : Prop := topPrefixRow.holds Try.pinned (OpenSpec.ofChange topPrefixSpec)

/-- ITS FALSE NEIGHBOUR: 'it returns false'. Refute it at one input. -/
def topPrefixWrong : ChangeSpec := { name := "topPrefix", fn := fun _ => fun
  | [d] => { results := [.lit (.bool false)], args := [d] }
  | _ => none }
def TopPrefixWrongFalsely : Prop := topPrefixRow.holds Try.pinned (OpenSpec.ofChange topPrefixWrong)

/-- 'incunablelaw03.NumberEncodes': WHATEVER THE INPUT: true; the input reads as it did. -/
def numberEncodesSpec : ChangeSpec := { name := "numberEncodes", fn := fun _ => fun
  | [d1, d2, d3] => { results := [.lit (.bool true)], args := [d1, d2, d3] }
  | _ => none }
def numberEncodesRow : OpenClaim := { program := "ytpjmbdoidibckaa", sum := "072fca1983be2ded8d6c9d0a690d83c011ac10a79f9967d5231c240963dafffd", func := "incunable/incunablelaw03.NumberEncodes", spec := "numberEncodes", plainKeys := false, apart := false }
def NumberEncodesSaid : Prop := numberEncodesRow.holds Try.pinned (OpenSpec.ofChange numberEncodesSpec)

/-- ITS FALSE NEIGHBOUR: 'it returns false'. Refute it at one input. -/
def numberEncodesWrong : ChangeSpec := { name := "numberEncodes", fn := fun _ => fun
  | [d1, d2, d3] => { results := [.lit (.bool false)], args := [d1, d2, d3] }
  | _ => none }
def NumberEncodesWrongFalsely : Prop := numberEncodesRow.holds Try.pinned (OpenSpec.ofChange numberEncodesWrong)

/-- 'incunablelaw23.SortSuffixes': WHATEVER THE INPUT: true; the input reads as it did. -/
def sortSuffixesSpec : ChangeSpec := { name := "sortSuffixes", fn := fun _ => fun
  | [d] => { results := [.lit (.bool true)], args := [d] }
  | _ => none }
def sortSuffixesRow : OpenClaim := { program := "ytpjmbdoidibckaa", sum := "072fca1983be2ded8d6c9d0a690d83c011ac10a79f9967d5231c240963dafffd", func := "incunable/incunablelaw23.SortSuffixes", spec := "sortSuffixes", inPlace := ["internal/bytealg.Compare"], unfollowed := true, recurses := true, plainKeys := false, apart := false }
def SortSuffixesSaid : Prop := sortSuffixesRow.holds Try.pinned (OpenSpec.ofChange sortSuffixesSpec)

/-- ITS FALSE NEIGHBOUR: 'it returns false'. Refute it at one input. -/
def sortSuffixesWrong : ChangeSpec := { name := "sortSuffixes", fn := fun _ => fun
  | [d] => { results := [.lit (.bool false)], args := [d] }
  | _ => none }
def SortSuffixesWrongFalsely : Prop := sortSuffixesRow.holds Try.pinned (OpenSpec.ofChange sortSuffixesWrong)

/-- 'incunablelaw08.RefineOptions': WHATEVER THE INPUT: true; the input reads as it did. -/
def refineOptionsSpec : ChangeSpec := { name := "refineOptions", fn := fun _ => fun
  | [d] => { results := [.lit (.bool true)], args := [d] }
  | _ => none }
def refineOptionsRow : OpenClaim := { program := "ytpjmbdoidibckaa", sum := "072fca1983be2ded8d6c9d0a690d83c011ac10a79f9967d5231c240963dafffd", func := "incunable/incunablelaw08.RefineOptions", spec := "refineOptions", plainKeys := false, apart := false }
def RefineOptionsSaid : Prop := refineOptionsRow.holds Try.pinned (OpenSpec.ofChange refineOptionsSpec)

/-- ITS FALSE NEIGHBOUR: 'it returns false'. Refute it at one input. -/
def refineOptionsWrong : ChangeSpec := { name := "refineOptions", fn := fun _ => fun
  | [d] => { results := [.lit (.bool false)], args := [d] }
  | _ => none }
def RefineOptionsWrongFalsely : Prop := refineOptionsRow.holds Try.pinned (OpenSpec.ofChange refineOptionsWrong)

/-- 'incunablelaw08.RefineEncodes': WHATEVER THE INPUT: true; the input reads as it did. -/
def refineEncodesSpec : ChangeSpec := { name := "refineEncodes", fn := fun _ => fun
  | [d1, d2, d3] => { results := [.lit (.bool true)], args := [d1, d2, d3] }
  | _ => none }
def refineEncodesRow : OpenClaim := { program := "ytpjmbdoidibckaa", sum := "072fca1983be2ded8d6c9d0a690d83c011ac10a79f9967d5231c240963dafffd", func := "incunable/incunablelaw08.RefineEncodes", spec := "refineEncodes", plainKeys := false, apart := false }
def RefineEncodesSaid : Prop := refineEncodesRow.holds Try.pinned (OpenSpec.ofChange refineEncodesSpec)

/-- ITS FALSE NEIGHBOUR: 'it returns false'. Refute it at one input. -/
def refineEncodesWrong : ChangeSpec := { name := "refineEncodes", fn := fun _ => fun
  | [d1, d2, d3] => { results := [.lit (.bool false)], args := [d1, d2, d3] }
  | _ => none }
def RefineEncodesWrongFalsely : Prop := refineEncodesRow.holds Try.pinned (OpenSpec.ofChange refineEncodesWrong)

/-- 'incunablelaw08.RefineDecodes': WHATEVER THE INPUT: true; the input reads as it did. -/
def refineDecodesSpec : ChangeSpec := { name := "refineDecodes", fn := fun _ => fun
  | [d1, d2, d3, d4, d5] => { results := [.lit (.bool true)], args := [d1, d2, d3, d4, d5] }
  | _ => none }
def refineDecodesRow : OpenClaim := { program := "ytpjmbdoidibckaa", sum := "072fca1983be2ded8d6c9d0a690d83c011ac10a79f9967d5231c240963dafffd", func := "incunable/incunablelaw08.RefineDecodes", spec := "refineDecodes", plainKeys := false, apart := false }
def RefineDecodesSaid : Prop := refineDecodesRow.holds Try.pinned (OpenSpec.ofChange refineDecodesSpec)

/-- ITS FALSE NEIGHBOUR: 'it returns false'. Refute it at one input. -/
def refineDecodesWrong : ChangeSpec := { name := "refineDecodes", fn := fun _ => fun
  | [d1, d2, d3, d4, d5] => { results := [.lit (.bool false)], args := [d1, d2, d3, d4, d5] }
  | _ => none }
def RefineDecodesWrongFalsely : Prop := refineDecodesRow.holds Try.pinned (OpenSpec.ofChange refineDecodesWrong)

/-- 'incunablelaw08.RefineBack': WHATEVER THE INPUT: true; the input reads as it did. -/
def refineBackSpec : ChangeSpec := { name := "refineBack", fn := fun _ => fun
  | [d1, d2, d3] => { results := [.lit (.bool true)], args := [d1, d2, d3] }
  | _ => none }
def refineBackRow : OpenClaim := { program := "ytpjmbdoidibckaa", sum := "072fca1983be2ded8d6c9d0a690d83c011ac10a79f9967d5231c240963dafffd", func := "incunable/incunablelaw08.RefineBack", spec := "refineBack", plainKeys := false, apart := false }
def RefineBackSaid : Prop := refineBackRow.holds Try.pinned (OpenSpec.ofChange refineBackSpec)

/-- ITS FALSE NEIGHBOUR: 'it returns false'. Refute it at one input. -/
def refineBackWrong : ChangeSpec := { name := "refineBack", fn := fun _ => fun
  | [d1, d2, d3] => { results := [.lit (.bool false)], args := [d1, d2, d3] }
  | _ => none }
def RefineBackWrongFalsely : Prop := refineBackRow.holds Try.pinned (OpenSpec.ofChange refineBackWrong)

/-- 'incunablelaw08.RefinePuts': WHATEVER THE INPUT: true; the input reads as it did. -/
def refinePutsSpec : ChangeSpec := { name := "refinePuts", fn := fun _ => fun
  | [d1, d2, d3, d4, d5] => { results := [.lit (.bool true)], args := [d1, d2, d3, d4, d5] }
  | _ => none }
def refinePutsRow : OpenClaim := { program := "ytpjmbdoidibckaa", sum := "072fca1983be2ded8d6c9d0a690d83c011ac10a79f9967d5231c240963dafffd", func := "incunable/incunablelaw08.RefinePuts", spec := "refinePuts", plainKeys := false, apart := false }
def RefinePutsSaid : Prop := refinePutsRow.holds Try.pinned (OpenSpec.ofChange refinePutsSpec)

/-- ITS FALSE NEIGHBOUR: 'it returns false'. Refute it at one input. -/
def refinePutsWrong : ChangeSpec := { name := "refinePuts", fn := fun _ => fun
  | [d1, d2, d3, d4, d5] => { results := [.lit (.bool false)], args := [d1, d2, d3, d4, d5] }
  | _ => none }
def RefinePutsWrongFalsely : Prop := refinePutsRow.holds Try.pinned (OpenSpec.ofChange refinePutsWrong)

/-- 'incunablelaw08.RefineErrors': WHATEVER THE INPUT: true; the input reads as it did. -/
def refineErrorsSpec : ChangeSpec := { name := "refineErrors", fn := fun _ => fun
  | [d1, d2, d3, d4, d5] => { results := [.lit (.bool true)], args := [d1, d2, d3, d4, d5] }
  | _ => none }
def refineErrorsRow : OpenClaim := { program := "ytpjmbdoidibckaa", sum := "072fca1983be2ded8d6c9d0a690d83c011ac10a79f9967d5231c240963dafffd", func := "incunable/incunablelaw08.RefineErrors", spec := "refineErrors", plainKeys := false, apart := false }
def RefineErrorsSaid : Prop := refineErrorsRow.holds Try.pinned (OpenSpec.ofChange refineErrorsSpec)

/-- ITS FALSE NEIGHBOUR: 'it returns false'. Refute it at one input. -/
def refineErrorsWrong : ChangeSpec := { name := "refineErrors", fn := fun _ => fun
  | [d1, d2, d3, d4, d5] => { results := [.lit (.bool false)], args := [d1, d2, d3, d4, d5] }
  | _ => none }
def RefineErrorsWrongFalsely : Prop := refineErrorsRow.holds Try.pinned (OpenSpec.ofChange refineErrorsWrong)

/-- 'incunablelaw03.NumberPuts': WHATEVER THE INPUT: true; the input reads as it did. -/
def numberPutsSpec : ChangeSpec := { name := "numberPuts", fn := fun _ => fun
  | [d1, d2, d3] => { results := [.lit (.bool true)], args := [d1, d2, d3] }
  | _ => none }
def numberPutsRow : OpenClaim := { program := "ytpjmbdoidibckaa", sum := "072fca1983be2ded8d6c9d0a690d83c011ac10a79f9967d5231c240963dafffd", func := "incunable/incunablelaw03.NumberPuts", spec := "numberPuts", plainKeys := false, apart := false }
def NumberPutsSaid : Prop := numberPutsRow.holds Try.pinned (OpenSpec.ofChange numberPutsSpec)

/-- ITS FALSE NEIGHBOUR: 'it returns false'. Refute it at one input. -/
def numberPutsWrong : ChangeSpec := { name := "numberPuts", fn := fun _ => fun
  | [d1, d2, d3] => { results := [.lit (.bool false)], args := [d1, d2, d3] }
  | _ => none }
def NumberPutsWrongFalsely : Prop := numberPutsRow.holds Try.pinned (OpenSpec.ofChange numberPutsWrong)

/- THE SECOND FORM. 'bulk': how many values and letters a reading holds, each counted each time it is reached (what is shared counts as often as it is met; a slice's spare places count too). A statement '..UptoSaid' is the law's where the arguments, and the package variables that the reading takes, are together of bulk at most 1048576: NARROWER than '..Said'. Prove '..Said' where nothing that the law and all that it calls make is longer than what came in: it says more and counts as full. Else prove '..UptoSaid'. A law counts once. -/
mutual
def uptoBulk {H : Type} : DataW H → Nat
  | .lit (.string bytes) => bytes.length + 1
  | .lit _ => 1
  | .nil => 1
  | .ptr d => uptoBulk d + 1
  | .slice elems spare => uptoBulkAll elems + uptoBulkAll spare + 1
  | .agg parts => uptoBulkAll parts + 1
  | .iface _ d => uptoBulk d + 1
  | .map entries => uptoBulkEntries entries + 1
  | .held _ => 1
def uptoBulkAll {H : Type} : List (DataW H) → Nat
  | [] => 0
  | d :: r => uptoBulk d + uptoBulkAll r
def uptoBulkEntries {H : Type} : List (Lit × DataW H) → Nat
  | [] => 0
  | x :: r => uptoBulkEntry x + uptoBulkEntries r
def uptoBulkEntry {H : Type} : Lit × DataW H → Nat
  | (.string bytes, d) => bytes.length + uptoBulk d + 1
  | (_, d) => uptoBulk d + 1
 end
def uptoSmall : (H : Type) → List (DataW H) → Bool := fun _ ds => decide (uptoBulkAll ds ≤ 1048576)
def OpenSpec.upto (s : _root_.Go.ChangeSpec) : _root_.Go.OpenSpec := { _root_.Go.OpenSpec.ofChange s with cond := some uptoSmall }

/-- 'incunabletop.TopCodes', WHERE WHAT IT READS IS OF BULK AT MOST 1048576: true; the input reads as it did. -/
def topCodesUptoRow : OpenClaim := { program := "ytpjmbdoidibckaa", sum := "072fca1983be2ded8d6c9d0a690d83c011ac10a79f9967d5231c240963dafffd", func := "incunable/incunabletop.TopCodes", spec := "topCodes", plainKeys := false, apart := false, narrowed := true }
def TopCodesUptoSaid : Prop := topCodesUptoRow.holds Try.pinned (OpenSpec.upto topCodesSpec)

/-- 'incunabletop.TopPrefix', WHERE WHAT IT READS IS OF BULK AT MOST 1048576: true; the input reads as it did. -/
def topPrefixUptoRow : OpenClaim := { program := "ytpjmbdoidibckaa", sum := "072fca1983be2ded8d6c9d0a690d83c011ac10a79f9967d5231c240963dafffd", func := "incunable/incunabletop.TopPrefix", spec := "topPrefix", unfollowed := true, recurses := true, plainKeys := false, apart := false, narrowed := true }
def TopPrefixUptoSaid : Prop := topPrefixUptoRow.holds Try.pinned (OpenSpec.upto topPrefixSpec)

/-- 'incunablelaw03.NumberEncodes', WHERE WHAT IT READS IS OF BULK AT MOST 1048576: true; the input reads as it did. -/
def numberEncodesUptoRow : OpenClaim := { program := "ytpjmbdoidibckaa", sum := "072fca1983be2ded8d6c9d0a690d83c011ac10a79f9967d5231c240963dafffd", func := "incunable/incunablelaw03.NumberEncodes", spec := "numberEncodes", plainKeys := false, apart := false, narrowed := true }
def NumberEncodesUptoSaid : Prop := numberEncodesUptoRow.holds Try.pinned (OpenSpec.upto numberEncodesSpec)

/-- 'incunablelaw23.SortSuffixes', WHERE WHAT IT READS IS OF BULK AT MOST 1048576: true; the input reads as it did. -/
def sortSuffixesUptoRow : OpenClaim := { program := "ytpjmbdoidibckaa", sum := "072fca1983be2ded8d6c9d0a690d83c011ac10a79f9967d5231c240963dafffd", func := "incunable/incunablelaw23.SortSuffixes", spec := "sortSuffixes", inPlace := ["internal/bytealg.Compare"], unfollowed := true, recurses := true, plainKeys := false, apart := false, narrowed := true }
def SortSuffixesUptoSaid : Prop := sortSuffixesUptoRow.holds Try.pinned (OpenSpec.upto sortSuffixesSpec)

/-- 'incunablelaw08.RefineOptions', WHERE WHAT IT READS IS OF BULK AT MOST 1048576: true; the input reads as it did. -/
def refineOptionsUptoRow : OpenClaim := { program := "ytpjmbdoidibckaa", sum := "072fca1983be2ded8d6c9d0a690d83c011ac10a79f9967d5231c240963dafffd", func := "incunable/incunablelaw08.RefineOptions", spec := "refineOptions", plainKeys := false, apart := false, narrowed := true }
def RefineOptionsUptoSaid : Prop := refineOptionsUptoRow.holds Try.pinned (OpenSpec.upto refineOptionsSpec)

/-- 'incunablelaw08.RefineEncodes', WHERE WHAT IT READS IS OF BULK AT MOST 1048576: true; the input reads as it did. -/
def refineEncodesUptoRow : OpenClaim := { program := "ytpjmbdoidibckaa", sum := "072fca1983be2ded8d6c9d0a690d83c011ac10a79f9967d5231c240963dafffd", func := "incunable/incunablelaw08.RefineEncodes", spec := "refineEncodes", plainKeys := false, apart := false, narrowed := true }
def RefineEncodesUptoSaid : Prop := refineEncodesUptoRow.holds Try.pinned (OpenSpec.upto refineEncodesSpec)

/-- 'incunablelaw08.RefineDecodes', WHERE WHAT IT READS IS OF BULK AT MOST 1048576: true; the input reads as it did. -/
def refineDecodesUptoRow : OpenClaim := { program := "ytpjmbdoidibckaa", sum := "072fca1983be2ded8d6c9d0a690d83c011ac10a79f9967d5231c240963dafffd", func := "incunable/incunablelaw08.RefineDecodes", spec := "refineDecodes", plainKeys := false, apart := false, narrowed := true }
def RefineDecodesUptoSaid : Prop := refineDecodesUptoRow.holds Try.pinned (OpenSpec.upto refineDecodesSpec)

/-- 'incunablelaw08.RefineBack', WHERE WHAT IT READS IS OF BULK AT MOST 1048576: true; the input reads as it did. -/
def refineBackUptoRow : OpenClaim := { program := "ytpjmbdoidibckaa", sum := "072fca1983be2ded8d6c9d0a690d83c011ac10a79f9967d5231c240963dafffd", func := "incunable/incunablelaw08.RefineBack", spec := "refineBack", plainKeys := false, apart := false, narrowed := true }
def RefineBackUptoSaid : Prop := refineBackUptoRow.holds Try.pinned (OpenSpec.upto refineBackSpec)

/-- 'incunablelaw08.RefinePuts', WHERE WHAT IT READS IS OF BULK AT MOST 1048576: true; the input reads as it did. -/
def refinePutsUptoRow : OpenClaim := { program := "ytpjmbdoidibckaa", sum := "072fca1983be2ded8d6c9d0a690d83c011ac10a79f9967d5231c240963dafffd", func := "incunable/incunablelaw08.RefinePuts", spec := "refinePuts", plainKeys := false, apart := false, narrowed := true }
def RefinePutsUptoSaid : Prop := refinePutsUptoRow.holds Try.pinned (OpenSpec.upto refinePutsSpec)

/-- 'incunablelaw08.RefineErrors', WHERE WHAT IT READS IS OF BULK AT MOST 1048576: true; the input reads as it did. -/
def refineErrorsUptoRow : OpenClaim := { program := "ytpjmbdoidibckaa", sum := "072fca1983be2ded8d6c9d0a690d83c011ac10a79f9967d5231c240963dafffd", func := "incunable/incunablelaw08.RefineErrors", spec := "refineErrors", plainKeys := false, apart := false, narrowed := true }
def RefineErrorsUptoSaid : Prop := refineErrorsUptoRow.holds Try.pinned (OpenSpec.upto refineErrorsSpec)

/-- 'incunablelaw03.NumberPuts', WHERE WHAT IT READS IS OF BULK AT MOST 1048576: true; the input reads as it did. -/
def numberPutsUptoRow : OpenClaim := { program := "ytpjmbdoidibckaa", sum := "072fca1983be2ded8d6c9d0a690d83c011ac10a79f9967d5231c240963dafffd", func := "incunable/incunablelaw03.NumberPuts", spec := "numberPuts", plainKeys := false, apart := false, narrowed := true }
def NumberPutsUptoSaid : Prop := numberPutsUptoRow.holds Try.pinned (OpenSpec.upto numberPutsSpec)

end Rows
end Go.Proofs.Ytpjmbdoidibckaa
