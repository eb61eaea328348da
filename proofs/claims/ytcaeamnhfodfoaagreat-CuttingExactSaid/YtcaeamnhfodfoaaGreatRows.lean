/-
  No cell of these rows narrows 'for every input' (looked for: loops, veiled, ifaces, maps, wideKeys, modest, calm, conditions, laid).
  DERIVED. THE GIVEN ROWS OF THIS SEAT. 5 by the template 'for every input the law returns true; each argument reads behind the call as it read before'; 0 by the template 'total and deterministic' (their statements: YtcaeamnhfodfoaaGreatTotals.lean).
  GIVEN WITH THE SEED: the statements are not yours to turn. If you find one false, say at which input.
  Laid BY PROGRAM, IN A SANDBOX (cutbox-rows.mjs): the forced cells as the released guide's own fill.sh prints them over the translation 90a6550ce5b12af6… (all of the seat's roots in one cut). By AI agents, Wed Nov 11 2026. No macro, syntax, notation, axiom, sorry.
-/
import Derived.Test.YtcaeamnhfodfoaaGreatChecked
import GoSem.Claim
import GoSem.ClaimJoined
import GoSem.ClaimMapViews
import Derived.JoinedTies
import Derived.KernelRfl
namespace Go.Proofs.YtcaeamnhfodfoaaGreat
/- THE CELL 'sum', in the pinned program and in every row, IS THE sha256 OF THE DUMP (.gsa) THAT YtcaeamnhfodfoaaGreatProg.lean LOADS. Nothing in Lean hashes anything: it is a label: what it is worth is what the hold of that sum in a sandbox is worth. -/
noncomputable def Tryz.pinned : Pinned := { name := "ytcaeamnhfodfoaagreat", sum := "90a6550ce5b12af6aa22b96b6cce011f830ca70952f877ebd1d54cf8b015de81", checked := Tryz.checked }
namespace Rows
def none {H : Type} : Left H := { results := [], args := [] }

/-- 'garmentlaw42.CuttingAccepts': WHATEVER THE INPUT: true; the input reads as it did. -/
def cuttingAcceptsSpec : ChangeSpec := { name := "cuttingAccepts", fn := fun _ => fun
  | [d1, d2, d3] => { results := [.lit (.bool true)], args := [d1, d2, d3] }
  | _ => none }
def cuttingAcceptsRow : OpenClaim := { program := "ytcaeamnhfodfoaagreat", sum := "90a6550ce5b12af6aa22b96b6cce011f830ca70952f877ebd1d54cf8b015de81", func := "garment/garmentlaw42.CuttingAccepts", spec := "cuttingAccepts", inPlace := ["math.sqrt"], unfollowed := true, recurses := true, named := ["math/bits.divideError", "math/bits.overflowError"], plainKeys := false, apart := false }
def CuttingAcceptsSaid : Prop := cuttingAcceptsRow.holds Tryz.pinned (OpenSpec.ofChange cuttingAcceptsSpec)

/-- ITS FALSE NEIGHBOUR: 'it returns false'. Refute it at one input. -/
def cuttingAcceptsWrong : ChangeSpec := { name := "cuttingAccepts", fn := fun _ => fun
  | [d1, d2, d3] => { results := [.lit (.bool false)], args := [d1, d2, d3] }
  | _ => none }
def CuttingAcceptsWrongFalsely : Prop := cuttingAcceptsRow.holds Tryz.pinned (OpenSpec.ofChange cuttingAcceptsWrong)

/-- 'garmentlaw42.CuttingCounts': WHATEVER THE INPUT: true; the input reads as it did. -/
def cuttingCountsSpec : ChangeSpec := { name := "cuttingCounts", fn := fun _ => fun
  | [d] => { results := [.lit (.bool true)], args := [d] }
  | _ => none }
def cuttingCountsRow : OpenClaim := { program := "ytcaeamnhfodfoaagreat", sum := "90a6550ce5b12af6aa22b96b6cce011f830ca70952f877ebd1d54cf8b015de81", func := "garment/garmentlaw42.CuttingCounts", spec := "cuttingCounts", inPlace := ["math.sqrt"], unfollowed := true, recurses := true, named := ["math/bits.divideError", "math/bits.overflowError"], plainKeys := false, apart := false }
def CuttingCountsSaid : Prop := cuttingCountsRow.holds Tryz.pinned (OpenSpec.ofChange cuttingCountsSpec)

/-- ITS FALSE NEIGHBOUR: 'it returns false'. Refute it at one input. -/
def cuttingCountsWrong : ChangeSpec := { name := "cuttingCounts", fn := fun _ => fun
  | [d] => { results := [.lit (.bool false)], args := [d] }
  | _ => none }
def CuttingCountsWrongFalsely : Prop := cuttingCountsRow.holds Tryz.pinned (OpenSpec.ofChange cuttingCountsWrong)

/-- 'garmentlaw42.CuttingFlaws': WHATEVER THE INPUT: true; the input reads as it did. -/
def cuttingFlawsSpec : ChangeSpec := { name := "cuttingFlaws", fn := fun _ => fun
  | [d1, d2] => { results := [.lit (.bool true)], args := [d1, d2] }
  | _ => none }
def cuttingFlawsRow : OpenClaim := { program := "ytcaeamnhfodfoaagreat", sum := "90a6550ce5b12af6aa22b96b6cce011f830ca70952f877ebd1d54cf8b015de81", func := "garment/garmentlaw42.CuttingFlaws", spec := "cuttingFlaws", inPlace := ["math.sqrt"], unfollowed := true, recurses := true, named := ["math/bits.divideError", "math/bits.overflowError"], plainKeys := false, apart := false }
def CuttingFlawsSaid : Prop := cuttingFlawsRow.holds Tryz.pinned (OpenSpec.ofChange cuttingFlawsSpec)

/-- ITS FALSE NEIGHBOUR: 'it returns false'. Refute it at one input. -/
def cuttingFlawsWrong : ChangeSpec := { name := "cuttingFlaws", fn := fun _ => fun
  | [d1, d2] => { results := [.lit (.bool false)], args := [d1, d2] }
  | _ => none }
def CuttingFlawsWrongFalsely : Prop := cuttingFlawsRow.holds Tryz.pinned (OpenSpec.ofChange cuttingFlawsWrong)

/-- 'garmentlaw42.CuttingExact': WHATEVER THE INPUT: true; the input reads as it did. -/
def cuttingExactSpec : ChangeSpec := { name := "cuttingExact", fn := fun _ => fun
  | [d] => { results := [.lit (.bool true)], args := [d] }
  | _ => none }
def cuttingExactRow : OpenClaim := { program := "ytcaeamnhfodfoaagreat", sum := "90a6550ce5b12af6aa22b96b6cce011f830ca70952f877ebd1d54cf8b015de81", func := "garment/garmentlaw42.CuttingExact", spec := "cuttingExact", inPlace := ["math.sqrt"], unfollowed := true, recurses := true, named := ["math/bits.divideError", "math/bits.overflowError"], plainKeys := false, apart := false }
def CuttingExactSaid : Prop := cuttingExactRow.holds Tryz.pinned (OpenSpec.ofChange cuttingExactSpec)

/-- ITS FALSE NEIGHBOUR: 'it returns false'. Refute it at one input. -/
def cuttingExactWrong : ChangeSpec := { name := "cuttingExact", fn := fun _ => fun
  | [d] => { results := [.lit (.bool false)], args := [d] }
  | _ => none }
def CuttingExactWrongFalsely : Prop := cuttingExactRow.holds Tryz.pinned (OpenSpec.ofChange cuttingExactWrong)

/-- 'garmentlaw50.AssemblyWhole': WHATEVER THE INPUT: true; the input reads as it did. -/
def assemblyWholeSpec : ChangeSpec := { name := "assemblyWhole", fn := fun _ => fun
  | [d1, d2, d3] => { results := [.lit (.bool true)], args := [d1, d2, d3] }
  | _ => none }
def assemblyWholeRow : OpenClaim := { program := "ytcaeamnhfodfoaagreat", sum := "90a6550ce5b12af6aa22b96b6cce011f830ca70952f877ebd1d54cf8b015de81", func := "garment/garmentlaw50.AssemblyWhole", spec := "assemblyWhole", inPlace := ["math.sqrt"], unfollowed := true, recurses := true, named := ["math/bits.divideError", "math/bits.overflowError"], plainKeys := false, apart := false }
def AssemblyWholeSaid : Prop := assemblyWholeRow.holds Tryz.pinned (OpenSpec.ofChange assemblyWholeSpec)

/-- ITS FALSE NEIGHBOUR: 'it returns false'. Refute it at one input. -/
def assemblyWholeWrong : ChangeSpec := { name := "assemblyWhole", fn := fun _ => fun
  | [d1, d2, d3] => { results := [.lit (.bool false)], args := [d1, d2, d3] }
  | _ => none }
def AssemblyWholeWrongFalsely : Prop := assemblyWholeRow.holds Tryz.pinned (OpenSpec.ofChange assemblyWholeWrong)

/- THE SECOND FORM. 'bulk': how many values and letters a reading holds, each counted each time it is reached (what is shared counts as often as it is met; a slice's spare places count too). A statement '..UptoSaid' is the law's where the arguments, and the package variables that the reading takes, are together of bulk at most 1048576: NARROWER than '..Said'. Prove '..Said' where nothing that the law and all that it calls make is longer than what came in: it says more and counts as full. Else prove '..UptoSaid'. A law counts once. -/
mutual
def uptoBulk {H : Type} : DataW H → Nat
  | .lit (.string bytes) => bytes.length + 1
  | .lit _ => 1
  | .nil => 1
  | .ptr d => uptoBulk d + 1
  | .slice elems spare => uptoBulkAll elems + uptoBulkAll spare + 1
  | .agg parts => uptoBulkAll parts + 1
  | .iface _ d => uptoBulk d + 1
  | .map entries => uptoBulkEntries entries + 1
  | .held _ => 1
def uptoBulkAll {H : Type} : List (DataW H) → Nat
  | [] => 0
  | d :: r => uptoBulk d + uptoBulkAll r
def uptoBulkEntries {H : Type} : List (Lit × DataW H) → Nat
  | [] => 0
  | x :: r => uptoBulkEntry x + uptoBulkEntries r
def uptoBulkEntry {H : Type} : Lit × DataW H → Nat
  | (.string bytes, d) => bytes.length + uptoBulk d + 1
  | (_, d) => uptoBulk d + 1
 end
def uptoSmall : (H : Type) → List (DataW H) → Bool := fun _ ds => decide (uptoBulkAll ds ≤ 1048576)
def OpenSpec.upto (s : _root_.Go.ChangeSpec) : _root_.Go.OpenSpec := { _root_.Go.OpenSpec.ofChange s with cond := some uptoSmall }

/-- 'garmentlaw42.CuttingAccepts', WHERE WHAT IT READS IS OF BULK AT MOST 1048576: true; the input reads as it did. -/
def cuttingAcceptsUptoRow : OpenClaim := { program := "ytcaeamnhfodfoaagreat", sum := "90a6550ce5b12af6aa22b96b6cce011f830ca70952f877ebd1d54cf8b015de81", func := "garment/garmentlaw42.CuttingAccepts", spec := "cuttingAccepts", inPlace := ["math.sqrt"], unfollowed := true, recurses := true, named := ["math/bits.divideError", "math/bits.overflowError"], plainKeys := false, apart := false, narrowed := true }
def CuttingAcceptsUptoSaid : Prop := cuttingAcceptsUptoRow.holds Tryz.pinned (OpenSpec.upto cuttingAcceptsSpec)

/-- 'garmentlaw42.CuttingCounts', WHERE WHAT IT READS IS OF BULK AT MOST 1048576: true; the input reads as it did. -/
def cuttingCountsUptoRow : OpenClaim := { program := "ytcaeamnhfodfoaagreat", sum := "90a6550ce5b12af6aa22b96b6cce011f830ca70952f877ebd1d54cf8b015de81", func := "garment/garmentlaw42.CuttingCounts", spec := "cuttingCounts", inPlace := ["math.sqrt"], unfollowed := true, recurses := true, named := ["math/bits.divideError", "math/bits.overflowError"], plainKeys := false, apart := false, narrowed := true }
def CuttingCountsUptoSaid : Prop := cuttingCountsUptoRow.holds Tryz.pinned (OpenSpec.upto cuttingCountsSpec)

/-- 'garmentlaw42.CuttingFlaws', WHERE WHAT IT READS IS OF BULK AT MOST 1048576: true; the input reads as it did. -/
def cuttingFlawsUptoRow : OpenClaim := { program := "ytcaeamnhfodfoaagreat", sum := "90a6550ce5b12af6aa22b96b6cce011f830ca70952f877ebd1d54cf8b015de81", func := "garment/garmentlaw42.CuttingFlaws", spec := "cuttingFlaws", inPlace := ["math.sqrt"], unfollowed := true, recurses := true, named := ["math/bits.divideError", "math/bits.overflowError"], plainKeys := false, apart := false, narrowed := true }
def CuttingFlawsUptoSaid : Prop := cuttingFlawsUptoRow.holds Tryz.pinned (OpenSpec.upto cuttingFlawsSpec)

/-- 'garmentlaw42.CuttingExact', WHERE WHAT IT READS IS OF BULK AT MOST 1048576: true; the input reads as it did. -/
def cuttingExactUptoRow : OpenClaim := { program := "ytcaeamnhfodfoaagreat", sum := "90a6550ce5b12af6aa22b96b6cce011f830ca70952f877ebd1d54cf8b015de81", func := "garment/garmentlaw42.CuttingExact", spec := "cuttingExact", inPlace := ["math.sqrt"], unfollowed := true, recurses := true, named := ["math/bits.divideError", "math/bits.overflowError"], plainKeys := false, apart := false, narrowed := true }
def CuttingExactUptoSaid : Prop := cuttingExactUptoRow.holds Tryz.pinned (OpenSpec.upto cuttingExactSpec)

/-- 'garmentlaw50.AssemblyWhole', WHERE WHAT IT READS IS OF BULK AT MOST 1048576: true; the input reads as it did. -/
def assemblyWholeUptoRow : OpenClaim := { program := "ytcaeamnhfodfoaagreat", sum := "90a6550ce5b12af6aa22b96b6cce011f830ca70952f877ebd1d54cf8b015de81", func := "garment/garmentlaw50.AssemblyWhole", spec := "assemblyWhole", inPlace := ["math.sqrt"], unfollowed := true, recurses := true, named := ["math/bits.divideError", "math/bits.overflowError"], plainKeys := false, apart := false, narrowed := true }
def AssemblyWholeUptoSaid : Prop := assemblyWholeUptoRow.holds Tryz.pinned (OpenSpec.upto assemblyWholeSpec)

end Rows
end Go.Proofs.YtcaeamnhfodfoaaGreat
