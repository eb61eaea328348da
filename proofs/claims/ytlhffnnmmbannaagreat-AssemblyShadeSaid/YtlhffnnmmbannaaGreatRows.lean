/-
  No cell of these rows narrows 'for every input' (looked for: loops, veiled, ifaces, maps, wideKeys, modest, calm, conditions, laid).
  DERIVED. THE GIVEN ROWS OF THIS SEAT. 9 by the template 'for every input the law returns true; each argument reads behind the call as it read before'; 0 by the template 'total and deterministic' (their statements: YtlhffnnmmbannaaGreatTotals.lean).
  GIVEN WITH THE SEED: the statements are not yours to turn. If you find one false, say at which input.
  Laid BY PROGRAM, IN A SANDBOX (cutbox-rows.mjs): the forced cells as the released guide's own fill.sh prints them over the translation 8db7d5dc597c865f… (all of the seat's roots in one cut). By AI agents, Wed Nov 11 2026. No macro, syntax, notation, axiom, sorry.
-/
import Derived.Test.YtlhffnnmmbannaaGreatChecked
import GoSem.Claim
import GoSem.ClaimJoined
import GoSem.ClaimMapViews
import Derived.JoinedTies
import Derived.KernelRfl
namespace Go.Proofs.YtlhffnnmmbannaaGreat
/- THE CELL 'sum', in the pinned program and in every row, IS THE sha256 OF THE DUMP (.gsa) THAT YtlhffnnmmbannaaGreatProg.lean LOADS. Nothing in Lean hashes anything: it is a label: what it is worth is what the hold of that sum in a sandbox is worth. -/
noncomputable def Tryz.pinned : Pinned := { name := "ytlhffnnmmbannaagreat", sum := "8db7d5dc597c865fec1914e28c98dde3bac11dadb28a608dd49a6eda856bee3e", checked := Tryz.checked }
namespace Rows
def none {H : Type} : Left H := { results := [], args := [] }

/-- 'garmentlaw50.AssemblySews': WHATEVER THE INPUT: true; the input reads as it did. -/
def assemblySewsSpec : ChangeSpec := { name := "assemblySews", fn := fun _ => fun
  | [d] => { results := [.lit (.bool true)], args := [d] }
  | _ => none }
def assemblySewsRow : OpenClaim := { program := "ytlhffnnmmbannaagreat", sum := "8db7d5dc597c865fec1914e28c98dde3bac11dadb28a608dd49a6eda856bee3e", func := "garment/garmentlaw50.AssemblySews", spec := "assemblySews", inPlace := ["math.sqrt"], unfollowed := true, recurses := true, named := ["math/bits.divideError", "math/bits.overflowError"], plainKeys := false, apart := false }
def AssemblySewsSaid : Prop := assemblySewsRow.holds Tryz.pinned (OpenSpec.ofChange assemblySewsSpec)

/-- ITS FALSE NEIGHBOUR: 'it returns false'. Refute it at one input. -/
def assemblySewsWrong : ChangeSpec := { name := "assemblySews", fn := fun _ => fun
  | [d] => { results := [.lit (.bool false)], args := [d] }
  | _ => none }
def AssemblySewsWrongFalsely : Prop := assemblySewsRow.holds Tryz.pinned (OpenSpec.ofChange assemblySewsWrong)

/-- 'garmentlaw50.AssemblyChecks': WHATEVER THE INPUT: true; the input reads as it did. -/
def assemblyChecksSpec : ChangeSpec := { name := "assemblyChecks", fn := fun _ => fun
  | [d1, d2] => { results := [.lit (.bool true)], args := [d1, d2] }
  | _ => none }
def assemblyChecksRow : OpenClaim := { program := "ytlhffnnmmbannaagreat", sum := "8db7d5dc597c865fec1914e28c98dde3bac11dadb28a608dd49a6eda856bee3e", func := "garment/garmentlaw50.AssemblyChecks", spec := "assemblyChecks", inPlace := ["math.sqrt"], unfollowed := true, recurses := true, named := ["math/bits.divideError", "math/bits.overflowError"], plainKeys := false, apart := false }
def AssemblyChecksSaid : Prop := assemblyChecksRow.holds Tryz.pinned (OpenSpec.ofChange assemblyChecksSpec)

/-- ITS FALSE NEIGHBOUR: 'it returns false'. Refute it at one input. -/
def assemblyChecksWrong : ChangeSpec := { name := "assemblyChecks", fn := fun _ => fun
  | [d1, d2] => { results := [.lit (.bool false)], args := [d1, d2] }
  | _ => none }
def AssemblyChecksWrongFalsely : Prop := assemblyChecksRow.holds Tryz.pinned (OpenSpec.ofChange assemblyChecksWrong)

/-- 'garmentlaw50.AssemblyComplete': WHATEVER THE INPUT: true; the input reads as it did. -/
def assemblyCompleteSpec : ChangeSpec := { name := "assemblyComplete", fn := fun _ => fun
  | [d1, d2, d3] => { results := [.lit (.bool true)], args := [d1, d2, d3] }
  | _ => none }
def assemblyCompleteRow : OpenClaim := { program := "ytlhffnnmmbannaagreat", sum := "8db7d5dc597c865fec1914e28c98dde3bac11dadb28a608dd49a6eda856bee3e", func := "garment/garmentlaw50.AssemblyComplete", spec := "assemblyComplete", inPlace := ["math.sqrt"], unfollowed := true, recurses := true, named := ["math/bits.divideError", "math/bits.overflowError"], plainKeys := false, apart := false }
def AssemblyCompleteSaid : Prop := assemblyCompleteRow.holds Tryz.pinned (OpenSpec.ofChange assemblyCompleteSpec)

/-- ITS FALSE NEIGHBOUR: 'it returns false'. Refute it at one input. -/
def assemblyCompleteWrong : ChangeSpec := { name := "assemblyComplete", fn := fun _ => fun
  | [d1, d2, d3] => { results := [.lit (.bool false)], args := [d1, d2, d3] }
  | _ => none }
def AssemblyCompleteWrongFalsely : Prop := assemblyCompleteRow.holds Tryz.pinned (OpenSpec.ofChange assemblyCompleteWrong)

/-- 'garmentlaw50.AssemblyShade': WHATEVER THE INPUT: true; the input reads as it did. -/
def assemblyShadeSpec : ChangeSpec := { name := "assemblyShade", fn := fun _ => fun
  | [d] => { results := [.lit (.bool true)], args := [d] }
  | _ => none }
def assemblyShadeRow : OpenClaim := { program := "ytlhffnnmmbannaagreat", sum := "8db7d5dc597c865fec1914e28c98dde3bac11dadb28a608dd49a6eda856bee3e", func := "garment/garmentlaw50.AssemblyShade", spec := "assemblyShade", inPlace := ["math.sqrt"], unfollowed := true, recurses := true, named := ["math/bits.divideError", "math/bits.overflowError"], plainKeys := false, apart := false }
def AssemblyShadeSaid : Prop := assemblyShadeRow.holds Tryz.pinned (OpenSpec.ofChange assemblyShadeSpec)

/-- ITS FALSE NEIGHBOUR: 'it returns false'. Refute it at one input. -/
def assemblyShadeWrong : ChangeSpec := { name := "assemblyShade", fn := fun _ => fun
  | [d] => { results := [.lit (.bool false)], args := [d] }
  | _ => none }
def AssemblyShadeWrongFalsely : Prop := assemblyShadeRow.holds Tryz.pinned (OpenSpec.ofChange assemblyShadeWrong)

/-- 'garmentlaw50.AssemblyCounts': WHATEVER THE INPUT: true; the input reads as it did. -/
def assemblyCountsSpec : ChangeSpec := { name := "assemblyCounts", fn := fun _ => fun
  | [d] => { results := [.lit (.bool true)], args := [d] }
  | _ => none }
def assemblyCountsRow : OpenClaim := { program := "ytlhffnnmmbannaagreat", sum := "8db7d5dc597c865fec1914e28c98dde3bac11dadb28a608dd49a6eda856bee3e", func := "garment/garmentlaw50.AssemblyCounts", spec := "assemblyCounts", inPlace := ["math.sqrt"], unfollowed := true, recurses := true, named := ["math/bits.divideError", "math/bits.overflowError"], plainKeys := false, apart := false }
def AssemblyCountsSaid : Prop := assemblyCountsRow.holds Tryz.pinned (OpenSpec.ofChange assemblyCountsSpec)

/-- ITS FALSE NEIGHBOUR: 'it returns false'. Refute it at one input. -/
def assemblyCountsWrong : ChangeSpec := { name := "assemblyCounts", fn := fun _ => fun
  | [d] => { results := [.lit (.bool false)], args := [d] }
  | _ => none }
def AssemblyCountsWrongFalsely : Prop := assemblyCountsRow.holds Tryz.pinned (OpenSpec.ofChange assemblyCountsWrong)

/-- 'garmentlaw50.AssemblyDamage': WHATEVER THE INPUT: true; the input reads as it did. -/
def assemblyDamageSpec : ChangeSpec := { name := "assemblyDamage", fn := fun _ => fun
  | [d1, d2] => { results := [.lit (.bool true)], args := [d1, d2] }
  | _ => none }
def assemblyDamageRow : OpenClaim := { program := "ytlhffnnmmbannaagreat", sum := "8db7d5dc597c865fec1914e28c98dde3bac11dadb28a608dd49a6eda856bee3e", func := "garment/garmentlaw50.AssemblyDamage", spec := "assemblyDamage", inPlace := ["math.sqrt"], unfollowed := true, recurses := true, named := ["math/bits.divideError", "math/bits.overflowError"], plainKeys := false, apart := false }
def AssemblyDamageSaid : Prop := assemblyDamageRow.holds Tryz.pinned (OpenSpec.ofChange assemblyDamageSpec)

/-- ITS FALSE NEIGHBOUR: 'it returns false'. Refute it at one input. -/
def assemblyDamageWrong : ChangeSpec := { name := "assemblyDamage", fn := fun _ => fun
  | [d1, d2] => { results := [.lit (.bool false)], args := [d1, d2] }
  | _ => none }
def AssemblyDamageWrongFalsely : Prop := assemblyDamageRow.holds Tryz.pinned (OpenSpec.ofChange assemblyDamageWrong)

/-- 'garmentlaw50.AssemblyMixes': WHATEVER THE INPUT: true; the input reads as it did. -/
def assemblyMixesSpec : ChangeSpec := { name := "assemblyMixes", fn := fun _ => fun
  | [d1, d2, d3] => { results := [.lit (.bool true)], args := [d1, d2, d3] }
  | _ => none }
def assemblyMixesRow : OpenClaim := { program := "ytlhffnnmmbannaagreat", sum := "8db7d5dc597c865fec1914e28c98dde3bac11dadb28a608dd49a6eda856bee3e", func := "garment/garmentlaw50.AssemblyMixes", spec := "assemblyMixes", inPlace := ["math.sqrt"], unfollowed := true, recurses := true, named := ["math/bits.divideError", "math/bits.overflowError"], plainKeys := false, apart := false }
def AssemblyMixesSaid : Prop := assemblyMixesRow.holds Tryz.pinned (OpenSpec.ofChange assemblyMixesSpec)

/-- ITS FALSE NEIGHBOUR: 'it returns false'. Refute it at one input. -/
def assemblyMixesWrong : ChangeSpec := { name := "assemblyMixes", fn := fun _ => fun
  | [d1, d2, d3] => { results := [.lit (.bool false)], args := [d1, d2, d3] }
  | _ => none }
def AssemblyMixesWrongFalsely : Prop := assemblyMixesRow.holds Tryz.pinned (OpenSpec.ofChange assemblyMixesWrong)

/-- 'garmentlaw50.AssemblyOrder': WHATEVER THE INPUT: true; the input reads as it did. -/
def assemblyOrderSpec : ChangeSpec := { name := "assemblyOrder", fn := fun _ => fun
  | [d] => { results := [.lit (.bool true)], args := [d] }
  | _ => none }
def assemblyOrderRow : OpenClaim := { program := "ytlhffnnmmbannaagreat", sum := "8db7d5dc597c865fec1914e28c98dde3bac11dadb28a608dd49a6eda856bee3e", func := "garment/garmentlaw50.AssemblyOrder", spec := "assemblyOrder", inPlace := ["math.sqrt"], unfollowed := true, recurses := true, named := ["math/bits.divideError", "math/bits.overflowError"], plainKeys := false, apart := false }
def AssemblyOrderSaid : Prop := assemblyOrderRow.holds Tryz.pinned (OpenSpec.ofChange assemblyOrderSpec)

/-- ITS FALSE NEIGHBOUR: 'it returns false'. Refute it at one input. -/
def assemblyOrderWrong : ChangeSpec := { name := "assemblyOrder", fn := fun _ => fun
  | [d] => { results := [.lit (.bool false)], args := [d] }
  | _ => none }
def AssemblyOrderWrongFalsely : Prop := assemblyOrderRow.holds Tryz.pinned (OpenSpec.ofChange assemblyOrderWrong)

/-- 'garmentlaw50.AssemblyWhole': WHATEVER THE INPUT: true; the input reads as it did. -/
def assemblyWholeSpec : ChangeSpec := { name := "assemblyWhole", fn := fun _ => fun
  | [d1, d2, d3] => { results := [.lit (.bool true)], args := [d1, d2, d3] }
  | _ => none }
def assemblyWholeRow : OpenClaim := { program := "ytlhffnnmmbannaagreat", sum := "8db7d5dc597c865fec1914e28c98dde3bac11dadb28a608dd49a6eda856bee3e", func := "garment/garmentlaw50.AssemblyWhole", spec := "assemblyWhole", inPlace := ["math.sqrt"], unfollowed := true, recurses := true, named := ["math/bits.divideError", "math/bits.overflowError"], plainKeys := false, apart := false }
def AssemblyWholeSaid : Prop := assemblyWholeRow.holds Tryz.pinned (OpenSpec.ofChange assemblyWholeSpec)

/-- ITS FALSE NEIGHBOUR: 'it returns false'. Refute it at one input. -/
def assemblyWholeWrong : ChangeSpec := { name := "assemblyWhole", fn := fun _ => fun
  | [d1, d2, d3] => { results := [.lit (.bool false)], args := [d1, d2, d3] }
  | _ => none }
def AssemblyWholeWrongFalsely : Prop := assemblyWholeRow.holds Tryz.pinned (OpenSpec.ofChange assemblyWholeWrong)

/- THE SECOND FORM. 'bulk': how many values and letters a reading holds, each counted each time it is reached (what is shared counts as often as it is met; a slice's spare places count too). A statement '..UptoSaid' is the law's where the arguments, and the package variables that the reading takes, are together of bulk at most 1048576: NARROWER than '..Said'. Prove '..Said' where nothing that the law and all that it calls make is longer than what came in: it says more and counts as full. Else prove '..UptoSaid'. A law counts once. -/
mutual
def uptoBulk {H : Type} : DataW H → Nat
  | .lit (.string bytes) => bytes.length + 1
  | .lit _ => 1
  | .nil => 1
  | .ptr d => uptoBulk d + 1
  | .slice elems spare => uptoBulkAll elems + uptoBulkAll spare + 1
  | .agg parts => uptoBulkAll parts + 1
  | .iface _ d => uptoBulk d + 1
  | .map entries => uptoBulkEntries entries + 1
  | .held _ => 1
def uptoBulkAll {H : Type} : List (DataW H) → Nat
  | [] => 0
  | d :: r => uptoBulk d + uptoBulkAll r
def uptoBulkEntries {H : Type} : List (Lit × DataW H) → Nat
  | [] => 0
  | x :: r => uptoBulkEntry x + uptoBulkEntries r
def uptoBulkEntry {H : Type} : Lit × DataW H → Nat
  | (.string bytes, d) => bytes.length + uptoBulk d + 1
  | (_, d) => uptoBulk d + 1
 end
def uptoSmall : (H : Type) → List (DataW H) → Bool := fun _ ds => decide (uptoBulkAll ds ≤ 1048576)
def OpenSpec.upto (s : _root_.Go.ChangeSpec) : _root_.Go.OpenSpec := { _root_.Go.OpenSpec.ofChange s with cond := some uptoSmall }

/-- 'garmentlaw50.AssemblySews', WHERE WHAT IT READS IS OF BULK AT MOST 1048576: true; the input reads as it did. -/
def assemblySewsUptoRow : OpenClaim := { program := "ytlhffnnmmbannaagreat", sum := "8db7d5dc597c865fec1914e28c98dde3bac11dadb28a608dd49a6eda856bee3e", func := "garment/garmentlaw50.AssemblySews", spec := "assemblySews", inPlace := ["math.sqrt"], unfollowed := true, recurses := true, named := ["math/bits.divideError", "math/bits.overflowError"], plainKeys := false, apart := false, narrowed := true }
def AssemblySewsUptoSaid : Prop := assemblySewsUptoRow.holds Tryz.pinned (OpenSpec.upto assemblySewsSpec)

/-- 'garmentlaw50.AssemblyChecks', WHERE WHAT IT READS IS OF BULK AT MOST 1048576: true; the input reads as it did. -/
def assemblyChecksUptoRow : OpenClaim := { program := "ytlhffnnmmbannaagreat", sum := "8db7d5dc597c865fec1914e28c98dde3bac11dadb28a608dd49a6eda856bee3e", func := "garment/garmentlaw50.AssemblyChecks", spec := "assemblyChecks", inPlace := ["math.sqrt"], unfollowed := true, recurses := true, named := ["math/bits.divideError", "math/bits.overflowError"], plainKeys := false, apart := false, narrowed := true }
def AssemblyChecksUptoSaid : Prop := assemblyChecksUptoRow.holds Tryz.pinned (OpenSpec.upto assemblyChecksSpec)

/-- 'garmentlaw50.AssemblyComplete', WHERE WHAT IT READS IS OF BULK AT MOST 1048576: true; the input reads as it did. -/
def assemblyCompleteUptoRow : OpenClaim := { program := "ytlhffnnmmbannaagreat", sum := "8db7d5dc597c865fec1914e28c98dde3bac11dadb28a608dd49a6eda856bee3e", func := "garment/garmentlaw50.AssemblyComplete", spec := "assemblyComplete", inPlace := ["math.sqrt"], unfollowed := true, recurses := true, named := ["math/bits.divideError", "math/bits.overflowError"], plainKeys := false, apart := false, narrowed := true }
def AssemblyCompleteUptoSaid : Prop := assemblyCompleteUptoRow.holds Tryz.pinned (OpenSpec.upto assemblyCompleteSpec)

/-- 'garmentlaw50.AssemblyShade', WHERE WHAT IT READS IS OF BULK AT MOST 1048576: true; the input reads as it did. -/
def assemblyShadeUptoRow : OpenClaim := { program := "ytlhffnnmmbannaagreat", sum := "8db7d5dc597c865fec1914e28c98dde3bac11dadb28a608dd49a6eda856bee3e", func := "garment/garmentlaw50.AssemblyShade", spec := "assemblyShade", inPlace := ["math.sqrt"], unfollowed := true, recurses := true, named := ["math/bits.divideError", "math/bits.overflowError"], plainKeys := false, apart := false, narrowed := true }
def AssemblyShadeUptoSaid : Prop := assemblyShadeUptoRow.holds Tryz.pinned (OpenSpec.upto assemblyShadeSpec)

/-- 'garmentlaw50.AssemblyCounts', WHERE WHAT IT READS IS OF BULK AT MOST 1048576: true; the input reads as it did. -/
def assemblyCountsUptoRow : OpenClaim := { program := "ytlhffnnmmbannaagreat", sum := "8db7d5dc597c865fec1914e28c98dde3bac11dadb28a608dd49a6eda856bee3e", func := "garment/garmentlaw50.AssemblyCounts", spec := "assemblyCounts", inPlace := ["math.sqrt"], unfollowed := true, recurses := true, named := ["math/bits.divideError", "math/bits.overflowError"], plainKeys := false, apart := false, narrowed := true }
def AssemblyCountsUptoSaid : Prop := assemblyCountsUptoRow.holds Tryz.pinned (OpenSpec.upto assemblyCountsSpec)

/-- 'garmentlaw50.AssemblyDamage', WHERE WHAT IT READS IS OF BULK AT MOST 1048576: true; the input reads as it did. -/
def assemblyDamageUptoRow : OpenClaim := { program := "ytlhffnnmmbannaagreat", sum := "8db7d5dc597c865fec1914e28c98dde3bac11dadb28a608dd49a6eda856bee3e", func := "garment/garmentlaw50.AssemblyDamage", spec := "assemblyDamage", inPlace := ["math.sqrt"], unfollowed := true, recurses := true, named := ["math/bits.divideError", "math/bits.overflowError"], plainKeys := false, apart := false, narrowed := true }
def AssemblyDamageUptoSaid : Prop := assemblyDamageUptoRow.holds Tryz.pinned (OpenSpec.upto assemblyDamageSpec)

/-- 'garmentlaw50.AssemblyMixes', WHERE WHAT IT READS IS OF BULK AT MOST 1048576: true; the input reads as it did. -/
def assemblyMixesUptoRow : OpenClaim := { program := "ytlhffnnmmbannaagreat", sum := "8db7d5dc597c865fec1914e28c98dde3bac11dadb28a608dd49a6eda856bee3e", func := "garment/garmentlaw50.AssemblyMixes", spec := "assemblyMixes", inPlace := ["math.sqrt"], unfollowed := true, recurses := true, named := ["math/bits.divideError", "math/bits.overflowError"], plainKeys := false, apart := false, narrowed := true }
def AssemblyMixesUptoSaid : Prop := assemblyMixesUptoRow.holds Tryz.pinned (OpenSpec.upto assemblyMixesSpec)

/-- 'garmentlaw50.AssemblyOrder', WHERE WHAT IT READS IS OF BULK AT MOST 1048576: true; the input reads as it did. -/
def assemblyOrderUptoRow : OpenClaim := { program := "ytlhffnnmmbannaagreat", sum := "8db7d5dc597c865fec1914e28c98dde3bac11dadb28a608dd49a6eda856bee3e", func := "garment/garmentlaw50.AssemblyOrder", spec := "assemblyOrder", inPlace := ["math.sqrt"], unfollowed := true, recurses := true, named := ["math/bits.divideError", "math/bits.overflowError"], plainKeys := false, apart := false, narrowed := true }
def AssemblyOrderUptoSaid : Prop := assemblyOrderUptoRow.holds Tryz.pinned (OpenSpec.upto assemblyOrderSpec)

/-- 'garmentlaw50.AssemblyWhole', WHERE WHAT IT READS IS OF BULK AT MOST 1048576: true; the input reads as it did. -/
def assemblyWholeUptoRow : OpenClaim := { program := "ytlhffnnmmbannaagreat", sum := "8db7d5dc597c865fec1914e28c98dde3bac11dadb28a608dd49a6eda856bee3e", func := "garment/garmentlaw50.AssemblyWhole", spec := "assemblyWhole", inPlace := ["math.sqrt"], unfollowed := true, recurses := true, named := ["math/bits.divideError", "math/bits.overflowError"], plainKeys := false, apart := false, narrowed := true }
def AssemblyWholeUptoSaid : Prop := assemblyWholeUptoRow.holds Tryz.pinned (OpenSpec.upto assemblyWholeSpec)

end Rows
end Go.Proofs.YtlhffnnmmbannaaGreat
