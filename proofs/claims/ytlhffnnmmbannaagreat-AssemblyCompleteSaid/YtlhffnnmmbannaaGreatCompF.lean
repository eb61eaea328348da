import Derived.Test.YtlhffnnmmbannaaGreatRows
import Derived.ProofKit
namespace Go.Proofs.YtlhffnnmmbannaaGreat
open Go.ChangeShapes Go.WideShapes Go.ChangeAt Go.RowKit
set_option maxRecDepth 100000
theorem cf_inPlace : (Rows.assemblyCompleteRow.inPlace == Tryz.prog.inPlace 5) = true := by kernel_rfl
theorem cf_unf : (Rows.assemblyCompleteRow.unfollowed == Tryz.prog.unfollowed 5) = true := by kernel_rfl
theorem cf_rec : (Rows.assemblyCompleteRow.recurses == Tryz.prog.recurses 5) = true := by kernel_rfl
theorem cf_named : (Rows.assemblyCompleteRow.named == Tryz.prog.varsNamed 5) = true := by kernel_rfl
theorem cf_a : (Rows.assemblyCompleteRow.wf (OpenSpec.ofChange Rows.assemblyCompleteSpec) && laidOutB Tryz.prog && mapsRowed Tryz.prog && Tryz.f5.params.all (Tryz.prog.readableRec ·) && namedTie Tryz.prog Rows.assemblyCompleteRow.named Rows.assemblyCompleteSpec.vars && (Rows.assemblyCompleteRow.stops == []) && (Tryz.prog.stops == []) && (Rows.assemblyCompleteRow.knobs == []) && (Tryz.prog.stopKnobs == [])) = true := by kernel_rfl
theorem cf_all : joinedFacts Tryz.prog 5 Tryz.f5 Rows.assemblyCompleteSpec Rows.assemblyCompleteRow = true := by
  unfold joinedFacts
  rw [cf_a, cf_inPlace, cf_unf, cf_rec, cf_named]
  kernel_rfl
end Go.Proofs.YtlhffnnmmbannaaGreat
