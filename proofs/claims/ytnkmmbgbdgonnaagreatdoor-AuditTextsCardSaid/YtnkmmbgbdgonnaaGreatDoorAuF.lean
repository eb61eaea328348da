import Derived.Test.YtnkmmbgbdgonnaaGreatDoorRows
import Derived.ProofKit
namespace Go.Proofs.YtnkmmbgbdgonnaaGreatDoor
open Go.ChangeShapes Go.WideShapes Go.ChangeAt Go.RowKit
set_option maxRecDepth 100000
theorem cf_inPlace : (Rows.auditTextsRow.inPlace == Tryz.prog.inPlace 3) = true := by kernel_rfl
theorem cf_unf : (Rows.auditTextsRow.unfollowed == Tryz.prog.unfollowed 3) = true := by kernel_rfl
theorem cf_rec : (Rows.auditTextsRow.recurses == Tryz.prog.recurses 3) = true := by kernel_rfl
theorem cf_named : (Rows.auditTextsRow.named == Tryz.prog.varsNamed 3) = true := by kernel_rfl
theorem cf_a : (Rows.auditTextsRow.wf (OpenSpec.ofChange Rows.auditTextsSpec) && laidOutB Tryz.prog && mapsRowed Tryz.prog && Tryz.f3.params.all (Tryz.prog.readableRec ·) && namedTie Tryz.prog Rows.auditTextsRow.named Rows.auditTextsSpec.vars && (Rows.auditTextsRow.stops == []) && (Tryz.prog.stops == []) && (Rows.auditTextsRow.knobs == []) && (Tryz.prog.stopKnobs == [])) = true := by kernel_rfl
theorem cf_all : joinedFacts Tryz.prog 3 Tryz.f3 Rows.auditTextsSpec Rows.auditTextsRow = true := by
  unfold joinedFacts
  rw [cf_a, cf_inPlace, cf_unf, cf_rec, cf_named]
  kernel_rfl
end Go.Proofs.YtnkmmbgbdgonnaaGreatDoor
