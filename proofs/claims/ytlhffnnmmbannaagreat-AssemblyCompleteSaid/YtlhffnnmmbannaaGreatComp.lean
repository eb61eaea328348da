import Derived.Test.YtlhffnnmmbannaaGreatRows
import Derived.Test.YtlhffnnmmbannaaGreatAbsLaw
import Derived.Test.YtlhffnnmmbannaaGreatAbsXc
import Derived.Test.YtlhffnnmmbannaaGreatCompF
import Derived.ProofKit
namespace Go.Proofs.YtlhffnnmmbannaaGreat
open Go.Abs Go.ChangeShapes Go.WideShapes Go.ChangeAt Go.RowKit

theorem Tryz.own : ownKnob Tryz.prog.godebug = none := by kernel_rfl
theorem Tryz.laidOut : laidOutB Tryz.prog = true := by kernel_rfl

def nilS : Value := .slice none 0 0
def int0 : Value := .int .i64 0
def case0 : Value := .agg #[.string ⟨#[]⟩, .slice none 0 0, .slice none 0 0, .slice none 0 0, .slice none 0 0, .slice none 0 0, .slice none 0 0, .int .i64 0, .int .i64 0, .int .i64 0, .int .i64 0, .slice none 0 0, .slice none 0 0, .slice none 0 0, .slice none 0 0, .slice none 0 0]

set_option maxRecDepth 100000 in
theorem complete_lifted (hFn : ∀ us, Typed Tryz.prog 12 Tryz.f5.params.toList us → Abs.Fn Tryz.prog 5 us [] (.w (.one (.t (.val (.bool true))))) []) (os : Os) (started : os.Started) (H : Type) (enc : TypeId × Value → H) :
    ReturnsInHanded {} Tryz.checked os 5 .any (Rows.assemblyCompleteSpec.pre6 enc Tryz.prog Tryz.f5 Rows.assemblyCompleteRow.domain false) (Rows.assemblyCompleteSpec.post enc Tryz.prog Tryz.f5 false true false false) := by
  refine returnsInHanded_of_change (C := Tryz.checked) Tryz.own started (by kernel_rfl) Tryz.func5
    (ChangeSpec.witness6 (enc := enc) (C := Tryz.checked) false ⟨#[], #[case0, .int .i64 0, .int .i64 0], []⟩ 8 (by kernel_rfl) (by kernel_rfl) (by kernel_rfl) (by kernel_rfl)) ?_
  intro W base args ds gs before hval hW _ _
  refine law_calls (P := Tryz.prog) (d := 11) Tryz.laidOut rfl (by kernel_rfl) Tryz.underlying4 ?_ ?_ ?_ hFn hval hW
  · intro ds hds
    rw [Tryz.params5] at hds
    match ds, hds with
    | [a, b, c], _ => exact ⟨rfl, rfl, rfl⟩
  · have : (Tryz.f5.params.toList.all fun t => depthOk Tryz.prog 12 t) = true := by kernel_rfl
    exact List.all_eq_true.1 this
  · have : (Tryz.f5.params.toList.all fun t => Tryz.prog.readableRec t && decide (t < Tryz.prog.types.size)) = true := by kernel_rfl
    intro t ht
    have := List.all_eq_true.1 this t ht
    simpa using this

theorem complete_named : Tryz.pinned.checked.prog.funcNamed Rows.assemblyCompleteRow.func = some 5 := by kernel_rfl
theorem complete_inst : Tryz.f5.isInstance Tryz.pinned.checked.prog Rows.assemblyCompleteRow.origin Rows.assemblyCompleteRow.targs := of_decide_eq_true (by kernel_rfl)
theorem complete_wrap : Tryz.f5.isWrapper Tryz.pinned.checked.prog Rows.assemblyCompleteRow.wrapper Rows.assemblyCompleteRow.mainSum := by
  unfold Func.isWrapper; first | (rw [if_pos (by decide +kernel)]; kernel_rfl) | (rw [if_neg (by decide +kernel)]; exact ⟨rfl, rfl⟩)

theorem complete_over (hFn : ∀ us, Typed Tryz.prog 12 Tryz.f5.params.toList us → Abs.Fn Tryz.prog 5 us [] (.w (.one (.t (.val (.bool true))))) []) : Rows.AssemblyCompleteSaid :=
  OpenClaim.holds_of_wide 5 Tryz.f5 rfl rfl rfl rfl rfl rfl rfl ⟨rfl, rfl, rfl, rfl, rfl⟩ rfl rfl rfl rfl rfl complete_named Tryz.func5 cf_all complete_inst complete_wrap
    (fun os started H enc _ => complete_lifted hFn os started H enc)

end Go.Proofs.YtlhffnnmmbannaaGreat
