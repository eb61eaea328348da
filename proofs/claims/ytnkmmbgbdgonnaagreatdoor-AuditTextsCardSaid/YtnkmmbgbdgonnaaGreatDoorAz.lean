import Derived.Test.YtnkmmbgbdgonnaaGreatDoorAu
import Derived.Test.YtnkmmbgbdgonnaaGreatDoorAl
/- AuditTexts: for every issue, Text returns the specified line (the law returns true and never panics). The tables that the row lists (package-level variables) are tied to the program's text by the card. -/
namespace Go.Proofs.YtnkmmbgbdgonnaaGreatDoor
open Go.Abs Go.Abs.Cd
set_option maxRecDepth 100000

theorem int3 {d : Nat} {x : List T} (h : TT Tryz.prog (d + 1) 3 x) : ∃ n, x = [.val (.int .i64 n)] ∧ In64 n := by
  unfold TT at h
  rw [Tryz.underlying3] at h
  obtain ⟨n, rfl, hn⟩ := h
  refine ⟨n, rfl, ?_⟩
  simp [Lit.wf, IntKind.min, IntKind.max, IntKind.bits, IntKind.signed] at hn
  unfold In64
  omega

theorem agg23 (x : List T) : mkW Tryz.prog 23 x = .agg (x.map .t) := by kernel_rfl

theorem law_fn (us : List W) (h : Typed Tryz.prog 12 Tryz.f3.params.toList us) : Abs.Fn Tryz.prog 3 us [] (.w (.one (.t (.val (.bool true))))) [] := by
  have hp : Tryz.f3.params.toList = [23] := by kernel_rfl
  rw [hp] at h
  obtain ⟨a, r, rfl, ha, rfl⟩ := h
  unfold TT at ha
  rw [Tryz.underlying23] at ha
  obtain ⟨a1, r1, rfl, h1, a2, r2, rfl, h2, a3, r3, rfl, h3, rfl⟩ := ha
  obtain ⟨k, rfl, _⟩ := int3 h1
  obtain ⟨x, rfl, hx⟩ := int3 h2
  obtain ⟨y, rfl, hy⟩ := int3 h3
  rw [agg23]
  exact law3 k x y hx hy

theorem auditTexts : Rows.AuditTextsCardSaid := card_over law_fn
#print axioms auditTexts
end Go.Proofs.YtnkmmbgbdgonnaaGreatDoor
