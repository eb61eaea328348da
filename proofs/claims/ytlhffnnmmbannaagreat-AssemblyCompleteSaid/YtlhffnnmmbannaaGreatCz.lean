/- AssemblyComplete: for every style, lay, cut pieces, garment and ply, Complete reports what is specified (the law returns true and never panics). No conditions. -/
import Derived.Test.YtlhffnnmmbannaaGreatComp
import Derived.Test.YtlhffnnmmbannaaGreatCn
namespace Go.Proofs.YtlhffnnmmbannaaGreat
open Go.Abs Go.Abs.Cd
set_option maxRecDepth 100000

theorem shape41 : shapeOf Tryz.prog 12 41 = some [.str, .sl [.str], .sl [.int], .sl (pieceSh [.int, .int]), .sl useSh, .sl [.int, .int, .int, .int, .bool, .int], .sl [.str, .int, .int, .sl [.int], .sl [.int]], .int, .int, .int, .int, .sl [.int], .sl placeSh, .sl [.int, .sl [.int, .int, .int, .int]], .sl [.int, .int, .int, .int, .int, .int], .sl cutSh] := by kernel_rfl
theorem shape3 : shapeOf Tryz.prog 12 3 = some [.int] := by kernel_rfl

theorem agg41 (x : List T) : mkW Tryz.prog 41 x = .agg (x.map .t) := by kernel_rfl
theorem one3 (x : T) : mkW Tryz.prog 3 [x] = .one (.t x) := by kernel_rfl

theorem law_fn (us : List W) (h : Typed Tryz.prog 12 Tryz.f5.params.toList us) : Abs.Fn Tryz.prog 5 us [] (.w (.one (.t (.val (.bool true))))) [] := by
  have hp : Tryz.f5.params.toList = [41, 3, 3] := by kernel_rfl
  rw [hp] at h
  obtain ⟨a, r, rfl, ha, b, r2, rfl, hb, c, r3, rfl, hc, rfl⟩ := h
  obtain ⟨t0, q0, rfl, ⟨s0, rfl⟩, t1, q1, rfl, ⟨zs, rfl, _, _⟩, t2, q2, rfl, ⟨ms, rfl, _, _⟩, t3, q3, rfl, ⟨pcs, rfl, k3, m3⟩, t4, q4, rfl, ⟨us, rfl, k4, m4⟩, t5, q5, rfl, ⟨sm, rfl, _, _⟩, t6, q6, rfl, ⟨op, rfl, _, _⟩,
    t7, q7, rfl, ⟨l0, rfl⟩, t8, q8, rfl, ⟨l1, rfl⟩, t9, q9, rfl, ⟨l2, rfl⟩, t10, q10, rfl, ⟨l3, rfl⟩, t11, q11, rfl, ⟨ss, rfl, k11, m11⟩, t12, q12, rfl, ⟨ps, rfl, k12, m12⟩, t13, q13, rfl, ⟨pl, rfl, k13, m13⟩, t14, q14, rfl, ⟨bs, rfl, _, _⟩, t15, q15, rfl, ⟨cs, rfl, k15, m15⟩, rfl⟩ := shape_ok ha shape41
  obtain ⟨u0, v0, rfl, ⟨g, rfl⟩, rfl⟩ := shape_ok hb shape3
  obtain ⟨u1, v1, rfl, ⟨p, rfl⟩, rfl⟩ := shape_ok hc shape3
  rw [agg41, one3, one3]
  exact law5 ⟨.val (.string s0), zs, ms, pcs, us, 6, sm, 5, op, tI l0, tI l1, tI l2, tI l3, ss, ps, pl, 6, bs, cs⟩ ⟨⟨_, m3⟩, k3, m4, k4, m11, k11, m12, k12, ⟨_, m13⟩, k13, m15, k15⟩ g p

theorem assemblyComplete : Rows.AssemblyCompleteSaid := complete_over law_fn
#print axioms assemblyComplete
end Go.Proofs.YtlhffnnmmbannaaGreat
