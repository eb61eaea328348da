import Derived.Test.YtlhffnnmmbannaaGreatLAA
set_option linter.all false
/- AssemblyCounts: there is one garment for each bundle and ply whose pieces are complete, in order, and no other (the law returns true and never panics). No conditions. -/
namespace Go.Proofs.YtlhffnnmmbannaaGreat
open Go.aU Go.aU.Cd
set_option maxRecDepth 100000
theorem ct_shape41:shapeOf Tryz.prog 12 41=some YB:=by kernel_rfl
theorem ct_agg41 (x:List T):P1 Tryz.prog 41 x= .agg (x.map .t):=by kernel_rfl
theorem ct_awake:aD1:=⟨[oB true],r57.1,rfl,rfl⟩
theorem ct_law (us:List W) (h:Typed Tryz.prog 12 Tryz.f7.params.toList us):aU.Fn Tryz.prog 7 us [] (.w (.one (.t (.val (.bool true))))) []:=by
 have hp:Tryz.f7.params.toList=[41]:=by kernel_rfl
 rw[hp]at h
 obtain⟨a,r,rfl,ha,rfl⟩:=h
 rw[ct_agg41]
 exact law_counts ct_awake (zB ha ct_shape41)
theorem assemblyCounts:Rows.AssemblyCountsSaid:=fct_over ct_law
#print axioms assemblyCounts
end Go.Proofs.YtlhffnnmmbannaaGreat
