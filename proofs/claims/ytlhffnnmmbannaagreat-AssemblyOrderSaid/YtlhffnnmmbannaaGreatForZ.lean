import Derived.Test.YtlhffnnmmbannaaGreatLBA
set_option linter.all false
/- AssemblyOrder: which garments are sewn does not depend on the order of the cut pieces (the law returns true and never panics). No conditions. -/
namespace Go.Proofs.YtlhffnnmmbannaaGreat
open Go.aU Go.aU.Cd
set_option maxRecDepth 100000
theorem for_shape41:shapeOf Tryz.prog 12 41=some YB:=by kernel_rfl
theorem for_agg41 (x:List T):P1 Tryz.prog 41 x= .agg (x.map .t):=by kernel_rfl
theorem for_awake:aD1:=⟨[oB true],r57.1,rfl,rfl⟩
theorem for_law (us:List W) (h:Typed Tryz.prog 12 Tryz.f10.params.toList us):aU.Fn Tryz.prog 10 us [] (.w (.one (.t (.val (.bool true))))) []:=by
 have hp:Tryz.f10.params.toList=[41]:=by kernel_rfl
 rw[hp]at h
 obtain⟨a,r,rfl,ha,rfl⟩:=h
 rw[for_agg41]
 exact law_order for_awake (zB ha for_shape41)
theorem assemblyOrder:Rows.AssemblyOrderSaid:=for_over for_law
#print axioms assemblyOrder
end Go.Proofs.YtlhffnnmmbannaaGreat
