import Derived.Test.YtlhffnnmmbannaaGreatLEA
set_option linter.all false
/- AssemblyShade: all pieces of a garment are undamaged, of one lot, one ply and one bundle; every place has exactly one; no cut piece is used twice; and Check accepts the garments (the law returns true and never panics). No conditions. -/
namespace Go.Proofs.YtlhffnnmmbannaaGreat
open Go.aU Go.aU.Cd
set_option maxRecDepth 100000
theorem Po:shapeOf Tryz.prog 12 41=some YB:=by kernel_rfl
theorem Pz (x:List T):P1 Tryz.prog 41 x= .agg (x.map .t):=by kernel_rfl
theorem Py:aD1:=⟨[oB true],r57.1,rfl,rfl⟩
theorem Qo (us:List W) (h:Typed Tryz.prog 12 Tryz.f6.params.toList us):aU.Fn Tryz.prog 6 us [] (.w (.one (.t (.val (.bool true))))) []:=by
 have hp:Tryz.f6.params.toList=[41]:=by kernel_rfl
 rw[hp]at h
 obtain⟨a,r,rfl,ha,rfl⟩:=h
 rw[Pz]
 exact Pw Py (zB ha Po)
theorem assemblyShade:Rows.AssemblyShadeSaid:=Qh Qo
#print axioms assemblyShade
end Go.Proofs.YtlhffnnmmbannaaGreat
