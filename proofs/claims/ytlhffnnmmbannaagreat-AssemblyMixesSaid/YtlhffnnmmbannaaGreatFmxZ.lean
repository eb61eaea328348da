import Derived.Test.YtlhffnnmmbannaaGreatLDA
set_option linter.all false
/- AssemblyMixes: two garments that exchange a piece are not accepted, nor is a garment twice (the law returns true and never panics). No conditions. -/
namespace Go.Proofs.YtlhffnnmmbannaaGreat
open Go.aU Go.aU.Cd
set_option maxRecDepth 100000
theorem fmx_shape41:shapeOf Tryz.prog 12 41=some YB:=by kernel_rfl
theorem fmx_agg41 (x:List T):P1 Tryz.prog 41 x= .agg (x.map .t):=by kernel_rfl
theorem fmx_awake:aD1:=⟨[oB true],r57.1,rfl,rfl⟩
theorem fmx_shape5:shapeOf Tryz.prog 12 5=some [.u8]:=by kernel_rfl
theorem fmx_one5 (t:T):P1 Tryz.prog 5 [t]= .one (.t t):=by kernel_rfl
theorem fmx_u8 {x:List T} (h:TT Tryz.prog 12 5 x): ∃n:Int,x=[.val (.int .u8 n)]∧0≤n∧n < 256:=by
 obtain⟨_,_,rfl,⟨n,rfl,h1,h2⟩,rfl⟩:=zB h fmx_shape5
 exact⟨n,rfl,h1,h2⟩
theorem fmx_law (us:List W) (h:Typed Tryz.prog 12 Tryz.f9.params.toList us):aU.Fn Tryz.prog 9 us [] (.w (.one (.t (.val (.bool true))))) []:=by
 have hp:Tryz.f9.params.toList=[41,5,5]:=by kernel_rfl
 rw[hp]at h
 obtain⟨a,r,rfl,ha,b,r2,rfl,hb,c,r3,rfl,hc,rfl⟩:=h
 obtain⟨n,rfl,h1,h2⟩:=fmx_u8 hb
 obtain⟨m,rfl,h3,h4⟩:=fmx_u8 hc
 rw[fmx_agg41,fmx_one5,fmx_one5]
 exact law_mixes fmx_awake (zB ha fmx_shape41) h1 h2 h3 h4
theorem assemblyMixes:Rows.AssemblyMixesSaid:=fmx_over fmx_law
#print axioms assemblyMixes
end Go.Proofs.YtlhffnnmmbannaaGreat
