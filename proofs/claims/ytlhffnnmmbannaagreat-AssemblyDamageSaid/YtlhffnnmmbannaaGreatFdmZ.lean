import Derived.Test.YtlhffnnmmbannaaGreatLCA
set_option linter.all false
/- AssemblyDamage: if one more piece is damaged, at most one garment is missing, and all others stay (the law returns true and never panics). No conditions. -/
namespace Go.Proofs.YtlhffnnmmbannaaGreat
open Go.aU Go.aU.Cd
set_option maxRecDepth 100000
theorem fdm_shape41:shapeOf Tryz.prog 12 41=some YB:=by kernel_rfl
theorem fdm_agg41 (x:List T):P1 Tryz.prog 41 x= .agg (x.map .t):=by kernel_rfl
theorem fdm_awake:aD1:=⟨[oB true],r57.1,rfl,rfl⟩
theorem fdm_shape5:shapeOf Tryz.prog 12 5=some [.u8]:=by kernel_rfl
theorem fdm_one5 (t:T):P1 Tryz.prog 5 [t]= .one (.t t):=by kernel_rfl
theorem fdm_u8 {x:List T} (h:TT Tryz.prog 12 5 x): ∃n:Int,x=[.val (.int .u8 n)]∧0≤n∧n < 256:=by
 obtain⟨_,_,rfl,⟨n,rfl,h1,h2⟩,rfl⟩:=zB h fdm_shape5
 exact⟨n,rfl,h1,h2⟩
theorem fdm_law (us:List W) (h:Typed Tryz.prog 12 Tryz.f8.params.toList us):aU.Fn Tryz.prog 8 us [] (.w (.one (.t (.val (.bool true))))) []:=by
 have hp:Tryz.f8.params.toList=[41,5]:=by kernel_rfl
 rw[hp]at h
 obtain⟨a,r,rfl,ha,b,r2,rfl,hb,rfl⟩:=h
 obtain⟨n,rfl,h1,h2⟩:=fdm_u8 hb
 rw[fdm_agg41,fdm_one5]
 exact law_damage fdm_awake (zB ha fdm_shape41) h1 h2
theorem assemblyDamage:Rows.AssemblyDamageSaid:=fdm_over fdm_law
#print axioms assemblyDamage
end Go.Proofs.YtlhffnnmmbannaaGreat
