import Derived.Test.YtcaeamnhfodfoaaGreatGE
set_option linter.all false
/- AssemblyWhole: if a lay of rolls without flaws is cut, every garment of every ply is sewn, and Check accepts all of them (the law returns true and never panics). No conditions. -/
namespace Go.Proofs.YtcaeamnhfodfoaaGreat
open Go.aR Go.aR.Cd
set_option maxRecDepth 100000
theorem C7:shapeOf Tryz.prog 12 80=some OF:=by kernel_rfl
theorem HE (x:List T):LX Tryz.prog 80 x= .agg (x.map .t):=by kernel_rfl
theorem C6:shapeOf Tryz.prog 12 82=some Kv:=by kernel_rfl
theorem HD (x:List T):LX Tryz.prog 82 x= .agg (x.map .t):=by kernel_rfl
theorem HC:KX:=⟨[oB true],KC,rfl,rfl⟩
theorem EF:shapeOf Tryz.prog 12 5=some [.u8]:=by kernel_rfl
theorem J1 (t:T):LX Tryz.prog 5 [t]= .one (.t t):=by kernel_rfl
theorem Ru {x:List T} (h:TT Tryz.prog 12 5 x): ∃n:Int,x=[.val (.int .u8 n)]:=by
 obtain⟨_,_,rfl,⟨n,rfl,_⟩,rfl⟩:=nx h EF
 exact⟨n,rfl⟩
theorem MB (us:List W) (h:Typed Tryz.prog 12 Tryz.f7.params.toList us):aR.Fn Tryz.prog 7 us [] (.w (.one (.t (.val (.bool true))))) []:=by
 have hp:Tryz.f7.params.toList=[80,82,5]:=by kernel_rfl
 rw[hp]at h
 obtain⟨a,r,rfl,ha,b,r2,rfl,hb,c,r3,rfl,hc,rfl⟩:=h
 obtain⟨n,rfl⟩:=Ru hc
 rw[HE,HD,J1]
 obtain⟨_⟩:=PZ
 exact G8 HC (nx ha C7) (nx hb C6)
theorem assemblyWhole:Rows.AssemblyWholeSaid:=J0 MB
#print axioms assemblyWhole
end Go.Proofs.YtcaeamnhfodfoaaGreat
