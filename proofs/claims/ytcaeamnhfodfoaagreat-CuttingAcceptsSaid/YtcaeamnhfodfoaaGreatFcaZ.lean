import Derived.Test.YtcaeamnhfodfoaaGreatKE
set_option linter.all false
/- CuttingAccepts: the list of Pieces has no issues, in any order; without one of its elements, with one of them twice, or with a changed one it has exactly the issue that says so (the law returns true and never panics). No conditions. -/
namespace Go.Proofs.YtcaeamnhfodfoaaGreat
open Go.aS Go.aS.Cd
set_option maxRecDepth 100000
theorem Bf:shapeOf Tryz.prog 12 40=some N0:=by kernel_rfl
theorem Fj (x:List T):Le Tryz.prog 40 x= .agg (x.map .t):=by kernel_rfl
theorem Fi:C8:=⟨[oB true],r42.1,rfl,rfl⟩
theorem CG:shapeOf Tryz.prog 12 5=some [.u8]:=by kernel_rfl
theorem Bg (t:T):Le Tryz.prog 5 [t]= .one (.t t):=by kernel_rfl
theorem HE {x:List T} (h:TT Tryz.prog 12 5 x): ∃n:Int,x=[.val (.int .u8 n)]∧0≤n∧n < 256:=by
 obtain⟨_,_,rfl,⟨n,rfl,h1,h2⟩,rfl⟩:=pz h CG
 exact⟨n,rfl,h1,h2⟩
theorem J4 (us:List W) (h:Typed Tryz.prog 12 Tryz.f3.params.toList us):aS.Fn Tryz.prog 3 us [] (.w (.one (.t (.val (.bool true))))) []:=by
 have hp:Tryz.f3.params.toList=[40,5,5]:=by kernel_rfl
 rw[hp]at h
 obtain⟨a,r,rfl,ha,b,r2,rfl,hb,c,r3,rfl,hc,rfl⟩:=h
 obtain⟨n,rfl,h1,h2⟩:=HE hb
 obtain⟨m,rfl,h3,h4⟩:=HE hc
 rw[Fj,Bg,Bg]
 obtain⟨_⟩:=ME
 exact oK Fi (pz ha Bf) h1 h2 h3 h4
theorem cuttingAccepts:Rows.CuttingAcceptsSaid:=HF J4
#print axioms cuttingAccepts
end Go.Proofs.YtcaeamnhfodfoaaGreat
