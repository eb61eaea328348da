import Derived.Test.YtcaeamnhfodfoaaGreatEF
set_option linter.all false
/- CuttingExact: there is one cut piece for each ply and place, of the ply's lot and of its one roll, and it is damaged exactly if a flaw hits it (the law returns true and never panics). No conditions. -/
namespace Go.Proofs.YtcaeamnhfodfoaaGreat
open Go.aT Go.aT.Cd
set_option maxRecDepth 100000
theorem Df:shapeOf Tryz.prog 12 40=some SC:=by kernel_rfl
theorem If (x:List T):Q3 Tryz.prog 40 x= .agg (x.map .t):=by kernel_rfl
theorem Ie:Fv:=⟨[oB true],r42.1,rfl,rfl⟩
theorem Nb (us:List W) (h:Typed Tryz.prog 12 Tryz.f6.params.toList us):aT.Fn Tryz.prog 6 us [] (.w (.one (.t (.val (.bool true))))) []:=by
 have hp:Tryz.f6.params.toList=[40]:=by kernel_rfl
 rw[hp]at h
 obtain⟨a,r,rfl,ha,rfl⟩:=h
 rw[If]
 obtain⟨_⟩:=QR
 exact s8 Ie (ww ha Df)
theorem cuttingExact:Rows.CuttingExactSaid:=Kn Nb
#print axioms cuttingExact
end Go.Proofs.YtcaeamnhfodfoaaGreat
