import Derived.Test.YtcaeamnhfodfoaaGreatMF
set_option linter.all false
/- CuttingCounts: the counts of all sizes together are the number of undamaged pieces, and for each size at most that of its places in all plies (the law returns true and never panics). No conditions. -/
namespace Go.Proofs.YtcaeamnhfodfoaaGreat
open Go.aR Go.aR.Cd
set_option maxRecDepth 100000
theorem AJ:shapeOf Tryz.prog 12 40=some OI:=by kernel_rfl
theorem Ep (x:List T):NL Tryz.prog 40 x= .agg (x.map .t):=by kernel_rfl
theorem Eo:Cr:=⟨[oB true],r42.1,rfl,rfl⟩
theorem I3 (us:List W) (h:Typed Tryz.prog 12 Tryz.f4.params.toList us):aR.Fn Tryz.prog 4 us [] (.w (.one (.t (.val (.bool true))))) []:=by
 have hp:Tryz.f4.params.toList=[40]:=by kernel_rfl
 rw[hp]at h
 obtain⟨a,r,rfl,ha,rfl⟩:=h
 rw[Ep]
 obtain⟨_⟩:=NA
 exact pS Eo (tL ha AJ)
theorem cuttingCounts:Rows.CuttingCountsSaid:=GA I3
#print axioms cuttingCounts
end Go.Proofs.YtcaeamnhfodfoaaGreat
