import Derived.Test.YtcaeamnhfodfoaaGreatLF
set_option linter.all false
/- CuttingFlaws: without the flaws of the rolls the same pieces are cut, and none is damaged; without those of one roll the pieces of the other rolls stay as they are (the law returns true and never panics). No conditions. -/
namespace Go.Proofs.YtcaeamnhfodfoaaGreat
open Go.aU Go.aU.Cd
set_option maxRecDepth 100000
theorem AV:shapeOf Tryz.prog 12 40=some O3:=by kernel_rfl
theorem ES (x:List T):Kp Tryz.prog 40 x= .agg (x.map .t):=by kernel_rfl
theorem EQ:zL:=⟨[oB true],r42.1,rfl,rfl⟩
theorem Cj:shapeOf Tryz.prog 12 5=some [.u8]:=by kernel_rfl
theorem G2 (t:T):Kp Tryz.prog 5 [t]= .one (.t t):=by kernel_rfl
theorem OS {x:List T} (h:TT Tryz.prog 12 5 x): ∃n:Int,x=[.val (.int .u8 n)]∧0≤n∧n < 256:=by
 obtain⟨_,_,rfl,⟨n,rfl,h1,h2⟩,rfl⟩:=ph h Cj
 exact⟨n,rfl,h1,h2⟩
theorem Jp (us:List W) (h:Typed Tryz.prog 12 Tryz.f5.params.toList us):aU.Fn Tryz.prog 5 us [] (.w (.one (.t (.val (.bool true))))) []:=by
 have hp:Tryz.f5.params.toList=[40,5]:=by kernel_rfl
 rw[hp]at h
 obtain⟨a,r,rfl,ha,b,r2,rfl,hb,rfl⟩:=h
 obtain⟨n,rfl,h1,h2⟩:=OS hb
 rw[ES,G2]
 obtain⟨_⟩:=NU
 exact qJ EQ (ph ha AV) h1 h2
theorem cuttingFlaws:Rows.CuttingFlawsSaid:=G1 Jp
#print axioms cuttingFlaws
end Go.Proofs.YtcaeamnhfodfoaaGreat
