import Derived.Test.YtkpopiejnimcoaaGreatDoorLHA
set_option linter.all false
/- AuditShades: if a garment of a run that is ready gets another lot, or a piece of another garment, the run is not clean (the law returns true and never panics). The tables that the row lists (package-level variables) are tied to the program's text by the card. -/
namespace Go.Proofs.YtkpopiejnimcoaaGreatDoor
open Go.aW Go.aW.Cd
set_option maxRecDepth 100000
theorem KR:shapeOf Tryz.prog 12 47=some Mk:=ag
theorem SL(x:Lt):I5 Tryz.prog 47 x= .agg (x.map .t):=ag
theorem Di:shapeOf Tryz.prog 12 5=some [.u8]:=ag
theorem KS(t:T):I5 Tryz.prog 5 [t]= .one (.t t):=ag
theorem SK:mJ:=⟨[oB true],zJ,rfl,rfl⟩
theorem afI(us:Lw)(h:Typed Tryz.prog 12 Tryz.f6.params.toList us):aW.Fn Tryz.prog 6 us [] (.w (.one (.t (.val (.bool true))))) []:=by
 have F:Tryz.f6.params.toList=[47,5,5]:=ag
 rw[F]at h;obtain⟨a,r,rfl,w,b,U,rfl,G,c,K,rfl,D,rfl⟩:=h;obtain⟨_,_,rfl,⟨n,rfl,O,Y⟩,rfl⟩:=fD G Di;obtain⟨_,_,rfl,⟨m,rfl,Q,d⟩,rfl⟩:=fD D Di;rw[SL,KS,KS];obtain⟨_⟩:=yX;obtain⟨R,rfl,L⟩:=yS (fD w KR);obtain⟨Z,B,_,rfl⟩:=pA R L SK n m O Y Q d;exact B
theorem auditShades:Rows.AuditShadesCardSaid:=gF afI
end Go.Proofs.YtkpopiejnimcoaaGreatDoor
