import Derived.Test.YtkpopiejnimcoaaGreatDoorLPA
set_option linter.all false
/- AuditPays: if one of the pays of a run that is ready has another work, or is missing, there is exactly one issue more, with the difference, and the order of the pays does not matter (the law returns true and never panics). The tables that the row lists (package-level variables) are tied to the program's text by the card. -/
namespace Go.Proofs.YtkpopiejnimcoaaGreatDoor
open Go.aW Go.aW.Cd
set_option maxRecDepth 100000
theorem KP:shapeOf Tryz.prog 12 47=some Mk:=ag
theorem SJ(x:Lt):I5 Tryz.prog 47 x= .agg (x.map .t):=ag
theorem Nl:shapeOf Tryz.prog 12 5=some [.u8]:=ag
theorem WI(t:T):I5 Tryz.prog 5 [t]= .one (.t t):=ag
theorem SH(t:T):I5 Tryz.prog 60 [t]= .one (.t t):=ag
theorem asB{b:Lt}(h:TT Tryz.prog 12 60 b): ∃m:Int,b=[.val (.int .i8 m)]/\ -128<=m/\m<=127:=by
 have L:Tryz.prog.underlying 60=some (.int .i8):=ag
 simp only[TT,L]at h;obtain⟨n,rfl,a⟩:=h;simp only[Lit.wf,LD,decide_eq_true_eq]at a;have O:(-128:Int)<=n:=a.1;have Y:n<=(127:Int):=a.2;exact⟨n,rfl,O,Y⟩
theorem SI:mJ:=⟨[oB true],zJ,rfl,rfl⟩
theorem afD(us:Lw)(h:Typed Tryz.prog 12 Tryz.f5.params.toList us):aW.Fn Tryz.prog 5 us [] (.w (.one (.t (.val (.bool true))))) []:=by
 have F:Tryz.f5.params.toList=[47,5,60]:=ag
 rw[F]at h;obtain⟨a,r,rfl,w,b,U,rfl,G,c,K,rfl,D,rfl⟩:=h;obtain⟨_,_,rfl,⟨n,rfl,O,Y⟩,rfl⟩:=fD G Nl;obtain⟨m,rfl,s⟩:=asB D;rw[SJ,WI,SH];obtain⟨_⟩:=yX;obtain⟨R,rfl,L⟩:=yS (fD w KP);obtain⟨Z,B,_,rfl⟩:=qV R L SI n m O Y s;exact B
theorem auditPays:Rows.AuditPaysCardSaid:=gF afD
end Go.Proofs.YtkpopiejnimcoaaGreatDoor
