import Derived.Test.YtkpopiejnimcoaaGreatDoorLGA
set_option linter.all false
/- AuditGarments: without one of its garments a run that is ready has exactly one issue more, and with one of them twice, too (the law returns true and never panics). The tables that the row lists (package-level variables) are tied to the program's text by the card. -/
namespace Go.Proofs.YtkpopiejnimcoaaGreatDoor
open Go.aW Go.aW.Cd
set_option maxRecDepth 100000
theorem KU:shapeOf Tryz.prog 12 47=some Mk:=ag
theorem SN(x:Lt):I5 Tryz.prog 47 x= .agg (x.map .t):=ag
theorem Nn:shapeOf Tryz.prog 12 5=some [.u8]:=ag
theorem WN(t:T):I5 Tryz.prog 5 [t]= .one (.t t):=ag
theorem SM:mJ:=⟨[oB true],zJ,rfl,rfl⟩
theorem afN(us:Lw)(h:Typed Tryz.prog 12 Tryz.f4.params.toList us):aW.Fn Tryz.prog 4 us [] (.w (.one (.t (.val (.bool true))))) []:=by
 have F:Tryz.f4.params.toList=[47,5]:=ag
 rw[F]at h;obtain⟨a,r,rfl,w,b,U,rfl,G,rfl⟩:=h;obtain⟨_,_,rfl,⟨n,rfl,O,Y⟩,rfl⟩:=fD G Nn;rw[SN,WN];obtain⟨_⟩:=yX;obtain⟨R,rfl,L⟩:=yS (fD w KU);obtain⟨Z,B,_,rfl⟩:=nW R L SM n O Y;exact B
theorem auditGarments:Rows.AuditGarmentsCardSaid:=gF afN
end Go.Proofs.YtkpopiejnimcoaaGreatDoor
