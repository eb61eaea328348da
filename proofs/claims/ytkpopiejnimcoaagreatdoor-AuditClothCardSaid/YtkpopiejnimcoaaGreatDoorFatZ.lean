import Derived.Test.YtkpopiejnimcoaaGreatDoorLTA
set_option linter.all false
/- AuditCloth: a ply that is laid once more wants cloth that is cut already: the one issue is an error of the spread (the law returns true and never panics). The tables that the row lists (package-level variables) are tied to the program's text by the card. -/
namespace Go.Proofs.YtkpopiejnimcoaaGreatDoor
open Go.aW Go.aW.Cd
set_option maxRecDepth 100000
theorem KK:shapeOf Tryz.prog 12 47=some Mk:=ag
theorem SD(x:Lt):I5 Tryz.prog 47 x= .agg (x.map .t):=ag
theorem Nk:shapeOf Tryz.prog 12 5=some [.u8]:=ag
theorem WC(t:T):I5 Tryz.prog 5 [t]= .one (.t t):=ag
theorem SC:mJ:=⟨[oB true],zJ,rfl,rfl⟩
theorem aeT(us:Lw)(h:Typed Tryz.prog 12 Tryz.f7.params.toList us):aW.Fn Tryz.prog 7 us [] (.w (.one (.t (.val (.bool true))))) []:=by
 have F:Tryz.f7.params.toList=[47,5]:=ag
 rw[F]at h;obtain⟨a,r,rfl,w,b,U,rfl,G,rfl⟩:=h;obtain⟨_,_,rfl,⟨n,rfl,O,Y⟩,rfl⟩:=fD G Nk;rw[SD,WC];obtain⟨_⟩:=yX;obtain⟨R,rfl,L⟩:=yS (fD w KK);obtain⟨Z,B,_,rfl⟩:=qn R L SC n O Y;exact B
theorem auditCloth:Rows.AuditClothCardSaid:=gF aeT
end Go.Proofs.YtkpopiejnimcoaaGreatDoor
