import Derived.Test.YtkpopiejnimcoaaGreatDoorLSA
set_option linter.all false
/- AuditScans: scans that repeat paid ones, added at the end of a run that is ready, add one issue each, and the run stays clean (the law returns true and never panics). The tables that the row lists (package-level variables) are tied to the program's text by the card. -/
namespace Go.Proofs.YtkpopiejnimcoaaGreatDoor
open Go.aW Go.aW.Cd
set_option maxRecDepth 100000
theorem KN:shapeOf Tryz.prog 12 47=some Mk:=ag
theorem SG(x:Lt):I5 Tryz.prog 47 x= .agg (x.map .t):=ag
theorem KM:shapeOf Tryz.prog 12 69=some [.sl [.u8]]:=ag
theorem SE(t:T):I5 Tryz.prog 69 [t]= .one (.t t):=ag
theorem SF:mJ:=⟨[oB true],zJ,rfl,rfl⟩
theorem aeY(us:Lw)(h:Typed Tryz.prog 12 Tryz.f8.params.toList us):aW.Fn Tryz.prog 8 us [] (.w (.one (.t (.val (.bool true))))) []:=by
 have F:Tryz.f8.params.toList=[47,69]:=ag
 rw[F]at h;obtain⟨a,r,rfl,w,b,S,rfl,G,rfl⟩:=h;obtain⟨_,_,rfl,⟨o,rfl,U,N⟩,rfl⟩:=fD G KM;rw[SG,SE];obtain⟨_⟩:=yX;obtain⟨R,rfl,L⟩:=yS (fD w KN);obtain⟨Z,B,_,rfl⟩:=qm R L SF o (λe H=>by obtain⟨_,_,rfl,⟨m,rfl,Q,d⟩,rfl⟩:=N e H;exact⟨m,rfl,Q,d⟩) U;exact B
theorem auditScans:Rows.AuditScansCardSaid:=gF aeY
end Go.Proofs.YtkpopiejnimcoaaGreatDoor
