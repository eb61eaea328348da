import Derived.Test.YtkpopiejnimcoaaGreatDoorLCA
set_option linter.all false
/- AuditClean: for runs that are ready, the issues found are patterns and scans alone, audit.Clean says so, and the issues are those that the reference finds (the law returns true and never panics). The tables that the row lists (package-level variables) are tied to the program's text by the card. -/
namespace Go.Proofs.YtkpopiejnimcoaaGreatDoor
open Go.aW Go.aW.Cd
set_option maxRecDepth 100000
theorem KW:shapeOf Tryz.prog 12 47=some Mk:=ag
theorem SP(x:Lt):I5 Tryz.prog 47 x= .agg (x.map .t):=ag
theorem SO:mJ:=⟨[oB true],zJ,rfl,rfl⟩
theorem afS(us:Lw)(h:Typed Tryz.prog 12 Tryz.f3.params.toList us):aW.Fn Tryz.prog 3 us [] (.w (.one (.t (.val (.bool true))))) []:=by
 have F:Tryz.f3.params.toList=[47]:=ag
 rw[F]at h;obtain⟨a,r,rfl,w,rfl⟩:=h;rw[SP];obtain⟨_⟩:=yX;obtain⟨R,rfl,L⟩:=yS (fD w KW);obtain⟨Z,O,_,rfl⟩:=qo R L SO;exact O
theorem auditClean:Rows.AuditCleanCardSaid:=gF afS
end Go.Proofs.YtkpopiejnimcoaaGreatDoor
