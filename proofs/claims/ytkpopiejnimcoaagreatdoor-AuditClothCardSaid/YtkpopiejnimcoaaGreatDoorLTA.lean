import Derived.Test.YtkpopiejnimcoaaGreatDoorBL
import Derived.Test.YtkpopiejnimcoaaGreatDoorRows
import Derived.ProofKit
import Derived.Test.YtkpopiejnimcoaaGreatDoorCards
import Derived.Test.YtkpopiejnimcoaaGreatDoorTie
import Derived.WalkKit
import Derived.OpenShut
import Derived.Deep.DeepHandedRow
import Derived.Lib.LaidTab
import Derived.Stop.LaidErr
import Derived.Lay
import Derived.Lib.ItoaNum
set_option linter.all false
set_option maxRecDepth 100000
set_option maxHeartbeats 4000000
namespace Go.aW.Cd
open Go Go.Proofs
variable[kw]
variable{r:Rn}{e:Lt}{id:Nat}{rows:Lq}{xs:Lz}
def gV.pls(h:gV r):yn (dn r).aQ:=by
 obtain⟨_,_,_,_,a⟩:=jM (dn r) h.b.ok;exact(a h.rK.pl).1
def Xv(h:gV r){k:Nat}(Z:r.plies[k]? =some e):uv {dn r with plies:=r.plies++[e]}/\cN {dn r with plies:=r.plies++[e]}=[[tI 1,tI 3,tI 14]]:=by
 have H:=oo Z;have A:=h.fw.py
 have I:jk {dn r with plies:=r.plies++[e]}:={h.b.ok with
  hy:=λx N=>by
   rcases yl.1 N with N|N
   . exact h.b.ok.hy x N
   . simp only[vv]at N;subst N;exact h.b.ok.hy _ H
  iI:=by show(r.plies++[e]).length<=1000000;simp only[XV,aco];omega
  hB:=λx N=>by
   rcases yl.1 N with N|N
   . exact h.b.ok.hB x N
   . simp only[vv]at N;subst N;exact h.b.ok.hB _ H}
 have y:uv {dn r with plies:=r.plies++[e]}:=⟨I,h.b.gp,h.b.pq⟩;refine⟨y,?_⟩;obtain⟨_,_,_,_,O⟩:=lS (dn r) h.b.ok h.pls;obtain⟨_,_,_,_,Y⟩:=lS {dn r with plies:=r.plies++[e]} I h.pls;have l:SpL r.ln r.wd (dn r).aQ r.aH r.lots r.plies:=O.1.1 h.rK.sp;have a:Tk {dn r with plies:=r.plies++[e]}=14:=Y.2 (l.aA8 Z aa);obtain⟨_,_,_,_,d⟩:=cS {dn r with plies:=r.plies++[e]} y;have B:=d.2.2.1 h.rK.op h.rK.pl (by rw[a];decide);rw[B,a]
def qU{P:Lz}{n:Int}(z:0<=n)(O:n < 256)(h:¬ (P.length:Int)=0): ∃i:Nat,i < P.length/\(IntKind.i64.wrap n).tmod (P.length:Int)=(i:Int):=by
 rw[bF aa aa];have Y:=ac4 n (show(0:Int) < (P.length:Int) by omega);have B:=ads (P.length:Int) z;exact⟨(n.tmod (P.length:Int)).toNat,aa,aa⟩
def jb{hp:HS}{d sz len:Nat}(R:find hp id=some (.row sz rows))(M:aL rows xs)(U:len=xs.length):cA (d+1) hp (.own id sz 0 len)=some (.aO sz xs):=by
 have I:0+len<=rows.length:=by rw[M.len];omega
 simp only[cA,R,true_and,I,if_true];rw[M,o5,mF,U];simp
def arL{plies:Lz}{len:Nat}(M:aL rows plies)(U:len=plies.length):
 bB (bM [(id,bE.row 2 rows)]) [.agg [.t (.val (.string r.sn)),.t (.aO 1 r.bk),.t (.aO 1 r.ms),.t (.aO 7 r.ps),.t (.aO 3 r.us),.t (.aO 6 r.ss),.t (.aO 5 r.os),.t (.aO 7 r.aH),.t (.aO 1 r.lots),.t (tI r.ln),.t (tI r.wd),.t (tI r.rx),.t (tI r.ry),.t (.aO 1 r.sizes),.t (.aO 7 r.places),.own id 2 0 len,.t (.aO 6 r.bs),.t (.aO 5 r.gs),.t (.aO 2 r.ws),.t (.aO 4 r.xs),.t (tI r.r),.t (tI r.l),.t (.aO 3 r.eB)]]=some [rE {r with plies:=plies}]:=by
 have Y:cA 6 [(id,bE.row 2 rows)] (.own id 2 0 len)=some (.aO 2 plies):=jb (d:=5) W3 M U;have B:∀t,cA 6 [(id,bE.row 2 rows)] (.t t)=some t:=λt=>rfl;simp only[bB,bM,Y,B,wv];rfl
def Xw(h:gV r){c:Lt}{v:Lz}{i:Nat}(D:(dn r).plies=c::v)(S:(c::v)[((i:Nat):Int).toNat]? =some e):
 ∃rs,Fn Tryz.prog 13 [rE {dn r with plies:=(c::v)++[e]}] [] (aR rs) []/\(aR rs).cR=true/\rs=[oL 3 [[tI 1,tI 3,tI 14]]]:=by
 have a:r.plies=c::v:=D;rw[<-a]at S⊢;obtain⟨x,I⟩:=Xv h S;obtain⟨Z,O,Y,rfl,_⟩:=cS _ x;exact⟨_,O,Y,by rw[I]⟩
def NG: ∃rs,Fn Tryz.prog 14 [oL 3 [[tI 1,tI 3,tI 14]],oL 3 [[tI 1,tI 3,tI 14]]] [] (aR rs) []/\(aR rs).cR=true/\rs=[oB true]:=by
 have v:I3 [[tI 1,tI 3,tI 14]]:=λe H=>⟨1,3,14,C0⟩;obtain⟨Z,O,Y,b,rfl,B⟩:=UE [[tI 1,tI 3,tI 14]] [[tI 1,tI 3,tI 14]] v v av;rw[B.2 rfl]at O Y;exact⟨_,O,Y,rfl⟩
def lT(h:¬ ((xs.length:Nat):Int)=0): ∃c v,xs=c::v:=by
 cases xs with
 |nil=>simp at h
 |cons a b=>exact⟨a,b,rfl⟩
def qn(r:Rn)(L:Zy r)(w:mJ)(n:Int)(z:0<=n)(O:n < 256):Tg 7 [rE r,.one (.t (.val (.int .u8 n)))] GTr:=by
 refine aC Tryz.func7 ?_
 repeat' ((conv=>whnf);first|refine bZz (λh=>?_) (λh=>?_)|(obtain⟨i,I,K⟩:=qU (P:=c::v) z O (show ¬ ((c::v).length:Int)=0 by simp only[aaa];omega);have e:LA (c::v):=D▸M.b.ok.hy;rw[K];refine aG (xs:=c::v) (n:=(i:Int)) e aa aa ?_;rintro _ ⟨l,q,rfl,d⟩ S)|refine And.intro (show((c::v).length:Int)≠0 by simp only[aaa];omega) ?_|refine And.intro ⟨rfl,by simp[bh];omega,by simp[maxLen];omega⟩ ?_|refine And.intro ⟨ak,by simp[bh];omega,by simp[maxLen];omega⟩ ?_|(refine jF aa aa ?_;intro a)|refine cT aa aa ?_|refine And.intro ag ?_|refine And.intro aa ?_|(refine aD rfl (w) ?_;rintro _ rfl)|(refine aN rfl (w) ?_;rintro _ rfl)|(refine aD rfl (bZ r L) ?_;rintro _ ⟨U,l,b,rfl,F⟩)|(refine aN rfl (bZ r L) ?_;rintro _ ⟨U,l,b,rfl,F⟩)|(refine qC 156 rfl (by rfl) (arL (r:=dn r) (plies:=(c::v)++[[tI l,.aO 4 q]]) (by unfold aL;simp[tr];rfl) ak) (Xw M D S) ?_;rintro _ rfl)|(refine iJ rfl NG (λx h=>by subst h;rfl) ?_;rintro _ rfl)|(have Y:(!b)=false:=ai;obtain⟨rfl,rfl,M⟩:=F (dM Y);clear F;have A:=M.fw.py)|(have Y:¬ (((dn r).plies.length:Nat):Int)=0:=ai;obtain⟨c,v,D⟩:=lT Y;have R:v.length+1<=6:=(by have y:(dn r).plies.length<=6:=A;rw[D]at y;exact y);rw[show(dn r).plies=c::v from D])|(have Y:¬ (((dn r).plies.length:Nat):Int)=0:=ai;obtain⟨c,v,D⟩:=lT Y;rw[D])|exact g1 rfl rfl rfl|(exfalso;omega))
end Go.aW.Cd
namespace Go.Proofs.YtkpopiejnimcoaaGreatDoor
open Go.ChangeShapes Go.WideShapes Go.ChangeAt Go.RowKit
def KL:(Rows.auditClothRow.inPlace==Tryz.prog.inPlace 7)=true:=ag
def aeQ:(Rows.auditClothRow.unfollowed==Tryz.prog.unfollowed 7)=true:=ag
def aeR:(Rows.auditClothRow.recurses==Tryz.prog.recurses 7)=true:=ag
def aeS:(Rows.auditClothRow.named==Tryz.prog.varsNamed 7)=true:=ag
def aDR:(Rows.auditClothRow.wf (OpenSpec.ofChange Rows.auditClothSpec)&&laidOutB Tryz.prog&&mapsRowed Tryz.prog&&Tryz.f7.params.all (Tryz.prog.readableRec ·)&&namedTie Tryz.prog Rows.auditClothRow.named Rows.auditClothSpec.vars&& (Rows.auditClothRow.stops== [])&& (Tryz.prog.stops== [])&& (Rows.auditClothRow.knobs== [])&& (Tryz.prog.stopKnobs== []))=true:=ag
def aeU:joinedFacts Tryz.prog 7 Tryz.f7 Rows.auditClothSpec Rows.auditClothRow=true:=by
 unfold joinedFacts;rw[aDR,KL,aeQ,aeR,aeS]
 kernel_rfl
end Go.Proofs.YtkpopiejnimcoaaGreatDoor
namespace Go.Proofs.YtkpopiejnimcoaaGreatDoor
open Go.aW Go.ChangeShapes Go.WideShapes Go.ChangeAt Go.RowKit
def Tryz.own:ownKnob Tryz.prog.godebug=none:=ag
def Tryz.laidOut:laidOutB Tryz.prog=true:=ag
def fg{P:Program}{W:World}{name:String}{g:Nat}{cs:Array Value}(hg:P.globalNamed name=some g)(h:W.var? P name=some cs):
 g < W.heap.size/\ ∃t fr,W.heap[g]? =some (.cells cs t fr):=by
 have N:=h;simp only[World.var?,hg,Tf]at N;split at N
 . rename_i d t fr G;simp only[ii]at N;subst N;refine⟨?_,t,fr,G⟩;rcases aa8 g W.heap.size with l|J
   . exact l
   . rw[aav J]at G;simp at G
 . simp at N
def dx{P:Program}{W:World}{name:String}{g:Nat}{k:IntKind}{zs:List Int}{vs:List Value}(hg:P.globalNamed name=some g)(h:Lib.TabIs P W name k zs)(l:vs=zs.map λz=>Value.int k z):
 g < W.heap.size/\(∃t fr,W.heap[g]? =some (.cells vs.toArray t fr))/\ ∀ (i:Nat) (v:Value),vs[i]? =some v->W.cell? ⟨g,i,none⟩=some v/\cz v=true:=by
 subst l;obtain⟨O,Y⟩:=fg hg h;refine⟨O,Y,λi v I=>⟨?_,?_⟩⟩
 . rw[World.var?_cell hg h i];simpa using I
 . simp only[yu,jU]at I;obtain⟨z,_,rfl⟩:=I;rfl
def kN{W:World}(R:laidMetH Tryz.prog Rows.auditClothRow.laid W):uw (λb=>W.heap.size<=b) (λ_=>False) W:=by
 have s:laidMet Tryz.prog Rows.auditClothRow.laid W:=R;have F:Lib.TabIs Tryz.prog W _ .u64 Lib.pow10Tab:=Lib.tabIs_of_head (g:=1) (t:=372) (e:=225) (n:=20) ag ag ag ag ag ag s.tail.tail;have a:Lib.TabIs Tryz.prog W _ .i64 [100000,1073741824]:=Lib.tabIs_of_head (g:=0) (t:=193) (e:=3) (n:=2) ag ag ag ag ag ag s.tail.tail.tail;intro g o D
 have e:(g=0/\o=[100000,1073741824].map λz=>Value.int .i64 z)\/(g=1/\o=Lib.pow10Tab.map λz=>Value.int .u64 z):=by
  unfold GH at D;simp only[uC]at D;split at D
  . rename_i e;simp only[ii]at D;exact .inl ⟨e.symm,D.symm⟩
  . split at D
    . rename_i e;simp only[ii]at D;exact .inr ⟨e.symm,by rw[<-D];rfl⟩
    . simp at D
 rcases e with⟨rfl,e⟩|⟨rfl,e⟩
 . obtain⟨O,Y,B⟩:=dx (g:=0) ag a e;exact⟨O,λh=>by omega,λh=>h,Y,B⟩
 . obtain⟨O,Y,B⟩:=dx (g:=1) ag F e;exact⟨O,λh=>by omega,λh=>h,Y,B⟩
def iN:Value:= .agg #[.string ⟨#[]⟩,.slice none 0 0,.slice none 0 0,.slice none 0 0,.slice none 0 0,.slice none 0 0,.slice none 0 0,.slice none 0 0,.slice none 0 0,.int .i64 0,.int .i64 0,.int .i64 0,.int .i64 0,.slice none 0 0,.slice none 0 0,.slice none 0 0,.slice none 0 0,.slice none 0 0,.slice none 0 0,.slice none 0 0,.int .i64 0,.int .i64 0,.slice none 0 0]
noncomputable def cE(J:Os):World:=World.laidAll Tryz.prog J Rows.auditClothRow.laid
def iX(J:Os):laidMet Tryz.prog Rows.auditClothRow.laid ((cE J).forCall (λ_ _=>0) ⟨#[], #[iN,.int .u8 0],[]⟩).memory:=
 laidMet_laidAll #[iN,.int .u8 0] ag ag
def reads(J:Os){H:Type}(enc:TypeId×Value->H):(DataW.whole enc Tryz.prog ((cE J).forCall (λ_ _=>0) ⟨#[], #[iN,.int .u8 0],[]⟩).memory Tryz.f7.params.toList Rows.auditClothSpec.vars false #[iN,.int .u8 0].toList 8).isSome=true:=ag
def lifted(D:∀us,Typed Tryz.prog 12 Tryz.f7.params.toList us->aW.Fn Tryz.prog 7 us [] (.w (.one (.t (.val (.bool true))))) [])(J:Os)(e:J.Started)(H:Type)(enc:TypeId×Value->H)(F:Stop.Interp):
 ReturnsInHanded {} Tryz.checked J 7 .any ((OpenSpec.ofChange Rows.auditClothSpec).preRow enc Tryz.prog Tryz.f7 Rows.auditClothRow.domain false Rows.auditClothRow.laid) (((OpenSpec.ofChange Rows.auditClothSpec).at F).post enc Tryz.prog Tryz.f7 false true false false):=by
 obtain⟨x,N⟩:=aay.1 (reads J enc)
 refine returnsInHanded_of_row (C:=Tryz.checked) (s:=OpenSpec.ofChange Rows.auditClothSpec) Tryz.own e ag Tryz.func7
  (witness_row_at (enc:=enc) (C:=Tryz.checked) false (cE J) #[iN,.int .u8 0] (World.laidAll_os _ _ _) ag ag ag
    (OpenSpec.preRow_of_cond 8 N rfl (λk Z=>by cases Z) ag (iX J))) ?_
 intro W l j G c h g B _ _ _ R _ _;refine nh (P:=Tryz.prog) (d:=11) (s:=Rows.auditClothSpec) Tryz.laidOut rfl ag Tryz.underlying4 ?_ ?_ ?_ D g (kN R) B
 . intro G w;rw[Tryz.params7]at w
   match G,w with
   | [a,b],_=>exact⟨rfl,rfl,rfl⟩
 . have:(Tryz.f7.params.toList.all λt=>gj Tryz.prog 12 t)=true:=ag
   exact yt.1 this
 . have:(Tryz.f7.params.toList.all λt=>Tryz.prog.readableRec t&&decide (t < Tryz.prog.types.size))=true:=ag
   intro t Q;have:=yt.1 this t Q;simpa using this
def FO:Tryz.pinned.checked.prog.funcNamed Rows.auditClothRow.func=some 7:=ag
def WD:Tryz.f7.isInstance Tryz.pinned.checked.prog Rows.auditClothRow.origin Rows.auditClothRow.targs:=of_decide_eq_true ag
def WB:Tryz.f7.isWrapper Tryz.pinned.checked.prog Rows.auditClothRow.wrapper Rows.auditClothRow.mainSum:=by
 unfold Func.isWrapper;first|(rw[if_pos r0];kernel_rfl)|(rw[if_neg r0];exact⟨rfl,rfl⟩)
def gq(D:∀us,Typed Tryz.prog 12 Tryz.f7.params.toList us->aW.Fn Tryz.prog 7 us [] (.w (.one (.t (.val (.bool true))))) []):Rows.AuditClothSaid:=
 OpenClaim.holds_of_cond 7 Tryz.f7 rfl rfl rfl rfl rfl rfl rfl ⟨rfl,rfl,rfl,rfl,rfl⟩ rfl rfl rfl rfl rfl FO Tryz.func7 aeU WD WB
  (λJ e H b _ F=>by rw[OpenClaim.pre_eq_preRow];exact lifted D J e H b F)
def plain(f:FuncId)(I:Func)(R:Tryz.pinned.checked.prog.funcNamed Rows.auditClothRow.func=some f)(c:Tryz.pinned.checked.prog.funcs[f]? =some I):
 false=Tryz.pinned.checked.prog.looks []/\ ∀ (j:Nat) t,I.params[j]? =some t->Tryz.pinned.checked.prog.wantsStandIn t=false:=by
 obtain rfl:f=7:=aa5 (FO.symm.trans R) |>.symm;obtain rfl:I=Tryz.f7:=(aa5 (Tryz.func7.symm.trans c)).symm;refine⟨ag,λj t Q=>?_⟩;have n:(Tryz.f7.params.toList.all λt=> !Tryz.prog.wantsStandIn t)=true:=ag
 have:=yt.1 n t (ab2.2 (ab7 Q));have e:Tryz.prog.wantsStandIn t=false:=by simpa using this
 exact e
def gF(D:∀us,Typed Tryz.prog 12 Tryz.f7.params.toList us->aW.Fn Tryz.prog 7 us [] (.w (.one (.t (.val (.bool true))))) []):Rows.AuditClothCardSaid:=
 Claim7.holds_tied_plain_at .later [] _ _ _ _ (gq D) (λ_ h=>by cases h) ag (λ_ h=>by cases h) auditCloth_row_tie rfl ⟨rfl,rfl⟩ ag rfl plain ag
end Go.Proofs.YtkpopiejnimcoaaGreatDoor
