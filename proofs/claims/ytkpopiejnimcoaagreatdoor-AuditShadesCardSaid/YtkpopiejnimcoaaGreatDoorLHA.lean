import Derived.Test.YtkpopiejnimcoaaGreatDoorBL
import Derived.Test.YtkpopiejnimcoaaGreatDoorRows
import Derived.ProofKit
import Derived.Test.YtkpopiejnimcoaaGreatDoorCards
import Derived.Test.YtkpopiejnimcoaaGreatDoorTie
import Derived.WalkKit
import Derived.OpenShut
import Derived.Deep.DeepHandedRow
import Derived.Lib.LaidTab
import Derived.Stop.LaidErr
import Derived.Lay
import Derived.Lib.ItoaNum
set_option linter.all false
set_option maxRecDepth 100000
set_option maxHeartbeats 4000000
namespace Go.aW.Cd
open Go Go.Proofs
variable[kw]
section
variable{os ws bs xs ys:Lz}
end
end Go.aW.Cd
namespace Go.aW.Cd
open Go Go.Proofs
variable[kw]
section
variable{r:Rn}
def gV.no(h:gV r){e:Lt}(H:nI 0 e≠2/\nI 0 e≠7):¬wz (dn r) e:=λF=>by
 rcases h.k27 e ((h.R0.m e).2 F)with O|O
 . exact H.1 O
 . exact H.2 O
def vO{R:Rn}(x:uv R)(o:kx R):IS R (cN R):=by
 obtain⟨_,_,_,_,d⟩:=cS R x;exact d.1 o
def I3.set{D:Lz}(h:I3 D)(i:Nat)(a b c:Int):I3 (D.set i [tI a,tI b,tI c]):=λe H=>by
 rcases aao H with O|O
 . exact h e O
 . exact⟨_,_,_,O⟩
abbrev Am(r:Rn)(G:Lz):Rn:={dn r with gs:=G}
def gV.gl(h:gV r):(bU r).length<=96:=by
 have A:=h.fw.py;have j:kA r.sizes r.plies r.bs r.bs.length:=h.ff.bd;have O:=pT (sizes:=r.sizes) (places:=r.places) (plies:=r.plies) (cuts:=(ew r).1) aa (rq h.o.hb j) r.bs.length;have Y:=h.fw.b;show(bU r).length<=96;unfold bU;omega
variable{G:Lz}
def Nf(h:gV r)(J:∀e,e∈G->nc e)(hp:∀e,e∈G->(nL 4 e).length<=100)(U:G.length<=240):uv (Am r G)/\IS (Am r G) (cN (Am r G))/\(∀e,wz (Am r G) e↔e∈mQ (zS r).1\/e∈ (ef (Aw (dn r) (ew r).1) G.length [] G 0).2\/e∈zY r.lots (ew r).1 G G.length\/e∈wx (Y9 r.sizes r.places r.plies (ew r).1) (ef (Aw (dn r) (ew r).1) G.length [] G 0).1 r.bs r.bs.length\/e∈jK r.os r.ws r.bs r.xs r.xs.length):=by
 have I:jk (Am r G):={h.b.ok with hg:=J,vU:=by show G.length<=1000;omega,MX:=λe H=>aal (hp e H) av};have x:uv (Am r G):=⟨I,hp,h.b.pq⟩;have o:kx (Am r G):=⟨h.rK.op,h.rK.pl,h.rK.sp,h.rK.bu,h.rK.jg,h.rK.tf,U,h.rK.ps⟩;refine⟨x,vO x o,λe=>?_⟩;have B:¬IM (lE r).1 (lE r).1 e:=tK (λ_=>rfl) e;show e∈mQ (zS r).1\/e∈ (ef (Aw (dn r) (ew r).1) G.length [] G 0).2\/e∈zY r.lots (ew r).1 G G.length\/e∈wx (Y9 r.sizes r.places r.plies (ew r).1) (ef (Aw (dn r) (ew r).1) G.length [] G 0).1 r.bs r.bs.length\/IM (lE r).1 (lE r).1 e\/e∈jK r.os r.ws r.bs r.xs r.xs.length↔_;simp only[B,false_or]
def aeA(h:gV r)(J:∀e,e∈G->nc e)(hp:∀e,e∈G->(nL 4 e).length<=100)(U:G.length<=240)(c:G≠ [])(K:¬DZ (Qw (dn r) (ew r).1) r.places r.plies (ew r).1 r.bs G):uv (Am r G)/\¬ ∀e,e∈cN (Am r G)->K27 e:=by
 obtain⟨s,v,z⟩:=Nf h J hp U;refine⟨s,λZ=>K ?_⟩
 have A:(ef (Aw (dn r) (ew r).1) G.length [] G 0).2=[]:=by
  rw[ac2];intro e H;obtain⟨a,b,rfl⟩:=tX e H;rcases Z _ ((v.m _).2 ((z _).2 (.inr (.inl H))))with O|O
  . simp[nI]at O
  . simp[nI]at O
 have g:=(wo (ww _) A).2 c;rw[ac1]at g;exact(h.ch G J aa).1 g
end
end Go.aW.Cd
namespace Go.aW.Cd
open Go Go.Proofs
variable[kw]
variable{P xs:Lz}{id sz:Nat}{rows:Lq}
def qU{n:Int}(z:0<=n)(O:n < 256)(h:¬ (P.length:Int)=0): ∃i:Nat,i < P.length/\(IntKind.i64.wrap n).tmod (P.length:Int)=(i:Int):=by
 rw[bF aa aa];have Y:=ac4 n (show(0:Int) < (P.length:Int) by omega);have B:=ads (P.length:Int) z;exact⟨(n.tmod (P.length:Int)).toNat,aa,aa⟩
def jb{hp:HS}{d len:Nat}(R:find hp id=some (.row sz rows))(M:aL rows xs)(U:len=xs.length):cA (d+1) hp (.own id sz 0 len)=some (.aO sz xs):=by
 have I:0+len<=rows.length:=by rw[M.len];omega
 simp only[cA,R,true_and,I,if_true];rw[M,o5,mF,U];simp
def lT(h:¬ ((xs.length:Nat):Int)=0): ∃c v,xs=c::v:=by
 cases xs with
 |nil=>simp at h
 |cons a b=>exact⟨a,b,rfl⟩
def jV(hp:HS):∀ts:Lt,bB (cA 6 hp) (ts.map .t)=some ts
 | []=>rfl
 |t::r=>by
  have B:cA 6 hp (.t t)=some t:=by cases hp<;>rfl
  simp only[aaq,bB,B,jV hp r]
def js{α β:Type}{f:α->Option β}{r:α}{x:β}(J:f r=some x):∀ {rows:List α} {xs:List β},bB f rows=some xs-> ∀i,bB f (rows.set i r)=some (xs.set i x)
 | [],xs,h,i=>by
   simp only[bB,ii]at h;subst h;rfl
 |a::rows,xs,h,i=>by
  simp only[bB]at h
  cases ha:f a with
  |none=>simp[ha]at h
  |some y=>
   cases hl:bB f rows with
   |none=>simp[ha,hl]at h
   |some l=>
    simp only[ha,hl,ii]at h;subst h
    cases i with
    |zero=>simp only[aee,bB,J,hl]
    |succ i=>simp only[aef,bB,ha,js J hl i]
def qS{hp:HS}{ts:Lt}{len:Nat}(k:Nat)(R:find hp id=some (.row sz rows))(M:aL rows P)(U:len=P.length):bB (bM hp) [.agg ((ts.map .t).set k (.own id sz 0 len))]=some [.agg ((ts.set k (.aO sz P)).map .t)]:=by
 have Y:cA 6 hp (.own id sz 0 len)=some (.aO sz P):=jb (d:=5) R M U;have B:=js Y (jV hp ts) k;simp only[bB,bM,B,wv]
def O1{hp:HS}{ts:Lt}{len i:Nat}{y:Lc}{H:Lt}(k:Nat)(R:find hp id=some (.row sz (rows.set i y)))(M:aL rows P)(U:len=P.length)(O:bB (cA 5 hp) y=some H):bB (bM hp) [.agg ((ts.map .t).set k (.own id sz 0 len))]=some [.agg ((ts.set k (.aO sz (P.set i H))).map .t)]:=by
 have z:bB (bB (cA 5 hp)) rows=some P:=by rw[M];exact mF P
 have g:=js O z i;have I:0+len<=(rows.set i y).length:=by simp only[abn];rw[M.len];omega
 have F:((rows.set i y).drop 0).take len=rows.set i y:=by
  rw[acg,aac (by simp only[abn];rw[M.len];omega)]
 have Y:cA 6 hp (.own id sz 0 len)=some (.aO sz (P.set i H)):=by
  simp only[cA,R,true_and,I,if_true];rw[F,g];rfl
 have B:=js Y (jV hp ts) k;simp only[bB,bM,B,wv]
def akS{hp:HS}{t p s l:Int}{pid len:Nat}{zs:Lz}(R:find hp pid=some (.row 1 rows))(M:aL rows zs)(U:len=zs.length):bB (cA 5 hp) [.t (tI t),.t (tI p),.t (tI s),.t (tI l),.own pid 1 0 len]=some (fm t p s l zs):=by
 have h:=jb (d:=4) R M U;have B:∀t,cA 5 hp (.t t)=some t:=λt=>by cases hp<;>rfl
 simp only[bB,h,B]
def LS{i j:Nat}{e:Lt}{K:Lc->Prop}(h:aL rows xs)(A:i=j)(H:xs[((j:Nat):Int).toNat]? =some e)(Z:K (e.map .t)):mP rows i K:=by
 subst A;have d:xs[i]? =some e:=C0
 unfold mP;rw[h];have:(tr xs)[i]? =some (e.map .t):=by simp[tr,d]
 rw[this];exact Z
def Xj{R':Rn}(x:uv R'/\¬ ∀e,e∈cN R'->K27 e): ∃rs,Fn Tryz.prog 11 [rE R'] [] (aR rs) []/\(aR rs).cR=true/\rs=[oB false]:=by
 obtain⟨Z,O,Y,b,rfl,B⟩:=tC R' x.1
 have:b=false:=by
  cases b with
  |false=>rfl
  |true=>exact(x.2 (B.1 rfl)).elim
 rw[this]at O Y;exact⟨_,O,Y,rfl⟩
def PB{n:Int}(hg:∀e,e∈P->nc e)(z:0<=n)(O:n < 256)(h:¬ (P.length:Int)=0): ∃ (i:Nat) (t p s l:Int) (pcs:Lz),i < P.length/\(IntKind.i64.wrap n).tmod (P.length:Int)=(i:Int)/\P[((i:Nat):Int).toNat]? =some [tI t,tI p,tI s,tI l,.aO 1 pcs]/\Is pcs/\pcs.length<=maxLen:=by
 obtain⟨i,I,K⟩:=qU z O h;obtain⟨t,p,s,l,pcs,H,d,j⟩:=hg P[i] (aaC I);exact⟨i,t,p,s,l,pcs,I,K,by rw[aa0,YI I,H],d,j⟩
def vj{l h:Nat}{K:C->Prop}(O:l<=h)(Y:h<=xs.length)(Z:∀A,(xs.drop l).take (h - l)=A->K (.t (.aO sz A))):(l<=h/\h<=xs.length)/\xS (.t (.aO sz xs)) l h K:=cT O Y (Z _ rfl)
def vC{D A:Lz}{a b:Nat}(h:(D.drop a).take b=A):A.length<=D.length:=by
 rw[<-h,aab,aax];omega
end Go.aW.Cd
namespace Go.aW.Cd
open Go Go.Proofs
variable[kw]
def Z3(l:Int):IntKind.i64.wrap (l+1)≠l:=by
 simp only[IntKind.wrap,IntKind.signed,IntKind.bits];intro h;simp at h;omega
def anO{G:Lz}{g:Lt}(J:∀e,e∈G->nc e)(hp:∀e,e∈G->(nL 4 e).length<=100)(k:Nat)(hg:nc g)(MX:(nL 4 g).length<=100):(∀e,e∈G.set k g->nc e)/\ ∀e,e∈G.set k g->(nL 4 e).length<=100:=by
 constructor<;>intro e H<;>rcases aao H with O|rfl
 . exact J e O
 . exact hg
 . exact hp e O
 . exact MX
section
variable{r R:Rn}{G:Lz}{i j k:Nat}{t p s l t2 p2 s2 l2 y:Int}{pcs abR zs:Lz}
def Uw(h:gV r){g:Lt}(Z:k < (bU r).length)(hg:nc g)(MX:(nL 4 g).length<=100)(K:¬DZ (Qw (dn r) (ew r).1) r.places r.plies (ew r).1 r.bs ((bU r).set k g)): ∃rs,Fn Tryz.prog 11 [rE (Am r ((bU r).set k g))] [] (aR rs) []/\(aR rs).cR=true/\rs=[oB false]:=by
 obtain⟨O,Y⟩:=anO (k:=k) h.gr h.b.gp hg MX;have y:=h.gl;refine Xj (aeA h O Y (by rw[abn];omega) (λe=>?_) K);have:=congrArg List.length e;rw[abn,ac0]at this;omega
def anN(h:gV r)(M:R=dn r)(J:R.gs=G)(S:G[((i:Nat):Int).toNat]? =some [tI t,tI p,tI s,tI l,.aO 1 pcs])(Z:k=i): ∃rs,Fn Tryz.prog 11 [rE {R with gs:=G.set k [tI t,tI p,tI s,tI (IntKind.i64.wrap (l+1)),.aO 1 pcs]}] [] (aR rs) []/\(aR rs).cR=true/\rs=[oB false]:=by
 subst M J Z;have x:(bU r)[k]? =some [tI t,tI p,tI s,tI l,.aO 1 pcs]:=by rw[aa0]at S;exact S
 have K:=(jl.1 x).1;have F:=oo x;obtain⟨_,_,_,_,_,H,d,j⟩:=h.gr _ F;have c:=h.b.gp _ F;simp only[aaz,T.aO.injEq,true_and,and_true]at H;refine Uw h K ⟨_,_,_,_,_,rfl,by rw[H.2.2.2.2];exact d,by rw[H.2.2.2.2];exact j⟩ c λA=>?_;have O:=(h.ok.all k _ K x).fk;have Y:=(A.all k _ (by rw[abn];exact K) (aaj K)).fk;exact Z3 l (Y.trans O.symm)
def Uz(h:gV r)(M:R=dn r)(J:R.gs=G)(S:G[((i:Nat):Int).toNat]? =some [tI t,tI p,tI s,tI l,.aO 1 pcs])(b:G[((j:Nat):Int).toNat]? =some [tI t2,tI p2,tI s2,tI l2,.aO 1 abR])(B:¬ (i:Int)=(j:Int))(hy:abR[((0:Int)).toNat]? =some [tI y])(A:Is zs)(N:zs.length<=pcs.length)(g:zs.length+1<=pcs.length)(Z:k=i): ∃rs,Fn Tryz.prog 11 [rE {R with gs:=G.set k [tI t,tI p,tI s,tI l,.aO 1 ([tI y]::zs)]}] [] (aR rs) []/\(aR rs).cR=true/\rs=[oB false]:=by
 subst M J Z;have x:(bU r)[k]? =some [tI t,tI p,tI s,tI l,.aO 1 pcs]:=by rw[aa0]at S;exact S
 have d:(bU r)[j]? =some [tI t2,tI p2,tI s2,tI l2,.aO 1 abR]:=by rw[aa0]at b;exact b
 have K:=(jl.1 x).1;have c:pcs.length<=100:=h.b.gp _ (oo x);refine Uw h K ⟨_,_,_,_,_,rfl,λe H=>?_,by simp only[aaa,maxLen];omega⟩ (show([tI y]::zs).length<=100 by simp only[aaa];omega) λO=>?_
 . rcases aak.1 H with rfl|H
   . exact⟨y,rfl⟩
   . exact A e H
 . cases abR with
   |nil=>simp at hy
   |cons a q=>
    have w:a=[tI y]:=by simpa using hy
    subst w;exact acH h.ff.bd h.ok (show k≠j by omega) x d (aaj K) O
end
def gV.pl8{r R:Rn}{G pcs:Lz}{i:Nat}{t p s l:Int}(h:gV r)(M:R=dn r)(J:R.gs=G)(S:G[((i:Nat):Int).toNat]? =some [tI t,tI p,tI s,tI l,.aO 1 pcs]):pcs.length<=100:=by
 subst M J;exact h.b.gp _ (oo S)
variable{D A:Lz}
def aCb{a b:Nat}(h:(D.drop a).take b=A)(l:Is D):Is A:=λe H=>by
 rw[<-h]at H;exact l e (abc (aah H))
def T9{a b:Nat}(h:(D.drop a).take b=A)(w:a=1)(l:¬ ((D.length:Nat):Int)=0):A.length+1<=D.length:=by
 rw[<-h,aab,aax];omega
def pA(r:Rn)(L:Zy r)(w:mJ)(n m:Int)(z:0<=n)(O:n < 256)(A:0<=m)(m1:m < 256):Tg 6 [rE r,.one (.t (.val (.int .u8 n))),.one (.t (.val (.int .u8 m)))] GTr:=by
 refine aC Tryz.func6 ?_
 repeat' ((conv=>whnf);first|refine bZz (λh=>?_) (λh=>?_)|refine And.intro Y ?_|(have N:¬ (((c::v).length:Nat):Int)=0:=ai;obtain⟨i,t,p,s,l,pcs,I,K,S,d,J⟩:=PB hgr z O N;rw[K])|(have N:¬ (((c::v).length:Nat):Int)=0:=ai;obtain⟨j,t5,p5,G,R,pcj,Q,hje,hsj,hqj,aQz⟩:=PB hgr A m1 N;rw[hje])|refine sc (xs:=c::v) (n:=(i:Int)) S aa ?_|refine sc (xs:=c::v) (n:=(j:Int)) hsj aa ?_|(refine aG (xs:=pcj) hqj aa aa ?_;rintro _ ⟨y,rfl⟩ hsy)|(refine vj (xs:=pcs) aa aa ?_;rintro Z o;have hA2:=vC o;rcases Z with _|⟨B,t2⟩)|refine And.intro ⟨aa,by simp at I⊢;omega⟩ ?_|refine And.intro ⟨ak,by simp[bh];omega,by simp[maxLen];omega⟩ ?_|(have hA3:t2.length+1<=pcs.length:=hA2;have hA4:pcs.length<=100:=M.pl8 g D S;refine And.intro ⟨ak,by simp[bh];omega,by simp[maxLen];omega⟩ ?_)|(refine jF aa aa ?_;intro a)|refine cT aa aa ?_|refine And.intro ag ?_|refine And.intro aa ?_|(refine aD rfl (w) ?_;rintro _ rfl)|(refine aN rfl (w) ?_;rintro _ rfl)|(refine aD rfl (bZ r L) ?_;rintro _ ⟨U,l0,b,rfl,F⟩)|(refine aN rfl (bZ r L) ?_;rintro _ ⟨U,l0,b,rfl,F⟩)|(refine iJ (qS (ts:=U.ts) 17 rfl (aL.set (xs:=c::v) rfl _ [tI t,tI p,tI s,tI (IntKind.i64.wrap (l+1)),.aO 1 pcs]) ak) (anN M g D S ak) (λx h=>by subst h;rfl) ?_;rintro _ rfl)|(refine iJ (O1 (ts:=U.ts) 17 rfl (show aL _ (c::v)from rfl) ak (akS rfl (show aL _ [[tI y]]from rfl) ak)) (Uz (zs:=[]) M g D S hsj ai hsy (λe H=>by simp at H) ak (by have:=T9 o rfl ai;simpa using this) ak) (λx h=>by subst h;rfl) ?_;rintro _ rfl)|(refine iJ (O1 (ts:=U.ts) 17 rfl (show aL _ (c::v)from rfl) ak (akS rfl (show aL _ ([tI y]::B::t2)from rfl) gZ)) (Uz (zs:=B::t2) M g D S hsj ai hsy (aCb o d) (by have:=T9 o rfl ai;omega) (T9 o rfl ai) ak) (λx h=>by subst h;rfl) ?_;rintro _ rfl)|(have Y:(!b)=false:=ai;obtain⟨g,rfl,M⟩:=F (dM Y);clear F;have P:U.gs.length<=96:=(by rw[g];exact M.gl);have hgr:∀e,e∈U.gs->nc e:=(by rw[g];exact M.gr))|(have Y:¬ ((U.gs.length:Nat):Int)=0:=ai;obtain⟨c,v,D⟩:=lT Y;rw[D]at P hgr Y;rw[D];simp only[aaa]at P)|refine LS (xs:=c::v) (j:=i) rfl ak S ?_|exact g1 rfl rfl rfl|(exfalso;omega))
end Go.aW.Cd
namespace Go.Proofs.YtkpopiejnimcoaaGreatDoor
open Go.ChangeShapes Go.WideShapes Go.ChangeAt Go.RowKit
def KT:(Rows.auditShadesRow.inPlace==Tryz.prog.inPlace 6)=true:=ag
def afF:(Rows.auditShadesRow.unfollowed==Tryz.prog.unfollowed 6)=true:=ag
def afG:(Rows.auditShadesRow.recurses==Tryz.prog.recurses 6)=true:=ag
def afH:(Rows.auditShadesRow.named==Tryz.prog.varsNamed 6)=true:=ag
def aDU:(Rows.auditShadesRow.wf (OpenSpec.ofChange Rows.auditShadesSpec)&&laidOutB Tryz.prog&&mapsRowed Tryz.prog&&Tryz.f6.params.all (Tryz.prog.readableRec ·)&&namedTie Tryz.prog Rows.auditShadesRow.named Rows.auditShadesSpec.vars&& (Rows.auditShadesRow.stops== [])&& (Tryz.prog.stops== [])&& (Rows.auditShadesRow.knobs== [])&& (Tryz.prog.stopKnobs== []))=true:=ag
def afJ:joinedFacts Tryz.prog 6 Tryz.f6 Rows.auditShadesSpec Rows.auditShadesRow=true:=by
 unfold joinedFacts;rw[aDU,KT,afF,afG,afH]
 kernel_rfl
end Go.Proofs.YtkpopiejnimcoaaGreatDoor
namespace Go.Proofs.YtkpopiejnimcoaaGreatDoor
open Go.aW Go.ChangeShapes Go.WideShapes Go.ChangeAt Go.RowKit
def Tryz.own:ownKnob Tryz.prog.godebug=none:=ag
def Tryz.laidOut:laidOutB Tryz.prog=true:=ag
def fg{P:Program}{W:World}{name:String}{g:Nat}{cs:Array Value}(hg:P.globalNamed name=some g)(h:W.var? P name=some cs):
 g < W.heap.size/\ ∃t fr,W.heap[g]? =some (.cells cs t fr):=by
 have N:=h;simp only[World.var?,hg,Tf]at N;split at N
 . rename_i d t fr G;simp only[ii]at N;subst N;refine⟨?_,t,fr,G⟩;rcases aa8 g W.heap.size with l|J
   . exact l
   . rw[aav J]at G;simp at G
 . simp at N
def dx{P:Program}{W:World}{name:String}{g:Nat}{k:IntKind}{zs:List Int}{vs:List Value}(hg:P.globalNamed name=some g)(h:Lib.TabIs P W name k zs)(l:vs=zs.map λz=>Value.int k z):
 g < W.heap.size/\(∃t fr,W.heap[g]? =some (.cells vs.toArray t fr))/\ ∀ (i:Nat) (v:Value),vs[i]? =some v->W.cell? ⟨g,i,none⟩=some v/\cz v=true:=by
 subst l;obtain⟨O,Y⟩:=fg hg h;refine⟨O,Y,λi v I=>⟨?_,?_⟩⟩
 . rw[World.var?_cell hg h i];simpa using I
 . simp only[yu,jU]at I;obtain⟨z,_,rfl⟩:=I;rfl
def kN{W:World}(R:laidMetH Tryz.prog Rows.auditShadesRow.laid W):uw (λb=>W.heap.size<=b) (λ_=>False) W:=by
 have s:laidMet Tryz.prog Rows.auditShadesRow.laid W:=R;have F:Lib.TabIs Tryz.prog W _ .u64 Lib.pow10Tab:=Lib.tabIs_of_head (g:=1) (t:=372) (e:=225) (n:=20) ag ag ag ag ag ag s.tail.tail;have a:Lib.TabIs Tryz.prog W _ .i64 [100000,1073741824]:=Lib.tabIs_of_head (g:=0) (t:=193) (e:=3) (n:=2) ag ag ag ag ag ag s.tail.tail.tail;intro g o D
 have e:(g=0/\o=[100000,1073741824].map λz=>Value.int .i64 z)\/(g=1/\o=Lib.pow10Tab.map λz=>Value.int .u64 z):=by
  unfold GH at D;simp only[uC]at D;split at D
  . rename_i e;simp only[ii]at D;exact .inl ⟨e.symm,D.symm⟩
  . split at D
    . rename_i e;simp only[ii]at D;exact .inr ⟨e.symm,by rw[<-D];rfl⟩
    . simp at D
 rcases e with⟨rfl,e⟩|⟨rfl,e⟩
 . obtain⟨O,Y,B⟩:=dx (g:=0) ag a e;exact⟨O,λh=>by omega,λh=>h,Y,B⟩
 . obtain⟨O,Y,B⟩:=dx (g:=1) ag F e;exact⟨O,λh=>by omega,λh=>h,Y,B⟩
def iN:Value:= .agg #[.string ⟨#[]⟩,.slice none 0 0,.slice none 0 0,.slice none 0 0,.slice none 0 0,.slice none 0 0,.slice none 0 0,.slice none 0 0,.slice none 0 0,.int .i64 0,.int .i64 0,.int .i64 0,.int .i64 0,.slice none 0 0,.slice none 0 0,.slice none 0 0,.slice none 0 0,.slice none 0 0,.slice none 0 0,.slice none 0 0,.int .i64 0,.int .i64 0,.slice none 0 0]
noncomputable def cE(J:Os):World:=World.laidAll Tryz.prog J Rows.auditShadesRow.laid
def iX(J:Os):laidMet Tryz.prog Rows.auditShadesRow.laid ((cE J).forCall (λ_ _=>0) ⟨#[], #[iN,.int .u8 0,.int .u8 0],[]⟩).memory:=
 laidMet_laidAll #[iN,.int .u8 0,.int .u8 0] ag ag
def reads(J:Os){H:Type}(enc:TypeId×Value->H):(DataW.whole enc Tryz.prog ((cE J).forCall (λ_ _=>0) ⟨#[], #[iN,.int .u8 0,.int .u8 0],[]⟩).memory Tryz.f6.params.toList Rows.auditShadesSpec.vars false #[iN,.int .u8 0,.int .u8 0].toList 8).isSome=true:=ag
def lifted(D:∀us,Typed Tryz.prog 12 Tryz.f6.params.toList us->aW.Fn Tryz.prog 6 us [] (.w (.one (.t (.val (.bool true))))) [])(J:Os)(e:J.Started)(H:Type)(enc:TypeId×Value->H)(F:Stop.Interp):
 ReturnsInHanded {} Tryz.checked J 6 .any ((OpenSpec.ofChange Rows.auditShadesSpec).preRow enc Tryz.prog Tryz.f6 Rows.auditShadesRow.domain false Rows.auditShadesRow.laid) (((OpenSpec.ofChange Rows.auditShadesSpec).at F).post enc Tryz.prog Tryz.f6 false true false false):=by
 obtain⟨x,N⟩:=aay.1 (reads J enc)
 refine returnsInHanded_of_row (C:=Tryz.checked) (s:=OpenSpec.ofChange Rows.auditShadesSpec) Tryz.own e ag Tryz.func6
  (witness_row_at (enc:=enc) (C:=Tryz.checked) false (cE J) #[iN,.int .u8 0,.int .u8 0] (World.laidAll_os _ _ _) ag ag ag
    (OpenSpec.preRow_of_cond 8 N rfl (λk Z=>by cases Z) ag (iX J))) ?_
 intro W l j G v h g B _ _ _ R _ _;refine nh (P:=Tryz.prog) (d:=11) (s:=Rows.auditShadesSpec) Tryz.laidOut rfl ag Tryz.underlying4 ?_ ?_ ?_ D g (kN R) B
 . intro G w;rw[Tryz.params6]at w
   match G,w with
   | [a,b,c],_=>exact⟨rfl,rfl,rfl⟩
 . have:(Tryz.f6.params.toList.all λt=>gj Tryz.prog 12 t)=true:=ag
   exact yt.1 this
 . have:(Tryz.f6.params.toList.all λt=>Tryz.prog.readableRec t&&decide (t < Tryz.prog.types.size))=true:=ag
   intro t Q;have:=yt.1 this t Q;simpa using this
def FT:Tryz.pinned.checked.prog.funcNamed Rows.auditShadesRow.func=some 6:=ag
def WL:Tryz.f6.isInstance Tryz.pinned.checked.prog Rows.auditShadesRow.origin Rows.auditShadesRow.targs:=of_decide_eq_true ag
def WK:Tryz.f6.isWrapper Tryz.pinned.checked.prog Rows.auditShadesRow.wrapper Rows.auditShadesRow.mainSum:=by
 unfold Func.isWrapper;first|(rw[if_pos r0];kernel_rfl)|(rw[if_neg r0];exact⟨rfl,rfl⟩)
def gq(D:∀us,Typed Tryz.prog 12 Tryz.f6.params.toList us->aW.Fn Tryz.prog 6 us [] (.w (.one (.t (.val (.bool true))))) []):Rows.AuditShadesSaid:=
 OpenClaim.holds_of_cond 6 Tryz.f6 rfl rfl rfl rfl rfl rfl rfl ⟨rfl,rfl,rfl,rfl,rfl⟩ rfl rfl rfl rfl rfl FT Tryz.func6 afJ WL WK
  (λJ e H b _ F=>by rw[OpenClaim.pre_eq_preRow];exact lifted D J e H b F)
def plain(f:FuncId)(I:Func)(R:Tryz.pinned.checked.prog.funcNamed Rows.auditShadesRow.func=some f)(c:Tryz.pinned.checked.prog.funcs[f]? =some I):
 false=Tryz.pinned.checked.prog.looks []/\ ∀ (j:Nat) t,I.params[j]? =some t->Tryz.pinned.checked.prog.wantsStandIn t=false:=by
 obtain rfl:f=6:=aa5 (FT.symm.trans R) |>.symm;obtain rfl:I=Tryz.f6:=(aa5 (Tryz.func6.symm.trans c)).symm;refine⟨ag,λj t Q=>?_⟩;have n:(Tryz.f6.params.toList.all λt=> !Tryz.prog.wantsStandIn t)=true:=ag
 have:=yt.1 n t (ab2.2 (ab7 Q));have e:Tryz.prog.wantsStandIn t=false:=by simpa using this
 exact e
def gF(D:∀us,Typed Tryz.prog 12 Tryz.f6.params.toList us->aW.Fn Tryz.prog 6 us [] (.w (.one (.t (.val (.bool true))))) []):Rows.AuditShadesCardSaid:=
 Claim7.holds_tied_plain_at .later [] _ _ _ _ (gq D) (λ_ h=>by cases h) ag (λ_ h=>by cases h) auditShades_row_tie rfl ⟨rfl,rfl⟩ ag rfl plain ag
end Go.Proofs.YtkpopiejnimcoaaGreatDoor
