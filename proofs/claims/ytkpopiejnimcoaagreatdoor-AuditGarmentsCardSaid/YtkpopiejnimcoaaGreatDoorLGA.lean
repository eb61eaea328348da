import Derived.Test.YtkpopiejnimcoaaGreatDoorBL
import Derived.Test.YtkpopiejnimcoaaGreatDoorRows
import Derived.ProofKit
import Derived.Test.YtkpopiejnimcoaaGreatDoorCards
import Derived.Test.YtkpopiejnimcoaaGreatDoorTie
import Derived.WalkKit
import Derived.OpenShut
import Derived.Deep.DeepHandedRow
import Derived.Lib.LaidTab
import Derived.Stop.LaidErr
import Derived.Lay
import Derived.Lib.ItoaNum
set_option linter.all false
set_option maxRecDepth 100000
set_option maxHeartbeats 4000000
namespace Go.aW.Cd
open Go Go.Proofs
variable[kw]
section
variable{os ws bs xs ys:Lz}
end
end Go.aW.Cd
namespace Go.aW.Cd
open Go Go.Proofs
variable[kw]
def ng{R R':Rn}{L L' j:Lz}(h:IS R L)(N:IS R' L')(S:SS j)(r:∀e,wz R' e↔wz R e\/e∈j)(hx:∀e,e∈j->¬wz R e):cC L' L j:=
 ⟨N.ss,h.ss,S,λx a b=>hx x b ((h.m x).1 a),λx=>by rw[N.m,r,h.m]⟩
section
variable{r:Rn}
def gV.no(h:gV r){e:Lt}(H:nI 0 e≠2/\nI 0 e≠7):¬wz (dn r) e:=λF=>by
 rcases h.k27 e ((h.R0.m e).2 F)with O|O
 . exact H.1 O
 . exact H.2 O
variable{x g:Lt}{D G:Lz}
def gV.JM(h:gV r){R':Rn}(N:IS R' (cN R'))(s:∀e,wz R' e↔wz (dn r) e\/e=x)(hx:nI 0 x≠2/\nI 0 x≠7):cC (cN R') (cN (dn r)) [x]:=
 ng h.R0 N ak (λe=>by rw[s];simp) (λe H=>by simp only[vv]at H;subst H;exact h.no hx)
def vO{R:Rn}(x:uv R)(o:kx R):IS R (cN R):=by
 obtain⟨_,_,_,_,d⟩:=cS R x;exact d.1 o
def I3.set{D:Lz}(h:I3 D)(i:Nat)(a b c:Int):I3 (D.set i [tI a,tI b,tI c]):=λe H=>by
 rcases aao H with O|O
 . exact h e O
 . exact⟨_,_,_,O⟩
def I3.rm(h:I3 D)(i:Nat):I3 (o6 D i):=λe H=>by
 rcases yl.1 H with O|O
 . exact h e (aah O)
 . exact h e (abc O)
def Mq{i:Nat}(h:i < D.length):(o6 D i).length+1=D.length:=by
 simp only[o6,XV,aab,aax];omega
abbrev Am(r:Rn)(G:Lz):Rn:={dn r with gs:=G}
def gV.gl(h:gV r):(bU r).length<=96:=by
 have A:=h.fw.py;have j:kA r.sizes r.plies r.bs r.bs.length:=h.ff.bd;have O:=pT (sizes:=r.sizes) (places:=r.places) (plies:=r.plies) (cuts:=(ew r).1) aa (rq h.o.hb j) r.bs.length;have Y:=h.fw.b;show(bU r).length<=96;unfold bU;omega
def Nf(h:gV r)(J:∀e,e∈G->nc e)(hp:∀e,e∈G->(nL 4 e).length<=100)(U:G.length<=240):uv (Am r G)/\IS (Am r G) (cN (Am r G))/\(∀e,wz (Am r G) e↔e∈mQ (zS r).1\/e∈ (ef (Aw (dn r) (ew r).1) G.length [] G 0).2\/e∈zY r.lots (ew r).1 G G.length\/e∈wx (Y9 r.sizes r.places r.plies (ew r).1) (ef (Aw (dn r) (ew r).1) G.length [] G 0).1 r.bs r.bs.length\/e∈jK r.os r.ws r.bs r.xs r.xs.length):=by
 have I:jk (Am r G):={h.b.ok with hg:=J,vU:=by show G.length<=1000;omega,MX:=λe H=>aal (hp e H) av};have x:uv (Am r G):=⟨I,hp,h.b.pq⟩;have o:kx (Am r G):=⟨h.rK.op,h.rK.pl,h.rK.sp,h.rK.bu,h.rK.jg,h.rK.tf,U,h.rK.ps⟩;refine⟨x,vO x o,λe=>?_⟩;have B:¬IM (lE r).1 (lE r).1 e:=tK (λ_=>rfl) e;show e∈mQ (zS r).1\/e∈ (ef (Aw (dn r) (ew r).1) G.length [] G 0).2\/e∈zY r.lots (ew r).1 G G.length\/e∈wx (Y9 r.sizes r.places r.plies (ew r).1) (ef (Aw (dn r) (ew r).1) G.length [] G 0).1 r.bs r.bs.length\/IM (lE r).1 (lE r).1 e\/e∈jK r.os r.ws r.bs r.xs r.xs.length↔_;simp only[B,false_or]
def KE(h:gV r){A:Lz}(J:∀e,e∈G->e∈bU r)(U:G.length<=240)(hx:nI 0 x≠2/\nI 0 x≠7){m z:Lz}(w:ef (Aw (dn r) (ew r).1) G.length [] G 0=(A,m))(M:wx (Y9 r.sizes r.places r.plies (ew r).1) A r.bs r.bs.length=z)(s:∀e,(e∈m\/e∈z)↔e=x):uv (Am r G)/\cC (cN (Am r G)) (cN (dn r)) [x]:=by
 obtain⟨P,v,L⟩:=Nf h (G:=G) (λe H=>h.gr e (J e H)) (λe H=>h.b.gp e (J e H)) U;refine⟨P,h.JM v (λe=>?_) hx⟩;rw[L,h.isp,w,M,Oz λg D i=>h.sh (J g D) i, <-s];constructor
 . rintro(k|k|k|k|k)<;>first|(simp[k];done)|exact absurd k ak
 . rintro((k|k)|(k|k))<;>simp[k]
def arO(h:gV r){i:Nat}(I:(bU r)[i]? =some g):uv (Am r (o6 (bU r) i))/\cC (cN (Am r (o6 (bU r) i))) (cN (dn r)) [[tI 5,tI (nI 0 g),tI (nI 1 g)]]:=by
 have b:=(jl.1 I).1;have U:=Mq b;have y:=h.gl
 have J:∀e,e∈o6 (bU r) i->e∈bU r:=λe H=>by
  rcases yl.1 H with O|O
  . exact aah O
  . exact abc O
 refine KE h J aa ⟨by simp[nI],by simp[nI]⟩ (A:=o6 (bU r) i) (m:=[]) ?_ rfl λe=>?_
 . rw[yg (ww _) λ_=>by rw[ac1];exact XA h (λe H=>h.gr e (J e H)) (h.ok.rm b),ac1]
 . have j:kA r.sizes r.plies r.bs r.bs.length:=h.ff.bd;rw[apE j h.o.hb I];simp
def adZ(h:gV r)(hg:g∈bU r):uv (Am r (bU r++[g]))/\cC (cN (Am r (bU r++[g]))) (cN (dn r)) [[tI 3,tI ((bU r).length:Int),tI 7]]:=by
 have y:=h.gl
 have J:∀e,e∈bU r++[g]->e∈bU r:=λe H=>by
  rcases yl.1 H with O|O
  . exact O
  . simp only[vv]at O;rw[O];exact hg
 have s:(bU r++[g]).length=(bU r).length+1:=ak
 have S:Aw (dn r) (ew r).1 (bU r++[g])=7:=(h.ch _ (λe H=>h.gr e (J e H)) aa).2.2 h.EI aa (h.ok.dbl hg);refine KE h J aa ⟨by simp[nI],by simp[nI]⟩ (A:=bU r) (m:=[[tI 3,tI ((bU r).length:Int),tI 7]]) (z:=[]) ?_ OW λe=>ak
 rw[Ge (pre:=bU r) (d:=g) (e:=7) av S (λp F _=>XA h (λe H=>h.gr e (F.subset H)) (h.ok.pre F)) (acc:=[]) (gs:=bU r++[g]) (ww _) ak rfl,s];have:(0:Int)+(((bU r).length+1:Nat):Int) - 1=((bU r).length:Int):=aa
 rw[this]
end
end Go.aW.Cd
namespace Go.aW.Cd
open Go Go.Proofs
variable[kw]
variable{P xs D A:Lz}{id sz:Nat}{rows:Lq}
def qU{n:Int}(z:0<=n)(O:n < 256)(h:¬ (P.length:Int)=0): ∃i:Nat,i < P.length/\(IntKind.i64.wrap n).tmod (P.length:Int)=(i:Int):=by
 rw[bF aa aa];have Y:=ac4 n (show(0:Int) < (P.length:Int) by omega);have B:=ads (P.length:Int) z;exact⟨(n.tmod (P.length:Int)).toNat,aa,aa⟩
def jb{hp:HS}{d len:Nat}(R:find hp id=some (.row sz rows))(M:aL rows xs)(U:len=xs.length):cA (d+1) hp (.own id sz 0 len)=some (.aO sz xs):=by
 have I:0+len<=rows.length:=by rw[M.len];omega
 simp only[cA,R,true_and,I,if_true];rw[M,o5,mF,U];simp
def lT(h:¬ ((xs.length:Nat):Int)=0): ∃c v,xs=c::v:=by
 cases xs with
 |nil=>simp at h
 |cons a b=>exact⟨a,b,rfl⟩
def jV(hp:HS):∀ts:Lt,bB (cA 6 hp) (ts.map .t)=some ts
 | []=>rfl
 |t::r=>by
  have B:cA 6 hp (.t t)=some t:=by cases hp<;>rfl
  simp only[aaq,bB,B,jV hp r]
def js{α β:Type}{f:α->Option β}{r:α}{x:β}(J:f r=some x):∀ {rows:List α} {xs:List β},bB f rows=some xs-> ∀i,bB f (rows.set i r)=some (xs.set i x)
 | [],xs,h,i=>by
   simp only[bB,ii]at h;subst h;rfl
 |a::rows,xs,h,i=>by
  simp only[bB]at h
  cases ha:f a with
  |none=>simp[ha]at h
  |some y=>
   cases hl:bB f rows with
   |none=>simp[ha,hl]at h
   |some l=>
    simp only[ha,hl,ii]at h;subst h
    cases i with
    |zero=>simp only[aee,bB,J,hl]
    |succ i=>simp only[aef,bB,ha,js J hl i]
def qS{hp:HS}{ts:Lt}{len:Nat}(k:Nat)(R:find hp id=some (.row sz rows))(M:aL rows P)(U:len=P.length):bB (bM hp) [.agg ((ts.map .t).set k (.own id sz 0 len))]=some [.agg ((ts.set k (.aO sz P)).map .t)]:=by
 have Y:cA 6 hp (.own id sz 0 len)=some (.aO sz P):=jb (d:=5) R M U;have B:=js Y (jV hp ts) k;simp only[bB,bM,B,wv]
def oH{ts:Lt}{len:Nat}(k:Nat)(M:aL rows P)(U:len=P.length):bB (bM [(id,bE.row sz rows)]) [.agg ((ts.map .t).set k (.own id sz 0 len))]=some [.agg ((ts.set k (.aO sz P)).map .t)]:=qS k W3 M U
def qB(L l m:Lz):Prop:= ∃x,Fn Tryz.prog 12 [oL 3 L,oL 3 l,oL 3 m] [] (aR x) []/\(aR x).cR=true/\x=[oB true]
def nR{r R':Rn}{j:Lz}(h:gV r)(s:I3 j)(R:j.length<=1000000)(K:uv R'/\cC (cN R') (cN (dn r)) j): ∃rs,Fn Tryz.prog 13 [rE R'] [] (aR rs) []/\(aR rs).cR=true/\ ∃L,rs=[oL 3 L]/\qB L (cN (dn r)) j:=by
 obtain⟨x,K⟩:=K;obtain⟨rs,O,Y,rfl,d⟩:=cS R' x;refine⟨_,O,Y,_,rfl,?_⟩;obtain⟨Z,P,v,b,rfl,z⟩:=My (cN R') (cN (dn r)) j d.i3 h.q.i3 s d.2.2.2 h.q.2.2.2 R;rw[z K]at P v;exact⟨_,P,v,rfl⟩
def CT(a b c:Int):I3 [[tI a,tI b,tI c]]:=λe H=>by
 simp only[vv]at H;exact⟨_,_,_,H⟩
def PB{n:Int}(hg:∀e,e∈P->nc e)(z:0<=n)(O:n < 256)(h:¬ (P.length:Int)=0): ∃ (i:Nat) (t p s l:Int) (pcs:Lz),i < P.length/\(IntKind.i64.wrap n).tmod (P.length:Int)=(i:Int)/\P[((i:Nat):Int).toNat]? =some [tI t,tI p,tI s,tI l,.aO 1 pcs]/\Is pcs/\pcs.length<=maxLen:=by
 obtain⟨i,I,K⟩:=qU z O h;obtain⟨t,p,s,l,pcs,H,d,j⟩:=hg P[i] (aaC I);exact⟨i,t,p,s,l,pcs,I,K,by rw[aa0,YI I,H],d,j⟩
def Co{B:Lz}{i a b c:Nat}(O:(D.drop 0).take a=A)(Y:(D.drop b).take c=B)(w:a=i)(G:b=i+1)(N:D.length - (i+1)<=c):o6 D i=A++B:=by
 subst w G;rw[<-O, <-Y,acg,aac (l:=D.drop _) (by rw[aax];exact N)]
def vj{l h:Nat}{K:C->Prop}(O:l<=h)(Y:h<=xs.length)(Z:∀A,(xs.drop l).take (h - l)=A->K (.t (.aO sz A))):(l<=h/\h<=xs.length)/\xS (.t (.aO sz xs)) l h K:=cT O Y (Z _ rfl)
def vC{a b:Nat}(h:(D.drop a).take b=A):A.length<=D.length:=by
 rw[<-h,aab,aax];omega
end Go.aW.Cd
namespace Go.aW.Cd
open Go Go.Proofs
variable[kw]
section
variable{r R:Rn}{G:Lz}{i:Nat}{t p s l:Int}{pcs:Lz}
def aeC(h:gV r)(M:R=dn r)(J:R.gs=G)(S:G[((i:Nat):Int).toNat]? =some [tI t,tI p,tI s,tI l,.aO 1 pcs]): ∃rs,Fn Tryz.prog 13 [rE {R with gs:=o6 G i}] [] (aR rs) []/\(aR rs).cR=true/\ ∃L,rs=[oL 3 L]/\qB L (cN (dn r)) [[tI 5,tI t,tI p]]:=by
 subst M;subst J;exact nR (R':=Am r (o6 (bU r) i)) h (CT _ _ _) ak (arO h S)
def aeB(h:gV r)(M:R=dn r)(J:R.gs=G)(S:G[((i:Nat):Int).toNat]? =some [tI t,tI p,tI s,tI l,.aO 1 pcs]): ∃rs,Fn Tryz.prog 13 [rE {R with gs:=G++[[tI t,tI p,tI s,tI l,.aO 1 pcs]]}] [] (aR rs) []/\(aR rs).cR=true/\ ∃L,rs=[oL 3 L]/\qB L (cN (dn r)) [[tI 3,tI (G.length:Int),tI 7]]:=by
 subst M;subst J;exact nR (R':=Am r (bU r++[[tI t,tI p,tI s,tI l,.aO 1 pcs]])) h (CT _ _ _) ak (adZ h (oo S))
end
def nW(r:Rn)(L:Zy r)(w:mJ)(n:Int)(z:0<=n)(O:n < 256):Tg 4 [rE r,.one (.t (.val (.int .u8 n)))] GTr:=by
 refine aC Tryz.func4 ?_
 repeat' ((conv=>whnf);first|refine bZz (λh=>?_) (λh=>?_)|refine sc S aa ?_|refine And.intro Y ?_|(have N:¬ (((c::v).length:Nat):Int)=0:=ai;obtain⟨i,t,p,s,l,pcs,I,R,S,d,Tx⟩:=PB hgr z O N;rw[R])|(refine vj (xs:=c::v) (l:=0) aa aa ?_;rintro y H;have hA1:=vC H;rcases y with _|⟨A,J⟩<;>simp only[aaa]at hA1)|(refine vj (xs:=c::v) aa aa ?_;rintro Z o;have hA2:=vC o;rcases Z with _|⟨B,G⟩<;>simp only[aaa]at hA2)|refine And.intro (show(0:Int)<=(i:Int) by omega) ?_|(rw[bF (n:=(i:Int)+1) aa (by simp at I;omega)];refine And.intro (show(0:Int)<=(i:Int)+1 by omega) ?_)|refine And.intro ⟨ak,by simp[bh];omega,by simp[maxLen];omega⟩ ?_|(refine jF aa aa ?_;intro Q)|refine cT aa aa ?_|refine And.intro ag ?_|refine And.intro aa ?_|(refine aD rfl (w) ?_;rintro _ rfl)|(refine aN rfl (w) ?_;rintro _ rfl)|(refine aD rfl (bZ r L) ?_;rintro _ ⟨U,l,b,rfl,F⟩)|(refine aN rfl (bZ r L) ?_;rintro _ ⟨U,l,b,rfl,F⟩)|(have a:qB K _ _:=ai;refine qC _ rfl (by rfl) (oH (ts:=U.ts) 17 (P:=(c::v)++[[tI _,tI _,tI _,tI _,.aO 1 _]]) (by unfold aL;simp[tr];rfl) ak) (aeB M g D S) ?_;rintro _ ⟨j,rfl,hL2⟩)|(refine qC _ rfl (by rfl) (oH (ts:=U.ts) 17 (P:=o6 (c::v) i) ug nO) (aeC M g D S) ?_;rintro _ ⟨K,rfl,hL1⟩)|(refine iJ rfl hL1 (λx h=>by subst h;rfl) ?_;rintro _ rfl)|(refine iJ rfl hL2 (λx h=>by subst h;rfl) ?_;rintro _ rfl)|(have Y:(!b)=false:=ai;obtain⟨g,rfl,M⟩:=F (dM Y);clear F;have vU:U.gs.length<=96:=(by rw[g];exact M.gl);have hgr:∀e,e∈U.gs->nc e:=(by rw[g];exact M.gr))|(have Y:¬ ((U.gs.length:Nat):Int)=0:=ai;obtain⟨c,v,D⟩:=lT Y;rw[D]at vU hgr Y;rw[D];simp only[aaa]at vU)|exact g1 rfl rfl rfl|(exfalso;omega))
end Go.aW.Cd
namespace Go.Proofs.YtkpopiejnimcoaaGreatDoor
open Go.ChangeShapes Go.WideShapes Go.ChangeAt Go.RowKit
def KV:(Rows.auditGarmentsRow.inPlace==Tryz.prog.inPlace 4)=true:=ag
def afK:(Rows.auditGarmentsRow.unfollowed==Tryz.prog.unfollowed 4)=true:=ag
def afL:(Rows.auditGarmentsRow.recurses==Tryz.prog.recurses 4)=true:=ag
def afM:(Rows.auditGarmentsRow.named==Tryz.prog.varsNamed 4)=true:=ag
def aDV:(Rows.auditGarmentsRow.wf (OpenSpec.ofChange Rows.auditGarmentsSpec)&&laidOutB Tryz.prog&&mapsRowed Tryz.prog&&Tryz.f4.params.all (Tryz.prog.readableRec ·)&&namedTie Tryz.prog Rows.auditGarmentsRow.named Rows.auditGarmentsSpec.vars&& (Rows.auditGarmentsRow.stops== [])&& (Tryz.prog.stops== [])&& (Rows.auditGarmentsRow.knobs== [])&& (Tryz.prog.stopKnobs== []))=true:=ag
def afO:joinedFacts Tryz.prog 4 Tryz.f4 Rows.auditGarmentsSpec Rows.auditGarmentsRow=true:=by
 unfold joinedFacts;rw[aDV,KV,afK,afL,afM]
 kernel_rfl
end Go.Proofs.YtkpopiejnimcoaaGreatDoor
namespace Go.Proofs.YtkpopiejnimcoaaGreatDoor
open Go.aW Go.ChangeShapes Go.WideShapes Go.ChangeAt Go.RowKit
def Tryz.own:ownKnob Tryz.prog.godebug=none:=ag
def Tryz.laidOut:laidOutB Tryz.prog=true:=ag
def fg{P:Program}{W:World}{name:String}{g:Nat}{cs:Array Value}(hg:P.globalNamed name=some g)(h:W.var? P name=some cs):
 g < W.heap.size/\ ∃t fr,W.heap[g]? =some (.cells cs t fr):=by
 have N:=h;simp only[World.var?,hg,Tf]at N;split at N
 . rename_i d t fr G;simp only[ii]at N;subst N;refine⟨?_,t,fr,G⟩;rcases aa8 g W.heap.size with l|J
   . exact l
   . rw[aav J]at G;simp at G
 . simp at N
def dx{P:Program}{W:World}{name:String}{g:Nat}{k:IntKind}{zs:List Int}{vs:List Value}(hg:P.globalNamed name=some g)(h:Lib.TabIs P W name k zs)(l:vs=zs.map λz=>Value.int k z):
 g < W.heap.size/\(∃t fr,W.heap[g]? =some (.cells vs.toArray t fr))/\ ∀ (i:Nat) (v:Value),vs[i]? =some v->W.cell? ⟨g,i,none⟩=some v/\cz v=true:=by
 subst l;obtain⟨O,Y⟩:=fg hg h;refine⟨O,Y,λi v I=>⟨?_,?_⟩⟩
 . rw[World.var?_cell hg h i];simpa using I
 . simp only[yu,jU]at I;obtain⟨z,_,rfl⟩:=I;rfl
def kN{W:World}(R:laidMetH Tryz.prog Rows.auditGarmentsRow.laid W):uw (λb=>W.heap.size<=b) (λ_=>False) W:=by
 have s:laidMet Tryz.prog Rows.auditGarmentsRow.laid W:=R;have F:Lib.TabIs Tryz.prog W _ .u64 Lib.pow10Tab:=Lib.tabIs_of_head (g:=1) (t:=372) (e:=225) (n:=20) ag ag ag ag ag ag s.tail.tail;have a:Lib.TabIs Tryz.prog W _ .i64 [100000,1073741824]:=Lib.tabIs_of_head (g:=0) (t:=193) (e:=3) (n:=2) ag ag ag ag ag ag s.tail.tail.tail;intro g o D
 have e:(g=0/\o=[100000,1073741824].map λz=>Value.int .i64 z)\/(g=1/\o=Lib.pow10Tab.map λz=>Value.int .u64 z):=by
  unfold GH at D;simp only[uC]at D;split at D
  . rename_i e;simp only[ii]at D;exact .inl ⟨e.symm,D.symm⟩
  . split at D
    . rename_i e;simp only[ii]at D;exact .inr ⟨e.symm,by rw[<-D];rfl⟩
    . simp at D
 rcases e with⟨rfl,e⟩|⟨rfl,e⟩
 . obtain⟨O,Y,B⟩:=dx (g:=0) ag a e;exact⟨O,λh=>by omega,λh=>h,Y,B⟩
 . obtain⟨O,Y,B⟩:=dx (g:=1) ag F e;exact⟨O,λh=>by omega,λh=>h,Y,B⟩
def iN:Value:= .agg #[.string ⟨#[]⟩,.slice none 0 0,.slice none 0 0,.slice none 0 0,.slice none 0 0,.slice none 0 0,.slice none 0 0,.slice none 0 0,.slice none 0 0,.int .i64 0,.int .i64 0,.int .i64 0,.int .i64 0,.slice none 0 0,.slice none 0 0,.slice none 0 0,.slice none 0 0,.slice none 0 0,.slice none 0 0,.slice none 0 0,.int .i64 0,.int .i64 0,.slice none 0 0]
noncomputable def cE(J:Os):World:=World.laidAll Tryz.prog J Rows.auditGarmentsRow.laid
def iX(J:Os):laidMet Tryz.prog Rows.auditGarmentsRow.laid ((cE J).forCall (λ_ _=>0) ⟨#[], #[iN,.int .u8 0],[]⟩).memory:=
 laidMet_laidAll #[iN,.int .u8 0] ag ag
def reads(J:Os){H:Type}(enc:TypeId×Value->H):(DataW.whole enc Tryz.prog ((cE J).forCall (λ_ _=>0) ⟨#[], #[iN,.int .u8 0],[]⟩).memory Tryz.f4.params.toList Rows.auditGarmentsSpec.vars false #[iN,.int .u8 0].toList 8).isSome=true:=ag
def lifted(D:∀us,Typed Tryz.prog 12 Tryz.f4.params.toList us->aW.Fn Tryz.prog 4 us [] (.w (.one (.t (.val (.bool true))))) [])(J:Os)(e:J.Started)(H:Type)(enc:TypeId×Value->H)(F:Stop.Interp):
 ReturnsInHanded {} Tryz.checked J 4 .any ((OpenSpec.ofChange Rows.auditGarmentsSpec).preRow enc Tryz.prog Tryz.f4 Rows.auditGarmentsRow.domain false Rows.auditGarmentsRow.laid) (((OpenSpec.ofChange Rows.auditGarmentsSpec).at F).post enc Tryz.prog Tryz.f4 false true false false):=by
 obtain⟨x,N⟩:=aay.1 (reads J enc)
 refine returnsInHanded_of_row (C:=Tryz.checked) (s:=OpenSpec.ofChange Rows.auditGarmentsSpec) Tryz.own e ag Tryz.func4
  (witness_row_at (enc:=enc) (C:=Tryz.checked) false (cE J) #[iN,.int .u8 0] (World.laidAll_os _ _ _) ag ag ag
    (OpenSpec.preRow_of_cond 8 N rfl (λk Z=>by cases Z) ag (iX J))) ?_
 intro W l j G c h g B _ _ _ R _ _;refine nh (P:=Tryz.prog) (d:=11) (s:=Rows.auditGarmentsSpec) Tryz.laidOut rfl ag Tryz.underlying4 ?_ ?_ ?_ D g (kN R) B
 . intro G w;rw[Tryz.params4]at w
   match G,w with
   | [a,b],_=>exact⟨rfl,rfl,rfl⟩
 . have:(Tryz.f4.params.toList.all λt=>gj Tryz.prog 12 t)=true:=ag
   exact yt.1 this
 . have:(Tryz.f4.params.toList.all λt=>Tryz.prog.readableRec t&&decide (t < Tryz.prog.types.size))=true:=ag
   intro t Q;have:=yt.1 this t Q;simpa using this
def FU:Tryz.pinned.checked.prog.funcNamed Rows.auditGarmentsRow.func=some 4:=ag
def WO:Tryz.f4.isInstance Tryz.pinned.checked.prog Rows.auditGarmentsRow.origin Rows.auditGarmentsRow.targs:=of_decide_eq_true ag
def WM:Tryz.f4.isWrapper Tryz.pinned.checked.prog Rows.auditGarmentsRow.wrapper Rows.auditGarmentsRow.mainSum:=by
 unfold Func.isWrapper;first|(rw[if_pos r0];kernel_rfl)|(rw[if_neg r0];exact⟨rfl,rfl⟩)
def gq(D:∀us,Typed Tryz.prog 12 Tryz.f4.params.toList us->aW.Fn Tryz.prog 4 us [] (.w (.one (.t (.val (.bool true))))) []):Rows.AuditGarmentsSaid:=
 OpenClaim.holds_of_cond 4 Tryz.f4 rfl rfl rfl rfl rfl rfl rfl ⟨rfl,rfl,rfl,rfl,rfl⟩ rfl rfl rfl rfl rfl FU Tryz.func4 afO WO WM
  (λJ e H b _ F=>by rw[OpenClaim.pre_eq_preRow];exact lifted D J e H b F)
def plain(f:FuncId)(I:Func)(R:Tryz.pinned.checked.prog.funcNamed Rows.auditGarmentsRow.func=some f)(c:Tryz.pinned.checked.prog.funcs[f]? =some I):
 false=Tryz.pinned.checked.prog.looks []/\ ∀ (j:Nat) t,I.params[j]? =some t->Tryz.pinned.checked.prog.wantsStandIn t=false:=by
 obtain rfl:f=4:=aa5 (FU.symm.trans R) |>.symm;obtain rfl:I=Tryz.f4:=(aa5 (Tryz.func4.symm.trans c)).symm;refine⟨ag,λj t Q=>?_⟩;have n:(Tryz.f4.params.toList.all λt=> !Tryz.prog.wantsStandIn t)=true:=ag
 have:=yt.1 n t (ab2.2 (ab7 Q));have e:Tryz.prog.wantsStandIn t=false:=by simpa using this
 exact e
def gF(D:∀us,Typed Tryz.prog 12 Tryz.f4.params.toList us->aW.Fn Tryz.prog 4 us [] (.w (.one (.t (.val (.bool true))))) []):Rows.AuditGarmentsCardSaid:=
 Claim7.holds_tied_plain_at .later [] _ _ _ _ (gq D) (λ_ h=>by cases h) ag (λ_ h=>by cases h) auditGarments_row_tie rfl ⟨rfl,rfl⟩ ag rfl plain ag
end Go.Proofs.YtkpopiejnimcoaaGreatDoor
