import Derived.Test.YtkpopiejnimcoaaGreatDoorBL
import Derived.Test.YtkpopiejnimcoaaGreatDoorRows
import Derived.ProofKit
import Derived.Test.YtkpopiejnimcoaaGreatDoorCards
import Derived.Test.YtkpopiejnimcoaaGreatDoorTie
import Derived.WalkKit
import Derived.OpenShut
import Derived.Deep.DeepHandedRow
import Derived.Lib.LaidTab
import Derived.Stop.LaidErr
import Derived.Lay
import Derived.Lib.ItoaNum
set_option linter.all false
set_option maxRecDepth 100000
set_option maxHeartbeats 4000000
namespace Go.aW.Cd
open Go Go.Proofs
variable[kw]
section
variable{os ws bs xs ys:Lz}
end
end Go.aW.Cd
namespace Go.aW.Cd
open Go Go.Proofs
variable[kw]
def ng{R R':Rn}{L L' j:Lz}(h:IS R L)(N:IS R' L')(S:SS j)(r:∀e,wz R' e↔wz R e\/e∈j)(hx:∀e,e∈j->¬wz R e):cC L' L j:=
 ⟨N.ss,h.ss,S,λx a b=>hx x b ((h.m x).1 a),λx=>by rw[N.m,r,h.m]⟩
section
variable{r:Rn}
def gV.no(h:gV r){e:Lt}(H:nI 0 e≠2/\nI 0 e≠7):¬wz (dn r) e:=λF=>by
 rcases h.k27 e ((h.R0.m e).2 F)with O|O
 . exact H.1 O
 . exact H.2 O
def gV.JM(h:gV r){R':Rn}{x:Lt}(N:IS R' (cN R'))(s:∀e,wz R' e↔wz (dn r) e\/e=x)(hx:nI 0 x≠2/\nI 0 x≠7):cC (cN R') (cN (dn r)) [x]:=
 ng h.R0 N ak (λe=>by rw[s];simp) (λe H=>by simp only[vv]at H;subst H;exact h.no hx)
def vO{R:Rn}(x:uv R)(o:kx R):IS R (cN R):=by
 obtain⟨_,_,_,_,d⟩:=cS R x;exact d.1 o
def gV.pyd(h:gV r):N0 (lE r).1/\(∀e,e∈ (lE r).1->aiH e)/\I3 (lE r).1/\(lE r).1.length<=100:=by
 obtain⟨_,_,_,D,e,_,rfl,rfl,d⟩:=nC r h.o;have G:=aoD h.o d;have O:=d.1.1 h.py;have Y:(lE r).1=_:=d.2.1 h.py;have N:=h.fw.x;refine⟨?_,?_,G⟩
 . rw[Y];exact(ON _ _ _ _ _ _).1
 . rw[Y];exact aBu O.tf O.am (by have:=tP r.os r.ws r.bs r.xs r.xs.length;omega) _
abbrev Rz(r:Rn)(P:Lz):Rn:={dn r with eB:=P}
def Hf(h:gV r){P:Lz}(K:I3 P)(U:P.length<=300):uv (Rz r P)/\IS (Rz r P) (cN (Rz r P))/\ ∀e,wz (Rz r P) e↔wz (dn r) e\/IM P (lE r).1 e:=by
 have I:jk (Rz r P):={h.b.ok with Ew:=K,VS:=by show P.length<=1000;omega};have x:uv (Rz r P):=⟨I,h.b.gp,h.b.pq⟩;have o:kx (Rz r P):=⟨h.rK.op,h.rK.pl,h.rK.sp,h.rK.bu,h.rK.jg,h.rK.tf,h.rK.gs,U⟩;refine⟨x,vO x o,λe=>?_⟩;have B:¬IM (lE r).1 (lE r).1 e:=tK (λ_=>rfl) e;show(e∈mQ (zS r).1\/e∈ (tE (dn r)).2\/e∈zY r.lots (ew r).1 (bU r) (bU r).length\/e∈wx (TE r (ew r).1) (tE (dn r)).1 r.bs r.bs.length\/IM P (lE r).1 e\/e∈jK r.os r.ws r.bs r.xs r.xs.length)↔(e∈mQ (zS r).1\/e∈ (tE (dn r)).2\/e∈zY r.lots (ew r).1 (bU r) (bU r).length\/e∈wx (TE r (ew r).1) (tE (dn r)).1 r.bs r.bs.length\/IM (lE r).1 (lE r).1 e\/e∈jK r.os r.ws r.bs r.xs r.xs.length)\/IM P (lE r).1 e;constructor
 . rintro(k|k|k|k|k|k)<;>simp[k]
 . rintro((k|k|k|k|k|k)|k)
   . simp[k]
   . simp[k]
   . simp[k]
   . simp[k]
   . exact(B k).elim
   . simp[k]
   . simp[k]
def I3.set{D:Lz}(h:I3 D)(i:Nat)(a b c:Int):I3 (D.set i [tI a,tI b,tI c]):=λe H=>by
 rcases aao H with O|O
 . exact h e O
 . exact⟨_,_,_,O⟩
variable{D:Lz}
def I3.rm(h:I3 D)(i:Nat):I3 (o6 D i):=λe H=>by
 rcases yl.1 H with O|O
 . exact h e (aah O)
 . exact h e (abc O)
def Mq{i:Nat}(h:i < D.length):(o6 D i).length+1=D.length:=by
 simp only[o6,XV,aab,aax];omega
def abS(h:gV r){i:Nat}{w s t b:Int}(I:(lE r).1[i]? =some [tI w,tI s,tI t])(N:b≠0)(x: -128<=b/\b<=127):uv (Rz r ((lE r).1.set i [tI w,tI (s+b),tI t]))/\cC (cN (Rz r ((lE r).1.set i [tI w,tI (s+b),tI t]))) (cN (dn r)) [[tI 6,tI w,tI b]]:=by
 obtain⟨l,G,B,U⟩:=h.pyd;obtain⟨P,v,z⟩:=Hf h (B.set i w (s+b) t) (by simp only[abn];omega);exact⟨P,h.JM v (λe=>by rw[z,TY l G I N x]) ⟨by simp[nI],by simp[nI]⟩⟩
def aoO(h:gV r){i:Nat}{w s t:Int}(I:(lE r).1[i]? =some [tI w,tI s,tI t]):uv (Rz r (o6 (lE r).1 i))/\cC (cN (Rz r (o6 (lE r).1 i))) (cN (dn r)) [[tI 6,tI w,tI (if -1000000 > -s - t then -1000000 else -s - t)]]:=by
 obtain⟨l,G,B,U⟩:=h.pyd;have:=Mq (jl.1 I).1;obtain⟨P,v,z⟩:=Hf h (B.rm i) aa;exact⟨P,h.JM v (λe=>by rw[z,Z5 l G I]) ⟨by simp[nI],by simp[nI]⟩⟩
def abT(h:gV r):uv (Rz r (lE r).1.reverse)/\cN (Rz r (lE r).1.reverse)=cN (dn r):=by
 obtain⟨l,G,B,U⟩:=h.pyd;obtain⟨s,v,z⟩:=Hf h (P:=(lE r).1.reverse) (λe H=>B e (List.mem_reverse.1 H)) (by simp only[List.length_reverse];omega);refine⟨s,SS.ext v.ss h.R0.ss λe=>?_⟩;rw[v.m,h.R0.m,z];exact⟨λk=>k.elim id λk=>(tK (λw=>l.rev w) e k).elim,.inl⟩
def gV.gl(h:gV r):(bU r).length<=96:=by
 have A:=h.fw.py;have j:kA r.sizes r.plies r.bs r.bs.length:=h.ff.bd;have O:=pT (sizes:=r.sizes) (places:=r.places) (plies:=r.plies) (cuts:=(ew r).1) aa (rq h.o.hb j) r.bs.length;have Y:=h.fw.b;show(bU r).length<=96;unfold bU;omega
end
end Go.aW.Cd
namespace Go.aW.Cd
open Go Go.Proofs
variable[kw]
variable{P xs D A:Lz}{id sz:Nat}{rows:Lq}{r R':Rn}
def qU{n:Int}(z:0<=n)(O:n < 256)(h:¬ (P.length:Int)=0): ∃i:Nat,i < P.length/\(IntKind.i64.wrap n).tmod (P.length:Int)=(i:Int):=by
 rw[bF aa aa];have Y:=ac4 n (show(0:Int) < (P.length:Int) by omega);have B:=ads (P.length:Int) z;exact⟨(n.tmod (P.length:Int)).toNat,aa,aa⟩
def jb{hp:HS}{d len:Nat}(R:find hp id=some (.row sz rows))(M:aL rows xs)(U:len=xs.length):cA (d+1) hp (.own id sz 0 len)=some (.aO sz xs):=by
 have I:0+len<=rows.length:=by rw[M.len];omega
 simp only[cA,R,true_and,I,if_true];rw[M,o5,mF,U];simp
def lT(h:¬ ((xs.length:Nat):Int)=0): ∃c v,xs=c::v:=by
 cases xs with
 |nil=>simp at h
 |cons a b=>exact⟨a,b,rfl⟩
def jV(hp:HS):∀ts:Lt,bB (cA 6 hp) (ts.map .t)=some ts
 | []=>rfl
 |t::r=>by
  have B:cA 6 hp (.t t)=some t:=by cases hp<;>rfl
  simp only[aaq,bB,B,jV hp r]
def js{α β:Type}{f:α->Option β}{r:α}{x:β}(J:f r=some x):∀ {rows:List α} {xs:List β},bB f rows=some xs-> ∀i,bB f (rows.set i r)=some (xs.set i x)
 | [],xs,h,i=>by
   simp only[bB,ii]at h;subst h;rfl
 |a::rows,xs,h,i=>by
  simp only[bB]at h
  cases ha:f a with
  |none=>simp[ha]at h
  |some y=>
   cases hl:bB f rows with
   |none=>simp[ha,hl]at h
   |some l=>
    simp only[ha,hl,ii]at h;subst h
    cases i with
    |zero=>simp only[aee,bB,J,hl]
    |succ i=>simp only[aef,bB,ha,js J hl i]
def qS{hp:HS}{ts:Lt}{len:Nat}(k:Nat)(R:find hp id=some (.row sz rows))(M:aL rows P)(U:len=P.length):bB (bM hp) [.agg ((ts.map .t).set k (.own id sz 0 len))]=some [.agg ((ts.set k (.aO sz P)).map .t)]:=by
 have Y:cA 6 hp (.own id sz 0 len)=some (.aO sz P):=jb (d:=5) R M U;have B:=js Y (jV hp ts) k;simp only[bB,bM,B,wv]
def oH{ts:Lt}{len:Nat}(k:Nat)(M:aL rows P)(U:len=P.length):bB (bM [(id,bE.row sz rows)]) [.agg ((ts.map .t).set k (.own id sz 0 len))]=some [.agg ((ts.set k (.aO sz P)).map .t)]:=qS k W3 M U
def LS{i j:Nat}{e:Lt}{K:Lc->Prop}(h:aL rows xs)(A:i=j)(H:xs[((j:Nat):Int).toNat]? =some e)(Z:K (e.map .t)):mP rows i K:=by
 subst A;have d:xs[i]? =some e:=C0
 unfold mP;rw[h];have:(tr xs)[i]? =some (e.map .t):=by simp[tr,d]
 rw[this];exact Z
def qB(L l m:Lz):Prop:= ∃x,Fn Tryz.prog 12 [oL 3 L,oL 3 l,oL 3 m] [] (aR x) []/\(aR x).cR=true/\x=[oB true]
def nR{j:Lz}(h:gV r)(s:I3 j)(R:j.length<=1000000)(K:uv R'/\cC (cN R') (cN (dn r)) j): ∃rs,Fn Tryz.prog 13 [rE R'] [] (aR rs) []/\(aR rs).cR=true/\ ∃L,rs=[oL 3 L]/\qB L (cN (dn r)) j:=by
 obtain⟨x,K⟩:=K;obtain⟨rs,O,Y,rfl,d⟩:=cS R' x;refine⟨_,O,Y,_,rfl,?_⟩;obtain⟨Z,P,v,b,rfl,z⟩:=My (cN R') (cN (dn r)) j d.i3 h.q.i3 s d.2.2.2 h.q.2.2.2 R;rw[z K]at P v;exact⟨_,P,v,rfl⟩
def VB(K:uv R'/\cN R'=cN (dn r)): ∃rs,Fn Tryz.prog 13 [rE R'] [] (aR rs) []/\(aR rs).cR=true/\rs=[oL 3 (cN (dn r))]:=by
 obtain⟨x,K⟩:=K;obtain⟨rs,O,Y,rfl,d⟩:=cS R' x;exact⟨_,O,Y,by rw[K]⟩
def Rl(h:gV r): ∃rs,Fn Tryz.prog 14 [oL 3 (cN (dn r)),oL 3 (cN (dn r))] [] (aR rs) []/\(aR rs).cR=true/\rs=[oB true]:=by
 obtain⟨Z,O,Y,b,rfl,B⟩:=UE _ _ h.q.i3 h.q.i3 h.q.2.2.2;rw[B.2 rfl]at O Y;exact⟨_,O,Y,rfl⟩
def CT(a b c:Int):I3 [[tI a,tI b,tI c]]:=λe H=>by
 simp only[vv]at H;exact⟨_,_,_,H⟩
def Co{B:Lz}{i a b c:Nat}(O:(D.drop 0).take a=A)(Y:(D.drop b).take c=B)(w:a=i)(G:b=i+1)(N:D.length - (i+1)<=c):o6 D i=A++B:=by
 subst w G;rw[<-O, <-Y,acg,aac (l:=D.drop _) (by rw[aax];exact N)]
def vj{l h:Nat}{K:C->Prop}(O:l<=h)(Y:h<=xs.length)(Z:∀A,(xs.drop l).take (h - l)=A->K (.t (.aO sz A))):(l<=h/\h<=xs.length)/\xS (.t (.aO sz xs)) l h K:=cT O Y (Z _ rfl)
def vC{a b:Nat}(h:(D.drop a).take b=A):A.length<=D.length:=by
 rw[<-h,aab,aax];omega
end Go.aW.Cd
namespace Go.aW.Cd
open Go Go.Proofs
variable[kw]
section
variable{r R:Rn}{D:Lz}{i k:Nat}{w s t b:Int}
def abU(h:gV r)(M:R=dn r)(J:R.eB=D)(S:D[((i:Nat):Int).toNat]? =some [tI w,tI s,tI t]):0<=s/\s<=100000000000/\0<=t/\t<=1073741824:=by
 subst M J;obtain⟨j,L,F,H,O,Y,B⟩:=h.pyd.2.1 _ (oo S);simp only[aaz,T.val.injEq,Value.int.injEq,true_and,and_true]at H;obtain⟨rfl,rfl,rfl⟩:=H;exact⟨O.1,O.2,Y,B⟩
def abX(h:gV r)(M:R=dn r)(J:R.eB=D)(S:D[((i:Nat):Int).toNat]? =some [tI w,tI s,tI t])(Z:k=i)(N:¬b=0)(x: -128<=b/\b<=127): ∃rs,Fn Tryz.prog 13 [rE {R with eB:=D.set k [tI w,tI (s+b),tI t]}] [] (aR rs) []/\(aR rs).cR=true/\ ∃L,rs=[oL 3 L]/\qB L (cN (dn r)) [[tI 6,tI w,tI b]]:=by
 subst M J Z;exact nR h (CT _ _ _) ak (abS h (by rw[aa0]at S;exact S) N x)
def abW(h:gV r)(M:R=dn r)(J:R.eB=D)(S:D[((i:Nat):Int).toNat]? =some [tI w,tI s,tI t]): ∃rs,Fn Tryz.prog 13 [rE {R with eB:=o6 D i}] [] (aR rs) []/\(aR rs).cR=true/\ ∃L,rs=[oL 3 L]/\qB L (cN (dn r)) [[tI 6,tI w,tI (if -1000000 > 0 - s - t then -1000000 else 0 - s - t)]]:=by
 subst M J;rw[Int.zero_sub];exact nR h (CT _ _ _) ak (aoO h (by rw[aa0]at S;exact S))
def abV(h:gV r)(M:R=dn r)(J:R.eB=D){zs:Lz}(A:zs=D.reverse): ∃rs,Fn Tryz.prog 13 [rE {R with eB:=zs}] [] (aR rs) []/\(aR rs).cR=true/\rs=[oL 3 (cN (dn r))]:=by
 subst M J A;exact VB (abT h)
end
def aCe{P:Lz}{n:Int}(hg:I3 P)(z:0<=n)(O:n < 256)(h:¬ (P.length:Int)=0): ∃ (i:Nat) (w s t:Int),i < P.length/\(IntKind.i64.wrap n).tmod (P.length:Int)=(i:Int)/\P[((i:Nat):Int).toNat]? =some [tI w,tI s,tI t]:=by
 obtain⟨i,I,K⟩:=qU z O h;obtain⟨w,s,t,H⟩:=hg P[i] (aaC I);exact⟨i,w,s,t,I,K,by rw[aa0,YI I,H]⟩
def UO{D:Lz}{j:Nat}{e:Lt}{k:Int}(h:D[k.toNat]? =some e)(Z:k=(D.length:Int) - 1 - (j:Int))(Q:0<=k):D.reverse.take (j+1)=D.reverse.take j++[e]:=by
 subst Z
 have O:D.reverse[j]? =some e:=by
  rw[List.getElem?_reverse aa, <-h];congr 1;omega
 rw[abw,O];rfl
def aLp(ts:Lt)(a:Lt)(e nL:Nat)(g h D:Lz)(m:Nat)(vs:List V)(hq:HS):Prop:= ∃ (j n:Nat) (M:Lz) (b c d:Lq),j<=D.length/\m=D.length - j/\vs=[iV .i64 ((D.length:Int) - 1 - (j:Int))]/\M=D.reverse.take j/\aL b g/\aL c h/\aL d M/\hq=[(4,.row 23 [ts.map .t]),(8,.row 3 [a.map .t]),(12,.row 23 [(ts.map .t).set 22 (.own 24 3 0 e)]),(16,.row 23 [(ts.map .t).set 22 (.own 28 3 0 nL)]),(20,.row 23 [(ts.map .t).set 22 (.own 32 3 0 n)]),(24,.row 3 b),(28,.row 3 c),(32,.row 3 d)]/\n=M.length
def qV(r:Rn)(J:Zy r)(L:mJ)(n m:Int)(z:0<=n)(O:n < 256)(F: -128<=m/\m<=127):Tg 5 [rE r,.one (.t (.val (.int .u8 n))),.one (.t (.val (.int .i8 m)))] GTr:=by
 refine aC Tryz.func5 ?_
 repeat' ((conv=>whnf);first|refine bZz (λh=>?_) (λh=>?_)|refine And.intro Y ?_|(have hg1:¬ (((c::v).length:Nat):Int)=0:=ai;obtain⟨i,w,s,t,I,hie,S⟩:=aCe YZ z O hg1;have G:=abU N g D S;rw[hie])|(refine aG (xs:=c::v) (n:=((c::v).length:Int) - 1 - (j:Int)) YZ aa aa ?_;rintro _ ⟨a7,b7,c7,rfl⟩ YV)|refine sc (xs:=c::v) (n:=(i:Int)) S aa ?_|(refine vj (xs:=c::v) (l:=0) aa aa ?_;rintro y H;have hA1:=vC H;rcases y with _|⟨y1,e⟩<;>simp only[aaa]at hA1)|(refine vj (xs:=c::v) aa aa ?_;rintro Z o;have hA2:=vC o;rcases Z with _|⟨a,d⟩<;>simp only[aaa]at hA2)|refine And.intro ⟨aa,by simp at I⊢;omega⟩ ?_|(have B:M.length<=j:=(by rw[A,aab];omega);have YY:=hRB.len;refine And.intro ⟨aa,by simp[bh];omega,by simp[maxLen];omega⟩ ?_)|refine And.intro (show(0:Int)<=(i:Int) by omega) ?_|(rw[bF (n:=(i:Int)+1) aa (by simp at I;omega)];refine And.intro (show(0:Int)<=(i:Int)+1 by omega) ?_)|refine And.intro ⟨ak,by simp[bh];omega,by simp[maxLen];omega⟩ ?_|(refine jF aa aa ?_;intro bb)|refine cT aa aa ?_|refine And.intro ag ?_|refine And.intro aa ?_|(refine aD rfl (L) ?_;rintro _ rfl)|(refine aN rfl (L) ?_;rintro _ rfl)|(refine aD rfl (bZ r J) ?_;rintro _ ⟨U,l0,b,rfl,P⟩)|(refine aN rfl (bZ r J) ?_;rintro _ ⟨U,l0,b,rfl,P⟩)|(have zk:qB L2 _ _:=ai;refine qC _ rfl (by rfl) (oH (ts:=({U with eB:=c::v}:Rn).ts) 22 hRB K) (abV (zs:=M) N g D (by rw[A,aac (by simp only[List.length_reverse];omega)])) ?_;rintro _ rfl)|(have zk:qB L1 _ _:=ai;refine qC _ rfl (by rfl) (oH (ts:=({U with eB:=c::v}:Rn).ts) 22 hRL nO) (abW N g D S) ?_;rintro _ ⟨L2,rfl,hL2⟩)|(refine qC _ rfl (by rfl) (oH (ts:=({U with eB:=c::v}:Rn).ts) 22 hRO ak) (abX N g D S ak ai F) ?_;rintro _ ⟨L1,rfl,hL1⟩)|(refine iJ rfl hL1 (λx h=>by subst h;rfl) ?_;rintro _ rfl)|(refine iJ rfl hL2 (λx h=>by subst h;rfl) ?_;rintro _ rfl)|(refine aD rfl (Rl N) ?_;rintro _ rfl)|rw[bF (n:=m) aa aa]|rw[bF (n:=0 - s) aa aa,bF (n:=0 - s - t) aa aa]|rw[bF (n:=s+m) aa aa]|rw[bF (n:=((c::v).length:Int) - 1) aa aa]|(have Y:(!b)=false:=ai;obtain⟨g,rfl,N⟩:=P (dM Y);clear P;have R:U.eB.length<=100:=(by rw[g];exact N.pyd.2.2.2);have YZ:I3 U.eB:=(by rw[g];exact N.pyd.2.2.1))|(have Y:¬ ((U.eB.length:Nat):Int)=0:=ai;obtain⟨c,v,D⟩:=lT Y;rw[D]at R YZ Y;rw[D];have aqD:(c::v).length<=100:=R;simp only[aaa]at R)|refine LS (xs:=c::v) (j:=i) rfl ak S ?_|exact g1 rfl rfl rfl|(apply pM [2,3,7,10,11,12,13,14] [(11,22),(12,22),(13,22)] [14] (aLp ({U with eB:=c::v}:Rn).ts [tI w,tI s,tI t] _ _ ((c::v).set _ [tI w,tI (s+m),tI t]) (o6 (c::v) i) (c::v)) ((c::v).length) [iV .i64 (((c::v).length:Int) - 1)] (eo.aA3 172 22 3 rfl rfl);(iterate 3 exact ae);exact⟨0,_,[],_,_,_,aa,rfl,ak,rfl,aL.aM (aL.set (xs:=c::v) rfl _ [tI w,tI (s+m),tI t]) _,aL.aM ug _,aL.aM aL.nil _,rfl,rfl⟩;rintro _ _ _ ⟨j,n9,M,rO,rL,rB,Q,rfl,rfl,A,hRO,hRL,hRB,rfl,K⟩)|(refine aI [2,3,7,10,11,12,13,14] [(11,22),(12,22),(13,22)] ?_;(conv=>whnf);exact⟨rfl,_,[_],⟨j+1,_,M++[[tI _,tI _,tI _]],_,_,_,aa,rfl,by rw[bF aa aa,show((c::v).length:Int) - 1 - ((j+1:Nat):Int)=((c::v).length:Int) - 1 - (j:Int) - 1 by omega],by rw[A,UO YV rfl aa],hRO.aM _,hRL.aM _,aL.aM (aL.snoc (xs:=M) hRB [tI _,tI _,tI _]) _,rfl,by have:=hRB.len;simp;omega⟩,rfl,rfl,aa⟩)|(exfalso;omega))
end Go.aW.Cd
namespace Go.Proofs.YtkpopiejnimcoaaGreatDoor
open Go.ChangeShapes Go.WideShapes Go.ChangeAt Go.RowKit
def KQ:(Rows.auditPaysRow.inPlace==Tryz.prog.inPlace 5)=true:=ag
def afA:(Rows.auditPaysRow.unfollowed==Tryz.prog.unfollowed 5)=true:=ag
def afB:(Rows.auditPaysRow.recurses==Tryz.prog.recurses 5)=true:=ag
def afC:(Rows.auditPaysRow.named==Tryz.prog.varsNamed 5)=true:=ag
def aDT:(Rows.auditPaysRow.wf (OpenSpec.ofChange Rows.auditPaysSpec)&&laidOutB Tryz.prog&&mapsRowed Tryz.prog&&Tryz.f5.params.all (Tryz.prog.readableRec ·)&&namedTie Tryz.prog Rows.auditPaysRow.named Rows.auditPaysSpec.vars&& (Rows.auditPaysRow.stops== [])&& (Tryz.prog.stops== [])&& (Rows.auditPaysRow.knobs== [])&& (Tryz.prog.stopKnobs== []))=true:=ag
def afE:joinedFacts Tryz.prog 5 Tryz.f5 Rows.auditPaysSpec Rows.auditPaysRow=true:=by
 unfold joinedFacts;rw[aDT,KQ,afA,afB,afC]
 kernel_rfl
end Go.Proofs.YtkpopiejnimcoaaGreatDoor
namespace Go.Proofs.YtkpopiejnimcoaaGreatDoor
open Go.aW Go.ChangeShapes Go.WideShapes Go.ChangeAt Go.RowKit
def Tryz.own:ownKnob Tryz.prog.godebug=none:=ag
def Tryz.laidOut:laidOutB Tryz.prog=true:=ag
def fg{P:Program}{W:World}{name:String}{g:Nat}{cs:Array Value}(hg:P.globalNamed name=some g)(h:W.var? P name=some cs):
 g < W.heap.size/\ ∃t fr,W.heap[g]? =some (.cells cs t fr):=by
 have N:=h;simp only[World.var?,hg,Tf]at N;split at N
 . rename_i d t fr G;simp only[ii]at N;subst N;refine⟨?_,t,fr,G⟩;rcases aa8 g W.heap.size with l|J
   . exact l
   . rw[aav J]at G;simp at G
 . simp at N
def dx{P:Program}{W:World}{name:String}{g:Nat}{k:IntKind}{zs:List Int}{vs:List Value}(hg:P.globalNamed name=some g)(h:Lib.TabIs P W name k zs)(l:vs=zs.map λz=>Value.int k z):
 g < W.heap.size/\(∃t fr,W.heap[g]? =some (.cells vs.toArray t fr))/\ ∀ (i:Nat) (v:Value),vs[i]? =some v->W.cell? ⟨g,i,none⟩=some v/\cz v=true:=by
 subst l;obtain⟨O,Y⟩:=fg hg h;refine⟨O,Y,λi v I=>⟨?_,?_⟩⟩
 . rw[World.var?_cell hg h i];simpa using I
 . simp only[yu,jU]at I;obtain⟨z,_,rfl⟩:=I;rfl
def kN{W:World}(R:laidMetH Tryz.prog Rows.auditPaysRow.laid W):uw (λb=>W.heap.size<=b) (λ_=>False) W:=by
 have s:laidMet Tryz.prog Rows.auditPaysRow.laid W:=R;have F:Lib.TabIs Tryz.prog W _ .u64 Lib.pow10Tab:=Lib.tabIs_of_head (g:=1) (t:=372) (e:=225) (n:=20) ag ag ag ag ag ag s.tail.tail;have a:Lib.TabIs Tryz.prog W _ .i64 [100000,1073741824]:=Lib.tabIs_of_head (g:=0) (t:=193) (e:=3) (n:=2) ag ag ag ag ag ag s.tail.tail.tail;intro g o D
 have e:(g=0/\o=[100000,1073741824].map λz=>Value.int .i64 z)\/(g=1/\o=Lib.pow10Tab.map λz=>Value.int .u64 z):=by
  unfold GH at D;simp only[uC]at D;split at D
  . rename_i e;simp only[ii]at D;exact .inl ⟨e.symm,D.symm⟩
  . split at D
    . rename_i e;simp only[ii]at D;exact .inr ⟨e.symm,by rw[<-D];rfl⟩
    . simp at D
 rcases e with⟨rfl,e⟩|⟨rfl,e⟩
 . obtain⟨O,Y,B⟩:=dx (g:=0) ag a e;exact⟨O,λh=>by omega,λh=>h,Y,B⟩
 . obtain⟨O,Y,B⟩:=dx (g:=1) ag F e;exact⟨O,λh=>by omega,λh=>h,Y,B⟩
def iN:Value:= .agg #[.string ⟨#[]⟩,.slice none 0 0,.slice none 0 0,.slice none 0 0,.slice none 0 0,.slice none 0 0,.slice none 0 0,.slice none 0 0,.slice none 0 0,.int .i64 0,.int .i64 0,.int .i64 0,.int .i64 0,.slice none 0 0,.slice none 0 0,.slice none 0 0,.slice none 0 0,.slice none 0 0,.slice none 0 0,.slice none 0 0,.int .i64 0,.int .i64 0,.slice none 0 0]
noncomputable def cE(J:Os):World:=World.laidAll Tryz.prog J Rows.auditPaysRow.laid
def iX(J:Os):laidMet Tryz.prog Rows.auditPaysRow.laid ((cE J).forCall (λ_ _=>0) ⟨#[], #[iN,.int .u8 0,.int .i8 0],[]⟩).memory:=
 laidMet_laidAll #[iN,.int .u8 0,.int .i8 0] ag ag
def reads(J:Os){H:Type}(enc:TypeId×Value->H):(DataW.whole enc Tryz.prog ((cE J).forCall (λ_ _=>0) ⟨#[], #[iN,.int .u8 0,.int .i8 0],[]⟩).memory Tryz.f5.params.toList Rows.auditPaysSpec.vars false #[iN,.int .u8 0,.int .i8 0].toList 8).isSome=true:=ag
def lifted(D:∀us,Typed Tryz.prog 12 Tryz.f5.params.toList us->aW.Fn Tryz.prog 5 us [] (.w (.one (.t (.val (.bool true))))) [])(J:Os)(e:J.Started)(H:Type)(enc:TypeId×Value->H)(F:Stop.Interp):
 ReturnsInHanded {} Tryz.checked J 5 .any ((OpenSpec.ofChange Rows.auditPaysSpec).preRow enc Tryz.prog Tryz.f5 Rows.auditPaysRow.domain false Rows.auditPaysRow.laid) (((OpenSpec.ofChange Rows.auditPaysSpec).at F).post enc Tryz.prog Tryz.f5 false true false false):=by
 obtain⟨x,N⟩:=aay.1 (reads J enc)
 refine returnsInHanded_of_row (C:=Tryz.checked) (s:=OpenSpec.ofChange Rows.auditPaysSpec) Tryz.own e ag Tryz.func5
  (witness_row_at (enc:=enc) (C:=Tryz.checked) false (cE J) #[iN,.int .u8 0,.int .i8 0] (World.laidAll_os _ _ _) ag ag ag
    (OpenSpec.preRow_of_cond 8 N rfl (λk Z=>by cases Z) ag (iX J))) ?_
 intro W l j G v h g B _ _ _ R _ _;refine nh (P:=Tryz.prog) (d:=11) (s:=Rows.auditPaysSpec) Tryz.laidOut rfl ag Tryz.underlying4 ?_ ?_ ?_ D g (kN R) B
 . intro G w;rw[Tryz.params5]at w
   match G,w with
   | [a,b,c],_=>exact⟨rfl,rfl,rfl⟩
 . have:(Tryz.f5.params.toList.all λt=>gj Tryz.prog 12 t)=true:=ag
   exact yt.1 this
 . have:(Tryz.f5.params.toList.all λt=>Tryz.prog.readableRec t&&decide (t < Tryz.prog.types.size))=true:=ag
   intro t Q;have:=yt.1 this t Q;simpa using this
def FQ:Tryz.pinned.checked.prog.funcNamed Rows.auditPaysRow.func=some 5:=ag
def WJ:Tryz.f5.isInstance Tryz.pinned.checked.prog Rows.auditPaysRow.origin Rows.auditPaysRow.targs:=of_decide_eq_true ag
def WH:Tryz.f5.isWrapper Tryz.pinned.checked.prog Rows.auditPaysRow.wrapper Rows.auditPaysRow.mainSum:=by
 unfold Func.isWrapper;first|(rw[if_pos r0];kernel_rfl)|(rw[if_neg r0];exact⟨rfl,rfl⟩)
def gq(D:∀us,Typed Tryz.prog 12 Tryz.f5.params.toList us->aW.Fn Tryz.prog 5 us [] (.w (.one (.t (.val (.bool true))))) []):Rows.AuditPaysSaid:=
 OpenClaim.holds_of_cond 5 Tryz.f5 rfl rfl rfl rfl rfl rfl rfl ⟨rfl,rfl,rfl,rfl,rfl⟩ rfl rfl rfl rfl rfl FQ Tryz.func5 afE WJ WH
  (λJ e H b _ F=>by rw[OpenClaim.pre_eq_preRow];exact lifted D J e H b F)
def plain(f:FuncId)(I:Func)(R:Tryz.pinned.checked.prog.funcNamed Rows.auditPaysRow.func=some f)(c:Tryz.pinned.checked.prog.funcs[f]? =some I):
 false=Tryz.pinned.checked.prog.looks []/\ ∀ (j:Nat) t,I.params[j]? =some t->Tryz.pinned.checked.prog.wantsStandIn t=false:=by
 obtain rfl:f=5:=aa5 (FQ.symm.trans R) |>.symm;obtain rfl:I=Tryz.f5:=(aa5 (Tryz.func5.symm.trans c)).symm;refine⟨ag,λj t Q=>?_⟩;have n:(Tryz.f5.params.toList.all λt=> !Tryz.prog.wantsStandIn t)=true:=ag
 have:=yt.1 n t (ab2.2 (ab7 Q));have e:Tryz.prog.wantsStandIn t=false:=by simpa using this
 exact e
def gF(D:∀us,Typed Tryz.prog 12 Tryz.f5.params.toList us->aW.Fn Tryz.prog 5 us [] (.w (.one (.t (.val (.bool true))))) []):Rows.AuditPaysCardSaid:=
 Claim7.holds_tied_plain_at .later [] _ _ _ _ (gq D) (λ_ h=>by cases h) ag (λ_ h=>by cases h) auditPays_row_tie rfl ⟨rfl,rfl⟩ ag rfl plain ag
end Go.Proofs.YtkpopiejnimcoaaGreatDoor
