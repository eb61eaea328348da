import Derived.Test.YtkpopiejnimcoaaGreatDoorBL
import Derived.Test.YtkpopiejnimcoaaGreatDoorRows
import Derived.ProofKit
import Derived.Test.YtkpopiejnimcoaaGreatDoorCards
import Derived.Test.YtkpopiejnimcoaaGreatDoorTie
import Derived.WalkKit
import Derived.OpenShut
import Derived.Deep.DeepHandedRow
import Derived.Lib.LaidTab
import Derived.Stop.LaidErr
import Derived.Lay
import Derived.Lib.ItoaNum
set_option linter.all false
set_option maxRecDepth 100000
set_option maxHeartbeats 4000000
namespace Go.aW.Cd
open Go Go.Proofs
variable[kw]
def PX{α β:Type}{f g:α->Option β}:∀ {l:List α},(∀x,x∈l->f x=g x)->l.filterMap f=l.filterMap g
 | [],_=>rfl
 |x::l,h=>by
  rw[List.filterMap_cons,List.filterMap_cons,h x ak,PX (l:=l) λy G=>h y aga]
section
variable{os ws bs xs ys:Lz}
def GQ:∀ {j:Nat},j<=xs.length->kW os ws bs (xs++ys) j=kW os ws bs xs j
 |0,_=>rfl
 |j+1,h=>by
  have Q:(xs++ys)[j]? =xs[j]? :=aaf aa;simp only[kW,Q,GQ (j:=j) aa]
def U5{j:Nat}(h:j < xs.length):oJ os ws bs (xs++ys) j=oJ os ws bs xs j:=by
 have Q:(xs++ys)[j]? =xs[j]? :=aaf h;simp only[oJ,Q,GQ (acz h)]
def Ot{t:Int}{o:Int}{j:Nat}(h:Fl (kW os ws bs xs j t).1 o=true):∀d,Fl (kW os ws bs xs (j+d) t).1 o=true
 |0=>h
 |d+1=>by
  have c:=Ot h d;rw[<-ab3]
  cases hx:xs[j+d]? with
  |none=>simp only[kW,hx];exact c
  |some x=>
   simp only[kW,hx,zV];split
   . show Fl (if t=nI 0 x then(((kW os ws bs xs (j+d) t).1.set (nI 1 x).toNat true,nI 3 x):Rcd)else kW os ws bs xs (j+d) t).1 o=true;split
     . by_cases e:(nI 1 x).toNat=o.toNat
       . rw[e];unfold Fl
         by_cases U:o.toNat < (kW os ws bs xs (j+d) t).1.length
         . rw[aaj U];rfl
         . rw[adu aa];exact c
       . unfold Fl at c⊢;rw[aam e];exact c
     . exact c
   . exact c
def JO(c:lu os){x:Lt}(h:x∈iH os ws bs xs xs.length):
 kY (lC bs) bs.length (nI 0 x) < bs.length/\¬rX os ws (nI 1 x) (nI 2 x) (nI 3 x)/\Ll (nS 0 (Lo ws (nI 2 x))) (nL 1 (Lo ws (nI 2 x))) (nI 1 (Lo os (nI 1 x)))=true/\Fl (kW os ws bs xs xs.length (nI 0 x)).1 (nI 1 x)=true:=by
 simp only[iH,aau,aap]at h;obtain⟨j,Q,h⟩:=h;split at h
 . rename_i d;have a:=d;simp only[oJ,h,JS]at d;split at d
   . rename_i I
     have Z:¬rX os ws (nI 1 x) (nI 2 x) (nI 3 x)/\Ll (nS 0 (Lo ws (nI 2 x))) (nL 1 (Lo ws (nI 2 x))) (nI 1 (Lo os (nI 1 x)))=true:=by
      unfold DY at d
      by_cases L:rX os ws (nI 1 x) (nI 2 x) (nI 3 x)
      . rw[if_pos L]at d;cases d
      . rw[if_neg L]at d;refine⟨L,?_⟩
        cases hc:Ll (nS 0 (Lo ws (nI 2 x))) (nL 1 (Lo ws (nI 2 x))) (nI 1 (Lo os (nI 1 x)))with
        |true=>rfl
        |false=>rw[hc,if_pos rfl]at d;cases d
     refine⟨I,Z.1,Z.2,?_⟩
     have O:Fl (kW os ws bs xs (j+1) (nI 0 x)).1 (nI 1 x)=true:=by
      have H:JS os ws bs (kW os ws bs xs j) x=1:=by simpa only[oJ,h]using a
      simp only[kW,h,zV,H,if_true];unfold Fl;have n:=GP os ws bs xs j (nI 0 x);have g:os.length<=16:=c.1;have Y:=Z.1;simp only[rX]at Y;rw[aaj aa];rfl
     have:=Ot O (xs.length - (j+1));rwa [show j+1+(xs.length - (j+1))=xs.length by omega]at this
   . cases d
 . cases h
def IK(c:lu os)(hy:∀y,y∈ys->y∈iH os ws bs xs xs.length):∀d,d<=ys.length->kW os ws bs (xs++ys) (xs.length+d)=kW os ws bs xs xs.length/\(d < ys.length->oJ os ws bs (xs++ys) (xs.length+d)=2)
 |0,h=>by
  have e:kW os ws bs (xs++ys) (xs.length+0)=kW os ws bs xs xs.length:=GQ (ww _);refine⟨e,λS=>?_⟩;have N:(xs++ys)[xs.length+0]? =some ys[0]:=by rw[aai aa];simp[S]
  obtain⟨s,v,z,R⟩:=JO c (hy ys[0] (aaC S));simp only[oJ,N,e,JS,if_pos s];unfold DY;rw[if_neg v,z,if_neg ak,if_pos R]
 |d+1,h=>by
  obtain⟨A,j⟩:=IK c hy d aa;have j:=j aa;have N:(xs++ys)[xs.length+d]? =some ys[d]:=by rw[aai aa];simp[show d < ys.length by omega]
  have e:kW os ws bs (xs++ys) (xs.length+(d+1))=kW os ws bs xs xs.length:=by
   rw[<-ab3];simp only[oJ,N]at j;simp only[kW,N,zV,j];exact A
  refine⟨e,λS=>?_⟩;have N:(xs++ys)[xs.length+(d+1)]? =some ys[d+1]:=by rw[aai aa];simp[S]
  obtain⟨s,v,z,R⟩:=JO c (hy ys[d+1] (aaC S));simp only[oJ,N,e,JS,if_pos s];unfold DY;rw[if_neg v,z,if_neg ak,if_pos R]
def XM(c:lu os)(hy:∀y,y∈ys->y∈iH os ws bs xs xs.length):iH os ws bs (xs++ys) (xs++ys).length=iH os ws bs xs xs.length:=by
 rw[XV];unfold iH;rw[List.range_add,afh]
 have H:(List.range xs.length).filterMap (λj=>if oJ os ws bs (xs++ys) j=1 then(xs++ys)[j]? else none)=(List.range xs.length).filterMap (λj=>if oJ os ws bs xs j=1 then xs[j]? else none):=by
  apply PX;intro j Q;have Q:=aap.1 Q;rw[U5 Q,aaf Q]
 have o:((List.range ys.length).map (xs.length+ ·)).filterMap (λj=>if oJ os ws bs (xs++ys) j=1 then(xs++ys)[j]? else none)=[]:=by
  rw[List.filterMap_eq_nil_iff];intro j Q;obtain⟨d,S,rfl⟩:=aad.1 Q;have S:=aap.1 S;rw[(IK c hy d aa).2 S];rfl
 rw[H,o,aa9]
def iS(n k:Nat):Lz:=(List.range k).map λ(d:Nat)=>[tI 7,tI ((n+d:Nat):Int),tI 2]
def S2(c:lu os)(hy:∀y,y∈ys->y∈iH os ws bs xs xs.length):jK os ws bs (xs++ys) (xs++ys).length=jK os ws bs xs xs.length++iS xs.length ys.length:=by
 rw[XV];unfold jK;rw[List.range_add,afh];congr 1
 . apply PX;intro j Q;have Q:=aap.1 Q;rw[U5 Q]
 . rw[List.filterMap_map];unfold iS;rw[<-List.filterMap_eq_map];apply PX;intro d S;have S:=aap.1 S;have Y:=(IK c hy d aa).2 S;simp[Y]
end
end Go.aW.Cd
namespace Go.aW.Cd
open Go Go.Proofs
variable[kw]
def ng{R R':Rn}{L L' j:Lz}(h:IS R L)(N:IS R' L')(S:SS j)(r:∀e,wz R' e↔wz R e\/e∈j)(hx:∀e,e∈j->¬wz R e):cC L' L j:=
 ⟨N.ss,h.ss,S,λx a b=>hx x b ((h.m x).1 a),λx=>by rw[N.m,r,h.m]⟩
section
variable{r:Rn}
def gV.no(h:gV r){e:Lt}(H:nI 0 e≠2/\nI 0 e≠7):¬wz (dn r) e:=λF=>by
 rcases h.k27 e ((h.R0.m e).2 F)with O|O
 . exact H.1 O
 . exact H.2 O
def gV.JM(h:gV r){R':Rn}{x:Lt}(N:IS R' (cN R'))(s:∀e,wz R' e↔wz (dn r) e\/e=x)(hx:nI 0 x≠2/\nI 0 x≠7):cC (cN R') (cN (dn r)) [x]:=
 ng h.R0 N ak (λe=>by rw[s];simp) (λe H=>by simp only[vv]at H;subst H;exact h.no hx)
def vO{R:Rn}(x:uv R)(o:kx R):IS R (cN R):=by
 obtain⟨_,_,_,_,d⟩:=cS R x;exact d.1 o
def I3.set{D:Lz}(h:I3 D)(i:Nat)(a b c:Int):I3 (D.set i [tI a,tI b,tI c]):=λe H=>by
 rcases aao H with O|O
 . exact h e O
 . exact⟨_,_,_,O⟩
def gV.gl(h:gV r):(bU r).length<=96:=by
 have A:=h.fw.py;have j:kA r.sizes r.plies r.bs r.bs.length:=h.ff.bd;have O:=pT (sizes:=r.sizes) (places:=r.places) (plies:=r.plies) (cuts:=(ew r).1) aa (rq h.o.hb j) r.bs.length;have Y:=h.fw.b;show(bU r).length<=96;unfold bU;omega
abbrev LG(r:Rn)(ys:Lz):Rn:={dn r with xs:=r.xs++ys}
def JZ(n:Nat):∀k,SS (iS n k)
 |0=>by simp[iS]
 |k+1=>by
  have c:=JZ n k;have e:iS n (k+1)=iS n k++[[tI 7,tI ((n+k:Nat):Int),tI 2]]:=by simp[iS,abf]
  rw[e];refine ado.2 ⟨c,ak,λa w b G=>?_⟩;simp only[vv]at G;subst G;simp only[iS,aad,aap]at w;obtain⟨d,S,rfl⟩:=w;refine .inr ⟨rfl,.inl ?_⟩;show((n+d:Nat):Int) < ((n+k:Nat):Int);omega
def JC(h:gV r){ys:Lz}(hy:∀y,y∈ys->y∈iH r.os r.ws r.bs r.xs r.xs.length)(U:ys.length<=8):uv (LG r ys)/\cC (cN (LG r ys)) (cN (dn r)) (iS r.xs.length ys.length)/\ ∀e,e∈cN (LG r ys)->K27 e:=by
 have LK:=h.fw.x
 have c:lu r.os:=by
  obtain⟨_,_,_,_,s⟩:=qb (dn r) h.b.ok;exact(s h.rK.op).2
 have K:∀y,y∈ys->y∈r.xs:=λy k=>by
  have k:=hy y k;simp only[iH,aau,aap]at k;obtain⟨j,Q,k⟩:=k;split at k
  . exact oo k
  . cases k
 have hx:∀e,e∈r.xs++ys->zO e:=λe H=>by
  rcases yl.1 H with k|k
  . exact h.o.hx e k
  . exact h.o.hx e (K e k)
 have n:(r.xs++ys).length=r.xs.length+ys.length:=XV;have I:jk (LG r ys):={h.b.ok with hx:=hx,LK:=by show(r.xs++ys).length<=1000;omega};have x:uv (LG r ys):=⟨I,h.b.gp,h.b.pq⟩;obtain⟨_,_,_,_,M,L⟩:=kj r.sn r.bk r.ms r.ps r.us r.ss r.os h.o.hS r.bs h.o.hb Nb r.ws h.o.hw NJ r.xs h.o.hx;obtain⟨_,_,_,_,N,b⟩:=kj r.sn r.bk r.ms r.ps r.us r.ss r.os h.o.hS r.bs h.o.hb Nb r.ws h.o.hw NJ (r.xs++ys) hx;have Q:(LG r ys).jE=0:=b.2 ⟨(L.1 h.rK.jg).1,aa⟩;have w:kx (LG r ys):=⟨h.rK.op,h.rK.pl,h.rK.sp,h.rK.bu,Q,h.rK.tf,h.rK.gs,h.rK.ps⟩;have G:iH r.os r.ws r.bs (r.xs++ys) (r.xs++ys).length=iH r.os r.ws r.bs r.xs r.xs.length:=XM c hy
 have A:(lE (LG r ys)).1=(lE r).1:=by
  obtain⟨_,_,_,D,e,_,rfl,rfl,s⟩:=nC r h.o;obtain⟨_,_,_,D,e,_,rfl,rfl,a⟩:=nC (LG r ys) I;have O:=s.1.1 h.py;have Y:(lE r).1=_:=s.2.1 h.py;have z:(lE (LG r ys)).2=0:=a.1.2 ⟨O.tf,Q,by show AmA r.r r.l r.os r.bs (iH r.os r.ws r.bs (r.xs++ys) (r.xs++ys).length);rw[G];exact O.am⟩;have B:(lE (LG r ys)).1=BD r.r r.l r.os r.bs (iH r.os r.ws r.bs (r.xs++ys) (r.xs++ys).length) r.ws.length:=a.2.1 z;rw[B,G,Y]
 have v:=vO x w
 have l:∀e,wz (LG r ys) e↔wz (dn r) e\/e∈iS r.xs.length ys.length:=λe=>by
  have B:¬IM (lE r).1 (lE r).1 e:=tK (λ_=>rfl) e;have g:wz (LG r ys) e↔(e∈mQ (zS r).1\/e∈ (tE (dn r)).2\/e∈zY r.lots (ew r).1 (bU r) (bU r).length\/e∈wx (TE r (ew r).1) (tE (dn r)).1 r.bs r.bs.length\/IM (lE r).1 (lE (LG r ys)).1 e\/e∈jK r.os r.ws r.bs (r.xs++ys) (r.xs++ys).length):=Iff.rfl;have o:wz (dn r) e↔(e∈mQ (zS r).1\/e∈ (tE (dn r)).2\/e∈zY r.lots (ew r).1 (bU r) (bU r).length\/e∈wx (TE r (ew r).1) (tE (dn r)).1 r.bs r.bs.length\/IM (lE r).1 (lE r).1 e\/e∈jK r.os r.ws r.bs r.xs r.xs.length):=Iff.rfl;rw[g,o,A,S2 c hy,yl];simp only[or_assoc]
 have Z:∀e,e∈iS r.xs.length ys.length->K27 e:=λe H=>by
  simp only[iS,aad,aap]at H;obtain⟨d,S,rfl⟩:=H;exact .inr rfl
 refine⟨x,ng h.R0 v (JZ _ _) l (λe H F=>?_),λe H=>?_⟩
 . rcases(h.isp e).1 F with k|k
   . have:=ajO k;simp only[iS,aad,aap]at H;obtain⟨d,S,rfl⟩:=H;simp[nI]at this
   . simp only[iS,aad,aap]at H;obtain⟨d,S,rfl⟩:=H;simp only[jK,aau,aap]at k;obtain⟨j,Q,k⟩:=k;split at k
     . simp only[ii,aaz,T.val.injEq,Value.int.injEq,true_and]at k;have:=k.1;omega
     . cases k
 . rcases(l e).1 ((v.m e).1 H)with k|k
   . exact h.k27 e ((h.R0.m e).2 k)
   . exact Z e k
end
end Go.aW.Cd
namespace Go.aW.Cd
open Go Go.Proofs
variable[kw]
variable{P xs:Lz}{id sz:Nat}{rows:Lq}{R':Rn}
def qU{n:Int}(z:0<=n)(O:n < 256)(h:¬ (P.length:Int)=0): ∃i:Nat,i < P.length/\(IntKind.i64.wrap n).tmod (P.length:Int)=(i:Int):=by
 rw[bF aa aa];have Y:=ac4 n (show(0:Int) < (P.length:Int) by omega);have B:=ads (P.length:Int) z;exact⟨(n.tmod (P.length:Int)).toNat,aa,aa⟩
def jb{hp:HS}{d len:Nat}(R:find hp id=some (.row sz rows))(M:aL rows xs)(U:len=xs.length):cA (d+1) hp (.own id sz 0 len)=some (.aO sz xs):=by
 have I:0+len<=rows.length:=by rw[M.len];omega
 simp only[cA,R,true_and,I,if_true];rw[M,o5,mF,U];simp
def lT(h:¬ ((xs.length:Nat):Int)=0): ∃c v,xs=c::v:=by
 cases xs with
 |nil=>simp at h
 |cons a b=>exact⟨a,b,rfl⟩
def jV(hp:HS):∀ts:Lt,bB (cA 6 hp) (ts.map .t)=some ts
 | []=>rfl
 |t::r=>by
  have B:cA 6 hp (.t t)=some t:=by cases hp<;>rfl
  simp only[aaq,bB,B,jV hp r]
def js{α β:Type}{f:α->Option β}{r:α}{x:β}(J:f r=some x):∀ {rows:List α} {xs:List β},bB f rows=some xs-> ∀i,bB f (rows.set i r)=some (xs.set i x)
 | [],xs,h,i=>by
   simp only[bB,ii]at h;subst h;rfl
 |a::rows,xs,h,i=>by
  simp only[bB]at h
  cases ha:f a with
  |none=>simp[ha]at h
  |some y=>
   cases hl:bB f rows with
   |none=>simp[ha,hl]at h
   |some l=>
    simp only[ha,hl,ii]at h;subst h
    cases i with
    |zero=>simp only[aee,bB,J,hl]
    |succ i=>simp only[aef,bB,ha,js J hl i]
def qS{hp:HS}{ts:Lt}{len:Nat}(k:Nat)(R:find hp id=some (.row sz rows))(M:aL rows P)(U:len=P.length):bB (bM hp) [.agg ((ts.map .t).set k (.own id sz 0 len))]=some [.agg ((ts.set k (.aO sz P)).map .t)]:=by
 have Y:cA 6 hp (.own id sz 0 len)=some (.aO sz P):=jb (d:=5) R M U;have B:=js Y (jV hp ts) k;simp only[bB,bM,B,wv]
def oH{ts:Lt}{len:Nat}(k:Nat)(M:aL rows P)(U:len=P.length):bB (bM [(id,bE.row sz rows)]) [.agg ((ts.map .t).set k (.own id sz 0 len))]=some [.agg ((ts.set k (.aO sz P)).map .t)]:=qS k W3 M U
def qB(L l m:Lz):Prop:= ∃x,Fn Tryz.prog 12 [oL 3 L,oL 3 l,oL 3 m] [] (aR x) []/\(aR x).cR=true/\x=[oB true]
def nR{r:Rn}{j:Lz}(h:gV r)(s:I3 j)(R:j.length<=1000000)(K:uv R'/\cC (cN R') (cN (dn r)) j): ∃rs,Fn Tryz.prog 13 [rE R'] [] (aR rs) []/\(aR rs).cR=true/\ ∃L,rs=[oL 3 L]/\qB L (cN (dn r)) j:=by
 obtain⟨x,K⟩:=K;obtain⟨rs,O,Y,rfl,d⟩:=cS R' x;refine⟨_,O,Y,_,rfl,?_⟩;obtain⟨Z,P,v,b,rfl,z⟩:=My (cN R') (cN (dn r)) j d.i3 h.q.i3 s d.2.2.2 h.q.2.2.2 R;rw[z K]at P v;exact⟨_,P,v,rfl⟩
def Xz(x:uv R')(Z:∀e,e∈cN R'->K27 e): ∃rs,Fn Tryz.prog 11 [rE R'] [] (aR rs) []/\(aR rs).cR=true/\rs=[oB true]:=by
 obtain⟨L,O,Y,b,rfl,B⟩:=tC R' x;rw[B.2 Z]at O Y;exact⟨_,O,Y,rfl⟩
end Go.aW.Cd
namespace Go.aW.Cd
open Go Go.Proofs
variable[kw]
def aLw(e:Lt):Prop:= ∃m:Int,e=[.val (.int .u8 m)]/\0<=m/\m < 256
section
variable{r R:Rn}{xs ys D:Lz}
def abY(h:gV r)(M:R=dn r): ∃rs,Fn Tryz.prog 15 [dV R.sn R.bk R.ms R.ps R.us R.ss R.os,oL 6 R.bs,oL 2 R.ws,oL 4 R.xs] [] (aR rs) []/\(aR rs).cR=true/\rs=[oL 4 (iH R.os R.ws R.bs R.xs R.xs.length),oI 0]:=by
 subst M;obtain⟨Z,O,Y,B⟩:=Rk r.sn r.bk r.ms r.ps r.us r.ss r.os h.o.hS r.bs h.o.hb Nb r.ws h.o.hw NJ r.xs h.o.hx;have g:Vz r.sn r.bk r.ms r.ps r.us r.ss r.os r.bs r.ws r.xs=0:=h.rK.jg;unfold GPp at B;rw[g,if_pos rfl]at B;exact⟨Z,O,Y,B⟩
def anS(h:gV r)(M:R=dn r)(hx:R.xs=xs)(l:iH R.os R.ws R.bs xs xs.length=D)(hy:∀y,y∈ys->y∈D)(U:ys.length<=8){m:Lz}(s:m=iS xs.length ys.length): ∃rs,Fn Tryz.prog 13 [rE {R with xs:=xs++ys}] [] (aR rs) []/\(aR rs).cR=true/\ ∃L,rs=[oL 3 L]/\qB L (cN (dn r)) m:=by
 subst M hx l s;obtain⟨O,Y,_⟩:=JC h hy U;refine nR (R':=LG r ys) h (λe H=>?_) (by simp[iS];omega) ⟨O,Y⟩;simp only[iS,aad]at H;obtain⟨d,_,rfl⟩:=H;exact⟨_,_,_,rfl⟩
def anR(h:gV r)(M:R=dn r)(hx:R.xs=xs)(l:iH R.os R.ws R.bs xs xs.length=D)(hy:∀y,y∈ys->y∈D)(U:ys.length<=8): ∃rs,Fn Tryz.prog 11 [rE {R with xs:=xs++ys}] [] (aR rs) []/\(aR rs).cR=true/\rs=[oB true]:=by
 subst M hx l;obtain⟨O,_,B⟩:=JC h hy U;exact Xz (R':=LG r ys) O B
def aBE(hx:∀e,e∈xs->zO e){J F P:Lz}(l:iH J F P xs xs.length=D):∀e,e∈D->zO e:=λe H=>by
 rw[<-l]at H;simp only[iH,aau,aap]at H;obtain⟨j,Q,k⟩:=H;split at k
 . exact hx e (oo k)
 . cases k
end
def RSc(ts:Lt)(xs D:Lz)(N:Nat)(m:Nat)(vs:List V)(w:List (Lz)):Prop:= ∃ (j a z:Nat) (ys M:Lz),j<=N/\m=N - j/\vs=[bD 8 4 a,bD 12 3 z,iV .i64 (j:Int)]/\w=[[ts],xs++ys,M]/\ys.length=j/\(∀y,y∈ys->y∈D)/\M=iS xs.length j/\a=(xs++ys).length/\z=M.length
def acM{hp:HS}{id n:Nat}{rows:Lq}{a b zs:Lz}(R:find hp id=some (.row 3 rows))(M:aL rows zs)(K:n=zs.length):bB (bM hp) [oL 3 a,oL 3 b,.one (.own id 3 0 n)]=some [oL 3 a,oL 3 b,oL 3 zs]:=by
 have h:=jb (d:=5) R M K;have B:∀t,cA 6 hp (.t t)=some t:=λt=>by cases hp<;>rfl
 simp only[bB,bM,h,B,wv]
def Up{ys D:Lz}{e:Lt}{k:Int}(hy:∀y,y∈ys->y∈D)(S:D[k.toNat]? =some e):∀y,y∈ys++[e]->y∈D:=λy h=>by
 rcases yl.1 h with h|h
 . exact hy y h
 . simp only[vv]at h;subst h;exact oo S
def MG(n k:Nat):iS n (k+1)=iS n k++[[tI 7,tI ((n+k:Nat):Int),tI 2]]:=by simp[iS,abf]
def RN(n k:Nat):(iS n k).length=k:=by simp[iS]
def aCd{D:Lz}{n:Int}(hg:∀e,e∈D->zO e)(z:0<=n)(O:n < 256)(h:D≠ []): ∃ (i:Nat) (a b c d:Int),i < D.length/\(IntKind.i64.wrap n).tmod (D.length:Int)=(i:Int)/\D[((i:Nat):Int).toNat]? =some [tI a,tI b,tI c,tI d]:=by
 obtain⟨i,I,K⟩:=qU (P:=D) z O (λe=>h (abd.1 aa));obtain⟨a,b,c,d,H⟩:=hg D[i] (aaC I);exact⟨i,a,b,c,d,I,K,by rw[aa0,YI I,H]⟩
def qm(r:Rn)(L:Zy r)(w:mJ)(again:Lz)(hag:∀e,e∈again->aLw e)(aRv:again.length<=maxLen):Tg 8 [rE r,.one (.t (.aO 1 again))] GTr:=by
 refine aC Tryz.func8 ?_
 repeat' ((conv=>whnf);first|refine bZz (λh=>?_) (λh=>?_)|(refine aG (xs:=again) hag aa aa ?_;rintro _ ⟨u,rfl,v,O⟩ hsa)|(obtain⟨k,a,I,c,d,Z,J,hsd⟩:=aCd hDs v O (λe=>by rw[e]at hg3;simp at hg3);rw[J])|refine sc (xs:=D) (n:=(k:Int)) hsd aa ?_|(have B:M.length=j:=(by rw[A,RN]);(try simp only[XV,aaa]at hn4);refine And.intro ⟨by simp[tr];omega,by simp[tr,bh];omega,by simp[tr,maxLen];omega⟩ ?_)|refine And.intro ⟨ak,by simp[bh];omega,by simp[maxLen];omega⟩ ?_|(refine jF aa aa ?_;intro o)|refine cT aa aa ?_|refine And.intro ag ?_|refine And.intro aa ?_|(refine aD rfl (w) ?_;rintro _ rfl)|(refine aN rfl (w) ?_;rintro _ rfl)|(refine aD rfl (bZ r L) ?_;rintro _ ⟨U,l0,b,rfl,F⟩)|(refine aN rfl (bZ r L) ?_;rintro _ ⟨U,l0,b,rfl,F⟩)|(have Y:(!b)=false:=ai;obtain⟨g,rfl,N⟩:=F (dM Y);clear F;have S:U.xs.length<=30:=(by rw[g];exact N.fw.x);have R:∀e,e∈U.xs->zO e:=(by rw[g];exact N.o.hx))|(refine aD rfl (abY N g) ?_;rintro _ rfl;generalize l:iH U.os U.ws U.bs U.xs U.xs.length=D)|(have hg3:¬ ((D.length:Nat):Int)=0:=ai;obtain⟨z,H,s⟩:=lT (xs:=U.xs) (by have y:=tP U.os U.ws U.bs U.xs U.xs.length;rw[l]at y;omega);rw[s];rw[s]at l S R;have hDs:=aBE R l;have hg4:(z::H).length<=30:=S;simp only[aaa]at S)|(refine ZY 4 0 19 8 (ys:=(z::H)++ys) rfl rfl rfl rfl rfl hn4 av rfl (oH (ts:=({U with xs:=z::H}:Rn).ts) 19 rfl hn4) (anS (m:=M) (ys:=ys) N g s l G aa (by rw[A,P])) ?_;rintro _ ⟨K,rfl,hL1⟩)|(refine iJ (acM rfl rfl hn3) hL1 (λx h=>by subst h;rfl) ?_;rintro _ rfl)|(refine aD rfl (anR (ys:=ys) N g s l G aa) ?_;rintro _ rfl)|exact g1 rfl rfl rfl|(apply cL [1,2,5,7,9,10,11] [] [9,10,11] [(4,23),(8,4),(12,3)] (RSc ({U with xs:=z::H}:Rn).ts (z::H) D again.length) (again.length) [_,bD 12 3 0,iV .i64 0] (eo.dQ 10 3 rfl);(iterate 3 exact ae);exact .cons (aL.aM (xs:=[({U with xs:=z::H}:Rn).ts]) rfl _) (.cons (aL.aM (xs:=z::H) rfl _) (.cons (aL.aM aL.nil _) .nil));exact⟨0,_,_,[],[],aa,rfl,rfl,ak,rfl,ak,rfl,ak,rfl⟩;rintro _ _ _ ⟨j,n4,n3,ys,M,Q,rfl,rfl,rfl,P,G,A,hn4,hn3⟩)|(refine aI [1,2,5,7,9,10,11] [] ?_;(conv=>whnf);exact⟨rfl,_,[_,_,_],_,.cons (aL.aM (xs:=[({U with xs:=z::H}:Rn).ts]) rfl _) (.cons (aL.aM (aL.snoc (xs:=(z::H)++ys) rfl [tI _,tI _,tI _,tI _]) _) (.cons (aL.aM (aL.snoc (xs:=M) rfl [tI 7,tI _,tI 2]) _) .nil)),⟨j+1,_,_,ys++[[tI _,tI _,tI _,tI _]],M++[[tI 7,tI _,tI 2]],aa,rfl,by rw[bF aa aa];rfl,by rw[aaQ],by simp[P],Up G hsd,by rw[A,MG,show n4=(z::H).length+j by simp only[aaa];omega],by first|(simp[tr];done)|(simp[tr];omega),by first|(simp[tr];done)|(simp[tr];omega)⟩,rfl,rfl,aa⟩)|(exfalso;omega))
end Go.aW.Cd
namespace Go.Proofs.YtkpopiejnimcoaaGreatDoor
open Go.ChangeShapes Go.WideShapes Go.ChangeAt Go.RowKit
def KO:(Rows.auditScansRow.inPlace==Tryz.prog.inPlace 8)=true:=ag
def aeV:(Rows.auditScansRow.unfollowed==Tryz.prog.unfollowed 8)=true:=ag
def aeW:(Rows.auditScansRow.recurses==Tryz.prog.recurses 8)=true:=ag
def aeX:(Rows.auditScansRow.named==Tryz.prog.varsNamed 8)=true:=ag
def aDS:(Rows.auditScansRow.wf (OpenSpec.ofChange Rows.auditScansSpec)&&laidOutB Tryz.prog&&mapsRowed Tryz.prog&&Tryz.f8.params.all (Tryz.prog.readableRec ·)&&namedTie Tryz.prog Rows.auditScansRow.named Rows.auditScansSpec.vars&& (Rows.auditScansRow.stops== [])&& (Tryz.prog.stops== [])&& (Rows.auditScansRow.knobs== [])&& (Tryz.prog.stopKnobs== []))=true:=ag
def aeZ:joinedFacts Tryz.prog 8 Tryz.f8 Rows.auditScansSpec Rows.auditScansRow=true:=by
 unfold joinedFacts;rw[aDS,KO,aeV,aeW,aeX]
 kernel_rfl
end Go.Proofs.YtkpopiejnimcoaaGreatDoor
namespace Go.Proofs.YtkpopiejnimcoaaGreatDoor
open Go.aW Go.ChangeShapes Go.WideShapes Go.ChangeAt Go.RowKit
def Tryz.own:ownKnob Tryz.prog.godebug=none:=ag
def Tryz.laidOut:laidOutB Tryz.prog=true:=ag
def fg{P:Program}{W:World}{name:String}{g:Nat}{cs:Array Value}(hg:P.globalNamed name=some g)(h:W.var? P name=some cs):
 g < W.heap.size/\ ∃t fr,W.heap[g]? =some (.cells cs t fr):=by
 have N:=h;simp only[World.var?,hg,Tf]at N;split at N
 . rename_i d t fr G;simp only[ii]at N;subst N;refine⟨?_,t,fr,G⟩;rcases aa8 g W.heap.size with l|J
   . exact l
   . rw[aav J]at G;simp at G
 . simp at N
def dx{P:Program}{W:World}{name:String}{g:Nat}{k:IntKind}{zs:List Int}{vs:List Value}(hg:P.globalNamed name=some g)(h:Lib.TabIs P W name k zs)(l:vs=zs.map λz=>Value.int k z):
 g < W.heap.size/\(∃t fr,W.heap[g]? =some (.cells vs.toArray t fr))/\ ∀ (i:Nat) (v:Value),vs[i]? =some v->W.cell? ⟨g,i,none⟩=some v/\cz v=true:=by
 subst l;obtain⟨O,Y⟩:=fg hg h;refine⟨O,Y,λi v I=>⟨?_,?_⟩⟩
 . rw[World.var?_cell hg h i];simpa using I
 . simp only[yu,jU]at I;obtain⟨z,_,rfl⟩:=I;rfl
def kN{W:World}(R:laidMetH Tryz.prog Rows.auditScansRow.laid W):uw (λb=>W.heap.size<=b) (λ_=>False) W:=by
 have s:laidMet Tryz.prog Rows.auditScansRow.laid W:=R;have F:Lib.TabIs Tryz.prog W _ .u64 Lib.pow10Tab:=Lib.tabIs_of_head (g:=1) (t:=372) (e:=225) (n:=20) ag ag ag ag ag ag s.tail.tail;have a:Lib.TabIs Tryz.prog W _ .i64 [100000,1073741824]:=Lib.tabIs_of_head (g:=0) (t:=193) (e:=3) (n:=2) ag ag ag ag ag ag s.tail.tail.tail;intro g o D
 have e:(g=0/\o=[100000,1073741824].map λz=>Value.int .i64 z)\/(g=1/\o=Lib.pow10Tab.map λz=>Value.int .u64 z):=by
  unfold GH at D;simp only[uC]at D;split at D
  . rename_i e;simp only[ii]at D;exact .inl ⟨e.symm,D.symm⟩
  . split at D
    . rename_i e;simp only[ii]at D;exact .inr ⟨e.symm,by rw[<-D];rfl⟩
    . simp at D
 rcases e with⟨rfl,e⟩|⟨rfl,e⟩
 . obtain⟨O,Y,B⟩:=dx (g:=0) ag a e;exact⟨O,λh=>by omega,λh=>h,Y,B⟩
 . obtain⟨O,Y,B⟩:=dx (g:=1) ag F e;exact⟨O,λh=>by omega,λh=>h,Y,B⟩
def iN:Value:= .agg #[.string ⟨#[]⟩,.slice none 0 0,.slice none 0 0,.slice none 0 0,.slice none 0 0,.slice none 0 0,.slice none 0 0,.slice none 0 0,.slice none 0 0,.int .i64 0,.int .i64 0,.int .i64 0,.int .i64 0,.slice none 0 0,.slice none 0 0,.slice none 0 0,.slice none 0 0,.slice none 0 0,.slice none 0 0,.slice none 0 0,.int .i64 0,.int .i64 0,.slice none 0 0]
noncomputable def cE(J:Os):World:=World.laidAll Tryz.prog J Rows.auditScansRow.laid
def iX(J:Os):laidMet Tryz.prog Rows.auditScansRow.laid ((cE J).forCall (λ_ _=>0) ⟨#[], #[iN,.slice none 0 0],[]⟩).memory:=
 laidMet_laidAll #[iN,.slice none 0 0] ag ag
def reads(J:Os){H:Type}(enc:TypeId×Value->H):(DataW.whole enc Tryz.prog ((cE J).forCall (λ_ _=>0) ⟨#[], #[iN,.slice none 0 0],[]⟩).memory Tryz.f8.params.toList Rows.auditScansSpec.vars false #[iN,.slice none 0 0].toList 8).isSome=true:=ag
def lifted(D:∀us,Typed Tryz.prog 12 Tryz.f8.params.toList us->aW.Fn Tryz.prog 8 us [] (.w (.one (.t (.val (.bool true))))) [])(J:Os)(e:J.Started)(H:Type)(enc:TypeId×Value->H)(F:Stop.Interp):
 ReturnsInHanded {} Tryz.checked J 8 .any ((OpenSpec.ofChange Rows.auditScansSpec).preRow enc Tryz.prog Tryz.f8 Rows.auditScansRow.domain false Rows.auditScansRow.laid) (((OpenSpec.ofChange Rows.auditScansSpec).at F).post enc Tryz.prog Tryz.f8 false true false false):=by
 obtain⟨x,N⟩:=aay.1 (reads J enc)
 refine returnsInHanded_of_row (C:=Tryz.checked) (s:=OpenSpec.ofChange Rows.auditScansSpec) Tryz.own e ag Tryz.func8
  (witness_row_at (enc:=enc) (C:=Tryz.checked) false (cE J) #[iN,.slice none 0 0] (World.laidAll_os _ _ _) ag ag ag
    (OpenSpec.preRow_of_cond 8 N rfl (λk Z=>by cases Z) ag (iX J))) ?_
 intro W l j G c h g B _ _ _ R _ _;refine nh (P:=Tryz.prog) (d:=11) (s:=Rows.auditScansSpec) Tryz.laidOut rfl ag Tryz.underlying4 ?_ ?_ ?_ D g (kN R) B
 . intro G w;rw[Tryz.params8]at w
   match G,w with
   | [a,b],_=>exact⟨rfl,rfl,rfl⟩
 . have:(Tryz.f8.params.toList.all λt=>gj Tryz.prog 12 t)=true:=ag
   exact yt.1 this
 . have:(Tryz.f8.params.toList.all λt=>Tryz.prog.readableRec t&&decide (t < Tryz.prog.types.size))=true:=ag
   intro t Q;have:=yt.1 this t Q;simpa using this
def FP:Tryz.pinned.checked.prog.funcNamed Rows.auditScansRow.func=some 8:=ag
def WG:Tryz.f8.isInstance Tryz.pinned.checked.prog Rows.auditScansRow.origin Rows.auditScansRow.targs:=of_decide_eq_true ag
def WE:Tryz.f8.isWrapper Tryz.pinned.checked.prog Rows.auditScansRow.wrapper Rows.auditScansRow.mainSum:=by
 unfold Func.isWrapper;first|(rw[if_pos r0];kernel_rfl)|(rw[if_neg r0];exact⟨rfl,rfl⟩)
def gq(D:∀us,Typed Tryz.prog 12 Tryz.f8.params.toList us->aW.Fn Tryz.prog 8 us [] (.w (.one (.t (.val (.bool true))))) []):Rows.AuditScansSaid:=
 OpenClaim.holds_of_cond 8 Tryz.f8 rfl rfl rfl rfl rfl rfl rfl ⟨rfl,rfl,rfl,rfl,rfl⟩ rfl rfl rfl rfl rfl FP Tryz.func8 aeZ WG WE
  (λJ e H b _ F=>by rw[OpenClaim.pre_eq_preRow];exact lifted D J e H b F)
def plain(f:FuncId)(I:Func)(R:Tryz.pinned.checked.prog.funcNamed Rows.auditScansRow.func=some f)(c:Tryz.pinned.checked.prog.funcs[f]? =some I):
 false=Tryz.pinned.checked.prog.looks []/\ ∀ (j:Nat) t,I.params[j]? =some t->Tryz.pinned.checked.prog.wantsStandIn t=false:=by
 obtain rfl:f=8:=aa5 (FP.symm.trans R) |>.symm;obtain rfl:I=Tryz.f8:=(aa5 (Tryz.func8.symm.trans c)).symm;refine⟨ag,λj t Q=>?_⟩;have n:(Tryz.f8.params.toList.all λt=> !Tryz.prog.wantsStandIn t)=true:=ag
 have:=yt.1 n t (ab2.2 (ab7 Q));have e:Tryz.prog.wantsStandIn t=false:=by simpa using this
 exact e
def gF(D:∀us,Typed Tryz.prog 12 Tryz.f8.params.toList us->aW.Fn Tryz.prog 8 us [] (.w (.one (.t (.val (.bool true))))) []):Rows.AuditScansCardSaid:=
 Claim7.holds_tied_plain_at .later [] _ _ _ _ (gq D) (λ_ h=>by cases h) ag (λ_ h=>by cases h) auditScans_row_tie rfl ⟨rfl,rfl⟩ ag rfl plain ag
end Go.Proofs.YtkpopiejnimcoaaGreatDoor
