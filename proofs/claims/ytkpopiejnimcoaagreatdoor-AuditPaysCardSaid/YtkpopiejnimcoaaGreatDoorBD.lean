import Derived.Test.YtkpopiejnimcoaaGreatDoorBC
import Derived.Maps.RangeRun
set_option linter.all false
set_option maxRecDepth 100000
set_option maxHeartbeats 4000000
namespace Go.aW.Cd
open Go Go.Proofs
variable{id N n:Nat}{xs places sizes plies zs:Lz}{b:Bool}{es:cF}{row r e:Lt}{g:Int}
def aB8{hp:HS}{sz len:Nat}{rows:Lq}{x:T}(R:find hp id=some (.row sz rows))(M:aL rows xs)(U:len=xs.length):bB (bM hp) [.one (.own id sz 0 len),.one (.t x)]=some [.one (.t (.aO sz xs)),.one (.t x)]:=by
 have:=kO (hp:=hp) (i:=0) R M (by omega:0+len<=xs.length);have N:bM hp (.one (.t x))=some (.one (.t x)):=rfl;simp only[bB,this,N];simp[U]
def IsB(e:Lt):Prop:= ∃b,e=[tB b]
abbrev Bs(xs:Lz):Prop:= ∀e,e∈xs->IsB e
def vG(xs:Lz)(b:Bool)(hx:Bs xs)(U:xs.length<=maxLen):Tg 138 [oL 1 xs,oB b] GI:=by
 refine aC Tryz.func138 ?_
 repeat' ((conv=>whnf);first|refine aJ (λh=>?_) (λh=>?_)|(refine aG hx aj aq ?_;rintro _ ⟨c,rfl⟩ S)|exact gI rfl rfl|(apply aV [0,1,7,8] [] [8] (RI xs.length) (xs.length) [iV .i64 0];(iterate 3 exact ae);exact RI.zero;rintro _ _ ⟨i,I,rfl,rfl⟩)|(refine aI [0,1,7,8] [] ?_;(conv=>whnf);exact⟨rfl,_,[_],RI.succ (N:=xs.length) (i:=i) aa U,rfl,rfl,rfl,aa⟩))
def rS(xs:Lz)(b:Bool)(hx:Bs xs)(U:xs.length<=maxLen):Tg 100 [oL 1 xs,oB b] GB:=by
 refine aC Tryz.func100 ?_
 repeat' ((conv=>whnf);first|(refine aD rfl (vG xs _ hx U) ?_;rintro _ ⟨n,rfl⟩)|exact gB rfl rfl)
def auG(v:Value):Prop:= ∃a b c,v= .agg #[.int .i64 a,.int .i64 b,.int .i64 c]
def sb3(k:Nat)(a b c:Int):Instr.sameBits (k+1) (.agg #[.int .i64 a,.int .i64 b,.int .i64 c]) (.agg #[.int .i64 a,.int .i64 b,.int .i64 c])=true:=by
 simp[Instr.sameBits]
def acR: ∃d,Tryz.prog.underlying 236=some (.struct d):=by
 have h:(match Tryz.prog.underlying 236 with|some (.struct _)=>true|_=>false)=true:=ag
 split at h
 . rename_i d S;exact⟨d,S⟩
 . simp at h
def kKy:eK Tryz.prog 236 auG:=by
 obtain⟨d,S⟩:=acR;refine FD S ?_ ?_ ?_ ?_
 . rintro e _ ⟨a,b,c,rfl⟩;exact⟨(),by cases e<;>kernel_rfl⟩
 . rintro _ _ ⟨a,b,c,rfl⟩ ⟨G,K,F,rfl⟩;rfl
 . rintro _ _ ⟨a,b,c,rfl⟩ ⟨G,K,F,rfl⟩;have h:=(nK (P:=Tryz.prog) (t:=236) (ks:=[0,0,0]) (cs:=[.t (tI a),.t (tI b),.t (tI c)]) (ds:=[.t (tI G),.t (tI K),.t (tI F)]) (vs:=[.int .i64 a,.int .i64 b,.int .i64 c]) (us:=[.int .i64 G,.int .i64 K,.int .i64 F]) (b:=(a==G)&& ((b==K)&& ((c==F)&&true))) ag rfl rfl rfl).1;refine⟨_,h,?_⟩;simp only[afn,LD,beq_iff_eq,Value.agg.injEq];constructor
   . rintro⟨rfl,rfl,rfl⟩;rfl
   . intro h;simp at h;exact⟨h.1.symm,h.2.1.symm,h.2.2.symm⟩
 . rintro _ ⟨a,b,c,rfl⟩;exact sb3 9999 a b c
def uMk:Tryz.prog.underlying 234=some (.map 236 3):=ag
def zIt:ny Tryz.prog 3=some (.int .i64 0):=ag
def eK.sub{kt:TypeId}{a b:Value->Prop}(h:eK Tryz.prog kt a)(S:∀v,b v->a v):eK Tryz.prog kt b:=
 ⟨λB U o H Z=>h.at_ B U o (λp F=>S _ (H p F)) (S _ Z),λU Z=>h.same U (S _ Z)⟩
def KKg(N:Nat)(v:Value):Prop:= ∃a b c,v= .agg #[.int .i64 a,.int .i64 b,.int .i64 c]/\0<=a/\a < (N:Int)
def KKg.key(v:Value)(h:KKg N v):auG v:=by
 obtain⟨a,b,c,rfl,_⟩:=h;exact⟨a,b,c,rfl⟩
def EQ(n:Nat)(c:C):Prop:= ∃m:Int,c= .t (tI m)/\0<=m/\m < (n:Int)
def EQ.aM{n:Nat}{c:C}(h:EQ n c)(f:Nat->Option Nat):EQ n (c.aM f):=by
 obtain⟨m,rfl,h⟩:=h;exact⟨m,rfl,h⟩
def ZW{ctr G:Nat}{t ty kt S:TypeId}{m k:Operand}{tm:TS}{hp:HS}{clock:Nat}{F I D:Int}{K:V->HS->Prop}(r:Gt n tm m= .w (.one (.map id)))(R:find hp id=some (.mp es clock))(Z:(Gt n tm k).val? =some (.agg #[.int .i64 F,.int .i64 I,.int .i64 D]))(L:Tryz.prog.underlying t=some (.map kt S))
 (A:ny Tryz.prog S=some (.int .i64 0)) (J:eK Tryz.prog kt auG) (w:pH (KKg G) (EQ N) es) (h:∀ (i:Int) (b:Bool),(b=true->(0<=i/\i < (N:Int))/\0<=F/\F < (G:Int))->K (.fB [.one (.t (tI i)),.one (.t (.val (.bool b)))]) hp):
 ∃v hp',jA Tryz.prog n (.lookup t m k true) ty tm hp ctr v hp'/\K v hp':=by
 refine N8 r R Z L A J ⟨_,_,_,rfl⟩ (λp hp=>KKg.key _ (w p hp).1) (λi p hp H=>?_) (λ_=>h 0 false (λh=>by simp at h));obtain⟨O,j,Q,Y⟩:=w p (oo hp);rw[Q];refine h j true (λ_=>⟨Y,?_⟩);obtain⟨a,b,c,B,g⟩:=O;rw[H]at B;simp only[Value.agg.injEq,Array.mk.injEq,aaz,Value.int.injEq,true_and,and_true]at B;rw[B.1];exact g
abbrev YP(ln r U c:Int)(sizes places:Lz):W:= .agg [.t (tI ln),.t (tI r),.t (tI U),.t (tI c),.t (.aO 1 sizes),.t (.aO 7 places)]
abbrev mkT(ln r U c:Int)(sizes places:Lz):Lt:=[tI ln,tI r,tI U,tI c,.aO 1 sizes,.aO 7 places]
def aLB(e:Lt):Prop:= ∃g u k f q x y,e=[tI g,tI u,tI k,tB f,tI q,tI x,tI y]
abbrev X3(xs:Lz):Prop:= ∀e,e∈xs->aLB e
def RA0(row:Lt)(a N G:Nat)(m:Nat)(vs:List V)(hq:HS):Prop:= ∃ (i:Nat) (B:cF) (c:Nat),i<=N/\pH (KKg G) (EQ a) B/\m=N - i/\vs=[iV .i64 (i:Int)]/\hq=[(4,.row 6 [row.map .t]),(8,.mp B c)]
def PtS(n:Nat)(e:Lt):Prop:= ∃Q f q x y,e=[tI Q,tB f,tI q,tI x,tI y]/\0<=Q/\Q < (n:Int)
abbrev EP(n:Nat)(xs:Lz):Prop:= ∀e,e∈xs->PtS n e
def EP.snoc(h:EP n xs)(Q:Int)(f:Bool)(q x y:Int)(z:0<=Q/\Q < (n:Int)):EP n (xs++[[tI Q,tB f,tI q,tI x,tI y]]):=by
 intro e H;simp only[yl,vv]at H;rcases H with H|rfl
 . exact h e H
 . exact⟨Q,f,q,x,y,rfl,z⟩
def EP.pts(h:EP n xs):Pts xs:=λe H=>by
 obtain⟨Q,f,q,x,y,r,_⟩:=h e H;exact⟨Q,f,q,x,y,r⟩
def Bs.set{xs:Lz}(h:Bs xs)(j:Nat)(b:Bool):Bs (xs.set j [tB b]):=by
 intro e H;rcases aao H with H|rfl
 . exact h e H
 . exact⟨b,rfl⟩
def Bs.Tn(n:Nat)(b:Bool):Bs (List.replicate n [tB b]):=by
 intro e H;obtain⟨_,rfl⟩:=acv.1 H;exact⟨b,rfl⟩
def RA1(row:Lt)(places:Lz)(a N G:Nat)(m:Nat)(vs:List V)(hq:HS):Prop:= ∃ (i:Nat) (B:cF) (c:Nat) (s g:Lz) (x d:Lq),i<=N/\(pH (KKg G) (EQ a) B/\Pre (GaI G) places i)/\m=N - i/\vs=[bD 16 5 g.length,iV .i64 (i:Int)]/\aL x s/\aL d g/\(s.length=a/\Bs s)/\(g.length=i/\EP a g)/\
 hq=[(4,.row 6 [row.map .t]),(8,.mp B c),(12,.row 1 x),(16,.row 5 d)]
def RA1.next{a G i k j:Nat}{c:Nat}{s ps:Lz}{rs d:Lq}{Q q x y:Int}{f:Bool}(h:(i:Int) < (N:Int))(D:N<=maxLen)(H:pH (KKg G) (EQ a) es)(o:Pre (GaI G) places i)(e:places[((i:Int)).toNat]? =some (tI g::r))(l:0<=g/\g < (G:Int))(O:aL rs (s.set j [tB b]))(Y:aL d (ps++[[tI Q,tB f,tI q,tI x,tI y]]))(S:s.length=a/\Bs s)(hp:ps.length=i/\EP a ps)(n:0<=Q/\Q < (a:Int))(Z:k=ps.length+1):
 RA1 row places a N G (N - (i+1)) [bD 16 5 k,iV .i64 (IntKind.i64.wrap ((i:Int)+1))] [(4,.row 6 [row.map .t]),(8,.mp es c),(12,.row 1 rs),(16,.row 5 d)]:=
 ⟨i+1,es,c,_,_,rs,d,aa,⟨H,o.succ (by simpa using e) ⟨g,r,rfl,l⟩⟩,rfl,by simp only[maxLen]at D;rw[bF aa aa,Z];simp,O,Y,⟨by simp[S.1],S.2.set j b⟩,⟨by simp[hp.1],hp.2.snoc Q f q x y n⟩,rfl⟩
def RA2(row:Lt)(N:Nat)(m:Nat)(vs:List V)(w:List (Lz)):Prop:= ∃i:Nat,i<=N/\m=N - i/\vs=[iV .i64 (i:Int)]/\w=[[row]]
def RA2.next{i:Nat}(h:(i:Int) < (N:Int))(D:N<=maxLen):RA2 row N (N - (i+1)) [iV .i64 (IntKind.i64.wrap ((i:Int)+1))] [[row]]:=
 ⟨i+1,aa,rfl,by simp only[maxLen]at D;rw[bF aa aa];rfl,rfl⟩
def Wj{i:Nat}(h:QT N xs)(S:xs[i]? =some (tI g::r)):0<=g/\g < (N:Int):=by
 obtain⟨y,U,H,z⟩:=h _ (oo S);injection H with h1 h2;injection h1 with h1;injection h1 with _ h1;rw[h1];exact z
def aEh{Z d j:Lz}{U M i:Nat}(a:QK Z/\QX U d/\d.length=Z.length/\Z.length<=336/\QT sizes.length d/\(∀e,e∈sizes->X5 M e)/\sizes.length<=6)(b:j.length=i/\EP d.length j)(hg:∀e,e∈places->GaI sizes.length e)(I:i=places.length):
 QK Z/\EP Z.length (j.take j.length)/\(j.take j.length).length=places.length/\QT sizes.length places/\(∀e,e∈sizes->X5 M e)/\sizes.length<=6:=by
 obtain⟨O,_,Y,_,_,B,g⟩:=a;refine⟨O,λe H=>?_,by simp;omega,hg,B,g⟩;rw[<-Y];exact b.2 e (aah H)
def GAr(sizes places:Lz)(M:Nat)(ts:Lw):Prop:= ∃Z j e,ts=[oL 5 Z,oL 5 j,oI e]/\(e=0->QK Z/\EP Z.length j/\j.length=places.length/\QT sizes.length places/\(∀e,e∈sizes->X5 M e)/\sizes.length<=6)
def mD(s:ByteArray)(w L ps us v J:Lz)(l:eu s w L ps us v J)(ln r U b:Int)(sizes places:Lz)(A:Is sizes)(N:sizes.length<=maxLen)(R:X3 places)(I7:places.length<=1000000):Tg 64 [dV s w L ps us v J,YP ln r U b sizes places] (GAr sizes places w.length):=by
 refine aS ?_;refine aC Tryz.func64 ?_
 repeat' ((conv=>whnf);first|refine bZz (λh=>?_) (λh=>?_)|(have uf:=hmm bc;clear hmm)|(refine aG (xs:=F) (a aa).2.1 (n:=(i:Int)) aa aa ?_;rintro _ ⟨g,u,k,f,qq,x,y,rfl,qi,uR⟩ S;have hgi:=Wj (a aa).2.2.2.2.1 S)|(refine aG (xs:=places) R aa aa ?_;rintro _ ⟨g,u,k,f,qq,x,y,rfl⟩ S)|(refine aG (xs:=iD.take iD.length) (λe H=>hpt.2 e (aah H)) aa (by have:=hpt.1;simp;omega) ?_;rintro _ ⟨sh2,f2,q2,x2,y2,rfl,aCw,aCv⟩ O)|(refine aG (xs:=F) (a aa).2.1 aCw aCv ?_;rintro _ ⟨g3,u3,P,f3,q3,x3,y3,rfl,_,_⟩ S)|refine And.intro ⟨aa,aa,by have:=a aa;omega,by have:=a aa;omega⟩ ?_|refine And.intro ⟨uf.1.1,by have:=VP.1;have:=uf.1.2;omega⟩ ?_|refine And.intro ⟨hrp.len.symm,by rw[hrp.len];have:=hpt.1;simp[bh];omega,by rw[hrp.len];have:=hpt.1;simp[maxLen];omega⟩ ?_|(refine jF aa aa ?_;intro bb)|refine cT aa aa ?_|refine And.intro ag ?_|refine And.intro aa ?_|(refine aD rfl (uN s w L ps us v J l sizes A N) ?_;rintro _ ⟨Z,F,e,rfl,a⟩)|(refine aN rfl (uN s w L ps us v J l sizes A N) ?_;rintro _ ⟨Z,F,e,rfl,a⟩)|refine jq ?_|(refine LU rfl rfl rfl rfl uMk (eK.sub kKy KKg.key) ⟨_,_,_,rfl,hgi.1,hgi.2⟩ j ⟨_,rfl,aa,aa⟩ ?_;rintro es3 Y Y5)|(refine ZW rfl rfl rfl uMk zIt kKy hMM ?_;intro mi mb hmm)|(refine cu (xs:=o) M VP.2 (by have:=VP.1;have:=uf.1;omega) ?_;rintro _ ⟨Q,rfl⟩ Tw)|(refine aD rfl (CK _ _ _ _ _ _ _) ?_;rintro _ rfl)|(refine aN rfl (CK _ _ _ _ _ _ _) ?_;rintro _ rfl)|(refine iJ (aB8 (xs:=o) rfl M (by have:=VP.1;omega)) (rS o _ VP.2 (by have:=VP.1;have:=a aa;simp only[maxLen];omega)) ?_ ?_;(rintro _ ⟨b3,rfl⟩;rfl);rintro _ ⟨b3,rfl⟩)|(refine aD rfl (Ac _ _ _ _ Z _ (a aa).1 (λe H=>hpt.2.pts e (aah H)) (by have:=hpt.1;simp[maxLen];omega)) ?_;rintro _ ⟨n,rfl⟩)|(refine aN rfl (Ac _ _ _ _ Z _ (a aa).1 (λe H=>hpt.2.pts e (aah H)) (by have:=hpt.1;simp[maxLen];omega)) ?_;rintro _ ⟨n,rfl⟩)|exact H9 rfl (dy 5 rfl) (dy 5 rfl) (cv rfl) ⟨_,_,_,rfl,λz=>by omega⟩|exact H9 rfl (cv rfl) (cv rfl) (cv rfl) ⟨_,_,_,rfl,λ_=>aEh (a aa) hpt (tQ.all aa) aa⟩|(apply cL [3,7,8,14,88,89,90] [] [90] [(4,6)] (RA2 (mkT ln r U b sizes places) places.length) (places.length) [iV .i64 0] (eo.arQ (xs:=iD) [14] 16 (aIH rfl) rfl hrp (ww _));(iterate 3 exact ae);exact .cons (aL.aM (xs:=[mkT ln r U b sizes places]) rfl _) .nil;exact⟨0,aa,rfl,rfl,rfl⟩;rintro _ _ _ ⟨q,d,rfl,rfl,rfl⟩)|(refine aI [3,7,8,14,88,89,90] [] ?_;(conv=>whnf);exact⟨rfl,_,[_],_,.cons (aL.aM (xs:=[mkT ln r U b sizes places]) rfl _) .nil,RA2.next aa bq,rfl,rfl,aa⟩)|(apply pM [3,7,8,10,13,14,51,52,53] [] [14,53] (RA1 (mkT ln r U b sizes places) places F.length places.length sizes.length) (places.length) [bD 16 5 0,iV .i64 0] (eo.dQ 14 5 rfl);(iterate 3 exact ae);exact⟨0,_,_,_,[],_,_,aa,⟨j.aM (λc D=>EQ.aM D _),Pre.zero⟩,rfl,rfl,aL.aM (aL.replicate _ [tB false]) _,aL.aM aL.nil _,⟨ak,Bs.Tn _ _⟩,⟨rfl,λe H=>by simp at H⟩,rfl⟩;rintro _ _ _ ⟨i2,Y7,K,o,iD,G,rp,hi2,⟨hMM,tQ⟩,rfl,rfl,M,hrp,VP,hpt,rfl⟩)|(refine aI [3,7,8,10,13,14,51,52,53] [] ?_;(conv=>whnf);exact⟨rfl,_,[_,_],RA1.next aa bq (hMM.aM (λc D=>EQ.aM D _)) tQ S uf.2 ((aL.set M _ [tB _]).aM _) ((aL.snoc hrp [tI _,tB _,tI _,tI _,tI _]).aM _) VP hpt uf.1 (by have:=hrp.len;simp;omega),rfl,rfl,aa⟩)|(apply gh [3,7,8,10,35,36,37] [] [37] (RA0 (mkT ln r U b sizes places) F.length F.length sizes.length) (F.length) [iV .i64 0];(iterate 3 exact ae);exact⟨0,_,_,aa,pH.nil,rfl,rfl,rfl⟩;rintro _ _ _ ⟨i,B,c,I,j,rfl,rfl,rfl⟩)|(refine aI [3,7,8,10,35,36,37] [] ?_;(conv=>whnf);exact⟨rfl,_,[_],⟨i+1,_,_,aa,Y5.aM (λc D=>EQ.aM D _),rfl,by have:=a aa;rw[bF aa aa];rfl,rfl⟩,rfl,rfl,aa⟩)|(exfalso;omega))
def HC(s:ByteArray)(w L ps us v J:Lz)(l:eu s w L ps us v J)(ln r U c:Int)(sizes places:Lz)(A:Is sizes)(N:sizes.length<=maxLen)(R:X3 places)(b:places.length<=1000000):Tg 71 [dV s w L ps us v J,YP ln r U c sizes places] GI:=by
 refine aC Tryz.func71 ?_
 repeat' ((conv=>whnf);first|refine bZz (λh=>?_) (λh=>?_)|(refine jF aa aa ?_;intro a)|refine cT aa aa ?_|refine And.intro ag ?_|refine And.intro aa ?_|(refine aD rfl (mD s w L ps us v J l ln r U c sizes places A N R b) ?_;rintro _ ⟨Z,j,e,rfl,_⟩)|(refine aN rfl (mD s w L ps us v J l ln r U c sizes places A N R b) ?_;rintro _ ⟨Z,j,e,rfl,_⟩)|exact gI rfl rfl|exact gB rfl rfl|(exfalso;omega))
def uIB:Tryz.prog.underlying 314=some (.map 3 4):=ag
def kIn:eK Tryz.prog 3 mz:=iu uIn
def RRp(N:Nat)(m:Nat)(vs:List V)(hq:HS):Prop:= ∃ (i:Nat) (B:cF) (c:Nat),i<=N/\pH mz DO B/\m=N - i/\vs=[iV .i64 (i:Int)]/\hq=[(4,.mp B c)]
def oz(xs:Lz)(hx:Is xs)(U:xs.length<=maxLen):Tg 163 [oL 1 xs] GB:=by
 refine aC Tryz.func163 ?_
 repeat' ((conv=>whnf);first|refine bZz (λh=>?_) (λh=>?_)|(refine aG (xs:=xs) hx aa aa ?_;rintro _ ⟨a,rfl⟩ S)|refine jq ?_|(refine N6 rfl rfl rfl uIB zBo kIn ⟨_,rfl⟩ j ⟨false,rfl⟩ ?_;rintro _ ⟨b,rfl⟩)|(refine LU rfl rfl rfl rfl uIB kIn ⟨_,rfl⟩ j ⟨true,rfl⟩ ?_;rintro G K d)|exact gB rfl rfl|(apply gh [3,7,8,9] [] [9] (RRp xs.length) (xs.length) [iV .i64 0];(iterate 3 exact ae);exact⟨0,_,_,aa,pH.nil,rfl,rfl,rfl⟩;rintro _ _ _ ⟨i,B,c,I,j,rfl,rfl,rfl⟩)|(refine aI [3,7,8,9] [] ?_;(conv=>whnf);exact⟨rfl,_,[_],⟨i+1,_,_,aa,d.aM (λc D=>DO.aM D _),rfl,by simp only[maxLen]at U;rw[bF aa aa];rfl,rfl⟩,rfl,rfl,aa⟩))
def AD(xs:Lz)(n:Int)(hx:Is xs)(U:xs.length<=maxLen):Tg 162 [oL 1 xs,oI n] (GBt (∀e,e∈xs->X5 n e)):=by
 refine aC Tryz.func162 ?_
 repeat' ((conv=>whnf);first|refine bZz (λh=>?_) (λh=>?_)|(refine aG (xs:=xs) hx aa aa ?_;rintro _ ⟨a,rfl⟩ S)|(refine jF aa aa ?_;intro o)|refine cT aa aa ?_|refine And.intro ag ?_|refine And.intro aa ?_|(refine Wn rfl rfl ?_;first|(intro _;exact F.all aa)|(intro R;simp at R))|(apply aV [1,7,8,9] [] [9] (RIx xs n) (xs.length) [iV .i64 0];(iterate 3 exact ae);exact⟨0,aa,λj e Q=>by omega,rfl,rfl⟩;rintro _ _ ⟨i,I,F,rfl,rfl⟩)|(refine aI [1,7,8,9] [] ?_;(conv=>whnf);exact⟨rfl,_,[_],RIx.next aa U F S aa aa,rfl,rfl,rfl,aa⟩)|(exfalso;omega))
def ahI(n:Int)(e:Lt):Prop:= ∃nm m t Y A,e=[.val (.string nm),tI m,tI t,.aO 1 Y,.aO 1 A]/\A.length<=maxLen/\ ∀q,q∈A->X5 n q
def Ti(n:Int)(e:Lt):Prop:= ∃nm m t Y A,e=[.val (.string nm),tI m,tI t,.aO 1 Y,.aO 1 A]/\ ∀q,q∈Y->X5 n q
def vK(l:Lz)(i a:Int)(c:∀e,e∈l->ES e)(U:l.length<=maxLen)(r:0<=i)(I:i < (l.length:Int)):Tg 122 [oL 5 l,oI i,oI a] (oq (λn=>n=0->(0<=a-> ∀e,l[i.toNat]? =some e->ahI a e)/\ ∀e,l[i.toNat]? =some e->Ti (l.length:Int) e)):=by
 refine aC Tryz.func122 ?_
 repeat' ((conv=>whnf);first|refine bZz (λh=>?_) (λh=>?_)|(refine aG (xs:=l) (n:=i) c r I ?_;rintro _ ⟨nm,m,t,Y,A,rfl,P,⟨v,y⟩,M,F⟩ S)|refine And.intro r ?_|refine cT (aa7 _) aa ?_|(refine aG (xs:=(l.drop 0).take (i.toNat - 0)) (dH c _ _) aa aa ?_;rintro _ ⟨w,K,g,G,rz,rfl,B,_⟩ O)|(refine aD rfl (yY nm P) ?_;rintro _ ⟨b,rfl⟩)|(refine aD rfl (AD Y _ v y) ?_;rintro _ ⟨d,rfl,x⟩)|(refine aD rfl (AD A _ M F) ?_;rintro _ ⟨J,rfl,o⟩)|(refine aD rfl (oz Y v y) ?_;rintro _ ⟨D,rfl⟩)|(refine aD rfl (oz A M F) ?_;rintro _ ⟨s,rfl⟩)|(refine jX rfl rfl (λz=>?_);first|(exfalso;omega)|(refine⟨?_,λe H=>?_⟩;(first|(intro L e H;rw[S]at H;cases H;exact⟨_,_,_,_,_,rfl,F,o Vn⟩)|(intro L;exfalso;omega));(rw[S]at H;cases H;exact⟨_,_,_,_,_,rfl,x Vn⟩)))|(apply aV [0,2,7,20,21,22] [] [22] (RI ((l.drop 0).take (i.toNat - 0)).length) (((l.drop 0).take (i.toNat - 0)).length) [iV .i64 0];(iterate 3 exact ae);exact RI.zero;rintro _ _ ⟨j,Q,rfl,rfl⟩)|(refine aI [0,2,7,20,21,22] [] ?_;(conv=>whnf);exact⟨rfl,_,[_],RI.succ (N:=((l.drop 0).take (i.toNat - 0)).length) (i:=j) aa (jt U _ _),rfl,rfl,rfl,aa⟩))
def RQ(Q:Lt->Prop)(xs:Lz)(m:Nat)(vs:List V):Prop:= ∃i:Nat,i<=xs.length/\Pre Q xs i/\m=xs.length - i/\vs=[iV .i64 (i:Int)]
def RQ.zero{Q:Lt->Prop}{xs:Lz}:RQ Q xs xs.length [iV .i64 0]:=⟨0,aa,Pre.zero,rfl,rfl⟩
def RQ.next{Q:Lt->Prop}{i:Nat}(I:(i:Int) < (xs.length:Int))(U:xs.length<=maxLen)(h:Pre Q xs i)(S:xs[((i:Int)).toNat]? =some e)(hq:Q e):RQ Q xs (xs.length - (i+1)) [iV .i64 (IntKind.i64.wrap ((i:Int)+1))]:=
 ⟨i+1,aa,h.succ aA hq,rfl,by simp only[maxLen]at U;rw[bF aa aa];rfl⟩
def aLC(e:Lt):Prop:= ∃t g s l f o,e=[tI t,tI g,tI s,tI l,tI f,tI o]
abbrev I4(xs:Lz):Prop:= ∀e,e∈xs->aLC e
def aLA(e:Lt):Prop:= ∃l q,e=[tI l,.aO 4 q]
abbrev Pys(xs:Lz):Prop:= ∀e,e∈xs->aLA e
abbrev oBd(t g s l f o:Int):W:= .agg [.t (tI t),.t (tI g),.t (tI s),.t (tI l),.t (tI f),.t (tI o)]
abbrev mw(t g s l f o:Int):Lt:=[tI t,tI g,tI s,tI l,tI f,tI o]
abbrev pn(ln r U c:Int)(sizes places plies:Lz):W:= .agg [.t (tI ln),.t (tI r),.t (tI U),.t (tI c),.t (.aO 1 sizes),.t (.aO 7 places),.t (.aO 2 plies)]
abbrev iE(ln r U c:Int)(sizes places plies:Lz):Lt:=[tI ln,tI r,tI U,tI c,.aO 1 sizes,.aO 7 places,.aO 2 plies]
structure aiU(sizes plies eM:Lz)(e:Lt):Prop where
 g:0<=nI 1 e/\nI 1 e < (sizes.length:Int)
 f:0<=nI 4 e/\nI 4 e < nI 5 e/\nI 5 e<=(plies.length:Int)
 t:∀o,o∈eM->nI 0 o≠nI 0 e
 s:sizes[(nI 1 e).toNat]? =some [tI (nI 2 e)]
 l:∀ (k:Nat) (p:Lt),nI 4 e<=(k:Int)->(k:Int) < nI 5 e->plies[k]? =some p->nI 0 p=nI 3 e
 o:∀o,o∈eM->¬ (nI 1 o=nI 1 e/\nI 4 o < nI 5 e/\nI 4 e < nI 5 o)
def aEf{y:Lz}{t s l f o z:Int}(hg:0<=g/\g < (sizes.length:Int))(R:0<=f/\f < o/\o<=(plies.length:Int))(Q:∀e,e∈y->nI 0 e≠t)(A:sizes[g.toNat]? =some [tI z])(S:s=z)
 (U:∀e,e∈ (plies.drop f.toNat).take (o.toNat - f.toNat)->nI 0 e=l) (d:∀e,e∈y->¬ (nI 1 e=g/\nI 4 e < o/\f < nI 5 e)):aiU sizes plies y (mw t g s l f o):=by
 refine⟨hg,R,Q,by rw[S];exact A,λk p O Y F=>U p ?_,d⟩;have c:f<=(k:Int):=O;have j:(k:Int) < o:=Y;refine oo (i:=k - f.toNat) ?_;rw[aa4,if_pos aa,acr];rw[show f.toNat+(k - f.toNat)=k by omega];exact F
def Bm(ln r U c:Int)(sizes places plies y:Lz)(A:Is sizes)(Ew:Pys plies)(R:plies.length<=maxLen)(H:I4 y)(d:y.length<=maxLen)(t g s l f o:Int):Tg 76 [pn ln r U c sizes places plies,oL 6 y,oBd t g s l f o] (oq (λn=>n=0->aiU sizes plies y (mw t g s l f o))):=by
 refine aC Tryz.func76 ?_
 repeat' ((conv=>whnf);first|refine bZz (λh=>?_) (λh=>?_)|(refine aG (xs:=y) (n:=(i3:Int)) H aa aa ?_;rintro _ ⟨Y,P,a,O,G,o3,rfl⟩ S)|(refine aG (xs:=y) H aa aa ?_;rintro _ ⟨x,g2,v,w,J,N,rfl⟩ S)|(refine aG (xs:=sizes) A aa aa ?_;rintro _ ⟨z,rfl⟩ L)|(refine aG (xs:=(plies.drop f.toNat).take (o.toNat - f.toNat)) (dH Ew _ _) aa aa ?_;rintro _ ⟨pl,q,rfl⟩ S)|refine And.intro (show(0:Int)<=f by omega) ?_|refine And.intro (show(0:Int)<=o by omega) ?_|refine cT aa aa ?_|refine And.intro ag ?_|(refine jX rfl rfl (λF=>?_);first|(exfalso;omega)|exact aEf ⟨aa,aa⟩ ⟨aa,aa,aa⟩ (b.all aa) L aa (B.all aa) (M.all aa))|(apply aV [5,85,86,87] [] [87] (RQ (λe=>¬ (nI 1 e=g/\nI 4 e < o/\f < nI 5 e)) y) (y.length) [iV .i64 0];(iterate 3 exact ae);exact RQ.zero;rintro _ _ ⟨i3,hi3,M,rfl,rfl⟩)|(refine aI [5,85,86,87] [] ?_;(conv=>whnf);exact⟨rfl,_,[_],RQ.next aa d M S (λD=>by have Z:P=g:=D.1;have K:G < o:=D.2.1;have Q:f < o3:=D.2.2;first|omega|simp_all),rfl,rfl,rfl,aa⟩)|(apply aV [1,5,73,74,75] [] [75] (RQ (λe=>nI 0 e=l) ((plies.drop f.toNat).take (o.toNat - f.toNat))) (((plies.drop f.toNat).take (o.toNat - f.toNat)).length) [iV .i64 0];(iterate 3 exact ae);exact RQ.zero;rintro _ _ ⟨j,hi2,B,rfl,rfl⟩)|(refine aI [1,5,73,74,75] [] ?_;(conv=>whnf);exact⟨rfl,_,[_],RQ.next aa (jt R _ _) B S ai,rfl,rfl,rfl,aa⟩)|(apply aV [1,3,5,45,46,47] [] [47] (RQ (λe=>nI 0 e≠t) y) (y.length) [iV .i64 0];(iterate 3 exact ae);exact RQ.zero;rintro _ _ ⟨i,I,b,rfl,rfl⟩)|(refine aI [1,3,5,45,46,47] [] ?_;(conv=>whnf);exact⟨rfl,_,[_],RQ.next aa d b S ai,rfl,rfl,rfl,aa⟩))
def kA(sizes plies P:Lz)(i:Nat):Prop:= ∀j e,j < i->P[j]? =some e->aiU sizes plies (P.take j) e
def RBk(row:Lt)(sizes plies P:Lz)(m:Nat)(vs:List V)(w:List (Lz)):Prop:= ∃ (i:Nat) (M:Lz),i<=P.length/\kA sizes plies P i/\m=P.length - i/\vs=[iV .i64 (i:Int)]/\w=[[row],M]/\M.length=sizes.length/\Is M
def Is.set{xs:Lz}(h:Is xs)(j:Nat)(n:Int):Is (xs.set j [tI n]):=by
 intro e H;rcases aao H with H|rfl
 . exact h e H
 . exact⟨n,rfl⟩
def Is.Tn(n:Nat)(a:Int):Is (List.replicate n [tI a]):=by
 intro e H;obtain⟨_,rfl⟩:=acv.1 H;exact⟨a,rfl⟩
def RBk.next{P:Lz}{i j:Nat}{n:Int}(I:(i:Int) < (P.length:Int))(U:P.length<=maxLen)(h:kA sizes plies P i)(S:P[((i:Int)).toNat]? =some e)(hq:aiU sizes plies ((P.drop 0).take (((i:Int)).toNat - 0)) e)(A:zs.length=sizes.length)(K:Is zs):
 RBk row sizes plies P (P.length - (i+1)) [iV .i64 (IntKind.i64.wrap ((i:Int)+1))] [[row],zs.set j [tI n]]:=by
 refine⟨i+1,_,aa,λd J Q H=>?_,rfl,by simp only[maxLen]at U;rw[bF aa aa];rfl,rfl,by simp[A],K.set j n⟩
 by_cases v:d=i
 . subst v;have x:P[d]? =some e:=aA
   rw[x]at H;cases H;simpa using hq
 . exact h d J aa H
def RBn(row:Lt)(zs:Lz)(m:Nat)(vs:List V)(w:List (Lz)):Prop:= ∃i:Nat,i<=zs.length/\m=zs.length - i/\vs=[iV .i64 (i:Int)]/\w=[[row],zs]
def RBn.next{i:Nat}(I:(i:Int) < (zs.length:Int))(U:zs.length<=maxLen):RBn row zs (zs.length - (i+1)) [iV .i64 (IntKind.i64.wrap ((i:Int)+1))] [[row],zs]:=
 ⟨i+1,aa,rfl,by simp only[maxLen]at U;rw[bF aa aa];rfl,rfl⟩
def xX(ln r U c:Int)(sizes places plies P:Lz)(A:Is sizes)(N:sizes.length<=1000000)(Ew:Pys plies)(R:plies.length<=maxLen)(G:I4 P)(b:P.length<=maxLen):Tg 50 [pn ln r U c sizes places plies,oL 6 P] (oq (λn=>n=0->kA sizes plies P P.length)):=by
 refine aC Tryz.func50 ?_
 repeat' ((conv=>whnf);first|refine bZz (λh=>?_) (λh=>?_)|refine And.intro ⟨aa,aa,aa,aa⟩ ?_|refine And.intro ⟨(D aa).g.1,by have:=(D aa).g.2;simp only[nI]at this;simp at this;omega⟩ ?_|refine cT (aa7 _) aa ?_|refine And.intro ⟨aa,aa⟩ ?_|(refine aG (xs:=P) G aa aa ?_;rintro _ ⟨t,g,s,l,f,o,rfl⟩ S)|refine And.intro ag ?_|refine And.intro aa ?_|(refine cu (xs:=M) rfl K (by first|omega|(have O:=(D aa).g.1;have Y:=(D aa).g.2;simp[nI]at O Y;omega)) ?_;rintro _ ⟨n,rfl⟩ y)|(refine aN rfl (Bm ln r U c sizes places plies _ A Ew R (dH G _ _) (jt b _ _) t g s l f o) ?_;rintro _ ⟨e,rfl,D⟩)|(refine jX rfl rfl (λz=>?_);first|(exfalso;omega)|(intro j e Q;exact a j e aa))|(apply bp [2,45,46,47] [] [47] [(4,7),(8,1)] (RBn (iE ln r U c sizes places plies) M) (M.length) [iV .i64 0];(iterate 3 exact ae);exact .cons (aL.aM (xs:=[iE ln r U c sizes places plies]) rfl _) (.cons (aL.aM (xs:=M) rfl _) .nil);exact⟨0,aa,rfl,rfl,rfl⟩;rintro _ _ _ ⟨q,d,rfl,rfl,rfl⟩)|(refine aI [2,45,46,47] [] ?_;(conv=>whnf);exact⟨rfl,_,[_],_,.cons (aL.aM (xs:=[iE ln r U c sizes places plies]) rfl _) (.cons (aL.aM (xs:=M) rfl _) .nil),RBn.next aa bq,rfl,rfl,aa⟩)|(apply bp [1,2,5,16,17,18] [] [18] [(4,7),(8,1)] (RBk (iE ln r U c sizes places plies) sizes plies P) (P.length) [iV .i64 0];(iterate 3 exact ae);exact .cons (aL.aM (xs:=[iE ln r U c sizes places plies]) rfl _) (.cons (aL.aM (aL.replicate _ [tI 0]) _) .nil);exact⟨0,_,aa,λj e Q=>by omega,rfl,rfl,rfl,ak,Is.Tn _ _⟩;rintro _ _ _ ⟨i,M,I,a,rfl,rfl,rfl,B,K⟩)|(refine aI [1,2,5,16,17,18] [] ?_;(conv=>whnf);exact⟨rfl,_,[_],_,.cons (aL.aM (xs:=[iE ln r U c sizes places plies]) rfl _) (.cons (aL.aM (aL.set (xs:=M) rfl _ [tI _]) _) .nil),RBk.next aa b a S (D aa) B K,rfl,rfl,aa⟩))
def RQ2(Q:Lt->Prop)(xs:Lz)(j:List (Lz))(m:Nat)(vs:List V)(w:List (Lz)):Prop:= ∃i:Nat,i<=xs.length/\Pre Q xs i/\m=xs.length - i/\vs=[iV .i64 (i:Int)]/\w=j
def RQ2.next{Q:Lt->Prop}{j:List (Lz)}{i:Nat}(I:(i:Int) < (xs.length:Int))(U:xs.length<=maxLen)(h:Pre Q xs i)(S:xs[((i:Int)).toNat]? =some e)(hq:Q e):RQ2 Q xs j (xs.length - (i+1)) [iV .i64 (IntKind.i64.wrap ((i:Int)+1))] j:=
 ⟨i+1,aa,h.succ aA hq,rfl,by simp only[maxLen]at U;rw[bF aa aa];rfl,rfl⟩
def dM(h:(!b)=false):b=true:=bc
def T3(h:(!b)=true):b=false:=bc
end Go.aW.Cd
namespace Go.aW
open Go
abbrev rgA:TypeId:=313
abbrev rgB:TypeId:=314
end Go.aW
namespace Go.aW
open Go
open Go.ChangeMaps (setBlock)
variable{P:Program}{M A:agt}{ρ:Env}{F:agt}{st:St}{a:Act}{w:World}
def isKey(k:Int)(p:Value×C×Nat):Bool:=match p.1 with
 | .int .i64 m=>m==k|_=>false
def er(k:Int)(es:cF):cF:=es.filter λp=> !isKey k p
def NK(es:cF):Prop:=(es.map (·.1)).Nodup
def qf{k:Int}{p:Value×C×Nat}:isKey k p=true↔p.1= .int .i64 k:=by
 unfold isKey;split
 . rename_i m h;rw[h];simp
 . rename_i h;simp only[aag,false_iff];exact λe=>h k e
variable{es:cF}{clock c n ctr id r s s' c':Nat}{ty kt:TypeId}{kk:Int}{seen':Array Nat}
def P0{k:Int}(h:∀p,p∈es->p.1≠ .int .i64 k):er k es=es:=by
 unfold er;rw[List.filter_eq_self];intro p F
 have:isKey k p=false:=by
  cases hq:isKey k p with
  |false=>rfl
  |true=>exact absurd (qf.1 hq) (h p F)
 rw[this];rfl
def WZ{k:Int}:∀ {es:cF} {i:Nat} {p:Value×C×Nat},NK es->es[i]? =some p->p.1= .int .i64 k->es.eraseIdx i=er k es
 | [],i,p,_,h,_=>agb
 |e::es,0,p,K,h,F=>by
  simp only[yq,ii]at h;subst h;have a:=aeq.1 K;have O:isKey k e=true:=qf.2 F;have Y:er k es=es:=P0 (λq d b=>a.1 (aad.2 ⟨q,d,b.trans F.symm⟩));simp only[List.eraseIdx_cons_zero,er,List.filter_cons,O,afl,aag,if_false];exact Y.symm
 |e::es,i+1,p,K,h,F=>by
  have a:=aeq.1 K;have I:es[i]? =some p:=bc
  have c:=WZ a.2 I F
  have O:isKey k e=false:=by
   cases d:isKey k e with
   |false=>rfl
   |true=>exact absurd (aad.2 ⟨p,oo I,F.trans (qf.1 d).symm⟩) a.1
  simp only[List.eraseIdx_cons_succ,er,List.filter_cons,O,Bool.not_false,if_true];rw[c];rfl
def zD{k:Int}{p:Value×C×Nat}(h:p∈er k es):p∈es/\p.1≠ .int .i64 k:=by
 simp only[er,acu,ae2]at h;refine⟨h.1,λe=>?_⟩;rw[qf.2 e]at h;simp at h
def NK.er{es:cF}(h:NK es)(k:Int):NK (er k es):=List.Nodup.sublist (List.filter_sublist.map _) h
def NK.nil:NK []:=by simp[NK]
def NK.put{es':cF}{clock':Nat}{U:Value}{c:C}(h:NK es)(hp:DM es clock U c es' clock'):NK es':=by
 rcases hp with⟨i,p,I,rfl,rfl,_⟩|⟨P,rfl,_⟩
 . unfold NK
   have:(es.set i (p.1,c,p.2.2)).map (·.1)=es.map (·.1):=by
    apply abm;intro j;simp only[yu,adG]
    by_cases A:i=j
    . subst A;have l:i < es.length:=(jl.1 I).1;simp[l,I];have:=(jl.1 I);obtain⟨_,Y⟩:=this;rw[Y]
    . simp[A]
   rw[this];exact h
 . unfold NK;rw[adt,adM];refine⟨h,ak,?_⟩;intro x N y G;simp only[aad]at N;obtain⟨p,hp,rfl⟩:=N;simp only[aaq,abh,vv]at G;subst G;exact P p hp
def OJ{t t' et:TypeId}{m k:Operand}{tm:TS}{hp:HS}(r:Gt n tm m= .w (.one (.map id)))(R:find hp id=some (.mp es clock))(Z:(Gt n tm k).val? =some (.int .i64 kk))(L:P.underlying t=some (.map kt et))
 (N:eK P kt mz) (kZ:∀p,p∈es->mz p.1) (K:NK es):jA P n (.call ⟨.builtin .delete, #[m,k], #[t,t']⟩) ty tm hp ctr (.fB []) (jB hp id (.mp (er kk es) clock)):=by
 rintro⟨dst',op',ty',pos',after',guard'⟩ rfl rfl;intro M A ρ a w J;have vm:=J.get m;rw[mN,r]at vm;have vk:=V.bR Z l5;obtain⟨b,o,q1,q2,q3,q4,q5⟩:=iT J R vm;rcases N.at_ es (.int .i64 kk) es.isEmpty kZ ⟨kk,rfl⟩with⟨B,g⟩|⟨i,p,B,g,F⟩
 . obtain⟨z,o2,G,c3,c4⟩:=dJ B (gi (id:=id) (clock:=clock) q4 q5) w
   cases o2 with
   |some p=>simp at c3
   |none=>
    have V4:b < w.heap.size:=by
     rcases aa8 b w.heap.size with U|D
     . exact U
     . simp[aav D]at q3
    have VR:({w with heap:=w.heap.setIfInBounds b (.map o clock)}:World)=w:=by
     have:w.heap.setIfInBounds b (.map o clock)=w.heap:=by
      apply Array.ext_getElem?;intro i
      by_cases I:b=i
      . subst I;simp[V4,q3];simpa[V4]using q3.symm
      . rw[abb I]
     rw[this]
    have c:(execOp a.eval ⟨dst',.call ⟨.builtin .delete, #[m,k], #[t,t']⟩,ty',pos',after',guard'⟩).run P w= .ok (.value (.tuple #[])) w:=by
     simp only[execOp,resolve,invoke,builtin,Builtin.delete_];simp[run_underlying L,q2,pX q3,vk,fQ q4,z,G,Ec _ q3,VR]
    refine⟨_,_,A,ρ,.inl c,(J.sub cW).forget rfl (λ_ _ h=>h) (λq bl d=>?_),⟨#[],rfl,rfl,ak⟩,dA.refl _ _,dD.refl _,bY.refl _ _⟩;rw[P0 g]at d;simp only[bO]at d;split at d
    . rename_i e;subst e;rw[R]at d⊢;exact d
    . exact d
 . obtain⟨z,o2,G,c3,c4⟩:=dJ B (gi (id:=id) (clock:=clock) q4 q5) w
   cases o2 with
   |none=>simp at c3
   |some pv=>
    obtain⟨j,v⟩:=pv;simp only[wv,ii]at c3;subst c3;obtain⟨x,g1,_⟩:=c4 j v rfl;have Q:j < o.size:=(aat.1 g1).1
    obtain⟨y,S⟩:=Rel.sC (st:=⟨n,tm,hp⟩) (clock':=clock) (es':=es.eraseIdx j) (en':=o.eraseIdxIfInBounds j) J R q1 q3
     lg (λi s O n' Y=>by
     rw[afb]at Y
     have H:(o.eraseIdxIfInBounds j)[i]? =if i < j then o[i]? else o[i+1]? :=by
      rw[Array.eraseIdxIfInBounds,dif_pos Q,ae4]
     rw[H];split at Y
     . rename_i l;rw[if_pos l];exact q5 i s O n' Y
     . rename_i l;rw[if_neg l];exact q5 (i+1) s O n' Y)
    have c:(execOp a.eval ⟨dst',.call ⟨.builtin .delete, #[m,k], #[t,t']⟩,ty',pos',after',guard'⟩).run P w= .ok (.value (.tuple #[])) {w with heap:=w.heap.setIfInBounds b (.map (o.eraseIdxIfInBounds j) clock)}:=by
     simp only[execOp,resolve,invoke,builtin,Builtin.delete_];simp[run_underlying L,q2,pX q3,vk,fQ q4,z,G,Ec _ q3]
    rw[WZ K g F]at y;exact⟨_,_,A,ρ,.inl c,y.sub cW,⟨#[],rfl,rfl,ak⟩,S,dD.refl _,bY.refl _ _⟩
def aAW{t t' S:TypeId}{m k:Operand}{tm:TS}{hp:HS}{K:V->HS->Prop}(r:Gt n tm m= .w (.one (.map id)))(R:find hp id=some (.mp es clock))(Z:(Gt n tm k).val? =some (.int .i64 kk))(L:P.underlying t=some (.map kt S))
 (J:eK P kt mz) (w:∀p,p∈es->mz p.1) (d:NK es) (h:K (.fB []) (jB hp id (.mp (er kk es) clock))):
 ∃v hp',jA P n (.call ⟨.builtin .delete, #[m,k], #[t,t']⟩) ty tm hp ctr v hp'/\K v hp':=⟨_,_,OJ r R Z L J w d,h⟩
def TP{t S:TypeId}{m:Operand}{tm:TS}{hp:HS}{K:V->HS->Prop}(r:Gt n tm m= .w (.one (.map id)))(R:find hp id=some (.mp es clock))(L:P.underlying t=some (.map kt S))
 (h:K (iV .i64 (es.length:Int)) hp): ∃v hp',jA P n (.call ⟨.builtin .len, #[m], #[t]⟩) ty tm hp ctr v hp'/\K v hp':=by
 refine⟨_,_,?_,h⟩;rintro⟨g,y,B,O,Y,l⟩ rfl rfl;intro M A ρ a w J;have D:=J.get m;rw[mN,r]at D;obtain⟨b,d,q1,q2,q3,q4,q5⟩:=iT J R D
 have c:(execOp a.eval ⟨g,.call ⟨.builtin .len, #[m], #[t]⟩,B,O,Y,l⟩).run P w= .ok (.value (goInt d.size)) w:=by
  simp[execOp,resolve,invoke,builtin,Builtin.len_,run_underlying L,q2,pX q3]
 refine⟨_,w,A,ρ,.inl c,J.sub cW,?_,dA.refl _ _,dD.refl _,bY.refl _ _⟩;rw[q4];exact RV.ofValue w A ρ (goInt es.length)
def wu(M:agt)(r:Nat):Nat->Prop:=λb=>M b/\b≠r
def HB.less{blk:bE}(h:HB w M A ρ id blk)(J:∀b:Nat,ρ id=Option.some (Loc.gD b)->b≠r):HB w (wu M r) A ρ id blk:=by
 cases blk with
 |row N o=>
  obtain⟨O,Y⟩:=h;refine⟨O,?_⟩;rcases Y with⟨b,c,e,s,v,z⟩|Y
  . exact .inl ⟨b,c,e,s,⟨v,J b s⟩,z⟩
  . exact .inr Y
 |mp B I=>
  obtain⟨b,d,s,v,z⟩:=h;exact⟨b,d,s,⟨v,J b s⟩,z⟩
def Rel.iter(h:Rel M A ρ F st a w)(o:Obj):Rel (wu M w.heap.size) (λb=>A b\/b=w.heap.size) ρ F st a (w.alloc o):=by
 have Z:=sO (A:=A) (w:=w) o;have S:=ow (w:=w) o;refine⟨h.size,h.defers,λt v z=>(h.tmps t v z).keeps Z S (dD.refl _),λid L R=>?_,h.inj,h.fresh,λb G=>?_,λb G=>?_,?_⟩
 . have G:=h.heap id L R;have B:HB (w.alloc o) M (λb=>A b\/b=w.heap.size) ρ id L:=G.keeps Z S (dD.refl _) (λ_ h=>Or.inl h) (λb g=>RowKit.Below.heap_alloc w _ b (G.lt g).1);refine B.less (λb c=>?_);have:=(G.lt c).1;omega
 . simp only[World.alloc,acY];rcases G with G|G
   . have:=h.bound b G;omega
   . omega
 . simp only[World.alloc,acY]at G;exact⟨h.may b aa,aa⟩
 . have D:uw M (λb=>A b\/b=w.heap.size) (w.alloc o):=h.dR.LN (dA.alloc _ _ _) (λb G h=>h.elim (λh=>h) (λe=>by omega));exact D.sub (λb _ G=>G.1) (λ_ h=>h)
def uJ{m m':Option Nat}{Q:Array Nat}(J:w.heap[r]? =some (.mapIter m s Q c))(k:Nat):(setBlock w r (.mapIter m' s' seen' c')).shape? k=w.shape? k:=by
 simp only[World.shape?,setBlock]
 by_cases Z:r=k
 . subst Z
   have l:r < w.heap.size:=by
    rcases aa8 r w.heap.size with h|h
    . exact h
    . simp[aav h]at J
   have e:(w.heap.setIfInBounds r (.mapIter m' s' seen' c'))[r]? =some (.mapIter m' s' seen' c'):=agc
   rw[e,J]
 . rw[abb Z]
def Rel.setIter(h:Rel (wu M r) A ρ F st a w)(N:A r){m m':Option Nat}{Q:Array Nat}(J:w.heap[r]? =some (.mapIter m s Q c)):
 Rel (wu M r) A ρ F st a (setBlock w r (.mapIter m' s' seen' c')):=by
 have d:∀k,k≠r->(setBlock w r (.mapIter m' s' seen' c')).heap[k]? =w.heap[k]? :=λk Z=>abb (λe=>Z e.symm);have l:(setBlock w r (.mapIter m' s' seen' c')).heap.size=w.heap.size:=by simp[setBlock]
 have Z:dS A A w (setBlock w r (.mapIter m' s' seen' c')):=⟨by rw[l];exact ww _,λk _ K=>⟨d k (λe=>K (e▸N)),K⟩⟩;have n:∀k,k < w.heap.size->(setBlock w r (.mapIter m' s' seen' c')).shape? k=w.shape? k:=λk _=>uJ J k;refine⟨h.size,h.defers,λt v z=>(h.tmps t v z).keeps Z n (dD.refl _),λid L R=>?_,h.inj,h.fresh,λb G=>by rw[l];exact h.bound b G,λb G=>h.may b (by rw[l]at G;exact G),λg o D=>?_⟩
 . have G:=h.heap id L R;exact G.keeps Z n (dD.refl _) (λ_ h=>h) (λb j=>d b (G.lt j).2.1.2)
 . obtain⟨O,Y,B,G,y⟩:=h.dR g o D;have P:g≠r:=λe=>B (e▸N);refine⟨by rw[l];exact O,Y,B,by rw[d g P];exact G,λk v Z=>?_⟩;obtain⟨U,I⟩:=y k v Z;exact⟨by rw[lY (w:=w) (d g P)];exact U,I⟩
def dA.setIter(j:M r){m m':Option Nat}{Q:Array Nat}(J:w.heap[r]? =some (.mapIter m s Q c)):dA M w (setBlock w r (.mapIter m' s' seen' c')):=
 ⟨rfl,rfl,rfl,by simp[setBlock],λk _ d=>abb (λe:r=k=>d (e▸j)),λk _=>uJ J k⟩
end Go.aW
namespace Go.aW
open Go
open Go.ChangeMaps (setBlock)
variable{P:Program}{M A:agt}{ρ:Env}{F:agt}{st:St}{a:Act}{w:World}
variable{c:Code}{x y:Rc}{id n ctr:Nat}{o:Oper}{hp':HS}{v:V}
def xw(h:aT P c=some (.seq x y)): ∃a w,c= .seq a w/\aT P a=some x/\aT P w=some y:=by
 cases c with
 |seq a w=>
  simp only[aT]at h;split at h
  . rename_i U b N G;simp only[ii,Rc.seq.injEq]at h;obtain⟨rfl,rfl⟩:=h;exact⟨a,w,rfl,N,G⟩
  . simp at h
 |region id g d=>cases d<;>simp only[aT]at h<;>(repeat' split at h)<;>simp at h
 |_=>simp only[aT]at h<;>(repeat' split at h)<;>simp at h
def zg(h:aT P c=some (.block id x)): ∃a,c= .block id a/\aT P a=some x:=by
 cases c with
 |block id a=>
  simp only[aT]at h;split at h
  . rename_i U N;simp only[ii,Rc.block.injEq]at h;obtain⟨rfl,rfl⟩:=h;exact⟨a,rfl,N⟩
  . simp at h
 |region id g d=>cases d<;>simp only[aT]at h<;>(repeat' split at h)<;>simp at h
 |_=>simp only[aT]at h<;>(repeat' split at h)<;>simp at h
def Kc(h:aT P c=some (.loop x)): ∃a,c= .loop a/\aT P a=some x:=by
 cases c with
 |loop a=>
  simp only[aT]at h;split at h
  . rename_i U N;simp only[ii,Rc.loop.injEq]at h;subst h;exact⟨a,rfl,N⟩
  . simp at h
 |region id g d=>cases d<;>simp only[aT]at h<;>(repeat' split at h)<;>simp at h
 |_=>simp only[aT]at h<;>(repeat' split at h)<;>simp at h
def Ke{t:Nat}(h:aT P c=some (.cond (.t t) x y)): ∃a w,c= .cond (.tmp t) a w/\aT P a=some x/\aT P w=some y:=by
 cases c with
 |cond o a w=>
  simp only[aT]at h;split at h
  . rename_i U b N G;simp only[ii,Rc.cond.injEq]at h;obtain⟨z,rfl,rfl⟩:=h
    cases o with
    |tmp M=>
     simp only[eR,eI.t.injEq]at z;subst z;exact⟨a,w,rfl,N,G⟩
    |_=>simp[eR]at z
  . simp at h
 |region id g d=>cases d<;>simp only[aT]at h<;>(repeat' split at h)<;>simp at h
 |_=>simp only[aT]at h<;>(repeat' split at h)<;>simp at h
def VD(h:aT P c=some .skip):c= .skip:=by
 cases c with
 |skip=>rfl
 |region id g d=>cases d<;>simp only[aT]at h<;>(repeat' split at h)<;>simp at h
 |_=>simp only[aT]at h<;>(repeat' split at h)<;>simp at h
def VE(h:aT P c=some (.exit id)):c= .exit id:=by
 cases c with
 |exit S=>simp only[aT,ii,Rc.exit.injEq]at h;rw[h]
 |region id g d=>cases d<;>simp only[aT]at h<;>(repeat' split at h)<;>simp at h
 |_=>simp only[aT]at h<;>(repeat' split at h)<;>simp at h
def qT{l:List oc}(h:aT P c=some (.region l)): ∃id ops,c= .region id ops false/\bj P ops ops.toList=some l:=by
 cases c with
 |region id ops d=>
  cases d with
  |false=>
   simp only[aT]at h;split at h
   . rename_i A U;simp only[ii,Rc.region.injEq]at h;subst h;exact⟨id,ops,rfl,U⟩
   . simp at h
  |true=>simp only[aT]at h<;>(repeat' split at h)<;>simp at h
 |_=>simp only[aT]at h<;>(repeat' split at h)<;>simp at h
def lU{c:Array Oper}{l:List Oper}{d:Option Nat}{x:Ro}{rs:List oc}(h:bj P c l=some (⟨d,none,x⟩::rs)): ∃o A,l=o::A/\bL P o=some x/\o.dst=d/\o.guard=none/\bj P c A=some rs:=by
 cases l with
 |nil=>simp[bj]at h
 |cons o A=>
  simp only[bj]at h;split at h
  . rename_i b K N U;split at h
    . rename_i D;simp only[ii,aaz,oc.mk.injEq]at h;obtain⟨⟨rfl,_,rfl⟩,rfl⟩:=h;exact⟨o,A,rfl,N,rfl,D,U⟩
    . split at h
      . simp at h
      . simp at h
  . simp at h
def xy{c:Array Oper}{l:List Oper}(h:bj P c l=some []):l=[]:=by
 cases l with
 |nil=>rfl
 |cons o A=>
  simp only[bj]at h;split at h
  . split at h
    . simp at h
    . split at h<;>simp at h
  . simp at h
def kf{ops:Array Oper}{i:Nat}{z:List Nat}{tm:TS}{hp:HS}{Q:Exit->Act->World->Prop}(I:ops[i]? =some o)(hg:o.guard=none)(S:∀d,o.dst=some d->d < n)(c:yp P o n tm hp ctr v hp')
 (J:Rel M A ρ (bJ ctr) ⟨n,tm,hp⟩ a w) (Z:∀l ρ' G w',Rel M l ρ' (bJ (ctr+4)) ⟨n,eJ tm o.dst v,hp'⟩ G w'->dA M w w'->dD ρ ρ'->bY A l w->wpOps P ops Q z G w'):wpOps P ops Q (i::z) a w:=by
 rw[wpOps_cons];unfold wpOp;have O:Region.wanted o (yielded ops a.tmps)=true:=by simp[Region.wanted,hg]
 simp only[I,O,if_true];refine .inl ?_;obtain⟨x,w',l,ρ',g,y,B,Y,b,r⟩:=c M A ρ a w J;have e:=y.put (dst:=o.dst) B S;rw[iP]at e;rcases g with g|⟨g,rfl⟩
 . simp only[Oper.wp,g,Oper.upon];exact Z _ _ _ _ e Y b r
 . simp only[Oper.wp,g,Oper.upon];exact Z _ _ _ _ e Y b r
def tH{ops:Array Oper}{i:Nat}{z:List Nat}{x:Value}{w':World}{Q:Exit->Act->World->Prop}(I:ops[i]? =some o)(hg:o.guard=none)(c:(execOp a.eval o).run P w= .ok (.value x) w')
 (Z:wpOps P ops Q z (a.put o.dst x) w'):wpOps P ops Q (i::z) a w:=by
 rw[wpOps_cons];unfold wpOp;have M:Region.wanted o (yielded ops a.tmps)=true:=by simp[Region.wanted,hg]
 simp only[I,M,if_true];refine .inl ?_;simp only[Oper.wp,c,Oper.upon];exact Z
def nQ{x:Ro}{tm:TS}{hp:HS}(hx:bL P o=some x)(h:XR x tm hp ctr (λa hp2=>a=v/\hp2=hp')):yp P o n tm hp ctr v hp':=by
 obtain⟨_,S,hp2,H,rfl,rfl⟩:=yh (st:=⟨n,tm,hp⟩) hx h;exact jz H
def RJ{op:Op}{ty:TypeId}{tm:TS}{hp:HS}(hx:bL P o=some (.raw op ty))(h:jA P n op ty tm hp ctr v hp'):yp P o n tm hp ctr v hp':=by
 obtain⟨rfl,rfl⟩:=gG hx;exact h o rfl rfl
end Go.aW
namespace Go.aW
open Go
open Go.ChangeMaps (setBlock)
variable{P:Program}{M A:agt}{ρ:Env}{F:agt}{st:St}{a:Act}{w:World}
def isM(q:Nat):C->Bool
 | .map id=>id==q|_=>false
def O8{q:Nat}{c:C}:isM q c=true↔c= .map q:=by
 cases c<;>simp[isM]
def Sn(es:cF)(Q:Array Nat)(q:Nat):Bool:=es.any λp=>Q.contains p.2.2&&isM q p.2.1
def Sa(es:cF)(q:Nat):Bool:=es.any λp=>isM q p.2.1
def erB(k:Int):bE->bE
 | .mp e c=> .mp (er k e) c|b=>b
def hE(S:Nat->Bool)(k:Int)(hp:HS):HS:=hp.map λq=>(q.1,if S q.1 then erB k q.2 else q.2)
def lV{S:Nat->Bool}{k:Int}:∀ {hp:HS} (q:Nat),find (hE S k hp) q=(find hp q).map λb=>if S q then erB k b else b
 | [],q=>rfl
 |(i,b)::r,q=>by
  show find ((i,if S i then erB k b else b)::hE S k r) q=_;rw[aF,aF];split
  . rename_i e;subst e;rfl
  . exact lV q
variable{es:cF}
def wq{Q:Array Nat}{q:Nat}:Sn es Q q=true↔ ∃p,p∈es/\Q.contains p.2.2=true/\p.2.1= .map q:=by
 simp only[Sn,ae9,LD,O8]
def NP{q:Nat}:Sa es q=true↔ ∃p,p∈es/\p.2.1= .map q:=by
 simp only[Sa,ae9,O8]
structure XW(es:cF)(ck o:Nat)(hp:HS):Prop where
 out:find hp o=some (.mp es ck)
 O9:∀p,p∈es->mz p.1/\p.2.2 < ck/\ ∃id ei ci,p.2.1= .map id/\id≠o/\find hp id=some (.mp ei ci)/\NK ei/\ ∀x,x∈ei->mz x.1
 born:(es.map (·.2.2)).Nodup
 SY:∀ (p q:Value×C×Nat) (id:Nat),p∈es->q∈es->p.2.1= .map id->q.2.1= .map id->p.2.2=q.2.2
abbrev Mr:Rc:= .seq (.region [⟨some 68,none,.raw (.next (.tmp 67) false) 0⟩,⟨some 69,none,.extract (.t 68) 0⟩])
 (.seq (.cond (.t 69) .skip (.exit 8)) (.block 9 (.seq (.region [⟨some 70,none,.raw (.entry (.tmp 67)) 0⟩,⟨some 71,none,.extract (.t 70) 1⟩,⟨some 14,none,.LI (.t 71)⟩])
   (.region [⟨some 72,none,.LI (.t 14)⟩,⟨some 73,none,.LI (.t 10)⟩,⟨none,none,.raw (.call ⟨.builtin .delete, #[(.tmp 72),(.tmp 73)], #[rgB,3]⟩) 0⟩]))))
abbrev RY(r:Nat):V:= .w (.one (.t (.val (.pointer (some ⟨r,0,none⟩)))))
def Xq(es:cF)(Q:Array Nat):Nat:=(es.filter λp=> !Q.contains p.2.2).length
def Xo{Q:Array Nat}{p:Value×C×Nat}(hp:p∈es)(S:Q.contains p.2.2=false):Xq es (Q.push p.2.2) < Xq es Q:=
 filter_lt (λx:Value×C×Nat=> !Q.contains x.2.2) (λx=> !(Q.push p.2.2).contains x.2.2) (λx N=>by
  rw[contains_push]at N
  cases hc:Q.contains x.2.2 with
  |false=>rfl
  |true=>rw[hc,Bool.true_or]at N;exact absurd N av) p (by rw[S];rfl) (by rw[contains_push,beq_self_eq_true,Bool.or_true];rfl) es hp
def Xd{d:Array MapEntry}(S:d.size=es.length)(h:∀ (i:Nat) (k:Value) (c:C) (n:Nat),es[i]? =some (k,c,n)-> ∃e,d[i]? =some e/\e.key=k/\e.born=n/\RC w A ρ c e.val/\DW c e.val)
 {e:MapEntry} (H:e∈d.toList): ∃ (i:Nat) (p:Value×C×Nat),es[i]? =some p/\d[i]? =some e/\e.key=p.1/\e.born=p.2.2/\RC w A ρ p.2.1 e.val/\DW p.2.1 e.val:=by
 obtain⟨i,I,K⟩:=aa3 H;have Q:i < d.size:=zh
 have b:i < es.length:=aa
 have F:es[i]? =some es[i]:=agr
 obtain⟨J,O,Y,B,g,U⟩:=h i es[i].1 es[i].2.1 es[i].2.2 F;have:d[i]? =some e:=by simp[Q];simpa using K
 rw[this]at O;simp only[ii]at O;subst O;exact⟨i,es[i],F,this,Y,B,g,U⟩
def ahC{d:Array MapEntry}(S:d.size=es.length)(h:∀ (i:Nat) (k:Value) (c:C) (n:Nat),es[i]? =some (k,c,n)-> ∃e,d[i]? =some e/\e.key=k/\e.born=n/\RC w A ρ c e.val/\DW c e.val):d.toList.map (·.born)=es.map (·.2.2):=by
 apply abm;intro i;simp only[yu,aaN]
 cases he:es[i]? with
 |none=>
  have:d[i]? =none:=by
   rw[aeu,S];exact adR.1 he
  rw[this];rfl
 |some p=>
  obtain⟨e,O,_,B,_⟩:=h i p.1 p.2.1 p.2.2 he;rw[O];simp only[wv,B]
def Fz{α β:Type}{f:α->β}:∀ {l:List α},(l.map f).Nodup-> ∀ {x y:α},x∈l->y∈l->f x=f y->x=y
 | [],_,x,y,N,_,_=>by simp at N
 |z::l,K,x,y,N,G,H=>by
  have a:=aeq.1 K;rcases aak.1 N with O|O<;>rcases aak.1 G with Y|Y
  . rw[O,Y]
  . exact absurd (aad.2 ⟨y,Y,by rw[<-H,O]⟩) a.1
  . exact absurd (aad.2 ⟨x,O,by rw[H,Y]⟩) a.1
  . exact Fz a.2 O Y H
def bK{α:Type}{k:Nat}{v:α}{r:List (Nat×α)}{t:Nat}(h:k≠t):find ((k,v)::r) t=find r t:=by
 rw[aF,if_neg h]
def JK{cb:Code}(hcb:aT P cb=some Mr){kt et:TypeId}(VN:P.underlying rgB=some (.map kt et))(hK:eK P kt mz){ck o r b:Nat}{kk:Int}{hp:HS}{tm:TS}(hok:XW es ck o hp)
 (h10:find tm 10=some (iV .i64 kk)) (hfr:∀t v,find tm t=some v->t≠14/\(t < 66\/73 < t)) {seen:Array Nat} {last ctr:Nat}
 (cP:Rel (wu M r) A ρ (bJ ctr) ⟨79,(67,RY r)::tm,hE (Sn es seen) kk hp⟩ a w) (hA:A r) (hM:M r) (hit:w.heap[r]? =some (.mapIter (some b) ck seen last)) (vV:ck<=last) (hρ:ρ o=some (.gD b)):
 cb.wp P (λe J w'=> ∃l ρ',dA M w w'/\dD ρ ρ'/\bY A l w/\
  ((e= .exit 8/\Rel (wu M r) l ρ' (bJ (ctr+40)) ⟨79,tm,hE (Sa es) kk hp⟩ J w')\/
   (e= .normal/\ ∃n last',Xq es (seen.push n) < Xq es seen/\Rel (wu M r) l ρ' (bJ (ctr+40)) ⟨79,(67,RY r)::tm,hE (Sn es (seen.push n)) kk hp⟩ J w'/\w'.heap[r]? =some (.mapIter (some b) ck (seen.push n) last')/\ck<=last'))) a w:=by
 obtain⟨c1,cr,rfl,Sl,hcr⟩:=xw hcb;obtain⟨c2,c9,rfl,M4,hc9⟩:=xw hcr;obtain⟨Q,cx,rfl,hcs,hcx⟩:=Ke M4;obtain⟨c10,rfl,aKo⟩:=zg hc9;obtain⟨c3,c4,rfl,hc3,hc4⟩:=xw aKo;obtain rfl:=VD hcs;obtain rfl:=VE hcx;obtain⟨i1,U0,rfl,CW⟩:=qT Sl;obtain⟨i2,aBL,rfl,ho2⟩:=qT hc3;obtain⟨i3,aBK,rfl,ho3⟩:=qT hc4;obtain⟨p68,l1,D,x68,d68,g68,CW⟩:=lU CW;obtain⟨p69,l1',rfl,x69,d69,g69,CW⟩:=lU CW;obtain rfl:=xy CW;obtain⟨p70,l2,U,x70,d70,g70,ho2⟩:=lU ho2;obtain⟨p71,l2',rfl,x71,d71,g71,ho2⟩:=lU ho2;obtain⟨p14,aPP,rfl,x14,d14,g14,ho2⟩:=lU ho2;obtain rfl:=xy ho2;obtain⟨p72,l3,e3,x72,d72,g72,ho3⟩:=lU ho3;obtain⟨p73,l3',rfl,x73,d73,g73,ho3⟩:=lU ho3;obtain⟨pd,aPO,rfl,xd,dd,gd,ho3⟩:=lU ho3;obtain rfl:=xy ho3;have VU:U0= #[p68,p69]:=by rw[<-aan (xs:=U0),D]
 have aCN:aBL= #[p70,p71,p14]:=by rw[<-aan (xs:=aBL),U]
 have aCM:aBK= #[p72,p73,pd]:=by rw[<-aan (xs:=aBK),e3]
 subst VU;subst aCN;subst aCM
 have hSo:∀seen',Sn es seen' o=false:=by
  intro seen'
  cases s:Sn es seen' o with
  |false=>rfl
  |true=>
   obtain⟨p,hp1,_,hp2⟩:=wq.1 s;obtain⟨_,_,id,_,_,B,g,_⟩:=hok.O9 p hp1;rw[B]at hp2;exact absurd (C.map.inj hp2) g
 have hfo:∀seen',find (hE (Sn es seen') kk hp) o=some (.mp es ck):=λseen'=>by rw[lV,hok.out,hSo seen'];rfl
 obtain⟨Z,en,q1,q2,q3,q4,q5,q6⟩:=cP.heap o (.mp es ck) (hfo seen);rw[hρ]at q1;simp only[ii,Loc.gD.injEq]at q1;subst q1
 have hold:∀x∈en.toList,x.born < ck:=by
  intro x N;obtain⟨i,p,O,_,_,g,_⟩:=Xd q5 q6 N;rw[g];exact(hok.O9 p (oo O)).2.1
 have aJt:a.eval (.tmp 67)= .pointer (some ⟨r,0,none⟩):=by
  have:=cP.tmps 67 (RY r) (by rw[aF,if_pos rfl]);exact V.bR (u:=RY r) rfl this
 obtain⟨aCP,akB⟩:=gG x68;obtain⟨aCO,akA⟩:=gG x70
 have akO:(execOp a.eval p68).run P w=(Bind.bind (Instr.next (.pointer (some ⟨r,0,none⟩)) false 0) λv=>Pure.pure (Next.value v):Sem Next).run P w:=by
  obtain⟨ds,op,ty,ps,af,gu⟩:=p68;simp only at aCP akB;subst aCP;subst akB;simp only[execOp,aJt]
 have hlt:r < w.heap.size:=cP.bound r hA;rcases run_next_at (P:=P) w 0 r b ck last seen en ck hit q4 hold vV with⟨R,hrun⟩|⟨e,H,w1,I6,hrun⟩
 ·
  have hall:∀p,p∈es->seen.contains p.2.2=true:=by
   intro p hp;obtain⟨i,I,hip⟩:=aa3 hp;have hpi:es[i]? =some p:=by simp[I,hip]
   obtain⟨e,O,_,B,_⟩:=q6 i p.1 p.2.1 p.2.2 hpi;have:=all_seen en seen R e (by rw[ab2];exact ab7 O);rw[B]at this;exact this
  refine wp_seq (wp_region ?_);show wpOps P #[p68,p69] _ [0,1] a w;refine tH (i:=0) (o:=p68) rfl g68 (x:= .tuple #[.bool false]) (w':=w) (by rw[akO,Sem.run_bind,hrun];rfl) ?_;rw[d68]
  have j:=cP.put (dst:=p68.dst) (v:= .fB [.one (.t (.val (.bool false)))]) (x:= .tuple #[.bool false]) ⟨#[.bool false],rfl,rfl,λk u x L N=>by
   cases k with
   |zero=>
    simp only[yq,ii]at L;simp at N;subst L;subst N;exact⟨RT.val rfl,rfl⟩
   |succ k=>simp at L⟩ (λd S=>by rw[d68]at S;simp only[ii]at S;subst S;exact(by decide:(68:Nat) < 79))
  rw[iP,d68]at j;have h69:yp P p69 79 (eJ ((67,RY r)::tm) (some 68) (.fB [.one (.t (.val (.bool false)))])) (hE (Sn es seen) kk hp) ctr (bV false) (hE (Sn es seen) kk hp):=nQ x69 ⟨rfl,rfl⟩;refine kf (i:=1) (o:=p69) rfl g69 (λd S=>by rw[d69]at S;simp only[ii]at S;subst S;exact(by decide:(69:Nat) < 79)) h69 j ?_;intro A1 ρ1 a1 w1 c v2 x2 gr2;rw[d69]at c;show Exit.then _ _ .normal a1 w1;refine wp_seq ?_;refine wp_cond_false ?_ ?_
  . exact V.lO (v:=bV false) rfl (c.tmps 69 (bV false) (by simp[eJ,aF]))
  . refine wp_exit ?_;show ∃l ρ',_;refine⟨A1,ρ1,v2.weaken (λi _ h=>h.1),x2,gr2,.inl ⟨rfl,Rel.sub (F:=bJ (ctr+4)) (Rel.forget (st':=⟨79,tm,hE (Sa es) kk hp⟩) c rfl (λt v z=>?_) (λq bl s=>?_)) (λid h=>aal (by omega:ctr+4<=ctr+40) h)⟩⟩
    . obtain⟨n1,n2⟩:=hfr t v z;simp only[eJ];rw[bK aa,bK aa,bK aa];exact z
    . rw[lV]at s⊢
      have:Sn es seen q=Sa es q:=by
       rw[adq,wq,NP];exact⟨λ⟨p,O,_,B⟩=>⟨p,O,B⟩,λ⟨p,O,B⟩=>⟨p,O,hall p O,B⟩⟩
      rw[this];exact s
 ·
  obtain⟨he1,M0⟩:=mem_left H;obtain⟨i,pe,hpi,hei,hkey,FK,hval,hcell⟩:=Xd q5 q6 he1;have PD:=oo hpi;obtain⟨rH,aJM,id,ei,ci,CY,aDb,aqZ,hnk,aJU⟩:=hok.O9 pe PD;have hcell:cz e.val=true:=by rw[CY]at hcell;exact hcell.elim _root_.id (λh=>by simp[C.Kb]at h)
  have adH:w1.heap[r]? =some (.mapIter (some b) ck seen last):=by rcases I6 with rfl|rfl<;>exact hit
  have aCF:Rel (wu M r) A ρ (bJ ctr) ⟨79,(67,RY r)::tm,hE (Sn es seen) kk hp⟩ a w1:=by rcases I6 with rfl|rfl;exact cP;exact cP.drew
  have aKb:dA M w w1:=by rcases I6 with rfl|rfl;exact dA.refl _ _;exact dA.drew M w
  have aCr:w1.heap.size=w.heap.size:=by rcases I6 with rfl|rfl<;>rfl
  have akF:=aCF.setIter (m':=some b) (s':=ck) (c':=ck) (seen':=seen.push e.born) hA adH;have aDo:dA M w1 (setBlock w1 r (.mapIter (some b) ck (seen.push e.born) ck)):=dA.setIter hM adH
  have aC8:(setBlock w1 r (.mapIter (some b) ck (seen.push e.born) ck)).heap[r]? =some (.mapIter (some b) ck (seen.push e.born) ck):=by
   have:r < w1.heap.size:=by rw[aCr];exact hlt
   simp[setBlock,this]
  have HM:(setBlock w1 r (.mapIter (some b) ck (seen.push e.born) ck)).heap.size=w.heap.size:=by simp[setBlock,aCr]
  generalize hw2:setBlock w1 r (.mapIter (some b) ck (seen.push e.born) ck)=w2 at hrun akF aDo aC8 HM;refine wp_seq (wp_region ?_);show wpOps P #[p68,p69] _ [0,1] a w;refine tH (i:=0) (o:=p68) rfl g68 (x:= .tuple #[.bool true,e.key,e.val]) (w':=w2) (by rw[akO,Sem.run_bind,hrun];rfl) ?_;rw[d68]
  have hkc:cz e.key=true:=by
   obtain⟨n,K⟩:=rH;rw[hkey,K];rfl
  have j:=akF.put (dst:=p68.dst) (v:= .fB [.one (.t (.val (.bool true))),.one .any,.one .any]) (x:= .tuple #[.bool true,e.key,e.val]) ⟨#[.bool true,e.key,e.val],rfl,rfl,λk u x L N=>by
   match k with
   |0=>
    simp at L N;subst L;subst N;exact⟨RT.val rfl,rfl⟩
   |1=>
    simp at L N;subst L;subst N;exact⟨trivial,hkc⟩
   |2=>
    simp at L N;subst L;subst N;exact⟨trivial,hcell⟩
   |k+3=>simp at L⟩ (λd S=>by rw[d68]at S;simp only[ii]at S;subst S;exact(by decide:(68:Nat) < 79))
  rw[iP,d68]at j;have h69:yp P p69 79 (eJ ((67,RY r)::tm) (some 68) (.fB [.one (.t (.val (.bool true))),.one .any,.one .any])) (hE (Sn es seen) kk hp) ctr (bV true) (hE (Sn es seen) kk hp):=nQ x69 ⟨rfl,rfl⟩;refine kf (i:=1) (o:=p69) rfl g69 (λd S=>by rw[d69]at S;simp only[ii]at S;subst S;exact(by decide:(69:Nat) < 79)) h69 j ?_;intro A3 ρ3 a3 w3 r3 v3 x3 gr3;rw[d69]at r3;show Exit.then _ _ .normal a3 w3;refine wp_seq (wp_cond_true ?_ (wp_skip ?_))
  . exact V.lO (v:=bV true) rfl (r3.tmps 69 (bV true) (by simp[eJ,aF]))
  show Exit.then _ _ .normal a3 w3;refine wp_block (wp_seq (wp_region ?_));show wpOps P #[p70,p71,p14] _ [0,1,2] a3 w3
  have aC7:w3.heap[r]? =some (.mapIter (some b) ck (seen.push e.born) ck):=by
   rw[v3.block r (by rw[HM];exact hlt) (λh=>h.2 rfl)];exact aC8
  obtain⟨b3,en3,z1,z2,z3,z4,z5,z6⟩:=r3.heap o (.mp es ck) (hfo seen);rw[x3 o _ hρ]at z1;simp only[ii,Loc.gD.injEq]at z1;subst z1;obtain⟨e4,y1,y2,y3,y4,y5⟩:=z6 i pe.1 pe.2.1 pe.2.2 hpi
  have aCH:a3.eval (.tmp 67)= .pointer (some ⟨r,0,none⟩):=by
   have:=r3.tmps 67 (RY r) (by simp[eJ,aF]);exact V.bR (u:=RY r) rfl this
  have aCC:=run_entry_at (P:=P) w3 r b ck seen en3 ck e4 (by rw[aC7,FK,y3]) z4 (by rw[ab2];exact ab7 y1) (by rw[ahC z5 z6];exact hok.born)
  have aDm:(execOp a3.eval p70).run P w3= .ok (.value (.tuple #[e4.key,e4.val])) w3:=by
   obtain⟨ds,op,ty,ps,af,gu⟩:=p70;simp only at aCO akA;subst aCO;subst akA;simp only[execOp,aCH,Sem.run_bind,aCC];rfl
  refine tH (i:=0) (o:=p70) rfl g70 aDm ?_;rw[d70]
  have aJV:cz e4.key=true:=by
   obtain⟨n,K⟩:=rH;rw[y2,K];rfl
  have y5:cz e4.val=true:=by rw[CY]at y5;exact y5.elim _root_.id (λh=>by simp[C.Kb]at h)
  rw[CY]at y4
  have r4:=r3.put (dst:=p70.dst) (v:= .fB [.one .any,.one (.map id)]) (x:= .tuple #[e4.key,e4.val]) ⟨#[e4.key,e4.val],rfl,rfl,λk u x L N=>by
   match k with
   |0=>
    simp at L N;subst L;subst N;exact⟨trivial,aJV⟩
   |1=>
    simp at L N;subst L;subst N;exact⟨y4,y5⟩
   |k+2=>simp at L⟩ (λd S=>by rw[d70]at S;simp only[ii]at S;subst S;exact(by decide:(70:Nat) < 79))
  rw[iP,d70]at r4;refine kf (i:=1) (o:=p71) rfl g71 (λd S=>by rw[d71]at S;simp only[ii]at S;subst S;exact(by decide:(71:Nat) < 79)) (nQ (v:= .w (.one (.map id))) (hp':=hE (Sn es seen) kk hp) x71 ags) r4 ?_;intro A5 ρ5 a5 w5 r5 v5 x5 gr5;rw[d71]at r5;refine kf (i:=2) (o:=p14) rfl g14 (λd S=>by rw[d14]at S;simp only[ii]at S;subst S;exact(by decide:(14:Nat) < 79)) (nQ (v:= .w (.one (.map id))) (hp':=hE (Sn es seen) kk hp) x14 ags) r5 ?_;intro A6 ρ6 a6 w6 r6 v6 x6 gr6;rw[d14]at r6;show Exit.then _ _ .normal a6 w6;refine wp_region ?_;show wpOps P #[p72,p73,pd] _ [0,1,2] a6 w6;refine kf (i:=0) (o:=p72) rfl g72 (λd S=>by rw[d72]at S;simp only[ii]at S;subst S;exact(by decide:(72:Nat) < 79)) (nQ (v:= .w (.one (.map id))) (hp':=hE (Sn es seen) kk hp) x72 ags) r6 ?_;intro A7 ρ7 a7 w7 r7 v7 x7 gr7;rw[d72]at r7
  refine kf (i:=1) (o:=p73) rfl g73 (λd S=>by rw[d73]at S;simp only[ii]at S;subst S;exact(by decide:(73:Nat) < 79)) (nQ (v:=iV .i64 kk) (hp':=hE (Sn es seen) kk hp) x73 (by
   simp only[XR,dj];exact⟨by simp[eI.get,eJ,aF,h10],trivial⟩)) r7 ?_
  intro A8 ρ8 a8 w8 r8 v8 x8 gr8;rw[d73]at r8
  have aDA:Sn es seen id=false:=by
   cases s:Sn es seen id with
   |false=>rfl
   |true=>
    obtain⟨p2,O,Y,B⟩:=wq.1 s;have:=hok.SY p2 pe id O PD B CY;rw[this, <-FK,M0]at Y;simp at Y
  have Y2:find (hE (Sn es seen) kk hp) id=some (.mp ei ci):=by rw[lV,aqZ,aDA];rfl
  refine kf (i:=2) (o:=pd) rfl gd (λd S=>by rw[dd]at S;simp at S) (RJ xd (OJ (id:=id) (es:=ei) (clock:=ci) (kk:=kk) rfl Y2 rfl VN hK aJU hnk)) r8 ?_;intro A9 ρ9 a9 w9 r9 v9 x9 gr9;rw[dd]at r9;show ∃l ρ',_;have s2:w.heap.size<=w2.heap.size:=by rw[HM];exact ww _
  have s3:=aal s2 v3.size;have s5:=aal s3 v5.size;have s6:=aal s5 v6.size;have s7:=aal s6 v7.size;have s8:=aal s7 v8.size;have evL:dA (wu M r) w3 w9:=v5.trans (v6.trans (v7.trans (v8.trans v9)));have wk:∀ {x y:World},dA (wu M r) x y->dA M x y:=λh=>h.weaken (λi _ h=>h.1);refine⟨A9,ρ9,aKb.trans (aDo.trans ((wk v3).trans (wk evL))),x3.trans (x5.trans (x6.trans (x7.trans (x8.trans x9)))),?_,.inr ⟨rfl,e.born,ck,?_,?_,?_,ww _⟩⟩
  . have g3:bY A A3 w:=⟨gr3.1,λb G=>gr3.2 b (by rw[HM];exact G)⟩;exact((((g3.trans gr5 s3).trans gr6 s5).trans gr7 s6).trans gr8 s7).trans gr9 s8
  . rw[FK];exact Xo PD (by rw[<-FK];exact M0)
  . refine Rel.sub (F:=bJ (ctr+4+4+4+4+4+4)) (Rel.forget (st':=⟨79,(67,RY r)::tm,hE (Sn es (seen.push e.born)) kk hp⟩) r9 rfl (λt v z=>?_) (λq bl s=>?_)) (λid h=>aal (by omega:ctr+4+4+4+4+4+4<=ctr+40) h)
    . simp only[eJ];rw[aF]at z;split at z
      . rename_i e;subst e;simpa[aF]using z
      . obtain⟨n1,n2⟩:=hfr t v z;rw[bK aa,bK aa,bK aa,bK aa,bK aa,bK aa,bK aa,bK aa];exact z
    . rw[lV]at s;simp only[bO,lV]
      have hSn:∀q,q≠id->Sn es (seen.push e.born) q=Sn es seen q:=by
       intro q hne;rw[adq,wq,wq];constructor
       . rintro⟨p2,O,Y,B⟩;rw[contains_push,ab6]at Y;rcases Y with Y|Y
         . exact⟨p2,O,Y,B⟩
         . exfalso;have nj:p2.2.2=pe.2.2:=by rw[beq_iff_eq]at Y;rw[Y,FK]
           have tQ:=Fz hok.born O PD nj;subst tQ;rw[CY]at B;exact hne (C.map.inj B).symm
       . rintro⟨p2,O,Y,B⟩;exact⟨p2,O,by rw[contains_push,Y,Bool.true_or],B⟩
      by_cases hqi:q=id
      . subst hqi;have:Sn es (seen.push e.born) q=true:=wq.2 ⟨pe,PD,by rw[contains_push,FK,beq_self_eq_true,Bool.or_true],CY⟩;rw[this,aqZ]at s;rw[if_pos rfl,aqZ,aDA];exact s
      . rw[if_neg hqi, <-hSn q hqi];exact s
  . rw[evL.block r (aar hlt s3) (λh=>h.2 rfl)];exact aC7
end Go.aW
namespace Go.aW
open Go
open Go.ChangeMaps (setBlock)
variable{P:Program}{M A:agt}{ρ:Env}{F:agt}{st:St}{a:Act}{w:World}
variable{es:cF}{ck:Nat}{kk:Int}
def Mt{U:Code}(hcb:aT P U=some Mr){kt F:TypeId}(VN:P.underlying rgB=some (.map kt F))(J:eK P kt mz){o r b:Nat}{hp:HS}{tm:TS}(I:XW es ck o hp)
 (h10:find tm 10=some (iV .i64 kk)) (hfr:∀t v,find tm t=some v->t≠14/\(t < 66\/73 < t)) (j:M r):∀ (m:Nat) (Q:Array Nat) (last ctr:Nat) (A:agt) (ρ:Env) (a:Act) (w:World),Xq es Q=m->
 Rel (wu M r) A ρ (bJ ctr) ⟨79,(67,RY r)::tm,hE (Sn es Q) kk hp⟩ a w->A r->w.heap[r]? =some (.mapIter (some b) ck Q last)->ck<=last->ρ o=some (.gD b)-> ∀ (bf:Frame) (k:List Item) (cs:List Frame),
 ∃G w' l ρ',dA M w w'/\dD ρ ρ'/\bY A l w/\Rel (wu M r) l ρ' (bJ (ctr+40 * (m+1))) ⟨79,tm,hE (Sa es) kk hp⟩ G w'/\Arrives P (lone (bf.at a (.code U:: .inLoop U::k)) cs w) bf k cs (.exit 8) G w':=by
 intro m
 induction m using Nat.strongRecOn with
 |_ m c=>
  intro Q last ctr A ρ a w s d N hit vV H bf k cs;obtain⟨e,L,K,⟨g,ρ1,S,x1,g1,O⟩,iZ⟩:=JK hcb VN J I h10 hfr d N j hit vV H bf (.inLoop U::k) cs;rcases O with⟨rfl,y⟩|⟨rfl,n,last',R,y,adH,aKk⟩
  . exact⟨L,K,g,ρ1,S,x1,g1,y.sub (λid h=>aal (by omega:ctr+40<=ctr+40 * (m+1)) h),.pass (x:= .inLoop U) rfl (λ_ _=> .inl ak) iZ⟩
  . rw[s]at R;obtain⟨Z,Y,D,z,v2,x2,g2,B,xF⟩:=c _ R (Q.push n) last' (ctr+40) g ρ1 L K rfl y (g1.1 r N) adH aKk (x1 _ _ H) bf k cs;refine⟨Z,Y,D,z,S.trans v2,x1.trans x2,g1.trans g2 S.size,B.sub (λid h=>aal (?_ :_<=ctr+40 * (m+1)) h),.of_steps (Steps.trans iZ (.one step_inLoop)) xF⟩;omega
def HB.more{id:Nat}{blk:bE}{r:Nat}(h:HB w (wu M r) A ρ id blk):HB w M A ρ id blk:=by
 cases blk with
 |row N o=>
  obtain⟨O,Y⟩:=h;refine⟨O,?_⟩;rcases Y with⟨b,c,e,s,v,z⟩|Y
  . exact .inl ⟨b,c,e,s,v.1,z⟩
  . exact .inr Y
 |mp B I=>
  obtain⟨b,d,s,v,z⟩:=h;exact⟨b,d,s,v.1,z⟩
def Rel.more{r:Nat}(h:Rel (wu M r) A ρ F st a w)(N:A r):Rel M A ρ F st a w:=by
 refine⟨h.size,h.defers,h.tmps,λid L R=>(h.heap id L R).more,h.inj,h.fresh,h.bound,λb G=>(h.may b G).1,λg o D=>?_⟩;obtain⟨O,Y,B,y⟩:=h.dR g o D;exact⟨O,λs=>Y ⟨s,λe=>B (e▸N)⟩,B,y⟩
abbrev ajJ:Rc:= .seq (.region [⟨some 66,none,.LI (.t 4)⟩,⟨some 67,none,.raw (.range rgA (.tmp 66)) 0⟩]) (.block 8 (.loop Mr))
def TX{c:Code}(D:aT P c=some ajJ){kt et kt1 et1:TypeId}(uR:P.underlying rgA=some (.map kt1 et1))(VN:P.underlying rgB=some (.map kt et))(j:eK P kt mz){o ctr:Nat}{hp:HS}{tm:TS}(hok:XW es ck o hp)
 (y:find tm 4=some (.w (.one (.map o)))) (h10:find tm 10=some (iV .i64 kk)) (hfr:∀t v,find tm t=some v->t≠14/\(t < 66\/73 < t)):
 Wp P c (λe s c'=>e= .normal/\Is ⟨79,tm,hE (Sa es) kk hp⟩ (ctr+4+40 * (es.length+1)) s c') ⟨79,tm,hp⟩ ctr:=by
 obtain⟨U,N,rfl,Sl,M4⟩:=xw D;obtain⟨c3,rfl,hc3⟩:=zg M4;obtain⟨cb,rfl,hcb⟩:=Kc hc3;obtain⟨i1,U0,rfl,CW⟩:=qT Sl;obtain⟨p66,l1,H,x66,d66,g66,CW⟩:=lU CW;obtain⟨p67,l1',rfl,x67,d67,g67,CW⟩:=lU CW;obtain rfl:=xy CW;have VU:U0= #[p66,p67]:=by rw[<-aan (xs:=U0),H]
 subst VU;intro M A ρ a w J;obtain⟨aCQ,akC⟩:=gG x67;refine wp_seq (wp_region ?_);show wpOps P #[p66,p67] _ [0,1] a w
 have h66:yp P p66 79 tm hp ctr (.w (.one (.map o))) hp:=nQ x66 (by
  simp only[XR,dj];exact⟨by simp[eI.get,y],trivial⟩)
 refine kf (i:=0) (o:=p66) rfl g66 (λd S=>by rw[d66]at S;simp only[ii]at S;subst S;exact(by decide:(66:Nat) < 79)) h66 J ?_;intro A1 ρ1 O w1 K n x1 g1;rw[d66]at K;have l:=K.heap o _ hok.out;have vm:=K.tmps 66 (.w (.one (.map o))) (by simp[eJ,aF]);obtain⟨b,Q,q1,q2,q3,q4,q5⟩:=iT K hok.out vm
 have aDn:(execOp O.eval p67).run P w1= .ok (.value (.pointer (some ⟨w1.heap.size,0,none⟩))) (w1.alloc (.mapIter (some b) ck #[] ck)):=by
  obtain⟨ds,op,ty,L,af,gu⟩:=p67;simp only at aCQ akC;subst aCQ;subst akC;have e66:O.eval (.tmp 66)= .map (some b):=q2;have:=run_range_map (P:=P) w1 rgA kt1 et1 b Q ck uR q3;simp only[execOp,e66,Sem.run_bind,this];rfl
 refine tH (i:=1) (o:=p67) rfl g67 aDn ?_;rw[d67];have B:=K.iter (.mapIter (some b) ck #[] ck);have r3:=B.put (dst:=some 67) (v:=RY w1.heap.size) (x:= .pointer (some ⟨w1.heap.size,0,none⟩)) ⟨RT.val rfl,rfl⟩ (λd S=>by simp only[ii]at S;subst S;exact(by decide:(67:Nat) < 79));rw[iP]at r3;show Exit.then _ _ .normal _ _;refine wp_block ?_;intro bf k R;have hit:(w1.alloc (.mapIter (some b) ck #[] ck)).heap[w1.heap.size]? =some (.mapIter (some b) ck #[] ck):=heap_alloc_new w1 _
 have Z:∀q,Sn es #[] q=false:=by
  intro q
  cases g:Sn es #[] q with
  |false=>rfl
  |true=>
   obtain⟨p,_,Y,_⟩:=wq.1 g;simp at Y
 have r4:Rel (wu M w1.heap.size) (λb=>A1 b\/b=w1.heap.size) ρ1 (bJ (ctr+4)) ⟨79,(67,RY w1.heap.size)::tm,hE (Sn es #[]) kk hp⟩ (O.put (some 67) (.pointer (some ⟨w1.heap.size,0,none⟩))) (w1.alloc (.mapIter (some b) ck #[] ck)):=by
  refine r3.forget rfl (λt v z=>?_) (λq bl g=>?_)
  . simp only[eJ];rw[aF]at z;split at z
    . rename_i e;subst e;simpa[aF]using z
    . rename_i I;obtain⟨n1,n2⟩:=hfr t v z;rw[bK I,bK aa];exact z
  . rw[lV,Z q]at g;simpa using g
 obtain⟨a2,w2,A2,ρ2,v2,x2,g2,r5,iZ⟩:=Mt (r:=w1.heap.size) (M:=M) hcb VN j hok h10 hfr (K.may _ (ww _)) _ #[] ck (ctr+4) _ ρ1 _ _ rfl r4 (Or.inr rfl) hit (ww _) q1 bf k R;refine⟨.exit 8,a2,w2,?_,.of_steps (.one step_loop) iZ⟩;have M3:Xq es #[]<=es.length:=adE _ _;have hsz:(w1.alloc (.mapIter (some b) ck #[] ck)).heap.size=w1.heap.size+1:=by simp only[World.alloc,acY]
 simp only[Exit.inBlock,if_true];refine⟨_,_,A2,ρ2,⟨trivial,rfl,rfl⟩,(r5.more (g2.1 _ (.inr rfl))).sub (λid h=>aal (?_ :_<=ctr+4+40 * (es.length+1)) h),n.trans ((dA.alloc M w1 _).trans v2),(x1.trans x2).T6,?_⟩
 . omega
 . refine bY.m ⟨λb G=>g2.1 b (.inl (g1.1 b G)),λb G Y=>?_⟩;have F:b < w1.heap.size:=aar G n.size;have:=g2.2 b (by rw[hsz];omega) Y;rcases this with h|h
   . exact g1.2 b G h
   . omega
end Go.aW
namespace Go.aW
open Go
variable{P:Program}
inductive DX(P:Program)(n:Nat)(r:Rc)(Q:Exit->TS->HS->Nat->Prop)(tm:TS)(hp:HS)(ctr:Nat):Prop
 |mk (h:∀c,aT P c=some r-> ∃e st' c',sK n (Q e) st' c'/\Wp P c (λe2 s k=>e2=e/\Is st' c' s k) ⟨n,tm,hp⟩ ctr)
def DX.get{n:Nat}{r:Rc}{Q:Exit->TS->HS->Nat->Prop}{tm:TS}{hp:HS}{ctr:Nat}(h:DX P n r Q tm hp ctr):∀c,aT P c=some r-> ∃e st' c',sK n (Q e) st' c'/\Wp P c (λo s k=>o=e/\Is st' c' s k) ⟨n,tm,hp⟩ ctr:=by
 cases h with
 |mk h=>exact h
variable{n:Nat}{Q:Exit->TS->HS->Nat->Prop}{tm:TS}{hp:HS}{ctr:Nat}
variable{r x y:Rc}{id:Nat}
def agF(h:X P n r Q tm hp ctr):DX P n r Q tm hp ctr:= .mk λ_ D=>X.Y8 D h
def ca{l:List oc}(h:lP P n l tm hp ctr (Q .normal)):DX P n (.region l) Q tm hp ctr:=agF h
def rf(h:Q .normal tm hp ctr):DX P n .skip Q tm hp ctr:=agF h
def Ns(h:Q .ret tm hp ctr):DX P n .ret Q tm hp ctr:=agF h
def xP(h:Q (.exit id) tm hp ctr):DX P n (.exit id) Q tm hp ctr:=agF h
def dl(h:DX P n x (dP (DX P n y Q) Q) tm hp ctr):DX P n (.seq x y) Q tm hp ctr:=by
 refine .mk λc D=>?_;obtain⟨a,w,rfl,N,G⟩:=xw D;obtain⟨H,l,g,⟨d,O⟩,v⟩:=h.get _ N;obtain⟨U,r,b⟩:=l;simp only at d O;subst d
 by_cases I:H= .normal
 . subst I;obtain⟨o,j,K,Y,S⟩:=(O:DX P U y Q r b g).get _ G;refine⟨o,j,K,Y,Wp.seq (v.mono ?_)⟩;rintro e s c ⟨rfl,rfl,rfl⟩;exact S
 . rw[wA I]at O;refine⟨H,⟨U,r,b⟩,g,⟨rfl,O⟩,Wp.seq (v.mono ?_)⟩;rintro e s c ⟨rfl,rfl,rfl⟩;rw[Jm I];exact⟨rfl,rfl,rfl⟩
def rh{t:Nat}{b:Bool}(G:find tm t=some (bV b))(O:b=true->DX P n x Q tm hp ctr)(Y:b=false->DX P n y Q tm hp ctr):DX P n (.cond (.t t) x y) Q tm hp ctr:=by
 refine .mk λc D=>?_;obtain⟨a,w,rfl,N,B⟩:=Ke D;have d:((⟨n,tm,hp⟩:St).get (.tmp t)).jT =some b:=by simp only[St.get,G];rfl
 cases b with
 |true=>
  obtain⟨e,s,F,O,Y⟩:=(O rfl).get _ N;exact⟨e,s,F,O,Wp.cond d Y⟩
 |false=>
  obtain⟨e,s,F,O,Y⟩:=(Y rfl).get _ B;exact⟨e,s,F,O,Wp.cond d Y⟩
def my(h:DX P n x (yF id Q) tm hp ctr):DX P n (.block id x) Q tm hp ctr:=by
 refine .mk λc D=>?_;obtain⟨a,rfl,N⟩:=zg D;obtain⟨H,l,g,⟨d,O⟩,v⟩:=h.get _ N
 cases H with
 |exit S=>
  simp only[yF]at O;split at O
  . rename_i I;refine⟨_,_,_,⟨d,O⟩,Wp.block (v.mono ?_)⟩;rintro e s c ⟨rfl,rfl,rfl⟩;simp only[tA,I,if_true];exact⟨trivial,rfl,rfl⟩
  . rename_i I;refine⟨_,_,_,⟨d,O⟩,Wp.block (v.mono ?_)⟩;rintro e s c ⟨rfl,rfl,rfl⟩;simp only[tA,I,if_false];exact⟨trivial,rfl,rfl⟩
 |_=>
  rw[EZ ak]at O;refine⟨_,l,g,⟨d,O⟩,Wp.block (v.mono ?_)⟩;rintro e s c ⟨rfl,rfl,rfl⟩;rw[Gb ak];exact⟨rfl,rfl,rfl⟩
def asM{tm':TS}{hp':HS}{c':Nat}(a:eo tm hp ctr tm' hp' c')(h:DX P n r Q tm' hp' c'):DX P n r Q tm hp ctr:=by
 refine .mk λc D=>?_;obtain⟨e,s,K,O,Y⟩:=h.get c D;exact⟨e,s,K,O,Wp.L3 (st:=⟨n,tm,hp⟩) a Y⟩
def eo.forget{tm':TS}{hp':HS}{c':Nat}(D:ctr<=c')(Q:∀t v,find tm' t=some v->find tm t=some v)(d:∀id b,find hp' id=some b->find hp id=some b):eo tm hp ctr tm' hp' c':=
 λM A ρ _ _ w J=>⟨A,ρ,(Rel.forget (st':=⟨_,tm',hp'⟩) J rfl Q d).sub (λ_ h=>aal D h),jm.refl _,fZ.refl M A w⟩
def xu(ks:List Nat)(tm:TS):TS:=ks.filterMap λt=>(find tm t).map λv=>(t,v)
def Nj{tm:TS}:∀ {ks:List Nat} {t:Nat} {v:V},find (xu ks tm) t=some v->find tm t=some v:=by
 intro ks t v h;have r:=bX h;simp only[xu,aau,jU,uu]at r;obtain⟨M,_,u,L,rfl,rfl⟩:=r;exact L
def eo.keep(ks:List Nat):eo tm hp ctr (xu ks tm) hp ctr:=eo.forget (ww _) (λ_ _ h=>Nj h) (λ_ _ h=>h)
def P6(ks:List Nat)(h:DX P n r Q (xu ks tm) hp ctr):DX P n r Q tm hp ctr:=asM (eo.keep ks) h
def Nxt(I:Nat->TS->HS->Nat->Prop)(ks:List Nat)(m:Nat)(tm:TS)(hp:HS)(c:Nat):Prop:= ∃l,l < m/\I l (xu ks tm) hp c
def BN{b:Rc}(ks:List Nat)(I:Nat->TS->HS->Nat->Prop)(m:Nat)(z:I m (xu ks tm) hp ctr)(CU:∀m tm hp c,I m tm hp c->DX P n b (dP (Nxt I ks m) Q) tm hp c):DX P n (.loop b) Q tm hp ctr:=by
 refine .mk λc D=>?_;obtain⟨cb,rfl,G⟩:=Kc D
 have key:∀ (m:Nat) (tm:TS) (hp:HS) (c:Nat),I m tm hp c-> ∃e st' F,sK n (Q e) st' F/\ ∀ (M A:agt) (ρ:Env) (a:Act) (w:World) (K:Frame) (kk:List _) (R:List _),Rel M A ρ (bJ c) ⟨n,tm,hp⟩ a w->
  ∃Z j,Post M A ρ w (Is st' F) Z j/\Arrives P (lone (K.at a (.code cb:: .inLoop cb::kk)) R w) K kk R e Z j:=by
  intro m
  induction m using Nat.strongRecOn with
  |_ m ihm=>
   intro tm hp c hI;obtain⟨y,st1,g,⟨rV,O⟩,h⟩:=(CU m tm hp c hI).get _ G;obtain⟨n1,lR,hp1⟩:=st1;simp only at rV O;subst rV
   by_cases ou:y= .normal
   . subst ou;obtain⟨m',hm',hI'⟩:=(O:Nxt I ks m lR hp1 g);obtain⟨o,st2,N,Y,rF⟩:=ihm m' hm' _ _ _ hI';refine⟨o,st2,N,Y,λM A ρ a w K kk R J=>?_⟩
     obtain⟨e,L,Gv,⟨rfl,st',F,l,s,⟨rfl,rfl⟩,B,U,r4,r5⟩,iZ⟩:=(by
      obtain⟨e,L,Gv,hp1,iZ⟩:=h M A ρ a w J K (.inLoop cb::kk) R;obtain⟨st',F,l,s,⟨H,S⟩,r⟩:=hp1;exact⟨e,L,Gv,⟨H,st',F,l,s,S,r⟩,iZ⟩: ∃e L Gv,(e=Exit.normal/\ ∃st' F l s,Is ⟨n1,lR,hp1⟩ g st' F/\Rel M l s (bJ F) st' L Gv/\dA M w Gv/\jm ρ s/\fZ M A l w)/\Arrives P (lone (K.at a (.code cb:: .inLoop cb::kk)) R w) K (.inLoop cb::kk) R e L Gv)
     obtain⟨A2,ρ2,AX,M0,zk⟩:=eo.keep ks _ _ _ _ _ _ B;obtain⟨v,w2,hp2,xF⟩:=rF M A2 ρ2 L Gv K kk R AX;exact⟨v,w2,hp2.trans U (r4.trans M0) (r5.trans zk U.size),.of_steps (Steps.trans iZ (.one step_inLoop)) xF⟩
   . rw[wA ou]at O;refine⟨y,⟨n1,lR,hp1⟩,g,⟨rfl,O⟩,λM A ρ a w K kk R J=>?_⟩;obtain⟨e,L,Gv,aqE,iZ⟩:=h M A ρ a w J K (.inLoop cb::kk) R;obtain⟨st',F,l,s,⟨rfl,S⟩,r⟩:=aqE;refine⟨L,Gv,⟨st',F,l,s,S,r⟩,?_⟩
     cases e with
     |normal=>exact absurd rfl ou
     |_=>exact .pass (x:= .inLoop cb) rfl (λ_ _=> .inl ak) iZ
 obtain⟨e,st',F,O,Y⟩:=key m _ _ _ z;refine⟨e,st',F,O,Wp.L3 (st:=⟨n,tm,hp⟩) (eo.keep ks) ?_⟩;intro M A ρ a w J K kk R;obtain⟨Z,j,d,iZ⟩:=Y M A ρ a w K kk R J;obtain⟨s1,s2,s3,s4,s5,s6⟩:=d;exact⟨e,Z,j,⟨s1,s2,s3,s4,⟨rfl,s5⟩,s6⟩,.of_steps (.one step_loop) iZ⟩
def Xh{kt S d e:TypeId}(O:P.underlying rgA=some (.map d e))(a:P.underlying rgB=some (.map kt S))(J:eK P kt mz){es:cF}{ck o:Nat}{kk:Int}(I:XW es ck o hp)
 (g:find tm 4=some (.w (.one (.map o)))) (b:find tm 10=some (iV .i64 kk)) (j:∀t v,find tm t=some v->t≠14/\(t < 66\/73 < t)) (h:Q .normal tm (hE (Sa es) kk hp) (ctr+4+40 * (es.length+1))):DX P 79 ajJ Q tm hp ctr:=by
 refine .mk λc D=>?_;refine⟨.normal,⟨79,tm,hE (Sa es) kk hp⟩,ctr+4+40 * (es.length+1),⟨rfl,h⟩,?_⟩;exact TX D O a J I g b j
def Wz{Tb:Tables}[pG P Tb]{f:FuncId}{fn:Func}{args:Lw}{n:Nat}{rs:List ResultVar}{Good:Lw->Prop}(R:P.funcs[f]? =some fn)(h:DX P n r (alJ P rs Good) (dz 0 args) [] 4)
 (I:fnI Tb fn=some (n,rs,r):=by conv=>lhs;cbv) (U:args.length<=n:=by simp): ∃ts,Fn P f args [] (aR ts) []/\(aR ts).cR=true/\Good ts:=by
 obtain⟨c,G,J,K,gy⟩:=zw (P:=P) I;subst K;subst gy;obtain⟨e,st',c',⟨hn',d⟩,hw⟩:=h.get _ J;obtain⟨n',tm',hp'⟩:=st';simp only at hn' d;subst hn'
 have main:∀us ts,uP e->bg P hp' tm' fn.results.toList=some us->bB (bM hp') us=some ts->Good ts-> ∃ts,Fn P f args [] (aR ts) []/\(aR ts).cR=true/\Good ts:=by
  intro Q ts H iG hts S;refine⟨ts,?_,wU ?_,S⟩
  . intro w A ρ o hH hxs;refine calls_of_wp R G ?_;have hl':args.length=o.size:=YT
    have cP:Rel (λb=>pK ρ [] b\/w.heap.size<=b) A ρ (bJ 4) ⟨fn.ntmps,dz 0 args,[]⟩ {tmps:=o++Array.replicate (fn.ntmps - o.size) undef,defers:=[]} w:=by
     refine⟨by simp;omega,rfl,λt v z=>?_,hH.heap,hH.inj,hH.fresh,hH.bound,hH.may,hH.dR⟩;obtain⟨_,u,L,rfl⟩:=eS _ _ _ _ z;simp only[ad4]at L;have ht:t < o.size:=by rw[<-hl'];exact(jl.1 L).1
     have yA:o.toList[t]? =some o[t]:=by simp[ht]
     have:=hxs.2 t u _ L yA;have e:(o++Array.replicate (fn.ntmps - o.size) undef).getD t undef=o[t]:=V1
     rw[e];exact this
    refine wp_mono (hw _ A ρ _ w cP) ?_;rintro g a' w' ⟨st2,c2,D,ρ',⟨rfl,rfl,rfl⟩,cU,eU,cI,MY⟩;have mM:=zm hH.bound MY;obtain⟨F,hvs,M⟩:=eA cU iG
    have l:(fn.results.mapM λ(r:ResultVar)=>match r with
     | .tmp t=>(pure (a'.tmps.getD t undef):Sem Value)
     | .cell b t=>do loadVar t (<-asAddr (a'.tmps.getD b undef))).run P w'= .ok F.toArray w':=by
     rw[ab1];simp only[Sem.run_map];exact(congrArg (λr:Result (List Value)=>Result.andThen r λa w'=>Result.ok a.toArray w') hvs).trans rfl
    have hrun:(results fn a'.tmps).run P w'= .ok (if h:F.toArray.size=1 then F.toArray[0]else .tuple F.toArray) w':=by
     show(Bind.bind (fn.results.mapM λ(r:ResultVar)=>match r with
      | .tmp t=>(pure (a'.tmps.getD t undef):Sem Value)
      | .cell b t=>do loadVar t (<-asAddr (a'.tmps.getD b undef))) λQ=>Pure.pure (if h:Q.size=1 then Q[0]else .tuple Q)).run P w'=_
     rw[Sem.run_bind,l];rfl
    have hB:∀id blk b,find hp' id=some blk->ρ' id=some (.gD b)->¬A b:=by
     intro id blk b R hρ hA;have hM:=(Rel.own cU R hρ).1;rcases hM with⟨id',gU,qj,_⟩|hM
     . simp[find]at qj
     . have:=hH.bound b hA;omega
    have hlen:=iR hts
    have one:∀ (k:Nat) (u:W) (y:Value),ts[k]? =some u->(∀v,Q[k]? =some v->RW w' D ρ' v y)->RW w' A ρ u y:=by
     intro k u y L z;obtain⟨v,kV,Ku⟩:=eZ hts k u L;exact ja cU (λb G=>mM.1 b G) hB Ku (z v kV) ρ
    have fin:a'.defers=[]/\ ∃v,(results fn a'.tmps).run P w'= .ok v w'/\ ∃x D ρ' F',Ending.returned v= .returned x/\RV w' D ρ' (aR ts) x/\HR (λb=>pK ρ [] b\/w.heap.size<=b) D ρ' F' [] w'/\
     dA (λb=>pK ρ [] b\/w.heap.size<=b) w w'/\jm ρ ρ'/\bY A D w:=by
     refine⟨cU.defers,_,hrun,_,A,ρ,bJ 4,rfl,?_,⟨rfl,rfl,λt v z=>by simp[find]at z,λid blk G=>by simp[find]at G,λid id' b j q G=>by simp[find]at G,hH.fresh,λb G=>aar (hH.bound b G) eU.size,λb G=> .inr (aal eU.size G),hH.dR.LN eU (λ_ _ h=>h)⟩,eU,jm.refl _,bY.refl _ _⟩
     match Q,F,ts,M,hlen,one with
     | [],[],[],_,_,_=>exact⟨#[],ak,rfl,ak⟩
     | [u],[v],[t],M,_,one=>exact one 0 t v rfl (λv' kV=>by simp only[yq,ii]at kV;subst kV;exact M.2 0 u v rfl rfl)
     |u::u2::r,v::v2::s,t::t2::q,M,hlen,one=>
      have hne:¬ (v::v2::s).toArray.size=1:=ak
      simp only[hne,dite_false];refine⟨_,rfl,?_,λk x y N Z=>one k x y N (λv' kV=>M.2 k v' y kV PO)⟩;have:=M.1;simp at this hlen⊢;omega
     | [],_::_,_,M,_,_=>exact absurd M.1 ak
     |_::_,[],_,M,_,_=>exact absurd M.1 ak
     | [_],_::_::_,_,M,_,_=>exact absurd M.1 ak
     |_::_::_,[_],_,M,_,_=>exact absurd M.1 ak
     | [],[],_::_,_,hlen,_=>simp at hlen
     | [_],[_],[],_,hlen,_=>simp at hlen
     | [_],[_],_::_::_,_,hlen,_=>simp at hlen
     |_::_::_,_::_::_,[],_,hlen,_=>simp at hlen
     |_::_::_,_::_::_,[_],_,hlen,_=>simp at hlen
    rcases H with rfl|rfl
    . exact fin
    . exact fin
  . rw[yt];intro u L;obtain⟨k',hk',hke⟩:=aa3 L;obtain⟨v,_,Ku⟩:=eZ hts k' u (by rw[<-hke];simp[hk']);exact jw Ku
 cases e with
 |normal=>obtain⟨us,ts,O,Y,B⟩:=d;exact main us ts (.inl rfl) O Y B
 |ret=>obtain⟨us,ts,O,Y,B⟩:=d;exact main us ts (.inr rfl) O Y B
 |_=>exact d.elim
end Go.aW
namespace Go.aW
open Go
variable{P:Program}
structure Ms(n:Nat)(es:cF)(ck o:Nat)(hp:HS)(c:Nat):Prop where
 rg:XW es ck o hp
 nk:NK es
 keys:∀p,p∈es-> ∃j:Nat,j < n/\p.1= .int .i64 (j:Int)
 lo:o < c
 li:∀ (p:Value×C×Nat) (id:Nat),p∈es->p.2.1= .map id->id < c
variable{o c ck c':Nat}{es:cF}
def Ms.new{n:Nat}{hp:HS}(h:find hp o=some (.mp [] 0))(D:o < c):Ms n [] 0 o hp c:=
 ⟨⟨h,λp hp=>by simp at hp,ak,λp q id hp=>by simp at hp⟩,NK.nil,λp hp=>by simp at hp,D,λp id hp=>by simp at hp⟩
def Ms.mono{n v:Nat}{hp:HS}(h:Ms n es ck o hp c)(K:n<=v)(D:c<=c'):Ms v es ck o hp c':=
 ⟨h.rg,h.nk,λp hp=>by obtain⟨j,O,Y⟩:=h.keys p hp;exact⟨j,aa,Y⟩,aar h.lo D,λp id O Y=>aar (h.li p id O Y) D⟩
def Ms.heap{n:Nat}{hp hp':HS}(h:Ms n es ck o hp c)(H:∀q G K,q < c->find hp q=some (.mp G K)->find hp' q=some (.mp G K)):Ms n es ck o hp' c:=by
 refine⟨⟨H _ _ _ h.lo h.rg.out,λp hp=>?_,h.rg.born,h.rg.SY⟩,h.nk,h.keys,h.lo,h.li⟩;obtain⟨O,Y,id,w,a,B,g,U,R⟩:=h.rg.O9 p hp;exact⟨O,Y,id,w,a,B,g,H _ _ _ (h.li p id hp B) U,R⟩
def Ms.acQ{n:Nat}{hp:HS}(h:Ms n es ck o hp c):∀p,p∈es->mz p.1:=λp hp=>(h.rg.O9 p hp).1
def Ms.inner{n:Nat}{j:cF}{id ci':Nat}{hp:HS}{p:Value×C×Nat}(h:Ms n es ck o hp c)(b:p∈es)(D:p.2.1= .map id)(K:NK j)(Z:∀x,x∈j->mz x.1):Ms n es ck o (jB hp id (.mp j ci')) c:=by
 obtain⟨_,_,l,r,s,z,S,P,_⟩:=h.rg.O9 p b;rw[D]at z;have z:=C.map.inj z;subst z;refine⟨⟨?_,λq d=>?_,h.rg.born,h.rg.SY⟩,h.nk,h.keys,h.lo,h.li⟩
 . rw[bO,if_neg (λe=>S e.symm)];exact h.rg.out
 . obtain⟨O,Y,a,U,G,B,g,F,R,v⟩:=h.rg.O9 q d
   by_cases H:a=id
   . subst H;exact⟨O,Y,a,j,ci',B,g,by rw[bO,if_pos rfl,P];rfl,K,Z⟩
   . exact⟨O,Y,a,U,G,B,g,by rw[bO,if_neg H];exact F,R,v⟩
def Ms.add{i:Nat}{cm:Nat}{hp hq:HS}(h:Ms i es ck o hp c)(D:c<=cm)(P:cm < c')(r:find hq cm=some (.mp [] 0))(H:∀q,q < c->find hq q=find hp q):
 Ms (i+1) (es++[(.int .i64 (i:Int),.map cm,ck)]) (ck+1) o (jB hq o (.mp (es++[(.int .i64 (i:Int),.map cm,ck)]) (ck+1))) c':=by
 have Z:=h.lo;refine⟨⟨?_,λp hp=>?_,?_,λp q id hp hq O Y=>?_⟩,?_,λp hp=>?_,aa,λp id hp O=>?_⟩
 . rw[bO,if_pos rfl,H o Z,h.rg.out];rfl
 . rcases yl.1 hp with hp|hp
   . obtain⟨O,Y,id,w,a,B,g,U,R⟩:=h.rg.O9 p hp;exact⟨O,aa,id,w,a,B,g,by rw[bO,if_neg g,H id (h.li p id hp B)];exact U,R⟩
   . rw[vv]at hp;subst hp;exact⟨⟨_,rfl⟩,ak,cm,[],0,rfl,aa,by rw[bO,if_neg aa];exact r,NK.nil,λx N=>by simp at N⟩
 . rw[adt,adM];refine⟨h.rg.born,ak,?_⟩;intro x N y G;simp only[aad]at N;obtain⟨p,hp,rfl⟩:=N;simp only[aaq,abh,vv]at G;subst G;have:=(h.rg.O9 p hp).2.1;omega
 . rcases yl.1 hp with hp|hp<;>rcases yl.1 hq with hq|hq
   . exact h.rg.SY p q id hp hq O Y
   . rw[vv]at hq;subst hq;have:=h.li p id hp O;have e:=C.map.inj Y;omega
   . rw[vv]at hp;subst hp;have:=h.li q id hq Y;have e:=C.map.inj O;omega
   . rw[vv]at hp hq;rw[hp,hq]
 . unfold NK;rw[adt,adM];refine⟨h.nk,ak,?_⟩;intro x N y G;simp only[aad]at N;obtain⟨p,hp,rfl⟩:=N;simp only[aaq,abh,vv]at G;subst G;obtain⟨j,O,Y⟩:=h.keys p hp;rw[Y];intro e;simp only[Value.int.injEq,true_and]at e;omega
 . rcases yl.1 hp with hp|hp
   . obtain⟨j,O,Y⟩:=h.keys p hp;exact⟨j,aa,Y⟩
   . rw[vv]at hp;subst hp;exact⟨i,aa,rfl⟩
 . rcases yl.1 hp with hp|hp
   . have:=h.li p id hp O;omega
   . rw[vv]at hp;subst hp;have e:=C.map.inj O;omega
def Ms.del{n:Nat}{hp:HS}(h:Ms n es ck o hp c)(k:Int):Ms n (er k es) ck o (jB hp o (.mp (er k es) ck)) c:=by
 refine⟨⟨?_,λp hp=>?_,List.Nodup.sublist (List.filter_sublist.map _) h.rg.born,λp q id hp d O Y=>h.rg.SY p q id (zD hp).1 (zD d).1 O Y⟩,h.nk.er k,λp hp=>h.keys p (zD hp).1,h.lo,λp id hp O=>h.li p id (zD hp).1 O⟩
 . rw[bO,if_pos rfl,h.rg.out];rfl
 . obtain⟨O,Y,id,w,a,B,g,U,R⟩:=h.rg.O9 p (zD hp).1;exact⟨O,Y,id,w,a,B,g,by rw[bO,if_neg g];exact U,R⟩
def Ms.erase{n:Nat}{hp:HS}(h:Ms n es ck o hp c)(k:Int):Ms n es ck o (hE (Sa es) k hp) c:=by
 have d:Sa es o=false:=by
  cases hq:Sa es o with
  |false=>rfl
  |true=>
   obtain⟨p,b,H⟩:=NP.1 hq;obtain⟨_,_,id,_,_,B,g,_⟩:=h.rg.O9 p b;rw[B]at H;exact absurd (C.map.inj H) g
 refine⟨⟨?_,λp hp=>?_,h.rg.born,h.rg.SY⟩,h.nk,h.keys,h.lo,h.li⟩
 . rw[lV,h.rg.out,d];rfl
 . obtain⟨O,Y,id,w,a,B,g,U,R,v⟩:=h.rg.O9 p hp;have l:Sa es id=true:=NP.2 ⟨p,hp,B⟩;exact⟨O,Y,id,er k w,a,B,g,by rw[lV,U,l];rfl,R.er k,λx N=>v x (zD N).1⟩
def aDX{k:Int}{p:Value×C×Nat}(hp:p∈es)(Z:p.1= .int .i64 k):(er k es).length < es.length:=by
 have:=filter_lt (λ_:Value×C×Nat=>true) (λx=> !isKey k x) (λ_ _=>rfl) p rfl (by rw[qf.2 Z];rfl) es hp;have e:List.filter (λ_:Value×C×Nat=>true) es=es:=ak
 rw[e]at this;exact this
def KI{S:Nat->Bool}{k:Int}{hp:HS}{q sz:Nat}{xs:Lq}(h:find hp q=some (.row sz xs)):find (hE S k hp) q=some (.row sz xs):=by
 rw[lV,h];simp only[wv];split<;>rfl
def Ro.Kb:Ro->Bool
 | .call _ _| .oP _ _| .raw _ _=>false|_=>true
variable{n ctr:Nat}{tm:TS}{hp:HS}{K:TS->HS->Nat->Prop}
variable{r:Ro}
def yE{d:Nat}{z:List oc}(S:d < n)(J:r.Kb=true)(h:XR r tm hp ctr λv hp'=>lP P n z ((d,v)::tm) hp' (ctr+4) K):lP P n (⟨some d,none,r⟩::z) tm hp ctr K:=by
 have e:jd n (some d)=true:=by simp[jd,S]
 unfold lP XT;simp only[e];cases r<;>first|(simp only[Ro.Kb]at J;exact absurd J av)|(simp only[Bu,dj,kJ,jy,eJ];exact h)
def aGU{z:List oc}(J:r.Kb=true)(h:XR r tm hp ctr λ_ hp'=>lP P n z tm hp' (ctr+4) K):lP P n (⟨none,none,r⟩::z) tm hp ctr K:=by
 unfold lP XT;simp only[jd];cases r<;>first|(simp only[Ro.Kb]at J;exact absurd J av)|(simp only[Bu,dj,kJ,jy,eJ];exact h)
end Go.aW
namespace Go.aW.Cd
open Go Go.Proofs
def uOM:Tryz.prog.underlying 313=some (.map 3 314):=ag
def zMp:ny Tryz.prog 314=some (.map none):=ag
abbrev mV(o:Nat):V:= .w (.one (.map o))
variable{ctr:Nat}{cs:Lt}{v:V}{xs:Lz}
def aAX{P:Program}{tm:TS}{hp:HS}{K:TS->HS->Nat->Prop}{z:Lc}(a:find tm 21=some (.w (.one (.yz cs 0))))(d:find tm 20=some v)(A:z.length=5)(D:cs.length=5)
 (h:K ((5,v)::(6,.w (.one (.ptr (ctr+4) 5 0 0)))::(22,.w (.agg (cs.map .t)))::tm) ((ctr+4,.row 5 [cs.map .t])::hp) (ctr+16)):
 lP P 79 (p 22 (.load (some 5) (t 21))::p 6 (.alloc z)::p 5 (.LI (t 20))::q (.store 5 (t 6) (t 22))::[]) tm hp ctr K:=by
 match cs,D with
 | [M,L,N,y,a4],_=>
 match z,A with
 | [j,F,G,c,z4],_=>
 refine yE av rfl ?_;simp only[XR,eI.get,a,YJ];show lP P 79 _ ((22,.w (.agg [.t M,.t L,.t N,.t y,.t a4]))::tm) hp (ctr+4) K;refine yE av rfl ?_;show lP P 79 _ ((6,.w (.one (.ptr (ctr+4) 5 0 0)))::(22,.w (.agg [.t M,.t L,.t N,.t y,.t a4]))::tm) ((ctr+4,.row 5 [[j,F,G,c,z4]])::hp) (ctr+8) K;refine yE av rfl ?_;simp only[XR,dj];have e:(eI.t 20).get ((6,.w (.one (.ptr (ctr+4) 5 0 0)))::(22,.w (.agg [.t M,.t L,.t N,.t y,.t a4]))::tm)=v:=by simp[eI.get,aF,d]
 rw[e];refine aGU rfl ?_;have f:∀b:bE,find ((ctr+4,b)::hp) (ctr+4)=some b:=λb=>Iw
 have g:∀b Z:bE,jB ((ctr+4,b)::hp) (ctr+4) Z=(ctr+4,Z)::hp:=λb Z=>by simp[jB]
 have H:(eI.t 6).get ((5,v)::(6,.w (.one (.ptr (ctr+4) 5 0 0)))::(22,.w (.agg [.t M,.t L,.t N,.t y,.t a4]))::tm)= .w (.one (.ptr (ctr+4) 5 0 0)):=rfl;have o:(eI.t 22).get ((5,v)::(6,.w (.one (.ptr (ctr+4) 5 0 0)))::(22,.w (.agg [.t M,.t L,.t N,.t y,.t a4]))::tm)= .w (.agg [.t M,.t L,.t N,.t y,.t a4]):=rfl;simp only[XR,H,o,f,mP,cM,g];exact h
def aAZ{P:Program}{tm:TS}{hp:HS}{id:Nat}{K:TS->HS->Nat->Prop}(a:find tm 6=some (.w (.one (.ptr id 5 0 0))))(R:find hp id=some (.row 5 [cs.map .t]))(D:cs[3]? =some (.aO 1 xs))
 (h:K ((29,iV .i64 0)::(28,iV .i64 (xs.length:Int))::(27,.w (oL 1 xs))::(26,.w (.one (.ptr id 5 0 3)))::tm) hp (ctr+16)):
 lP P 79 (p 26 (.FV 3 (t 6))::p 27 (.load none (t 26))::p 28 (.len (t 27))::p 29 (.LI (k 0))::[]) tm hp ctr K:=by
 refine yE av rfl ?_;simp only[XR,eI.get,a,YJ];refine yE av rfl ?_;have H:(eI.t 26).get ((26,.w (.one (.ptr id 5 0 (0+3))))::tm)= .w (.one (.ptr id 5 0 3)):=rfl;simp only[XR,H,R,mP,yq,if_true,w4,yu,D,wv];show lP P 79 [p 28 (.len (t 27)),p 29 (.LI (k 0))] ((27,.w (oL 1 xs))::(26,.w (.one (.ptr id 5 0 3)))::tm) hp (ctr+8) K;refine yE av rfl ?_;show lP P 79 [p 29 (.LI (k 0))] ((28,iV .i64 (xs.length:Int))::(27,.w (oL 1 xs))::(26,.w (.one (.ptr id 5 0 3)))::tm) hp (ctr+12) K;refine yE av rfl ?_;exact h
def DP(v:V)(hp:HS)(c:Nat)(xs:Lz):Prop:=
 (v= .w (.one (.t (.val (.slice none 0 0))))/\xs=[])\/ ∃a,a < c/\v= .w (.one (.own a 1 0 xs.length))/\find hp a=some (.row 1 (tr xs))
def aAT{P:Program}{tm:TS}{hp:HS}{K:TS->HS->Nat->Prop}{kk:Int}(y:find tm 9=some v)(b:find tm 10=some (iV .i64 kk))(l:DP v hp ctr xs)(U:xs.length<=1000000)
 (h:∀hp' S,DP S hp' (ctr+20) (xs++[[tI kk]])->(∀q e c,q < ctr->find hp q=some (.mp e c)->find hp' q=some (.mp e c))->K ((9,S)::(77,S)::(76,.w (.one (.own (ctr+8) 1 0 1)))::(75,iV .i64 kk)::(74,v)::tm) hp' (ctr+20)):
 lP P 79 (p 74 (.LI (t 9))::p 75 (.LI (t 10))::p 76 (.zI [.t (.val (.int .i64 0))] 1 [(0,t 75)])::p 77 (.append 1 8 (t 74) (t 76))::p 9 (.LI (t 77))::[]) tm hp ctr K:=by
 refine yE av rfl ?_;simp only[XR,dj];have F:(eI.t 9).get tm=v:=by simp[eI.get,y]
 rw[F];refine yE av rfl ?_;simp only[XR,dj];have r:(eI.t 10).get ((74,v)::tm)=iV .i64 kk:=by simp[eI.get,aF,b]
 rw[r];refine yE av rfl ?_;show lP P 79 _ ((76,.w (.one (.own (ctr+8) 1 0 1)))::(75,iV .i64 kk)::(74,v)::tm) ((ctr+8,.row 1 [[.t (tI kk)]])::hp) (ctr+12) K;refine yE av rfl ?_;have H:(eI.t 74).get ((76,.w (.one (.own (ctr+8) 1 0 1)))::(75,iV .i64 kk)::(74,v)::tm)=v:=rfl;have o:(eI.t 76).get ((76,.w (.one (.own (ctr+8) 1 0 1)))::(75,iV .i64 kk)::(74,v)::tm)= .w (.one (.own (ctr+8) 1 0 1)):=rfl;have G:tu ((ctr+8,.row 1 [[.t (tI kk)]])::hp) (.own (ctr+8) 1 0 1)=some (1,[[.t (tI kk)]]):=by simp[tu,elems,aF]
 simp only[XR,H,o,G];rcases l with⟨rfl,rfl⟩|⟨a,J,rfl,R⟩
 . simp only[G,if_true,ac0];refine⟨⟨av,av⟩,?_⟩;refine yE av rfl ?_;simp only[XR,dj];refine h ((ctr+12,.row 1 [[.t (tI kk)]])::(ctr+8,.row 1 [[.t (tI kk)]])::hp) (.w (.one (.own (ctr+12) 1 0 1))) (.inr ⟨ctr+12,aa,rfl,by rw[aF,if_pos rfl];rfl⟩) ?_;intro q e c d j;rw[bK aa,bK aa];exact j
 . have s:find ((ctr+8,bE.row 1 [[.t (tI kk)]])::hp) a=some (.row 1 (tr xs)):=by rw[bK aa];exact R
   have n:(tr xs).length=xs.length:=iC
   simp only[G,s,and_self,if_true,n,true_and,ac0,cM];refine⟨⟨by simp only[bh];omega,by simp only[maxLen];omega⟩,?_⟩;refine yE av rfl ?_;simp only[XR,dj];refine h _ (.w (.one (.own (ctr+12) 1 0 (xs.length+1)))) (.inr ⟨ctr+12,aa,ak,by rw[aF,if_pos rfl];simp[tr]⟩) ?_;intro q e c d j;rw[bK aa,dG]
   have g:q≠a:=by
    rintro rfl;rw[R]at j;simp at j
   rw[if_neg g,bK aa];exact j
end Go.aW.Cd
namespace Go.aW
open Go
variable{ctr:Nat}
def DX.mono{P:Program}{n:Nat}{r:Rc}{Q d:Exit->TS->HS->Nat->Prop}{tm:TS}{hp:HS}(h:DX P n r Q tm hp ctr)(hq:∀e tm hp c,Q e tm hp c->d e tm hp c):DX P n r d tm hp ctr:=by
 refine .mk λc D=>?_;obtain⟨e,b,F,⟨O,Y⟩,B⟩:=h.get c D;exact⟨e,b,F,⟨O,hq _ _ _ _ Y⟩,B⟩
def agG{P:Program}{n:Nat}{x y:Rc}{Q:Exit->TS->HS->Nat->Prop}{tm:TS}{hp:HS}(a:TS->HS->Nat->Prop)(h:DX P n x (dP a Q) tm hp ctr)(Y:∀tm hp c,a tm hp c->DX P n y Q tm hp c):DX P n (.seq x y) Q tm hp ctr:=by
 refine dl (h.mono λe tm hp c d=>?_)
 cases e with
 |normal=>exact Y _ _ _ d
 |_=>exact d
def Df{tm:TS}{ks:List Nat}{t:Nat}{v:V}(h:find (xu ks tm) t=some v):t∈ks:=by
 have r:=bX h;simp only[xu,aau,jU,uu]at r;obtain⟨M,O,u,L,rfl,rfl⟩:=r;exact O
end Go.aW
namespace Go.aW.Cd
open Go Go.Proofs
variable{xs zs:Lz}
def DP.of{v:V}{hp hp':HS}{c c':Nat}(h:DP v hp c xs)(D:c<=c')(d:∀q sz xs,find hp q=some (.row sz xs)->find hp' q=some (.row sz xs)):DP v hp' c' xs:=by
 rcases h with h|⟨a,O,Y,B⟩
 . exact .inl h
 . exact .inr ⟨a,aar O D,Y,d _ _ _ B⟩
def aED(ts:Lw):Prop:= ∃N b,ts=[oL 1 N,oB b]/\Is N
def IA(l:Lz)(m:Nat)(tm:TS)(hp:HS)(c:Nat):Prop:=
 ∃ (i o:Nat) (B:cF) (a:Nat),i<=l.length/\Ms i B a o hp c/\B.length=i/\m=l.length - i/\tm=[(0,.w (oL 5 l)),(4,mV o),(16,.w (oL 5 l)),(17,iV .i64 (l.length:Int)),(18,iV .i64 (i:Int))]
def IB(l:Lz)(i:Nat)(Y:Lz)(m:Nat)(tm:TS)(hp:HS)(c:Nat):Prop:=
 ∃ (j o:Nat) (B:cF) (a:Nat),j<=Y.length/\Ms (i+1) B a o hp c/\B.length=i+1/\(∃p,p∈B/\p.1= .int .i64 (i:Int))/\m=Y.length - j/\
  tm=[(0,.w (oL 5 l)),(4,mV o),(5,iV .i64 (i:Int)),(16,.w (oL 5 l)),(17,iV .i64 (l.length:Int)),(18,iV .i64 (i:Int)),(27,.w (oL 1 Y)),(28,iV .i64 (Y.length:Int)),(29,iV .i64 (j:Int))]
def IC(l:Lz)(m:Nat)(tm:TS)(hp:HS)(c:Nat):Prop:=
 ∃ (o:Nat) (B:cF) (a:Nat) (v:V) (M:Lz),Ms l.length B a o hp c/\DP v hp c M/\Is M/\M.length+B.length<=l.length/\m=B.length/\tm=[(0,.w (oL 5 l)),(4,mV o),(9,v)]
def ID(l:Lz)(o:Nat)(v:V)(d:HS)(Z:Nat)(m:Nat)(tm:TS)(hp:HS)(c:Nat):Prop:=
 ∃k:Nat,k<=l.length/\hp=d/\Z<=c/\m=l.length - k/\tm=[(0,.w (oL 5 l)),(4,mV o),(9,v),(10,iV .i64 (k:Int))]
def MD(l:Lz)(es:cF)(o:Nat)(v:V)(d:HS)(Z:Nat)(tm:TS)(hp:HS)(c:Nat):Prop:=
 ∃k:Nat,k<=l.length/\(k < l.length-> ∃p,p∈es/\p.1= .int .i64 (k:Int))/\hp=d/\Z<=c/\xu [0,4,9,10] tm=[(0,.w (oL 5 l)),(4,mV o),(9,v),(10,iV .i64 (k:Int))]
def vL(l:Lz)(hop:∀e,e∈l->ES e)(U:l.length<=1000000):Tg 123 [oL 5 l] (Wk aED):=by
 refine Wz Tryz.func123 ?_;refine dl (ca ?_)
 conv=>whnf
 refine dl (ca ?_)
 conv=>whnf
 refine jq ?_
 conv=>whnf
 refine dl ?_;refine dl (ca ?_)
 conv=>whnf
 refine my (BN [0,4,16,17,18] (IA l) l.length ⟨0,_,[],0,aa,Ms.new rfl av,rfl,rfl,rfl⟩ ?_);rintro m K F c ⟨i,o,J,ck,I,hM,hei,rfl,rfl⟩;refine dl (ca ?_)
 conv=>whnf
 refine dl (rh (b:=decide ((i:Int) < (l.length:Int))) rfl (λh=>rf ?_) (λh=>xP ?_))
 . conv=>whnf
   have R:i < l.length:=bc
   have hlo:=hM.lo;refine dl (my (dl (ca ?_)))
   conv=>whnf
   refine aG (xs:=l) hop aa aa ?_;rintro _ ⟨nm,a,b,af,A,rfl,hnm,⟨haf,Sq⟩,iG,VM⟩ S;rw[kJ,jy]
   refine aAX (tm:=(21,.w (.one (.yz [.val (.string nm),tI a,tI b,.aO 1 af,.aO 1 A] 0)))::(20,iV .i64 (i:Int))::(19,bV (decide ((i:Int) < (l.length:Int))))::[(0,.w (oL 5 l)),(4,mV o),(16,.w (oL 5 l)),(17,iV .i64 (l.length:Int)),(18,iV .i64 (i:Int))])
    (cs:=[.val (.string nm),tI a,tI b,.aO 1 af,.aO 1 A]) (v:=iV .i64 (i:Int)) rfl rfl (by exact rfl) rfl ?_
   conv=>whnf
   refine dl (ca ?_)
   conv=>whnf
   refine jq ?_
   conv=>whnf
   refine Jd (id:=o) rfl (by rw[bK aa,bK aa];exact hM.rg.out) rfl rfl uOM kIn ⟨_,rfl⟩ hM.acQ ?_;rintro es' ck' (⟨i',p,O,Y,_,_⟩|⟨_,rfl,rfl⟩)
   . exfalso;obtain⟨j,B,g⟩:=hM.keys p (oo O);rw[Y]at g;simp only[Value.int.injEq,true_and]at g;omega
   conv=>whnf
   have Y5:=Ms.add (hq:=((c+35).succ,.mp [] 0)::((c+7).succ+4+4,.row 5 [List.map C.t [.val (.string nm),tI a,tI b,.aO 1 af,.aO 1 A]])::F) (cm:=(c+35).succ) (c':=(c+36).succ) hM aa aa (by rw[aF,if_pos rfl]) (λq d=>by rw[bK aa,bK aa]);refine dl (ca ?_);refine aAZ (id:=(c+7).succ+4+4) (cs:=[.val (.string nm),tI a,tI b,.aO 1 af,.aO 1 A]) rfl (by rw[bO,if_neg aa,bK aa,aF,if_pos rfl]) rfl ?_
   conv=>whnf
   refine my (BN [0,4,5,16,17,18,27,28,29] (IB l i af) af.length ⟨0,o,_,_,aa,Y5.mono (ww _) aa,by simp[hei],⟨_,aby _ (vv.2 rfl),rfl⟩,rfl,rfl⟩ ?_);rintro m K F c ⟨j,o,J,ck,Q,hM,hei,⟨pe,hpe,hpk⟩,rfl,rfl⟩;refine dl (ca ?_)
   conv=>whnf
   refine dl (rh (b:=decide ((j:Int) < (af.length:Int))) rfl (λh=>rf ?_) (λh=>xP ?_))
   . conv=>whnf
     have aJM:j < af.length:=bc
     refine dl (my (dl (ca ?_)))
     conv=>whnf
     refine aG (xs:=af) haf aa aa ?_;rintro _ ⟨x,rfl⟩ S
     conv=>whnf
     refine ca ?_
     conv=>whnf
     refine Gr (id:=o) rfl hM.rg.out rfl uOM zMp kIn ⟨_,rfl⟩ hM.acQ (λi2 p hp2 xB=>?_) (λP=>absurd hpk (P pe hpe));have PD:=oo hp2;obtain⟨_,_,id,ei,ci,CY,aDb,Y2,hnk,hkk⟩:=hM.rg.O9 p PD;rw[CY]
     conv=>whnf
     refine Jd (id:=id) rfl Y2 rfl rfl uIB kIn ⟨_,rfl⟩ hkk ?_;rintro ei' ci' hput
     conv=>whnf
     refine ca ?_
     conv=>whnf
     have y:IntKind.i64.wrap ((j:Int)+1)=((j+1:Nat):Int):=by
      simp only[maxLen]at Sq;rw[bF aa aa];rfl
     have aJT:∀x,x∈ei'->mz x.1:=by
      intro x N;rcases hput with⟨i3,p3,B,g,rfl,_⟩|⟨_,rfl,_⟩
      . rcases aao N with N|rfl
        . exact hkk x N
        . exact⟨_,rfl⟩
      . rcases yl.1 N with N|N
        . exact hkk x N
        . rw[vv]at N;rw[N];exact⟨_,rfl⟩
     exact⟨af.length - (j+1),aa,j+1,o,J,ck,aa,(hM.inner PD CY (hnk.put hput) aJT).mono (ww _) aa,hei,⟨pe,hpe,hpk⟩,rfl,congrArg (λz=>[(0,V.w (oL 5 l)),(4,mV o),(5,iV .i64 (i:Int)),(16,.w (oL 5 l)),(17,iV .i64 (l.length:Int)),(18,iV .i64 (i:Int)),(27,.w (oL 1 af)),(28,iV .i64 (af.length:Int)),(29,iV .i64 z)]) y⟩
   . conv=>whnf
     refine ca ?_
     conv=>whnf
     have y:IntKind.i64.wrap ((i:Int)+1)=((i+1:Nat):Int):=by
      rw[bF aa aa];rfl
     exact⟨l.length - (i+1),aa,i+1,o,J,ck,aa,hM.mono (ww _) aa,hei,rfl,congrArg (λz=>[(0,V.w (oL 5 l)),(4,mV o),(16,.w (oL 5 l)),(17,iV .i64 (l.length:Int)),(18,iV .i64 z)]) y⟩
 . conv=>whnf
   have zj:i=l.length:=by
    have:¬ ((i:Int) < (l.length:Int)):=bc
    omega
   refine dl (ca ?_)
   conv=>whnf
   refine dl (my (BN [0,4,9] (IC l) J.length ⟨o,J,ck,_,[],hM.mono aa aa,.inl ⟨rfl,rfl⟩,λe H=>by simp at H,by simp only[ac0];omega,rfl,rfl⟩ ?_));rintro m K F c ⟨o,J,ck,v,M,hM,aqF,hxs,n,rfl,rfl⟩;refine dl (dl (ca ?_))
   conv=>whnf
   refine TP (id:=o) rfl hM.rg.out uOM ?_
   conv=>whnf
   refine rh (b:=decide ((J.length:Int) > 0)) rfl (λh=>rf ?_) (λh=>xP ?_)
   . conv=>whnf
     refine my (dl (ca ?_))
     conv=>whnf
     refine agG (MD l J o v F c) (my (BN [0,4,9,10] (ID l o v F c) l.length ⟨0,aa,rfl,aa,rfl,rfl⟩ ?_)) ?_
     . rintro m K w r ⟨k,Z,rfl,D,rfl,rfl⟩;refine dl (dl (ca ?_))
       conv=>whnf
       refine rh (b:=decide ((k:Int) < (l.length:Int))) rfl (λh=>rf ?_) (λh=>xP ?_)
       . have BJ:k < l.length:=bc
         conv=>whnf
         refine my (dl (dl (ca ?_)))
         conv=>whnf
         refine N8 (id:=o) rfl hM.rg.out rfl uOM zMp kIn ⟨_,rfl⟩ hM.acQ (λi2 p hp2 xB=>?_) (λP=>?_)
         . have PD:=oo hp2;obtain⟨_,_,id,ei,ci,CY,aDb,Y2,hnk,hkk⟩:=hM.rg.O9 p PD;rw[CY]
           conv=>whnf
           refine dl (ca ?_)
           conv=>whnf
           refine TP (id:=id) rfl Y2 uIB ?_
           conv=>whnf
           refine rh (b:=((ei.length:Int)==0)) rfl (λh=>xP ?_) (λh=>rf ?_)
           . conv=>whnf
             exact⟨k,Z,λ_=>⟨p,PD,xB⟩,rfl,aa,rfl⟩
           . conv=>whnf
             refine ca ?_
             conv=>whnf
             have y:IntKind.i64.wrap ((k:Int)+1)=((k+1:Nat):Int):=by
              rw[bF aa aa];rfl
             exact⟨l.length - (k+1),aa,k+1,aa,rfl,aa,rfl,congrArg (λz=>[(0,V.w (oL 5 l)),(4,mV o),(9,v),(10,iV .i64 z)]) y⟩
         . conv=>whnf
           refine dl (ca ?_)
           conv=>whnf
           refine rh (b:=false) rfl (λh=>absurd h av) (λh=>rf ?_)
           conv=>whnf
           refine ca ?_
           conv=>whnf
           have y:IntKind.i64.wrap ((k:Int)+1)=((k+1:Nat):Int):=by
            rw[bF aa aa];rfl
           exact⟨l.length - (k+1),aa,k+1,aa,rfl,aa,rfl,congrArg (λz=>[(0,V.w (oL 5 l)),(4,mV o),(9,v),(10,iV .i64 z)]) y⟩
       . conv=>whnf
         exact⟨k,Z,λY=>by simp at h;omega,rfl,aa,rfl⟩
     . rintro K w r ⟨k,Z,hkey,rfl,D,hkeep⟩;refine P6 [0,4,9,10] ?_;rw[hkeep];clear hkeep;refine dl (dl (ca ?_))
       conv=>whnf
       refine rh (b:=((k:Int)== (l.length:Int))) rfl (λh=>dl (ca ?_)) (λh=>rf ?_)
       . conv=>whnf
         refine Ns ?_
         conv=>whnf
         exact⟨[.one (.t (.val (.slice none 0 0))),oB false],[.one (.t (.val (.slice none 0 0))),oB false],rfl,rfl,[oL 1 [],oB false],.cons (.one (.nil 1)) (.cons (.one (.refl _)) .nil),rfl,[],false,rfl,λe H=>by simp at H⟩
       . have BJ:k < l.length:=by
          have:(k:Int)≠ (l.length:Int):=bc
          omega
         obtain⟨pk,hpk,aJB⟩:=hkey BJ
         conv=>whnf
         refine dl (ca ?_)
         conv=>whnf
         refine aAW (id:=o) rfl hM.rg.out rfl uOM kIn hM.acQ hM.nk ?_
         conv=>whnf
         have Y5:=hM.del (k:Int);have hM3:=Y5.erase (k:Int);refine dl (P6 [0,4,9,10] ?_);refine Xh (es:=er (k:Int) J) (ck:=ck) (o:=o) (kk:=(k:Int)) uOM uIB kIn Y5.rg rfl rfl (λt v s=>?_) ?_
         . have:=Df s;simp only[aak,aa6,or_false]at this;omega
         . have hel:=aDX hpk aJB
           have akH:DP v (hE (Sa (er (k:Int) J)) (k:Int) (jB w o (.mp (er (k:Int) J) ck))) c M:=by
            refine aqF.of (ww _) (λq L G d=>KI ?_);rw[bO,if_neg]
            . exact d
            . rintro rfl;rw[hM.rg.out]at d;simp at d
           generalize hE (Sa (er (k:Int) J)) (k:Int) (jB w o (.mp (er (k:Int) J) ck))=d at hM3 akH⊢
           conv=>whnf
           refine ca ?_;refine aAT (v:=v) (kk:=(k:Int)) rfl rfl (akH.of ?_ (λ_ _ _ h=>h)) aa ?_
           . omega
           . intro YZ v3 ho3 hm3
             conv=>whnf
             refine⟨(er (k:Int) J).length,hel,o,er (k:Int) J,ck,v3,M++[[tI (k:Int)]],?_,ho3,?_,?_,rfl,rfl⟩
             . exact(hM3.mono (ww _) aa).heap hm3 |>.mono (ww _) aa
             . intro e H;rcases yl.1 H with H|H
               . exact hxs e H
               . rw[vv]at H;exact⟨_,H⟩
             . simp only[XV,aco];omega
   . conv=>whnf
     refine dl (ca ?_);rcases aqF with⟨rfl,rfl⟩|⟨tZ,O,rfl,B⟩
     . conv=>whnf
       refine Ns ?_
       conv=>whnf
       exact⟨[.one (.t (.val (.slice none 0 0))),oB true],[.one (.t (.val (.slice none 0 0))),oB true],rfl,rfl,[oL 1 [],oB true],.cons (.one (.nil 1)) (.cons (.one (.refl _)) .nil),rfl,[],true,rfl,λe H=>by simp at H⟩
     . conv=>whnf
       refine Ns ?_
       conv=>whnf
       refine⟨[.one (.own tZ 1 0 M.length),oB true],[oL 1 M,oB true],rfl,?_,[oL 1 M,oB true],mI.refl _,rfl,M,true,rfl,hxs⟩;have hfr:=kO (i:=0) (len:=M.length) B rfl aa;have e:((M.drop 0).take M.length)=M:=ak
       rw[e]at hfr;simp only[bB,hfr];rfl
def xf(l:Lz)(c:∀e,e∈l->ES e)(U:l.length<=1000000):Tg 123 [oL 5 l] aED:=aS (vL l c U)
def RQ.aBZ{Q:Lt->Prop}{i:Nat}(I:(i:Int) < (xs.length:Int))(U:xs.length<=maxLen)(h:Pre Q xs i)(hq:∀e,xs[((i:Int)).toNat]? =some e->Q e):RQ Q xs (xs.length - (i+1)) [iV .i64 (IntKind.i64.wrap ((i:Int)+1))]:=by
 have l:i < xs.length:=aa
 have S:xs[((i:Int)).toNat]? =some xs[i]:=agc
 exact RQ.next I U h S (hq _ S)
def lu(l:Lz):Prop:=l.length<=16/\ ∀e,e∈l->Ti (l.length:Int) e
def uc(l:Lz)(a:Int)(c:∀e,e∈l->ES e)(U:l.length<=maxLen):Tg 75 [oL 5 l,oI a] (X9 1 (λ_=>(0<=a-> ∀e,e∈l->ahI a e)/\lu l)):=by
 refine aS ?_;refine aC Tryz.func75 ?_
 repeat' ((conv=>whnf);first|refine bZz (λh=>?_) (λh=>?_)|(refine aD rfl (vK l _ a c U aa aa) ?_;rintro _ ⟨e,rfl,D⟩)|(refine aD rfl (xf l c aa) ?_;rintro _ ⟨N,b,rfl,d⟩)|exact eL rfl (dy 1 rfl) (cv rfl) ⟨_,_,rfl,λz=>absurd z aa⟩|exact eL rfl (cv rfl) (cv rfl) ⟨_,_,rfl,λ_=>⟨λL e H=>(F.all aa e H).1 L,aa,λe H=>(F.all aa e H).2⟩⟩|(apply aV [0,1,14,15] [] [15] (RQ (λe=>(0<=a->ahI a e)/\Ti (l.length:Int) e) l) (l.length) [iV .i64 0];(iterate 3 exact ae);exact RQ.zero;rintro _ _ ⟨i,I,F,rfl,rfl⟩)|(refine aI [0,1,14,15] [] ?_;(conv=>whnf);exact⟨rfl,_,[_],RQ.aBZ aa U F (λe H=>⟨λL=>(D aa).1 L e H,(D aa).2 e H⟩),rfl,rfl,rfl,aa⟩))
def ROw(N:Nat)(xs:Lz)(m:Nat)(vs:List V)(w:List (Lz)):Prop:= ∃ (i:Nat) (M:Lz),i<=xs.length/\m=xs.length - i/\vs=[iV .i64 (i:Int)]/\w=[M]/\M.length=N/\Bs M
def ROw.next{N:Nat}{i:Nat}(I:(i:Int) < (xs.length:Int))(U:xs.length<=maxLen)(A:zs.length=N)(K:Bs zs):ROw N xs (xs.length - (i+1)) [iV .i64 (IntKind.i64.wrap ((i:Int)+1))] [zs]:=
 ⟨i+1,zs,aa,rfl,by simp only[maxLen]at U;rw[bF aa aa];rfl,rfl,A,K⟩
def RTk(zs:Lz)(m:Nat)(vs:List V)(w:List (Lz)):Prop:= ∃i:Nat,i<=zs.length/\m=zs.length - i/\vs=[iV .i64 (i:Int)]/\w=[zs]
def RTk.next{i:Nat}(I:(i:Int) < (zs.length:Int))(U:zs.length<=maxLen):RTk zs (zs.length - (i+1)) [iV .i64 (IntKind.i64.wrap ((i:Int)+1))] [zs]:=
 ⟨i+1,aa,rfl,by simp only[maxLen]at U;rw[bF aa aa];rfl,rfl⟩
def lF(s:ByteArray)(w L ps us v J:Lz)(l:eu s w L ps us v J):Tg 49 [dV s w L ps us v J] (oq (λn=>n=0->N1 w L ps us v J/\lu J)):=by
 have g:=l.PF;have G:=l.Km;refine aC Tryz.func49 ?_
 repeat' ((conv=>whnf);first|refine bZz (λh=>?_) (λh=>?_)|refine And.intro ⟨aa,aa,by have:=(Z aa).1.2.1;omega,by have:=(Z aa).1.2.1;omega⟩ ?_|(refine aG (xs:=c) R aa aa ?_;rintro _ ⟨x,rfl,P,a⟩ O)|(refine aG (xs:=J) (λe H=>(⟨l.hos e H,(B aa).1 aa e H⟩:ES e/\ahI us.length e)) aa aa ?_;rintro _ ⟨_,nm,om,ot,Y,c,rfl,r,R⟩ S)|refine And.intro ⟨aa,aa⟩ ?_|(refine aD rfl (mc s w L ps us v J l) ?_;rintro _ ⟨e,rfl,Z⟩)|(refine aD rfl (uc J us.length l.hos l.PF) ?_;rintro _ ⟨N,o,rfl,B⟩)|(refine cu (xs:=F) rfl D aa ?_;rintro _ ⟨b,rfl⟩ y)|(refine cu (xs:=M) rfl K aa ?_;rintro _ ⟨b,rfl⟩ y)|(refine jX rfl rfl (λz=>?_);first|(exfalso;omega)|exact⟨Z aa,(B aa).2⟩)|(apply bp [53,54,55] [] [55] [(4,1)] (RTk M) (M.length) [iV .i64 0];(iterate 3 exact ae);exact .cons (aL.aM (xs:=M) rfl _) .nil;exact⟨0,aa,rfl,rfl,rfl⟩;rintro _ _ _ ⟨q,d,rfl,rfl,rfl⟩)|(refine aI [53,54,55] [] ?_;(conv=>whnf);exact⟨rfl,_,[_],_,.cons (aL.aM (xs:=M) rfl _) .nil,RTk.next aa aa,rfl,rfl,aa⟩)|(apply bp [6,35,36,37,42,43,44] [] [44] [(4,1)] (ROw us.length c) (c.length) [iV .i64 0];(iterate 3 exact ae);exact .cons (aL.aM (xs:=M) rfl _) .nil;exact⟨0,M,aa,rfl,rfl,rfl,A,K⟩;rintro _ _ _ ⟨j,F,Q,rfl,rfl,rfl,U,D⟩)|(refine aI [6,35,36,37,42,43,44] [] ?_;(conv=>whnf);exact⟨rfl,_,[_],_,.cons (aL.aM (aL.set (xs:=F) rfl _ [tB _]) _) .nil,ROw.next aa r (by simp[U]) (D.set _ _),rfl,rfl,aa⟩)|(apply bp [6,35,36,37] [] [37] [(4,1)] (ROw us.length J) (J.length) [iV .i64 0];(iterate 3 exact ae);exact .cons (aL.aM (aL.replicate _ [tB false]) _) .nil;exact⟨0,_,aa,rfl,rfl,rfl,ak,Bs.Tn _ _⟩;rintro _ _ _ ⟨i,M,I,rfl,rfl,rfl,A,K⟩)|(refine aI [6,35,36,37] [] ?_;(conv=>whnf);exact⟨rfl,_,[_],_,.cons (aL.aM (xs:=F) rfl _) .nil,ROw.next aa g U D,rfl,rfl,aa⟩))
def AP(s:ByteArray)(w L ps us v J:Lz)(l:eu s w L ps us v J):Tg 49 [dV s w L ps us v J] (oq (λn=>n=0->N1 w L ps us v J)):=by
 obtain⟨Z,O,Y,n,rfl,B⟩:=lF s w L ps us v J l;exact⟨_,O,Y,n,rfl,λh=>(B h).1⟩
end Go.aW.Cd
namespace Go.aW
open Go
variable{P:Program}{M A:agt}{ρ:Env}{F:agt}{st:St}{a:Act}{w:World}
variable{ctr sz:Nat}{us:Lw}{rows:Lq}
def eo.aA3{tm:TS}{hp:HS}{szr:Nat}{e:Lc}(tZ j sz:Nat)(R:find hp tZ=some (.row szr [e]))(Q:e[j]? =some (.t dw)):
 eo tm hp ctr tm ((ctr,.row sz [])::jB hp tZ (.row szr [e.set j (.own ctr sz 0 0)])) (ctr+4):=by
 intro M A ρ n a w J;have hfr:ρ ctr=none:=J.fresh ctr (ww _);have cI:dD ρ (dr ρ ctr .dQ):=dD.jB hfr;have P:∀ {id:Nat},id≠ctr->dr ρ ctr .dQ id=ρ id:=λD=>by simp[dr,D]
 refine⟨A,dr ρ ctr .dQ,⟨J.size,J.defers,λu v l=>(J.tmps u v l).keeps (dS.refl _ _) (λ_ _=>rfl) cI,λid o G=>?_,λid id' o gU b O Y y U=>?_,λid D=>?_,J.bound,J.may,J.dR⟩,cI.T6,fZ.refl M A w⟩
 . simp only[aF]at G;split at G
   . rename_i Z;subst Z;simp only[ii]at G;subst G;exact⟨ak,.inr ⟨by simp[dr],rfl⟩⟩
   . simp only[bO]at G;split at G
     . rename_i Z;subst Z;rw[R]at G;simp only[wv,ii]at G;subst G;have z:=(J.heap _ _ R).keeps (dS.refl _ _) (λ_ _=>rfl) cI (λ_ h=>h) (λ_ _=>rfl);obtain⟨O,Y⟩:=z;refine⟨λr hel=>?_,?_⟩
       . simp only[vv]at hel;subst hel;rw[abn];exact O e ak
       . rcases Y with⟨b,c,t,s,L,H,S,k5,k6⟩|⟨_,B⟩
         . refine .inl ⟨b,c,t,s,L,H,S,C1,λi r jj q I d=>?_⟩
           cases i with
           |succ i=>simp at I
           |zero=>
            simp only[yq,ii]at I;subst I
            by_cases Tz:j=jj
            . subst Tz;have F:=(jl.1 Q).1;rw[aaj F,ii]at d;subst d;obtain⟨x,N,hrc,hcell⟩:=k6 0 e j _ rfl Q;refine⟨x,N,?_,hcell⟩;have hrt:RT w A dw x:=hrc;cases hrt;exact .inr ⟨by simp[dr],rfl,rfl,rfl⟩
            . rw[aam Tz]at d;exact k6 0 e jj q rfl d
         . simp at B
     . exact(J.heap id o G).keeps (dS.refl _ _) (λ_ _=>rfl) cI (λ_ h=>h) (λ_ _=>rfl)
 . have old:∀ {q:Nat} {bl:bE},find ((ctr,bE.row sz [])::jB hp tZ (.row szr [e.set j (.own ctr sz 0 0)])) q=some bl->q≠ctr-> ∃AB,find hp q=some AB:=by
    intro q bl d hqc;simp only[aF]at d;rw[if_neg (λe=>hqc e.symm)]at d;simp only[bO]at d;split at d
    . rename_i Z;subst Z;exact⟨_,R⟩
    . exact⟨_,d⟩
   have n1:id≠ctr:=by intro e;subst e;simp[dr]at y
   have n2:id'≠ctr:=by intro e;subst e;simp[dr]at U
   obtain⟨g,g1⟩:=old O n1;obtain⟨K,g2⟩:=old Y n2;rw[P n1]at y;rw[P n2]at U;exact J.inj id id' g K b g1 g2 y U
 . simp only[bJ]at D;rw[P aa];exact J.fresh id V2
def Iu{f:FuncId}{ts:Lw}{hp:HS}{v:V}(id:Nat)(l:v.cR=true)(hT:wm ts=true)(R:find hp id=some (.row sz rows))(U:bB (bM [(id,bE.row sz rows)]) us=some ts)(hfn:Fn P f ts [] v []):
 dI P f us hp ctr v (del hp id) (ctr+4):=by
 intro M A ρ a w n L o J N
 have z:=Rel.forget J (st':=⟨n,L,[(id,.row sz rows)]⟩) rfl (λ_ _ h=>h) (λk b G=>by
  simp only[aF]at G;split at G
  . rename_i e;subst e;rw[<-G];exact R
  . simp[find]at G)
 let B:Nat->Prop:=λb=>A b/\ρ id≠some (.gD b)
 have hx':DJ w B ρ ts o.toList:=⟨(iR U).trans N.1,λk u x g yA=>by
  obtain⟨c,D,hlc⟩:=eZ U k u g
  exact ja z (B:=B) (λb G=>G.1) (λk H b Z I F=>by
   simp only[aF]at Z;split at Z
   . rename_i e;subst e;exact F.2 I
   . simp[find]at Z) hlc (N.2 k c x D yA) ρ⟩
 have S:Rel M B ρ (bJ ctr) ⟨n,L,del hp id⟩ a w:=Rel.shrink (hp:=del hp id) J (λb G=>G.1) (λk b Z=>by
  rw[dG]at Z;split at Z
  . simp at Z
  . exact Z) (λk H b Z I=>by
  rw[dG]at Z;split at Z
  . simp at Z
  . rename_i Q;refine⟨(HX (J.heap k H Z) I).1,λY=>?_⟩;exact Q (J.inj k id H _ b Z R I Y))
 refine(j7 (gH (hp:=del hp id) (ctr:=ctr) l hT hfn) M B ρ a w n L o S hx').mono ?_;rintro e j ⟨x,d,s,O,y,K,r3,r4,r5⟩;refine⟨x,d,s,O,y,K,r3,r4,λb r hM=>r5.1 b ⟨r,λY=>hM ((J.heap id _ R).lt Y).2.1⟩ hM,λb G Y=>(r5.2 b G Y).1⟩
def qC{f:FuncId}{ts:Lw}{hp:HS}{K:V->HS->Nat->Prop}{Good:Lw->Prop}(id:Nat)(L:wm ts=true)(R:find hp id=some (.row sz rows))(U:bB (bM [(id,bE.row sz rows)]) us=some ts)
 (h: ∃rs,Fn P f ts [] (aR rs) []/\(aR rs).cR=true/\Good rs) (Z:∀rs,Good rs->K (aR rs) (del hp id) (ctr+4)): ∃v hp' c',dI P f us hp ctr v hp' c'/\K v hp' c':=by
 obtain⟨rs,O,Y,B⟩:=h;exact⟨_,_,_,Iu id Y L R U O,Z rs B⟩
end Go.aW
namespace Go.aW.Cd
open Go Go.Proofs
abbrev atV(n:Nat)(e:Lt):Prop:=(0<=nI 0 e/\nI 0 e < (n:Int))/\0<=nI 2 e/\nI 2 e < (n:Int)
def uD(s:ByteArray)(w L ps us v J:Lz)(hp:∀e,e∈ps->Ta e)(a b:Int):Tg 121 [dV s w L ps us v J,oI a,oI b] (GBt (0<=a/\a < (ps.length:Int))):=by
 refine aC Tryz.func121 ?_
 repeat' ((conv=>whnf);first|refine aJ (λh=>?_) (λh=>?_)|(refine aG (xs:=ps) hp aa aa ?_;rintro _ ⟨nm,B,g,j,U,F,d,rfl,A,⟨H,r⟩,⟨K,_⟩,⟨D,y⟩,M,O⟩ S)|(refine Wn rfl rfl ?_;first|(intro _;exact⟨aa,aa⟩)|(intro R;simp at R)))
def GM(s:ByteArray)(w L ps us v J:Lz)(l:eu s w L ps us v J):Tg 74 [dV s w L ps us v J] (oq (λn=>n=0->N1 w L ps us v J/\ ∀e,e∈v->atV ps.length e)):=by
 have Z:=l.eX;have o:=l.Km;have FF:=l.Sb;refine aC Tryz.func74 ?_
 repeat' ((conv=>whnf);first|refine bZz (λh=>?_) (λh=>?_)|refine cT (aa7 _) aa ?_|(refine aG (xs:=ps) l.hps aa aa ?_;rintro _ ⟨nm,B,g,x,U,R,P,rfl,hnm,⟨H,r⟩,⟨K,_⟩,⟨D,y⟩,M,ni⟩ S)|(refine aG (xs:=us) l.iG aa aa ?_;rintro _ ⟨a,b,c,rfl⟩ S)|(refine aG (xs:=v) l.hss aa aa ?_;rintro _ ⟨a,b,c,d,q,f,rfl⟩ O)|refine And.intro ag ?_|refine And.intro aa ?_|(refine aD rfl (pO s w L ps us v J l) ?_;rintro _ ⟨e,rfl,hW⟩)|(refine aN rfl (pP _ (dH l.hps _ _) (jt Z _ _) nm B g x U R P hnm H r K D y M ni) ?_;rintro _ ⟨e,rfl⟩)|(refine aD rfl (uD s w L ps us v J l.hps a b) ?_;rintro _ ⟨bb1,rfl,sX⟩)|(refine aD rfl (uD s w L ps us v J l.hps c d) ?_;rintro _ ⟨bb2,rfl,Y⟩)|(refine jX rfl rfl (λz=>?_);first|(exfalso;omega)|exact⟨⟨hW aa,F.all aa⟩,A.all aa⟩)|(apply aV [1,64,65,66] [] [66] (RQ (atV ps.length) v) (v.length) [iV .i64 0];(iterate 3 exact ae);exact RQ.zero;rintro _ _ ⟨G,hi2,A,rfl,rfl⟩)|(refine aI [1,64,65,66] [] ?_;(conv=>whnf);exact⟨rfl,_,[_],RQ.next aa FF A O ⟨sX (dM ai),Y (dM ai)⟩,rfl,rfl,rfl,aa⟩)|(apply aV [1,35,36,37] [] [37] (RUs us ps.length) (us.length) [iV .i64 0];(iterate 3 exact ae);exact⟨0,aa,λj e Q=>by omega,rfl,rfl⟩;rintro _ _ ⟨i,I,F,rfl,rfl⟩)|(refine aI [1,35,36,37] [] ?_;(conv=>whnf);exact⟨rfl,_,[_],RUs.next aa o F S aa aa aa aa,rfl,rfl,rfl,aa⟩)|(apply aV [1,17,18,19] [] [19] (RI ps.length) (ps.length) [iV .i64 0];(iterate 3 exact ae);exact RI.zero;rintro _ _ ⟨i,I,rfl,rfl⟩)|(refine aI [1,17,18,19] [] ?_;(conv=>whnf);exact⟨rfl,_,[_],RI.succ (N:=ps.length) (i:=i) aa Z,rfl,rfl,rfl,aa⟩))
def OT{es:Lz}(h:yo es):cO (jJ es)/\(jJ es).length<=1000000:=by
 obtain⟨_,_,K,_⟩:=h;exact⟨K.Ma.1,by have:=K.Ma.2;omega⟩
def RAr(row:Lt)(N:Nat)(m:Nat)(vs:List V)(w:List (Lz)):Prop:= ∃ (i:Nat) (M:Lz),i<=N/\m=N - i/\vs=[bD 8 1 M.length,iV .i64 (i:Int)]/\w=[[row],M]/\Is M/\M.length<=i
variable{zs l j gs:Lz}{a g:Lt}
def Is.aBf(h:Is zs)(v:Int):Is (zs++[[tI v]]):=λe H=>by
 rcases yl.1 H with H|H
 . exact h e H
 . simp only[vv]at H;subst H;exact⟨v,rfl⟩
def KC(nm:T)(es:Lz)(g:T)(j cs F:Lz)(d:T)(w:kz es)(r:es.length<=maxLen)(D:cO cs)(y:cs.length<=maxLen)(ks:Lz)(Z:Is ks)(K:ks.length<=100):Tg 126 [YO nm es g j cs F d,oL 1 ks] (X9 1 (λzs=>Is zs)):=by
 refine aS ?_;refine aC Tryz.func126 ?_
 repeat' ((conv=>whnf);first|refine bZz (λh=>?_) (λh=>?_)|(refine aG (xs:=ks) Z aa aa ?_;rintro _ ⟨m,rfl⟩ S)|refine And.intro ⟨by simp[tr],by simp[tr,bh];omega,by simp[tr,maxLen];omega⟩ ?_|(refine aD rfl (gP nm es g j cs F d _ w r D y) ?_;rintro _ ⟨c,e,rfl,J⟩)|(refine aD rfl (mB c (J aa).1.2.1 R9) ?_;rintro _ ⟨Q,o,rfl,L⟩)|(obtain⟨rfl,x⟩:=L aa;refine aD rfl (uK _ (OT x).1 (OT x).2) ?_;rintro _ ⟨n,rfl⟩)|exact eL rfl (dy 1 rfl) (cv rfl) ⟨_,_,rfl,λz=>absurd z aa⟩|exact eL rfl (df rfl rfl (xs:=zs) rfl aa) (cv rfl) ⟨_,_,rfl,λ_=>by rw[cD rfl];exact A⟩|(apply cL [2,6,13,14,15] [] [6,15] [(4,7),(8,1)] (RAr (Tp nm es g j cs F d) ks.length) (ks.length) [bD 8 1 0,iV .i64 0] (eo.dQ 6 1 rfl);(iterate 3 exact ae);exact .cons (aL.aM (xs:=[Tp nm es g j cs F d]) rfl _) (.cons (aL.aM aL.nil _) .nil);exact⟨0,[],aa,rfl,rfl,rfl,(λe H=>by simp at H),ak⟩;rintro _ _ _ ⟨i,zs,I,rfl,rfl,rfl,A,N⟩)|(refine aI [2,6,13,14,15] [] ?_;(conv=>whnf);exact⟨rfl,_,[_,_],_,.cons (aL.aM (xs:=[Tp nm es g j cs F d]) rfl _) (.cons (aL.aM (aL.snoc (xs:=zs) rfl [tI _]) _) .nil),⟨i+1,_,aa,rfl,by rw[bF aa aa];simp[tr],rfl,A.aBf _,by simp;omega⟩,rfl,rfl,aa⟩))
def aGd:lc Tryz.prog 201=some true:=ag
def zGd:dc Tryz.prog 201=some 3:=ag
def NY(e:Lt):Prop:= ∃a b c,e=[tB a,tB b,tI c]
def BZ(nm:T)(es:Lz)(g:T)(j cs F:Lz)(d:T)(w:kz es)(r:es.length<=maxLen)(D:cO cs)(P:cs.length<=maxLen)(y:Is F)(O:F.length<=maxLen)(m:Int): ∃ts,Fn Tryz.prog 77 [YO nm es g j cs F d,oI m] [] (aR ts) []/\(aR ts).cR=true/\(λts=> ∃a b c,ts=[.agg [.t (tB a),.t (tB b),.t (tI c)]]) ts:=by
 refine aC Tryz.func77 ?_
 repeat' ((conv=>whnf);first|refine bZz (λh=>?_) (λh=>?_)|(refine aG (xs:=M) (A aa) aa aa ?_;rintro _ ⟨n,rfl⟩ S)|(refine aD rfl (gP nm es g j cs F d m w r D P) ?_;rintro _ ⟨N,e,rfl,J⟩)|(refine aD rfl (rR N F (J aa).1.2.1 R9 y O) ?_;rintro _ ⟨l,o,rfl,_⟩)|(refine qC 120 rfl (by rfl) (by rfl) (KC nm es g j cs F d w r D P [[tI m]] (λe H=>⟨m,C0⟩) ak) ?_;rintro _ ⟨M,G,rfl,A⟩)|exact gC rfl aGd zGd rfl rfl ak rfl ⟨_,_,_,rfl⟩)
def BY(L I:Bool)(g:Int)(N Q:Bool)(K:Int):Tg 80 [.agg [.t (tB L),.t (tB I),.t (tI g)],.agg [.t (tB N),.t (tB Q),.t (tI K)]] GB:=by
 refine aC Tryz.func80 ?_
 repeat' ((conv=>whnf);first|refine aP (λh=>?_) (λh=>?_)|exact gB rfl rfl)
def I3(zs:Lz):Prop:= ∀e,e∈zs-> ∃a b c,e=[tI a,tI b,tI c]
def I3.nil:I3 []:=λe H=>by simp at H
def I3.snoc(h:I3 zs)(a b c:Int):I3 (zs++[[tI a,tI b,tI c]]):=λe H=>by
 rcases yl.1 H with H|H
 . exact h e H
 . simp only[vv]at H;exact⟨a,b,c,H⟩
def I3.ya{ys:Lz}(h:I3 zs)(k:I3 ys):I3 (zs++ys):=λe H=>(yl.1 H).elim (h e) (k e)
def I3.flat{xs:Lz}{p:Lz->Prop}(h:∀xs,p xs->I3 xs):∀xs,p xs->(bE.row 3 (tr xs)).flat=true:=by
 intro xs F;have h:=h xs F;simp only[bE.flat,tr,yt,aad];rintro r ⟨e,H,rfl⟩;obtain⟨a,b,c,rfl⟩:=h e H;intro q d;simp only[aaq,abh,aak,aa6,or_false]at d;rcases d with rfl|rfl|rfl<;>rfl
def BQ{F a:Lz}{y:Lt}:aL (tr F++(y.map C.t::tr a)) (F++y::a):=by simp[aL,tr]
def wg{hp:HS}{id sz len:Nat}{xs:Lz}(R:find hp id=some (.row sz (tr xs)))(U:len=xs.length):tu hp (.own id sz 0 len)=some (sz,tr xs):=by
 subst U;have n:(tr xs).length=xs.length:=iC
 show elems hp (.own id sz 0 xs.length)=_;simp only[elems,R,aas,n,ww,and_self,if_true,acg];rw[aac aa]
def aEy(tb:Lz):Prop:=tb.length<=12/\ ∀e,e∈tb-> ∃c,e=[.aO 3 c]/\(∀q,q∈c->NY q)/\c.length<=12
def ROt(tb:Lz)(m:Nat)(vs:List V)(w:List (Lz)):Prop:= ∃ (i:Nat) (F o:Lz),i<=tb.length/\m=tb.length - i/\vs=[bD 4 3 F.length,bD 8 3 o.length,iV .i64 (i:Int)]/\w=[F,o]/\(I3 F/\F.length<=i * 100)/\I3 o/\o.length<=i * 100
def ROi(gs:Lz)(b:Nat)(m:Nat)(vs:List V)(w:List (Lz)):Prop:= ∃ (j:Nat) (F o:Lz),j<=gs.length/\m=gs.length - j/\vs=[bD 4 3 F.length,bD 8 3 o.length,iV .i64 (j:Int)]/\w=[F,o]/\(I3 F/\F.length<=b * 100+j)/\I3 o/\o.length<=b * 100+j
def AJ(tb:Lz)(g:aEy tb): ∃ts N,yw Tryz.prog 78 [oL 1 tb] (aR ts) N/\GN 3 (λzs=>I3 zs/\zs.length<=10000) ts N:=by
 have U:=g.1;refine jc Tryz.func78 ?_
 repeat' ((conv=>whnf);first|refine bZz (λh=>?_) (λh=>?_)|(refine aG (xs:=tb) g.2 aa aa ?_;rintro _ ⟨c,rfl,r,P⟩ S)|(refine aG (xs:=c) r aa aa ?_;rintro _ ⟨e,l,n,rfl⟩ O)|refine And.intro ⟨by simp[tr],by simp[tr,bh];omega,by simp[tr,maxLen];omega⟩ ?_|(have K:=x.2;simp only[aaa]at K;refine And.intro ⟨by simp[tr],by simp[tr,bh];omega,by simp[tr,maxLen];omega⟩ ?_)|(have Y:¬ (i:Int) < (tb.length:Int):=ai;clear Y;rcases o with _|⟨d,b⟩)|rw[wg (xs:=d::b) rfl rfl]|exact gN rfl rfl rfl (xs:=F) rfl rfl ⟨Z.1,aa⟩|exact gN rfl rfl rfl (xs:=F++d::b) BQ iC ⟨Z.1.ya x.1,by simp at x;simp;omega⟩|(apply bp [3,4,5,9,10,11,16,17,18] [] [3,4,18] [(4,3),(8,3)] (ROi c i) (c.length) [bD 4 3 F.length,bD 8 3 o.length,iV .i64 0];(iterate 3 exact ae);exact .cons (aL.aM (xs:=F) rfl _) (.cons (aL.aM (xs:=o) rfl _) .nil);exact⟨0,F,o,aa,rfl,rfl,rfl,Z,x⟩;rintro _ _ _ ⟨j,A,B,Q,rfl,rfl,rfl,D,a⟩)|(refine aI [3,4,5,9,10,11,16,17,18] [] ?_;(conv=>whnf);first|exact⟨rfl,_,[_,_,_],_,.cons (aL.aM (aL.snoc (xs:=A) rfl [tI _,tI _,tI _]) _) (.cons (aL.aM (xs:=B) rfl _) .nil),⟨j+1,_,_,aa,rfl,by rw[bF aa aa];simp[tr],rfl,⟨D.1.snoc _ _ _,by simp;omega⟩,a.1,aa⟩,rfl,rfl,aa⟩|exact⟨rfl,_,[_,_,_],_,.cons (aL.aM (xs:=A) rfl _) (.cons (aL.aM (aL.snoc (xs:=B) rfl [tI _,tI _,tI _]) _) .nil),⟨j+1,_,_,aa,rfl,by rw[bF aa aa];simp[tr],rfl,⟨D.1,aa⟩,a.1.snoc _ _ _,by simp;omega⟩,rfl,rfl,aa⟩|exact⟨rfl,_,[_,_,_],_,.cons (aL.aM (xs:=A) rfl _) (.cons (aL.aM (xs:=B) rfl _) .nil),⟨j+1,_,_,aa,rfl,by rw[bF aa aa];rfl,rfl,⟨D.1,aa⟩,a.1,aa⟩,rfl,rfl,aa⟩)|(apply cL [3,4,9,10,11] [] [3,4,11] [(4,3),(8,3)] (ROt tb) (tb.length) [bD 4 3 0,bD 8 3 0,iV .i64 0] (eo.trans (eo.dQ 3 3 rfl) (eo.dQ 4 3 rfl));(iterate 3 exact ae);exact .cons (aL.aM aL.nil _) (.cons (aL.aM aL.nil _) .nil);exact⟨0,[],[],aa,rfl,rfl,rfl,⟨I3.nil,ak⟩,I3.nil,ak⟩;rintro _ _ _ ⟨i,F,o,I,rfl,rfl,rfl,Z,x⟩)|(refine aI [3,4,9,10,11] [] ?_;(conv=>whnf);exact⟨rfl,_,[_,_,_],_,.cons (aL.aM (xs:=A) rfl _) (.cons (aL.aM (xs:=B) rfl _) .nil),⟨i+1,_,_,aa,rfl,by rw[bF aa aa];rfl,rfl,⟨D.1,aa⟩,a.1,aa⟩,rfl,rfl,aa⟩))
def RUn(N:Nat)(row:Lt)(n:Nat)(m:Nat)(vs:List V)(w:List (Lz)):Prop:= ∃ (i:Nat) (M:Lz),i<=N/\m=N - i/\vs=[iV .i64 (i:Int)]/\w=[[row],M]/\Bs M/\M.length=n
def RUm(n:Nat)(m:Nat)(vs:List V)(w:List (Lz)):Prop:= ∃ (i:Nat) (M Y:Lz),i<=n/\m=n - i/\vs=[bD 8 3 Y.length,iV .i64 (i:Int)]/\w=[M,Y]/\(Bs M/\M.length=n)/\I3 Y/\Y.length<=i
def D0(s:ByteArray)(l v ps us w J:Lz)(R:ps.length<=12)(r:us.length<=12)(L:∀e,e∈us->UOk ps.length e):Tg 81 [dV s l v ps us w J] (GL 3 (λzs=>I3 zs/\zs.length<=12)):=by
 refine aS ?_;refine aC Tryz.func81 ?_
 repeat' ((conv=>whnf);first|refine bZz (λh=>?_) (λh=>?_)|(refine aG (xs:=us) L aa aa ?_;rintro _ ⟨a,b,c,rfl,⟨H,g⟩,_⟩ S)|refine And.intro ⟨by simp[tr],by simp[tr,bh];omega,by simp[tr,maxLen];omega⟩ ?_|refine And.intro ⟨aa,aa,aa,aa⟩ ?_|refine And.intro ⟨aa,aa⟩ ?_|(refine cu (xs:=F) rfl d.1 aa ?_;rintro _ ⟨z,rfl⟩ y)|(refine cu (xs:=zs) rfl x aa ?_;rintro _ ⟨z,rfl⟩ y)|exact nt rfl (df rfl rfl (xs:=Y) rfl aa) ⟨_,rfl,by rw[cD rfl];exact⟨G.1,aa⟩⟩|(apply cL [3,6,26,27] [] [6,27] [(4,1),(8,3)] (RUm ps.length) (ps.length) [bD 8 3 0,iV .i64 0] (eo.dQ 6 3 rfl);(iterate 3 exact ae);exact .cons (aL.aM (xs:=zs) rfl _) (.cons (aL.aM aL.nil _) .nil);exact⟨0,zs,[],aa,rfl,rfl,rfl,⟨x,N⟩,I3.nil,ak⟩;rintro _ _ _ ⟨j,F,Y,Q,rfl,rfl,rfl,d,G⟩)|(refine aI [3,6,26,27] [] ?_;(conv=>whnf);first|exact⟨rfl,_,[_,_],_,.cons (aL.aM (xs:=F) rfl _) (.cons (aL.aM (aL.snoc (xs:=Y) rfl [tI _,tI _,tI _]) _) .nil),⟨j+1,_,_,aa,rfl,by rw[bF aa aa];simp[tr],rfl,d,G.1.snoc _ _ _,by simp;omega⟩,rfl,rfl,aa⟩|exact⟨rfl,_,[_,_],_,.cons (aL.aM (xs:=F) rfl _) (.cons (aL.aM (xs:=Y) rfl _) .nil),⟨j+1,_,_,aa,rfl,by rw[bF aa aa];rfl,rfl,d,G.1,aa⟩,rfl,rfl,aa⟩)|(apply bp [1,3,13,14,15] [] [15] [(4,7),(8,1)] (RUn us.length [.val (.string s),.aO 1 l,.aO 1 v,.aO 7 ps,.aO 3 us,.aO 6 w,.aO 5 J] ps.length) (us.length) [iV .i64 0];(iterate 3 exact ae);exact .cons (aL.aM (xs:=[[.val (.string s),.aO 1 l,.aO 1 v,.aO 7 ps,.aO 3 us,.aO 6 w,.aO 5 J]]) rfl _) (.cons (aL.aM (aL.replicate _ [tB false]) _) .nil);exact⟨0,_,aa,rfl,rfl,rfl,Bs.Tn _ _,ak⟩;rintro _ _ _ ⟨i,zs,I,rfl,rfl,rfl,x,N⟩)|(refine aI [1,3,13,14,15] [] ?_;(conv=>whnf);exact⟨rfl,_,[_],_,.cons (aL.aM (xs:=[[.val (.string s),.aO 1 l,.aO 1 v,.aO 7 ps,.aO 3 us,.aO 6 w,.aO 5 J]]) rfl _) (.cons (aL.aM (aL.set (xs:=zs) rfl _ [tB _]) _) .nil),⟨i+1,_,aa,rfl,by rw[bF aa aa];rfl,rfl,x.set _ _,by simp[N]⟩,rfl,rfl,aa⟩))
def Af(a b:Lt):Prop:=nI 0 a < nI 0 b\/(nI 0 a=nI 0 b/\(nI 1 a < nI 1 b\/(nI 1 a=nI 1 b/\nI 2 a < nI 2 b)))
def Af.irr(h:Af a a):False:=by
 unfold Af at h;omega
def Af.tr{b c:Lt}(h:Af a b)(k:Af b c):Af a c:=by
 unfold Af at h k⊢;omega
abbrev SS(l:Lz):Prop:=l.Pairwise Af
def SS.ext:∀ {l m:Lz},SS l->SS m->(∀x,x∈l↔x∈m)->l=m
 | [],[],_,_,_=>rfl
 | [],y::m,_,_,h=>by have:=(h y).2 ak;simp at this
 |x::l,[],_,_,h=>by have:=(h x).1 ak;simp at this
 |x::l,y::m,U,r,h=>by
  have I:=acw.1 U;have a:=acw.1 r
  have b:x=y:=by
   rcases aak.1 ((h x).1 ak)with e|hx
   . exact e
   . rcases aak.1 ((h y).2 ak)with e|hy
     . exact e.symm
     . exact((a.1 x hx).tr (I.1 y hy)).irr.elim
  subst b
  have:l=m:=SS.ext I.2 a.2 λz=>by
   constructor
   . intro A;rcases aak.1 ((h z).1 (by simp[A]))with e|MN
     . subst e;exact(I.1 z A).irr.elim
     . exact MN
   . intro A;rcases aak.1 ((h z).2 (by simp[A]))with e|MN
     . subst e;exact(a.1 z A).irr.elim
     . exact MN
  rw[this]
structure cC(got l more:Lz):Prop where
 g:SS got
 sl:SS l
 m:SS more
 d:∀x,x∈l->x∈more->False
 i:∀x,x∈got↔x∈l\/x∈more
def cC.nil{l j:Lz}(h:cC [] l j):l=[]/\j=[]:=by
 constructor
 . cases l with
   |nil=>rfl
   |cons x l=>have:=(h.i x).2 (.inl ak);simp at this
 . cases j with
   |nil=>rfl
   |cons x l=>have:=(h.i x).2 (.inr ak);simp at this
def cC.swap{d:Lz}(h:cC d l j):cC d j l:=⟨h.g,h.m,h.sl,λx a b=>h.d x b a,λx=>(h.i x).trans Or.comm⟩
def cC.left(h:cC (g::gs) l j)(hg:g∈l): ∃A,l=g::A/\cC gs A j:=by
 have F:=acw.1 h.g
 match l,h,hg with
 |x::A,h,hg=>
  have U:=acw.1 h.sl
  have N:x=g:=by
   rcases aak.1 ((h.i x).2 (.inl ak))with e|N
   . exact e
   . rcases aak.1 hg with e|hg
     . exact e.symm
     . exact((F.1 x N).tr (U.1 g hg)).irr.elim
  subst N;refine⟨A,rfl,F.2,U.2,h.m,λy a b=>h.d y afs b,λy=>?_⟩;constructor
  . intro G;rcases(h.i y).1 aga with k|k
    . rcases aak.1 k with rfl|k
      . exact(F.1 _ G).irr.elim
      . exact .inl k
    . exact .inr k
  . rintro(k|k)
    . rcases aak.1 ((h.i y).2 (.inl (by simp[k])))with rfl|r
      . exact(U.1 _ k).irr.elim
      . exact r
    . rcases aak.1 ((h.i y).2 (.inr k))with rfl|r
      . exact(h.d _ hg k).elim
      . exact r
def cC.right(h:cC (g::gs) l j)(hg:g∉l): ∃m',j=g::m'/\cC gs l m':=by
 rcases(h.i g).1 ak with k|k
 . exact absurd k hg
 . obtain⟨m',O,Y⟩:=h.swap.left k;exact⟨m',O,Y.swap⟩
def cC.len:∀ {d l j:Lz},cC d l j->d.length=l.length+j.length
 | [],l,j,h=>by
   obtain⟨rfl,rfl⟩:=h.nil;rfl
 |g::c,l,j,h=>by
  by_cases D:g∈l
  . obtain⟨A,rfl,Y⟩:=h.left D;have:=Y.len;simp only[aaa];omega
  . obtain⟨A,rfl,Y⟩:=h.right D;have:=Y.len;simp only[aaa];omega
def kq(a b:Lt):Prop:=nI 0 a=nI 0 b/\nI 1 a=nI 1 b/\nI 2 a=nI 2 b
instance(a b:Lt):Decidable (kq a b):=by unfold kq;infer_instance
def yC(xs:Lz):Nat->Lz
 |0=>[]
 |n+1=>match xs[n]? with
  |none=>yC xs n
  |some e=>if n≠0/\kq ((xs[n - 1]?).getD []) e then yC xs n else yC xs n++[e]
abbrev SW(l:Lz):Prop:=l.Pairwise λa b=>a=b\/Af a b
def P8(xs:Lz):∀n,(yC xs n).length<=n
 |0=>by simp[yC]
 |n+1=>by
  have c:=P8 xs n;unfold yC;split
  . omega
  . split
    . omega
    . simp only[XV,aco];omega
def Xl{xs:Lz}(B:∀a b,a∈xs->b∈xs->kq a b->a=b)(h:SW xs):∀n,n<=xs.length->SS (yC xs n)/\ ∀z,z∈yC xs n↔z∈xs.take n
 |0,_=>by simp[yC]
 |n+1,K=>by
  obtain⟨w,o⟩:=Xl B h n aa;have H:xs[n]? =some xs[n]:=YI aa
  have r:∀z,z∈xs.take (n+1)↔z∈xs.take n\/z=xs[n]:=λz=>by
   rw[abw,H,Option.toList_some,yl,vv]
  have l:∀ (z:Lt) (i:Nat) (I:i < n),xs[i]=z->z=xs[n]\/Af z xs[n]:=λz i I e=>by
   rw[<-e];exact adn.1 h i n aa aa I
  have c:∀ (z:Lt),z∈xs.take n-> ∃i, ∃I:i < n,xs[i]=z:=λz A=>by
   obtain⟨i,I,e⟩:=ab9.1 A;simp only[aab]at I;simp only[List.getElem_take]at e;exact⟨i,aa,e⟩
  simp only[yC,H];split
  . rename_i D;obtain⟨s,Z⟩:=D;have F:xs[n - 1]? =some xs[n - 1]:=YI aa;rw[F,YJ]at Z;have j:=B _ _ (aaC aa) (aaC aa) Z;refine⟨w,λz=>?_⟩;rw[o,r];constructor
    . exact .inl
    . rintro(k|rfl)
      . exact k
      . rw[<-j,abu];exact⟨n - 1,aa,rfl⟩
  . rename_i D;refine⟨ado.2 ⟨w,ak,λz A y G=>?_⟩,λz=>?_⟩
    . simp only[vv]at G;subst G;obtain⟨i,I,e⟩:=c z ((o z).1 A);have g:n≠0:=aa
      have F:xs[n - 1]? =some xs[n - 1]:=YI aa;rw[F,YJ]at D;have P:xs[n - 1]≠xs[n]:=λe=>D ⟨g,by rw[e];exact⟨rfl,rfl,rfl⟩⟩
      have R:Af xs[n - 1] xs[n]:=by
       rcases l _ (n - 1) aa rfl with e|k
       . exact absurd e P
       . exact k
      by_cases M:i=n - 1
      . subst M;rw[<-e];exact R
      . rcases adn.1 h i (n - 1) aa aa aa with k|k
        . rw[<-e,k];exact R
        . rw[<-e];exact k.tr R
    . rw[yl,vv,o,r]
end Go.aW.Cd
namespace Go.aW.Cd
open Go Go.Proofs
def aEA(e:Lt):Prop:= ∃p q l s x d,e=[tI p,tI q,tI l,tI s,.aO 1 x,tB d]
abbrev Jb(xs:Lz):Prop:= ∀e,e∈xs->aEA e
def Tc(np nq:Nat)(e:Lt):Prop:=0<=nI 0 e/\nI 0 e < (np:Int)/\0<=nI 1 e/\nI 1 e < (nq:Int)
instance(np nq:Nat)(e:Lt):Decidable (Tc np nq e):=by unfold Tc;exact inferInstance
def EI(e1 e2 e3:Int)(np:Nat):Int:=if e1≠0 then e1 else if e2≠0 then e2 else if 40 < np then 5 else e3
def I9(M:Int)(np nq:Nat)(cuts:Lz):Int:=if M≠0 then M else if 2400 < cuts.length then 5 else if cuts.all (λc=>decide (Tc np nq c))=true then 0 else 3
section
variable{e1 e2 e3:Int}{np nq:Nat}{cuts:Lz}
def aK4(h:e1≠0):e1=I9 (EI e1 e2 e3 np) np nq cuts:=by simp[I9,EI,h]
def aK3(h:e1=0)(Y:e2≠0):e2=I9 (EI e1 e2 e3 np) np nq cuts:=by simp[I9,EI,h,Y]
def aK2(h:e1=0)(Y:e2=0)(B:40 < np):5=I9 (EI e1 e2 e3 np) np nq cuts:=by simp[I9,EI,h,Y,B]
def aK1(h:e1=0)(Y:e2=0)(B:np<=40)(g:e3≠0):e3=I9 (EI e1 e2 e3 np) np nq cuts:=by
 have a:¬40 < np:=aa
 simp[I9,EI,h,Y,a,g]
def aK0(h:e1=0)(Y:e2=0)(B:np<=40)(g:e3=0)(U:2400 < cuts.length):5=I9 (EI e1 e2 e3 np) np nq cuts:=by
 have a:¬40 < np:=aa
 simp[I9,EI,h,Y,a,g,U]
def aKZ(h:e1=0)(Y:e2=0)(B:np<=40)(g:e3=0)(U:cuts.length<=2400){i:Nat}{e:Lt}(S:cuts[i]? =some e)(K:¬Tc np nq e):3=I9 (EI e1 e2 e3 np) np nq cuts:=by
 have a:¬40 < np:=aa
 have j:¬2400 < cuts.length:=aa
 have R:¬ (cuts.all (λc=>decide (Tc np nq c))=true):=by
  intro w;have:=yt.1 w e (oo S);exact K (by simpa using this)
 simp only[I9,EI,h,Y,a,g,j,R,ne_eq,not_true_eq_false,if_false,aag]
def aKY(h:e1=0)(Y:e2=0)(B:np<=40)(g:e3=0)(U:cuts.length<=2400)(w:∀e,e∈cuts->Tc np nq e):0=I9 (EI e1 e2 e3 np) np nq cuts:=by
 have a:¬40 < np:=aa
 have j:¬2400 < cuts.length:=aa
 have R:cuts.all (λc=>decide (Tc np nq c))=true:=yt.2 (λe H=>by simpa using w e H);simp only[I9,EI,h,Y,a,g,j,R,ne_eq,not_true_eq_false,if_false,if_true]
end
def aEa{e1 e2 e3:Int}{np:Nat}(h:EI e1 e2 e3 np=0):e1=0/\e2=0/\np<=40/\e3=0:=by
 unfold EI at h;split at h
 . omega
 . split at h
   . omega
   . split at h
     . omega
     . refine⟨aa,aa,aa,h⟩
def aD9{M:Int}{np nq:Nat}{cuts:Lz}(h:I9 M np nq cuts=0):M=0/\cuts.length<=2400/\ ∀e,e∈cuts->Tc np nq e:=by
 unfold I9 at h;split at h
 . omega
 . split at h
   . omega
   . split at h
     . rename_i O Y B;exact⟨aa,aa,λe H=>by simpa using yt.1 B e H⟩
     . omega
def Br(s:ByteArray)(w L ps us v J:Lz)(ln r U c:Int)(sizes places plies P cuts:Lz)(e1 e2 e3:Int)(O:Te 49 [dV s w L ps us v J] [oI e1])(Y:Te 71 [dV s w L ps us v J,YP ln r U c sizes places] [oI e2])(B:Te 50 [pn ln r U c sizes places plies,oL 6 P] [oI e3])(D:Jb cuts)(y:cuts.length<=maxLen):Tg 41 [dV s w L ps us v J,pn ln r U c sizes places plies,oL 6 P,oL 6 cuts] (oq (λn=>n=I9 (EI e1 e2 e3 plies.length) plies.length places.length cuts)):=by
 refine aC Tryz.func41 ?_
 repeat' ((conv=>whnf);first|refine bZz (λh=>?_) (λh=>?_)|(refine aG (xs:=cuts) D aa aa ?_;rintro _ ⟨p,q,H,N,x,d,rfl⟩ S)|(refine aD rfl (O) ?_;rintro _ rfl)|(refine aD rfl (Y) ?_;rintro _ rfl)|(refine aD rfl (B) ?_;rintro _ rfl)|(refine jX rfl rfl ?_;first|exact aK4 aa|exact aK3 aa aa|exact aK2 aa aa aa|exact aK1 aa aa aa aa|exact aK0 aa aa aa aa aa|exact aKY aa aa aa aa aa (F.all aa)|exact aKZ aa aa aa aa aa S (λD=>by have g:(0:Int)<=p:=D.1;have K:p < (plies.length:Int):=D.2.1;have Q:(0:Int)<=q:=D.2.2.1;have z:q < (places.length:Int):=D.2.2.2;omega))|(apply aV [5,39,40,41] [] [41] (RQ (Tc plies.length places.length) cuts) (cuts.length) [iV .i64 0];(iterate 3 exact ae);exact RQ.zero;rintro _ _ ⟨i,I,F,rfl,rfl⟩)|(refine aI [5,39,40,41] [] ?_;(conv=>whnf);exact⟨rfl,_,[_],RQ.next aa y F S ⟨show(0:Int)<=p by omega,show p < (plies.length:Int) by omega,show(0:Int)<=q by omega,show q < (places.length:Int) by omega⟩,rfl,rfl,rfl,aa⟩))
end Go.aW.Cd
namespace Go.aW.Cd
open Go Go.Proofs
structure AF(sizes places plies:Lz):Prop where
 hz:Is sizes
 iF:sizes.length<=1000000
 hp:X3 places
 I7:places.length<=1000000
 hy:Pys plies
 iI:plies.length<=1000000
def DC(s:ByteArray)(w L ps us v J:Lz)(l:eu s w L ps us v J)(ln r U c:Int)(sizes places plies:Lz)(R:AF sizes places plies)(P:Lz)(G:I4 P)(b:P.length<=maxLen):
 ∃M:Int,(M=0->plies.length<=40/\kA sizes plies P P.length)/\ ∀cuts,Jb cuts->cuts.length<=maxLen->
  Te 41 [dV s w L ps us v J,pn ln r U c sizes places plies,oL 6 P,oL 6 cuts] [oI (I9 M plies.length places.length cuts)]:=by
 have O:=R.iF;have Y:=R.iI;obtain⟨e,F,A,H,rfl,_⟩:=AP s w L ps us v J l;obtain⟨I,d,j,o,rfl⟩:=HC s w L ps us v J l ln r U c sizes places R.hz bq R.hp R.I7;obtain⟨K,h,a,N,rfl,x⟩:=xX ln r U c sizes places plies P R.hz R.iF R.hy bq G b;refine⟨EI H o N plies.length,λz=>?_,λcuts D y=>?_⟩
 . obtain⟨_,_,B,g⟩:=aEa z;exact⟨B,x g⟩
 . obtain⟨Z,f,i,n,rfl,rfl⟩:=Br s w L ps us v J ln r U c sizes places plies P cuts H o N ⟨_,F,A,rfl⟩ ⟨_,d,j,rfl⟩ ⟨_,h,a,rfl⟩ D y;exact⟨_,f,i,rfl⟩
def xC(a P F size:Int)(c:Lt):Bool:=decide (nI 1 c=a)&&decide (nI 0 c=P)&& !nB 5 c&&decide (nI 2 c=F)&&decide (nI 3 c=size)
def SB(cuts:Lz)(P F size:Int)(j:Nat):Option Nat:=cuts.findIdx? (xC (j:Int) P F size)
def iA(g:Int)(a:Nat->Option Nat)(places:Lz):Nat->Option (Lz)
 |0=>some []
 |j+1=>match iA g a places j with
  |none=>none
  |some M=>match places[j]? with
   |none=>some M
   |some p=>if nI 0 p=g then match a j with
     |none=>none|some i=>some (M++[[tI (i:Int)]])
    else some M
def CA{g:Int}{a:Nat->Option Nat}{places:Lz}{j:Nat}(h:iA g a places j=none):∀d,iA g a places (j+d)=none
 |0=>h
 |d+1=>by
  have:=CA h d;rw[<-ab3];simp only[iA,this]
def aIm(o:Option (Lz)):Lw:=match o with
 |none=>[oL 1 [],oB false]|some M=>[oL 1 M,oB true]
def RPc(g:Int)(a:Nat->Option Nat)(places:Lz)(m:Nat)(vs:List V)(w:List (Lz)):Prop:=
 ∃ (j:Nat) (M:Lz),j<=places.length/\m=places.length - j/\vs=[bD 4 1 M.length,iV .i64 (j:Int)]/\w=[M]/\M.length<=j/\iA g a places j=some M
variable{g F size l s o:Int}{places zs cuts P sizes plies:Lz}{j n:Nat}{e c:Lt}
def RPc.skip{a:Nat->Option Nat}{p:Lt}(Q:(j:Int) < (places.length:Int))(U:places.length<=1000000)(N:zs.length<=j)(A:iA g a places j=some zs)(S:places[((j:Int)).toNat]? =some p)(hg:nI 0 p≠g):
 RPc g a places (places.length - (j+1)) [bD 4 1 zs.length,iV .i64 (IntKind.i64.wrap ((j:Int)+1))] [zs]:=by
 refine⟨j+1,zs,aa,rfl,by rw[bF aa aa];rfl,rfl,aa,?_⟩;have x:places[j]? =some p:=aA
 simp only[iA,A,x,if_neg hg]
def RPc.hit{a:Nat->Option Nat}{i:Nat}{p:Lt}(Q:(j:Int) < (places.length:Int))(U:places.length<=1000000)(N:zs.length<=j)(A:iA g a places j=some zs)(S:places[((j:Int)).toNat]? =some p)(hg:nI 0 p=g)(R:a j=some i)(K:n=zs.length+1):
 RPc g a places (places.length - (j+1)) [bD 4 1 n,iV .i64 (IntKind.i64.wrap ((j:Int)+1))] [zs++[[tI (i:Int)]]]:=by
 refine⟨j+1,zs++[[tI (i:Int)]],aa,rfl,by rw[bF aa aa];subst K;simp,rfl,by simp;omega,?_⟩;have x:places[j]? =some p:=aA
 simp only[iA,A,x,if_pos hg,R]
def aeN{P:Int}{i:Nat}(hp:Pre (λe=>¬ (xC (j:Int) P F size e=true)) cuts i)(S:cuts[((i:Int)).toNat]? =some e)(H:xC (j:Int) P F size e=true):SB cuts P F size j=some i:=by
 have x:cuts[i]? =some e:=aA
 unfold SB;rw[aec];obtain⟨l,J⟩:=jl.1 x;refine⟨l,by rw[J];exact H,λk Z=>?_⟩;have:=hp k cuts[k] Z (by simp[afg Z l]);simpa using this
def aeO{P:Int}(hp:∀e,e∈cuts->¬ (xC (j:Int) P F size e=true)):SB cuts P F size j=none:=by
 unfold SB;rw[List.findIdx?_eq_none_iff];intro e H;simpa using hp e H
def UY{a:Nat->Option Nat}{p:Lt}(Q:(j:Int) < (places.length:Int))(A:iA g a places j=some zs)(S:places[((j:Int)).toNat]? =some p)(hg:nI 0 p=g)(R:a j=none):iA g a places places.length=none:=by
 have x:places[j]? =some p:=aA
 have O:iA g a places (j+1)=none:=by simp only[iA,A,x,if_pos hg,R]
 have:=CA O (places.length - (j+1));rwa [show j+1+(places.length - (j+1))=places.length by omega]at this
def aqS{a P p q:Int}{rs:Lz}{d:Bool}(O:q=a)(Y:p=P)(B:(!d)=true)(g:l=F)(U:s=size):xC a P F size [tI p,tI q,tI l,tI s,.aO 1 rs,tB d]=true:=by
 subst O Y g U;simp[xC,nI,nB];simpa using B
def RCu(Q:Lt->Prop)(cuts zs:Lz)(m:Nat)(vs:List V)(w:List (Lz)):Prop:= ∃i:Nat,i<=cuts.length/\Pre Q cuts i/\m=cuts.length - i/\vs=[iV .i64 (-1),iV .i64 (i:Int)]/\w=[zs]
def RCu.next{Q:Lt->Prop}{i:Nat}(I:(i:Int) < (cuts.length:Int))(U:cuts.length<=maxLen)(h:Pre Q cuts i)(S:cuts[((i:Int)).toNat]? =some e)(hq:Q e):RCu Q cuts zs (cuts.length - (i+1)) [iV .i64 (-1),iV .i64 (IntKind.i64.wrap ((i:Int)+1))] [zs]:=
 ⟨i+1,aa,h.succ aA hq,rfl,by simp only[maxLen]at U;rw[bF aa aa];rfl,rfl⟩
def Bq(ln r U c:Int)(sizes places plies cuts:Lz)(hp:X3 places)(b:places.length<=1000000)(D:Jb cuts)(y:cuts.length<=maxLen)(g P F size:Int)(z:T)(s:0<=g)(J:0<=P)(x:plies[P.toNat]? =some [tI F,z])(G:sizes[g.toNat]? =some [tI size]): ∃ts,Fn Tryz.prog 42 [pn ln r U c sizes places plies,oL 6 cuts,oI g,oI P] [] (aR ts) []/\(aR ts).cR=true/\(λts=>ts=aIm (iA g (SB cuts P F size) places places.length)) ts:=by
 refine aS ?_;refine aC Tryz.func42 ?_
 repeat' ((conv=>whnf);first|refine bZz (λh=>?_) (λh=>?_)|refine And.intro J (Exists.intro _ (And.intro x ?_))|refine And.intro s (Exists.intro _ (And.intro G ?_))|(refine aG (xs:=places) hp aa aa ?_;rintro _ ⟨g2,w,v,d,q2,l,B,rfl⟩ S)|(refine aG (xs:=cuts) D aa aa ?_;rintro _ ⟨Z,q3,L,a,Y,n,rfl⟩ O)|refine And.intro ⟨by simp[tr],by simp[tr,bh];omega,by simp[tr,maxLen];omega⟩ ?_|refine And.intro ag ?_|exact eL rfl (dy 1 rfl) (cv rfl) (by rw[UY aa A S (show g2=g by omega) (aeO (o.all aa))];rfl)|exact eL rfl (df rfl rfl (xs:=M) rfl aa) (cv rfl) (by rw[cD rfl,show places.length=j by omega,A];rfl)|(apply bp [1,2,3,10,11,12,13,15,32,33,34,43,44,45] [] [15,45] [(4,1)] (RCu (λe=>¬ (xC (j:Int) P F size e=true)) cuts M) (cuts.length) [iV .i64 (-1),iV .i64 0];(iterate 3 exact ae);exact .cons (aL.aM (xs:=M) rfl _) .nil;exact⟨0,aa,Pre.zero,rfl,rfl,rfl⟩;rintro _ _ _ ⟨i,I,o,rfl,rfl,rfl⟩)|(refine aI [1,2,3,10,11,12,13,15,32,33,34,43,44,45] [] ?_;(conv=>whnf);exact⟨rfl,_,[_,_],_,.cons (aL.aM (xs:=M) rfl _) .nil,RCu.next aa y o O (by simp[xC,nI,nB];first|omega|simp_all),rfl,rfl,aa⟩)|(apply cL [1,2,3,10,11,12,32,33,34] [] [12,34] [(4,1)] (RPc g (SB cuts P F size) places) (places.length) [bD 4 1 0,iV .i64 0] (eo.dQ 12 1 rfl);(iterate 3 exact ae);exact .cons (aL.aM aL.nil _) .nil;exact⟨0,[],aa,rfl,rfl,rfl,ak,rfl⟩;rintro _ _ _ ⟨j,M,Q,rfl,rfl,rfl,N,A⟩)|(refine aI [1,2,3,10,11,12,32,33,34] [] ?_;(conv=>whnf);first|exact⟨rfl,_,[_,_],_,.cons (aL.aM (xs:=M) rfl _) .nil,RPc.skip aa b N A S ai,rfl,rfl,aa⟩|exact⟨rfl,_,[_,_],_,.cons (aL.aM (aL.snoc (xs:=M) rfl [tI _]) _) .nil,RPc.hit aa b N A S (show g2=g by omega) (aeN o O (aqS aa aa (by first|assumption|simp_all) aa aa)) iC,rfl,rfl,aa⟩))
def aBd:lc Tryz.prog 117=some true:=ag
def zBd:dc Tryz.prog 117=some 6:=ag
def I8(P:Lz)(a:Int):Option Lt:=P.find? (λe=>decide (nI 0 e=a))
def GFd(P:Lz)(a:Int)(ts:Lw):Prop:= ∃t g s l f o b,ts=[oBd t g s l f o,oB b]/\(b=true->I8 P a=some (mw t g s l f o))/\(b=false->I8 P a=none)
def RCv(Q:Lt->Prop)(cuts zs:Lz)(m:Nat)(vs:List V)(w:List (Lz)):Prop:= ∃i:Nat,i<=cuts.length/\Pre Q cuts i/\m=cuts.length - i/\vs=[iV .i64 (i:Int)]/\w=[zs]
def RCv.next{Q:Lt->Prop}{i:Nat}(I:(i:Int) < (cuts.length:Int))(U:cuts.length<=maxLen)(h:Pre Q cuts i)(S:cuts[((i:Int)).toNat]? =some e)(hq:Q e):RCv Q cuts zs (cuts.length - (i+1)) [iV .i64 (IntKind.i64.wrap ((i:Int)+1))] [zs]:=
 ⟨i+1,aa,h.succ aA hq,rfl,by simp only[maxLen]at U;rw[bF aa aa];rfl,rfl⟩
def aeJ{a:Int}{i:Nat}(hp:Pre (λe=>¬ (nI 0 e=a)) P i)(S:P[((i:Int)).toNat]? =some e)(H:nI 0 e=a):I8 P a=some e:=by
 have x:P[i]? =some e:=aA
 unfold I8;rw[aem];obtain⟨l,J⟩:=jl.1 x;refine⟨C0,i,l,J,λj Q=>?_⟩;have:=hp j P[j] Q (by simp[afg Q l]);simpa using this
def Ww{a:Int}(hp:∀e,e∈P->¬ (nI 0 e=a)):I8 P a=none:=by
 unfold I8;rw[List.find?_eq_none];intro e H;simpa using hp e H
def EM(P:Lz)(a:Int)(G:I4 P)(b:P.length<=maxLen):Tg 83 [oL 6 P,oI a] (GFd P a):=by
 refine aS ?_;refine aC Tryz.func83 ?_
 repeat' ((conv=>whnf);first|refine aJ (λh=>?_) (λh=>?_)|(refine aG (xs:=P) G aa aa ?_;rintro _ ⟨g,g2,w,K,d,D,rfl⟩ S)|exact eL rfl (cc aBd zBd rfl rfl (ww _) rfl (dm.refl _)) (cv rfl) ⟨_,_,_,_,_,_,_,rfl,λ_=>aeJ F S (show g=a by omega),λh=>by simp at h⟩|exact eL rfl (cc aBd zBd rfl rfl (ww _) rfl (dm.refl _)) (cv rfl) ⟨0,0,0,0,0,0,false,rfl,λh=>by simp at h,λ_=>Ww (F.all aa)⟩|(apply bp [1,4,8,9,10] [] [10] [(4,6)] (RCv (λe=>¬ (nI 0 e=a)) P [mw 0 0 0 0 0 0]) (P.length) [iV .i64 0];(iterate 3 exact ae);exact .cons (aL.aM (xs:=[mw 0 0 0 0 0 0]) rfl _) .nil;exact⟨0,aa,Pre.zero,rfl,rfl,rfl⟩;rintro _ _ _ ⟨i,I,F,rfl,rfl,rfl⟩)|(refine aI [1,4,8,9,10] [] ?_;(conv=>whnf);exact⟨rfl,_,[_],_,.cons (aL.aM (xs:=[mw 0 0 0 0 0 0]) rfl _) .nil,RCv.next aa b F S (show ¬ (g=a) by omega),rfl,rfl,aa⟩))
def ey(plies:Lz)(P:Int):Int:=nI 0 ((plies[P.toNat]?).getD [])
def E8(sizes:Lz)(g:Int):Int:=nI 0 ((sizes[g.toNat]?).getD [])
def JR(sizes places plies cuts:Lz)(g P:Int):Option (Lz):=iA g (SB cuts P (ey plies P) (E8 sizes g)) places places.length
def GPc(o:Option (Lz))(ts:Lw):Prop:= ∃M b,ts=[oL 1 M,oB b]/\(b=true->o=some M)/\(b=false->o=none)
def Fk(ln r U c:Int)(sizes places plies:Lz)(R:AF sizes places plies)(cuts:Lz)(D:Jb cuts)(y:cuts.length<=maxLen)(g P:Int)(N:0<=g)(J:g < (sizes.length:Int))(w:0<=P)(d:P < (plies.length:Int)):
 Tg 42 [pn ln r U c sizes places plies,oL 6 cuts,oI g,oI P] (GPc (JR sizes places plies cuts g P)):=by
 have F:plies[P.toNat]? =some plies[P.toNat]:=by simp[show P.toNat < plies.length by omega]
 have S:sizes[g.toNat]? =some sizes[g.toNat]:=by simp[show g.toNat < sizes.length by omega]
 obtain⟨a,z,x⟩:=R.hy plies[P.toNat] (aaC _);obtain⟨B,G⟩:=R.hz sizes[g.toNat] (aaC _);rw[x]at F;rw[G]at S;have H:ey plies P=a:=by simp only[ey,F,YJ];rfl
 have o:E8 sizes g=B:=by simp only[E8,S,YJ];rfl
 obtain⟨Z,f,i,rfl⟩:=Bq ln r U c sizes places plies cuts R.hp R.I7 D y g P a B _ N w F S;refine⟨_,f,i,?_⟩;unfold JR;rw[H,o]
 cases iA g (SB cuts P a B) places places.length with
 |none=>exact⟨[],false,rfl,λh=>by simp at h,λ_=>rfl⟩
 |some M=>exact⟨M,true,rfl,λ_=>rfl,λh=>by simp at h⟩
abbrev fm(t p s l:Int)(pcs:Lz):Lt:=[tI t,tI p,tI s,tI l,.aO 1 pcs]
def mO(sizes places plies cuts:Lz)(e:Lt):Nat->Lz
 |0=>[]
 |n+1=>mO sizes places plies cuts e n++(match JR sizes places plies cuts (nI 1 e) (nI 4 e+(n:Int))with
  |none=>[]
  |some w=>[fm (nI 0 e) (nI 4 e+(n:Int)) (nI 2 e) (ey plies (nI 4 e+(n:Int))) w])
def iM(sizes places plies cuts P:Lz):Nat->Lz
 |0=>[]
 |k+1=>iM sizes places plies cuts P k++(match P[k]? with
  |none=>[]
  |some e=>mO sizes places plies cuts e (nI 5 e - nI 4 e).toNat)
def Ck(sizes places plies cuts:Lz)(e:Lt):∀n,(mO sizes places plies cuts e n).length<=n
 |0=>by simp[mO]
 |n+1=>by
  have:=Ck sizes places plies cuts e n;simp only[mO,XV];split<;>simp<;>omega
def ZD(sizes plies:Lz)(e:Lt):Prop:= ∃t g s l f o,e=mw t g s l f o/\(0<=g/\g < (sizes.length:Int))/\0<=f/\f < o/\o<=(plies.length:Int)
def rq(G:I4 P)(h:kA sizes plies P P.length):∀e,e∈P->ZD sizes plies e:=by
 intro e H;obtain⟨j,Q,a⟩:=aa3 H;obtain⟨t,g,s,l,f,o,rfl⟩:=G e H;have:=h j (mw t g s l f o) Q (by rw[YI Q,a]);exact⟨t,g,s,l,f,o,rfl,this.g,this.f.1,this.f.2.1,this.f.2.2⟩
def Ci{sizes places plies cuts P:Lz}(hp:plies.length<=40)(h:∀e,e∈P->ZD sizes plies e):∀k,(iM sizes places plies cuts P k).length<=40 * k
 |0=>by simp[iM]
 |k+1=>by
  have c:=Ci hp h k (places:=places) (cuts:=cuts);simp only[iM,XV]
  cases hk:P[k]? with
  |none=>simp;omega
  |some e=>
   obtain⟨t,g,s,l,f,o,rfl,D,O,Y,B⟩:=h e (oo hk);have:=Ck sizes places plies cuts (mw t g s l f o) (nI 5 (mw t g s l f o) - nI 4 (mw t g s l f o)).toNat;have H:nI 5 (mw t g s l f o)=o:=rfl;have U:nI 4 (mw t g s l f o)=f:=rfl;simp only[H,U]at this⊢;omega
def ahS(c:Lt)(sizes places plies cuts P:Lz)(m:Nat)(vs:List V)(w:List (Lz)):Prop:=
 ∃ (k:Nat) (M:Lz),k<=P.length/\m=P.length - k/\vs=[bD 8 5 M.length,iV .i64 (k:Int)]/\w=[[c],M]/\M=iM sizes places plies cuts P k/\M.length<=40 * k
def NR(c:Lt)(sizes places plies cuts P:Lz)(k:Nat)(e:Lt)(f o:Int)(m:Nat)(vs:List V)(w:List (Lz)):Prop:=
 ∃ (n:Nat) (M:Lz),(n:Int)<=o - f/\m=(o - f).toNat - n/\vs=[bD 8 5 M.length,iV .i64 (f+(n:Int))]/\w=[[c],M,[e]]/\M=iM sizes places plies cuts P k++mO sizes places plies cuts e n/\M.length<=40 * k+n
def ahS.next{k:Nat}{t f:Int}(Z:(k:Int) < (P.length:Int))(b:P.length<=1000000)(hp:plies.length<=40)(M:∀e,e∈P->ZD sizes plies e)(S:P[((k:Int)).toNat]? =some (mw t g s l f o))(K:(n:Int)=o - f)
 (A:zs=iM sizes places plies cuts P k++mO sizes places plies cuts (mw t g s l f o) n):ahS c sizes places plies cuts P (P.length - (k+1)) [bD 8 5 zs.length,iV .i64 (IntKind.i64.wrap ((k:Int)+1))] [[c],zs]:=by
 have x:P[k]? =some (mw t g s l f o):=aA
 have e:zs=iM sizes places plies cuts P (k+1):=by
  rw[A];simp only[iM,x];have H:nI 5 (mw t g s l f o)=o:=rfl;have U:nI 4 (mw t g s l f o)=f:=rfl;rw[H,U,show(o - f).toNat=n by omega]
 refine⟨k+1,zs,aa,rfl,by rw[bF aa aa];rfl,rfl,e,?_⟩;rw[e];exact Ci hp M (k+1)
def NR.skip{k:Nat}{t f:Int}(K:f+(n:Int) < o)(R:0<=f)(d:o<=40)(A:zs=iM sizes places plies cuts P k++mO sizes places plies cuts (mw t g s l f o) n)(N:zs.length<=40 * k+n)
 (hp:JR sizes places plies cuts g (f+(n:Int))=none):NR c sizes places plies cuts P k (mw t g s l f o) f o ((o - f).toNat - (n+1)) [bD 8 5 zs.length,iV .i64 (IntKind.i64.wrap (f+(n:Int)+1))] [[c],zs,[mw t g s l f o]]:=by
 refine⟨n+1,zs,aa,rfl,by rw[bF aa aa,show f+((n+1:Nat):Int)=f+(n:Int)+1 by omega],rfl,?_,aa⟩;rw[A]
 have e:mO sizes places plies cuts (mw t g s l f o) (n+1)=mO sizes places plies cuts (mw t g s l f o) n++(match JR sizes places plies cuts g (f+(n:Int))with
  |none=>[]
  |some w=>[fm t (f+(n:Int)) s (ey plies (f+(n:Int))) w]):=rfl
 rw[e,hp];simp
def NR.ya{x:Lz}{k q:Nat}{t f lo:Int}{z:T}(K:f+(n:Int) < o)(R:0<=f)(d:o<=40)(A:zs=iM sizes places plies cuts P k++mO sizes places plies cuts (mw t g s l f o) n)(N:zs.length<=40 * k+n)
 (hp:JR sizes places plies cuts g (f+(n:Int))=some x) (U:plies[(f+(n:Int)).toNat]? =some [tI lo,z]) (hq:q=zs.length+1):
 NR c sizes places plies cuts P k (mw t g s l f o) f o ((o - f).toNat - (n+1)) [bD 8 5 q,iV .i64 (IntKind.i64.wrap (f+(n:Int)+1))] [[c],zs++[fm t (f+(n:Int)) s lo x],[mw t g s l f o]]:=by
 refine⟨n+1,zs++[fm t (f+(n:Int)) s lo x],aa,rfl,by subst hq;rw[bF aa aa,show f+((n+1:Nat):Int)=f+(n:Int)+1 by omega];simp,rfl,?_,by simp;omega⟩;rw[A]
 have e:mO sizes places plies cuts (mw t g s l f o) (n+1)=mO sizes places plies cuts (mw t g s l f o) n++(match JR sizes places plies cuts g (f+(n:Int))with
  |none=>[]
  |some w=>[fm t (f+(n:Int)) s (ey plies (f+(n:Int))) w]):=rfl
 have r:ey plies (f+(n:Int))=lo:=by simp only[ey,U,YJ];rfl
 rw[e,hp,r];simp
def aaU(ck:Int)(gs:Lz):Lw:=if ck=0 then [oL 5 gs,oI 0]else [oL 5 [],oI ck]
def II(B:ByteArray)(w L ps us v J:Lz)(ln r U c:Int)(sizes places plies P cuts:Lz)(R:AF sizes places plies)(G:I4 P)(Y:P.length<=1000000)(D:Jb cuts)(y:cuts.length<=maxLen)(ck:Int)(O:Te 41 [dV B w L ps us v J,pn ln r U c sizes places plies,oL 6 P,oL 6 cuts] [oI ck])(I:ck=0->plies.length<=40/\ ∀e,e∈P->ZD sizes plies e): ∃ts,Fn Tryz.prog 18 [dV B w L ps us v J,pn ln r U c sizes places plies,oL 6 P,oL 6 cuts] [] (aR ts) []/\(aR ts).cR=true/\(λts=>ts=aaU ck (iM sizes places plies cuts P P.length)) ts:=by
 refine aS ?_;refine aC Tryz.func18 ?_
 repeat' ((conv=>whnf);first|refine bZz (λh=>?_) (λh=>?_)|(refine aG (xs:=P) (I aa).2 aa aa ?_;rintro _ ⟨t,g,s,l,f,o,rfl,⟨Q,hg1⟩,hf0,hfo,a⟩ S)|(refine aG (xs:=plies) R.hy aa aa ?_;rintro _ ⟨H,q2,rfl⟩ z)|refine And.intro ⟨by simp[tr],by simp[tr,bh];omega,by simp[tr,maxLen];omega⟩ ?_|refine And.intro ag ?_|(refine aD rfl (O) ?_;rintro _ rfl)|(refine aD rfl (Fk ln r U c sizes places plies R cuts D y g (f+(n:Int)) aa aa aa aa) ?_;rintro _ ⟨pz,j,rfl,b,d⟩)|exact eL rfl (dy 5 rfl) (cv rfl) (by simp only[aaU];rw[if_neg aa])|exact eL rfl (df rfl rfl (xs:=M) rfl aa) (cv rfl) (by rw[cD rfl,A,show k=P.length by omega];simp only[aaU];rw[if_pos aa])|(apply bp [3,5,11,13,14,25,26,27] [] [11,14] [(4,7),(8,5),(12,6)] (NR (iE ln r U c sizes places plies) sizes places plies cuts P k (mw t g s l f o) f o) ((o - f).toNat) [bD 8 5 M.length,iV .i64 f];(iterate 3 exact ae);exact .cons (aL.aM (xs:=[iE ln r U c sizes places plies]) rfl _) (.cons (aL.aM (xs:=M) rfl _) (.cons (aL.aM (xs:=[mw t g s l f o]) rfl _) .nil));exact⟨0,M,aa,aa,ak,rfl,by rw[A];simp[mO],aa⟩;rintro _ _ _ ⟨n,F,K,rfl,rfl,rfl,x,acZ⟩)|(refine aI [3,5,11,13,14,25,26,27] [] ?_;(conv=>whnf);first|exact⟨rfl,_,[_,_],_,.cons (aL.aM (xs:=[iE ln r U c sizes places plies]) rfl _) (.cons (aL.aM (xs:=F) rfl _) (.cons (aL.aM (xs:=[mw t g s l f o]) rfl _) .nil)),NR.skip aa hf0 (by have:=(I aa).1;omega) x acZ (d Vn),rfl,rfl,aa⟩|exact⟨rfl,_,[_,_],_,.cons (aL.aM (xs:=[iE ln r U c sizes places plies]) rfl _) (.cons (aL.aM (aL.snoc (xs:=F) rfl (fm _ _ _ _ _)) _) (.cons (aL.aM (xs:=[mw t g s l f o]) rfl _) .nil)),NR.ya aa hf0 (by have:=(I aa).1;omega) x acZ (b Vn) z iC,rfl,rfl,aa⟩)|(apply cL [3,5,11,25,26,27] [] [11,27] [(4,7),(8,5)] (ahS (iE ln r U c sizes places plies) sizes places plies cuts P) (P.length) [bD 8 5 0,iV .i64 0] (eo.dQ 11 5 rfl);(iterate 3 exact ae);exact .cons (aL.aM (xs:=[iE ln r U c sizes places plies]) rfl _) (.cons (aL.aM aL.nil _) .nil);exact⟨0,[],aa,rfl,rfl,rfl,rfl,ak⟩;rintro _ _ _ ⟨k,M,Z,rfl,rfl,rfl,A,N⟩)|(refine aI [3,5,11,25,26,27] [] ?_;(conv=>whnf);exact⟨rfl,_,[_,_],_,.cons (aL.aM (xs:=[iE ln r U c sizes places plies]) rfl _) (.cons (aL.aM (xs:=F) rfl _) .nil),ahS.next aa Y (I aa).1 (I aa).2 S (n:=n) aa x,rfl,rfl,aa⟩))
end Go.aW.Cd
namespace Go.aW.Cd
open Go Go.Proofs
def j8(xs:Lz)(i:Int):Lt:=(xs[i.toNat]?).getD []
def je{xs:Lz}{i:Int}{e:Lt}(h:xs[i.toNat]? =some e):j8 xs i=e:=by simp only[j8,h,YJ]
def uA(used pcs:Lz):Nat->Lz
 |0=>used
 |j+1=>match pcs[j]? with
  |none=>uA used pcs j|some e=>(uA used pcs j).set (nI 0 e).toNat [tB true]
def fA(cuts:Lz)(n:Nat)(pcs:Lz):Nat->Lz
 |0=>List.replicate n [tB false]
 |j+1=>match pcs[j]? with
  |none=>fA cuts n pcs j|some e=>(fA cuts n pcs j).set (nI 1 (j8 cuts (nI 0 e))).toNat [tB true]
structure POq(places plies cuts:Lz)(garment gp gs:Int)(u f:Lz)(i:Int):Prop where
 r:0<=i/\i < (cuts.length:Int)
 u:nB 0 (j8 u i)=false
 f:nB 0 (j8 f (nI 1 (j8 cuts i)))=false
 l:nI 2 (j8 cuts i)=ey plies gp
 d:nB 5 (j8 cuts i)=false
 p:nI 0 (j8 cuts i)=gp
 s:nI 3 (j8 cuts i)=gs
 g:nI 0 (j8 places (nI 1 (j8 cuts i)))=garment
def auW(places plies cuts:Lz)(garment gp gs:Int)(used pcs:Lz)(j:Nat):Prop:=
 ∀k e,k < j->pcs[k]? =some e->POq places plies cuts garment gp gs (uA used pcs k) (fA cuts places.length pcs k) (nI 0 e)
structure vf(places plies cuts:Lz)(garment gp gs:Int)(used pcs:Lz):Prop where
 all:auW places plies cuts garment gp gs used pcs pcs.length
 full:∀ (k:Nat) (p:Lt),places[k]? =some p->nI 0 p=garment->nB 0 (j8 (fA cuts places.length pcs pcs.length) (k:Int))=true
section
variable{places plies cuts:Lz}{garment gp gs:Int}{used pcs zu zf:Lz}{i:Int}{ju jf jp j:Nat}{p3 q3 l3 s3 lo:Int}{r3:Lz}{d3 b1 b2:Bool}{qq:T}
def aoI(z:0<=i)(O:i < (cuts.length:Int))(S:cuts[i.toNat]? =some [tI p3,tI q3,tI l3,tI s3,.aO 1 r3,tB d3])(b:zu[ju]? =some [tB b1])(g:ju=i.toNat)(H:b1=false)(c:zf[jf]? =some [tB b2])(d:jf=q3.toNat)(o:b2=false)
 (Z:plies[gp.toNat]? =some [tI lo,qq]) (r:l3=lo) (Y:d3=false) (h:p3=gp) (es:s3=gs) {a:Lt} (R:places[q3.toNat]? =some a) (e:nI 0 a=garment):POq places plies cuts garment gp gs zu zf i:=by
 subst g d H o r Y h es;have L:=je S;have N:j8 zu i=[tB false]:=je b;have y:j8 zf q3=[tB false]:=je c;have l:j8 places q3=a:=je R;have v:ey plies p3=l3:=by simp only[ey,Z,YJ];rfl
 refine⟨⟨z,O⟩,by rw[N];rfl,?_,by rw[L,v];rfl,by rw[L];rfl,by rw[L];rfl,by rw[L];rfl,?_⟩
 . rw[L];show nB 0 (j8 zf q3)=false;rw[y];rfl
 . rw[L];show nI 0 (j8 places q3)=garment;rw[l];exact e
variable(h:POq places plies cuts garment gp gs zu zf i)
include h
def aBB(b:zu[ju]? =some [tB b1])(g:ju=i.toNat):b1=false:=by
 subst g;have:=h.u;rw[je b]at this;exact this
def aBA(S:cuts[i.toNat]? =some [tI p3,tI q3,tI l3,tI s3,.aO 1 r3,tB d3])(c:zf[jf]? =some [tB b2])(d:jf=q3.toNat):b2=false:=by
 subst d;have:=h.f;rw[je S]at this;have Y:nB 0 (j8 zf q3)=false:=this;rw[je c]at Y;exact Y
def aBz(S:cuts[i.toNat]? =some [tI p3,tI q3,tI l3,tI s3,.aO 1 r3,tB d3])(Z:plies[gp.toNat]? =some [tI lo,qq]):l3=lo:=by
 have:=h.l;have v:ey plies gp=lo:=by simp only[ey,Z,YJ];rfl
 rw[je S,v]at this;exact this
def ajN(S:cuts[i.toNat]? =some [tI p3,tI q3,tI l3,tI s3,.aO 1 r3,tB d3]):d3=false/\p3=gp/\s3=gs:=by
 have O:=h.d;have Y:=h.p;have B:=h.s;rw[je S]at O Y B;exact⟨O,Y,B⟩
def aBy(S:cuts[i.toNat]? =some [tI p3,tI q3,tI l3,tI s3,.aO 1 r3,tB d3]){a:Lt}(R:places[q3.toNat]? =some a):nI 0 a=garment:=by
 have O:=h.g;rw[je S]at O;have Y:nI 0 (j8 places q3)=garment:=O;rw[je R]at Y;exact Y
end
def wh{places plies cuts:Lz}{garment gp gs:Int}{used pcs zu zf:Lz}{i:Int}{j:Nat}(Q:(j:Int) < (pcs.length:Int))(S:pcs[((j:Int)).toNat]? =some [tI i])(L:zu=uA used pcs j)(R:zf=fA cuts places.length pcs j)
 (K:POq places plies cuts garment gp gs zu zf i->False) (h:vf places plies cuts garment gp gs used pcs):False:=by
 subst L R;exact K (h.all j [tI i] aa aA)
def RCp(c n:Lt)(places plies cuts:Lz)(garment gp gs:Int)(used pcs:Lz)(m:Nat)(vs:List V)(w:List (Lz)):Prop:=
 ∃ (j:Nat) (zu zf:Lz),j<=pcs.length/\m=pcs.length - j/\vs=[iV .i64 (j:Int)]/\w=[zu,[c],[n],zf]/\(zu=uA used pcs j/\zf=fA cuts places.length pcs j)/\auW places plies cuts garment gp gs used pcs j/\(zu.length=cuts.length/\zf.length=places.length)/\Bs zu/\Bs zf
def RCp.next{c n:Lt}{places plies cuts:Lz}{garment gp gs:Int}{used pcs zu zf:Lz}{i q3 p3 l3 s3:Int}{r3:Lz}{d3:Bool}{j ju jf:Nat}(Q:(j:Int) < (pcs.length:Int))(U:pcs.length<=maxLen)(A:zu=uA used pcs j/\zf=fA cuts places.length pcs j)(a:auW places plies cuts garment gp gs used pcs j)
 (s:zu.length=cuts.length/\zf.length=places.length) (b:Bs zu) (h:Bs zf) (Y:pcs[((j:Int)).toNat]? =some [tI i]) (S:cuts[i.toNat]? =some [tI p3,tI q3,tI l3,tI s3,.aO 1 r3,tB d3]) (g:ju=i.toNat) (d:jf=q3.toNat) (I:POq places plies cuts garment gp gs zu zf i):
 RCp c n places plies cuts garment gp gs used pcs (pcs.length - (j+1)) [iV .i64 (IntKind.i64.wrap ((j:Int)+1))] [zu.set ju [tB true],[c],[n],zf.set jf [tB true]]:=by
 obtain⟨l,o⟩:=A;subst g d;have v:pcs[j]? =some [tI i]:=xT
 have w:nI 0 [tI i]=i:=rfl;refine⟨j+1,_,_,aa,rfl,by simp only[maxLen]at U;rw[bF aa aa];rfl,rfl,⟨?_,?_⟩,λk e Z H=>?_,⟨by simp[s.1],by simp[s.2]⟩,b.set _ _,h.set _ _⟩
 . simp only[uA,v,w,l]
 . simp only[fA,v,w,o,je S];rfl
 . by_cases r:k=j
   . subst r;rw[v]at H;cases H;rw[<-l, <-o];exact I
   . exact a k e aa H
def RCf(n:Nat)(zu zf places:Lz)(garment:Int)(m:Nat)(vs:List V)(w:List (Lz)):Prop:=
 ∃k:Nat,k<=n/\m=n - k/\vs=[iV .i64 (k:Int)]/\w=[zu,zf]/\ ∀P p,P < k->places[P]? =some p->nI 0 p=garment->nB 0 (j8 zf (P:Int))=true
def RCf.next{zu zf places:Lz}{garment:Int}{k:Nat}{p:Lt}(Z:(k:Int) < (places.length:Int))(U:places.length<=1000000)(h:∀P p,P < k->places[P]? =some p->nI 0 p=garment->nB 0 (j8 zf (P:Int))=true)(S:places[((k:Int)).toNat]? =some p)(hq:nI 0 p=garment->nB 0 (j8 zf (k:Int))=true):
 RCf places.length zu zf places garment (places.length - (k+1)) [iV .i64 (IntKind.i64.wrap ((k:Int)+1))] [zu,zf]:=by
 refine⟨k+1,aa,rfl,by rw[bF aa aa];rfl,rfl,λP b a F D=>?_⟩
 by_cases H:P=k
 . subst H;have x:places[P]? =some p:=aA
   rw[x]at F;cases F;exact hq D
 . exact h P b aa F D
def GCp(places plies cuts:Lz)(garment gp gs:Int)(used pcs:Lz)(ts:Lw)(N:HS):Prop:=
 ∃ (n:Int) (Y:Lz),ts=[oI n]/\N=[(0,.row 1 (tr Y))]/\(Y.length=cuts.length/\Bs Y)/\(n=0->vf places plies cuts garment gp gs used pcs/\Y=uA used pcs pcs.length)/\(vf places plies cuts garment gp gs used pcs->n=0)
def oK{places plies cuts:Lz}{garment gp gs n:Int}{used pcs zu:Lz}(U:zu.length=cuts.length)(x:Bs zu)(K:n≠0)(h:vf places plies cuts garment gp gs used pcs->False):GCp places plies cuts garment gp gs used pcs [oI n] [(0,.row 1 (tr zu))]:=
 ⟨n,zu,rfl,rfl,⟨U,x⟩,λe=>absurd e K,λD=>(h D).elim⟩
variable{b:Bool}
def PP{zf:Lz}{k j:Nat}(h:zf[j]? =some [tB b])(Q:j=k):nB 0 (j8 zf (k:Int))=b:=by
 subst Q;have N:zf[((j:Int)).toNat]? =some [tB b]:=bc
 rw[je N];rfl
def aoZ(h:b=true)(Y:(!b)=true):False:=by subst h;simp at Y
def aeF{places plies cuts:Lz}{garment gp gs:Int}{used pcs zf:Lz}{j k jf:Nat}{p:Lt}(h:vf places plies cuts garment gp gs used pcs)(Q:pcs.length=j)(A:zf=fA cuts places.length pcs j)(S:places[((k:Int)).toNat]? =some p)(hg:nI 0 p=garment)(c:zf[jf]? =some [tB b])(d:jf=k):b=true:=by
 have U:=h.full k p aA hg;rw[Q, <-A,PP c d]at U;exact U
def tD(ln r c b:Int)(sizes places plies cuts:Lz)(R:AF sizes places plies)(D:Jb cuts)(x:cuts.length<=1000000)(z:∀e,e∈cuts->Tc plies.length places.length e)(garment gt gp gs gl:Int)(pcs used:Lz)(MQ:Is pcs)(adD:pcs.length<=maxLen)(L:Bs used)(Km:used.length=cuts.length)(aRb:0<=gp)(aQ9:gp < (plies.length:Int)): ∃ts N,Fn Tryz.prog 84 [pn ln r c b sizes places plies,oL 6 cuts,oI garment,.agg [.t (tI gt),.t (tI gp),.t (tI gs),.t (tI gl),.t (.aO 1 pcs)],.one (.own 0 1 0 cuts.length)] [(0,.row 1 (tr used))] (aR ts) N/\GCp places plies cuts garment gp gs used pcs ts N:=by
 have I7:=R.I7;refine ij Tryz.func84 ?_
 repeat' ((conv=>whnf);first|refine bZz (λh=>?_) (λh=>?_)|refine And.intro ⟨aa,aa,aa,aa⟩ ?_|refine And.intro ⟨aa,aa⟩ ?_|(refine aG (xs:=pcs) MQ aa aa ?_;rintro _ ⟨i,rfl⟩ Y)|(refine aG (xs:=cuts) (λe H=>(⟨D e H,z e H⟩:aEA e/\Tc plies.length places.length e)) aa aa ?_;rintro _ ⟨⟨p3,q3,l3,s3,r3,d3,rfl⟩,(hq1:(0:Int)<=p3),(Ty:p3 < (plies.length:Int)),(hq3:(0:Int)<=q3),(hq4:q3 < (places.length:Int))⟩ S)|(refine aG (xs:=plies) R.hy aa aa ?_;rintro _ ⟨lo,q2,rfl⟩ G)|(refine aG (xs:=places) (n:=q3) R.hp aa aa ?_;rintro _ ⟨g2,w,v,d,g,l,M,rfl⟩ B)|(refine aG (xs:=places) (n:=(k:Int)) R.hp aa aa ?_;rintro _ ⟨o,K,y,f4,t4,x4,y4,rfl⟩ O)|refine And.intro ag ?_|(refine cu (xs:=zu) rfl Na aa ?_;rintro _ ⟨b1,rfl⟩ hsu)|(refine cu (xs:=zf) (i:=0+(k:Int).toNat) rfl hBf aa ?_;rintro _ ⟨b4,rfl⟩ aCy)|(refine cu (xs:=zf) rfl hBf aa ?_;rintro _ ⟨b2,rfl⟩ Tu)|exact⟨_,_,_,rfl,rfl,j0 rfl (xs:=used) (ys:=zu) rfl,⟨0,zu,rfl,rfl,⟨s.1,Na⟩,λ_=>⟨⟨by rw[show pcs.length=j by omega];exact a,λP p F I=>by rw[show pcs.length=j by omega, <-A.2];exact hfull P p (by have:=(jl.1 F).1;omega) F I⟩,by rw[show pcs.length=j by omega];exact A.1⟩,λ_=>rfl⟩⟩|exact⟨_,_,_,rfl,rfl,j0 rfl (xs:=used) (ys:=zu) rfl,oK s.1 Na av (λh=>aoZ (aeF h aa A.2 O (show o=garment by omega) aCy aa) ai)⟩|exact⟨_,_,_,rfl,rfl,j0 rfl (xs:=used) (ys:=zu) rfl,oK s.1 Na av (wh aa Y A.1 A.2 (λh=>by have U:=h.r;omega))⟩|exact⟨_,_,_,rfl,rfl,j0 rfl (xs:=used) (ys:=zu) rfl,oK s.1 Na av (wh aa Y A.1 A.2 (λh=>by have U:=aBy h S B;have J:g2=garment:=U;omega))⟩|exact⟨_,_,_,rfl,rfl,j0 rfl (xs:=used) (ys:=zu) rfl,oK s.1 Na av (wh aa Y A.1 A.2 (λh=>Bool.noConfusion ((ajN h S).1.symm.trans (by assumption:d3=true))))⟩|exact⟨_,_,_,rfl,rfl,j0 rfl (xs:=used) (ys:=zu) rfl,oK s.1 Na av (wh aa Y A.1 A.2 (λh=>by have U:=ajN h S;omega))⟩|exact⟨_,_,_,rfl,rfl,j0 rfl (xs:=used) (ys:=zu) rfl,oK s.1 Na av (wh aa Y A.1 A.2 (λh=>by have U:=aBz h S G;omega))⟩|exact⟨_,_,_,rfl,rfl,j0 rfl (xs:=used) (ys:=zu) rfl,oK s.1 Na av (wh aa Y A.1 A.2 (λh=>Bool.noConfusion ((aBA h S Tu aa).symm.trans (by assumption:b2=true))))⟩|exact⟨_,_,_,rfl,rfl,j0 rfl (xs:=used) (ys:=zu) rfl,oK s.1 Na av (wh aa Y A.1 A.2 (λh=>Bool.noConfusion ((aBB h hsu aa).symm.trans (by assumption:b1=true))))⟩|(apply bp [2,12,98,99,100] [] [100] [(0,1),(4,1)] (RCf places.length zu zf places garment) (places.length) [iV .i64 0];(iterate 3 exact ae);exact .cons (aL.aM (xs:=zu) rfl _) (.cons (aL.aM (xs:=zf) rfl _) .nil);exact⟨0,aa,rfl,rfl,rfl,λP p Z=>by omega⟩;rintro _ _ _ ⟨k,Z,rfl,rfl,rfl,hfull⟩)|(refine aI [2,12,98,99,100] [] ?_;(conv=>whnf);first|exact⟨rfl,_,[_],_,.cons (aL.aM (xs:=zu) rfl _) (.cons (aL.aM (xs:=zf) rfl _) .nil),RCf.next aa I7 hfull O (λI=>absurd I (show ¬ (o=garment) by omega)),rfl,rfl,aa⟩|exact⟨rfl,_,[_],_,.cons (aL.aM (xs:=zu) rfl _) (.cons (aL.aM (xs:=zf) rfl _) .nil),RCf.next aa I7 hfull O (λ_=>(PP aCy aa).trans (dM ai)),rfl,rfl,aa⟩)|(apply bp [1,2,4,5,8,11,12,25,26,27] [] [27] [(0,1),(4,7),(8,5),(12,1)] (RCp (iE ln r c b sizes places plies) (fm gt gp gs gl pcs) places plies cuts garment gp gs used pcs) (pcs.length) [iV .i64 0];(iterate 3 exact ae);exact .cons (aL.aM (xs:=used) rfl _) (.cons (aL.aM (xs:=[iE ln r c b sizes places plies]) rfl _) (.cons (aL.aM (xs:=[fm gt gp gs gl pcs]) rfl _) (.cons (aL.aM (aL.replicate _ [tB false]) _) .nil)));exact⟨0,used,_,aa,rfl,rfl,rfl,⟨rfl,rfl⟩,λk e Z=>by omega,⟨Km,ak⟩,L,Bs.Tn _ _⟩;rintro _ _ _ ⟨j,zu,zf,Q,rfl,rfl,rfl,A,a,s,Na,hBf⟩)|(refine aI [1,2,4,5,8,11,12,25,26,27] [] ?_;(conv=>whnf);exact⟨rfl,_,[_],_,.cons (aL.aM (aL.set (xs:=zu) rfl _ [tB _]) _) (.cons (aL.aM (xs:=[iE ln r c b sizes places plies]) rfl _) (.cons (aL.aM (xs:=[fm gt gp gs gl pcs]) rfl _) (.cons (aL.aM (aL.set (xs:=zf) rfl _ [tB _]) _) .nil))),RCp.next aa adD A a s Na hBf Y S aa aa (aoI aa aa S hsu aa Vn Tu aa Vn G aa ai aa aa B (show g2=garment by omega)),rfl,rfl,aa⟩))
end Go.aW.Cd
namespace Go.aW.Cd
open Go Go.Proofs
def nc(e:Lt):Prop:= ∃t p s l w,e=fm t p s l w/\Is w/\w.length<=maxLen
def uG(cuts gs:Lz):Nat->Lz
 |0=>List.replicate cuts.length [tB false]
 |j+1=>match gs[j]? with
  |none=>uG cuts gs j|some e=>uA (uG cuts gs j) (nL 4 e) (nL 4 e).length
def Gj(bs:Lz)(e:Lt):Prop:= ∃t g s l f o,I8 bs (nI 0 e)=some (mw t g s l f o)/\f<=nI 1 e/\nI 1 e < o/\nI 2 e=s
def Dbl(e o:Lt):Prop:=nI 0 o=nI 0 e/\nI 1 o=nI 1 e
structure ZB(places plies cuts bs:Lz)(u eM:Lz)(e:Lt):Prop where
 pre:Gj bs e
 dup:∀o,o∈eM->¬Dbl e o
 fk:nI 3 e=ey plies (nI 1 e)
 fit:∀t g s l f o,I8 bs (nI 0 e)=some (mw t g s l f o)->vf places plies cuts g (nI 1 e) (nI 2 e) u (nL 4 e)
def ol(places plies cuts bs gs:Lz)(j:Nat):Prop:= ∀k e,k < j->gs[k]? =some e->ZB places plies cuts bs (uG cuts gs k) (gs.take k) e
def DU(places plies cuts bs gs:Lz):Prop:= ∃j e,ol places plies cuts bs gs j/\gs[j]? =some e/\Gj bs e/\ ∃o,o∈gs.take j/\Dbl e o
section
variable{places plies cuts bs gs:Lz}{i:Nat}{e:Lt}
def agH(a:ol places plies cuts bs gs i)(S:gs[i]? =some e)(K:Gj bs e->False)(h:DU places plies cuts bs gs):False:=by
 obtain⟨j,U,O,Y,B,o,g,F⟩:=h;rcases aei j i with l|rfl|N
 . exact(a j U l Y).dup o g F
 . rw[S]at Y;cases Y;exact K B
 . exact K (O i e N S).pre
def Xi(a:ol places plies cuts bs gs i)(S:gs[i]? =some e)(F:∀o,o∈gs.take i->¬Dbl e o)(K:ZB places plies cuts bs (uG cuts gs i) (gs.take i) e->False)(h:DU places plies cuts bs gs):False:=by
 obtain⟨j,U,O,Y,B,o,g,y⟩:=h;rcases aei j i with l|rfl|N
 . exact(a j U l Y).dup o g y
 . rw[S]at Y;cases Y;exact F o g y
 . exact K (O i e N S)
def agI(a:ol places plies cuts bs gs gs.length)(h:DU places plies cuts bs gs):False:=by
 obtain⟨j,U,O,Y,B,o,g,F⟩:=h;exact(a j U (jl.1 Y).1 Y).dup o g F
end
def aBx{bs:Lz}{e:Lt}(R:I8 bs (nI 0 e)=none)(h:Gj bs e):False:=by
 obtain⟨t,g,s,l,f,o,O,_⟩:=h;rw[R]at O;simp at O
def aBw{bs:Lz}{e:Lt}{t g s l f o:Int}(R:I8 bs (nI 0 e)=some (mw t g s l f o))(h:Gj bs e):f<=nI 1 e/\nI 1 e < o/\nI 2 e=s:=by
 obtain⟨t,g,s,l,f,o,O,Y,B,y⟩:=h;rw[R]at O;simp at O;obtain⟨rfl,rfl,rfl,rfl,rfl,rfl⟩:=O;exact⟨Y,B,y⟩
def Iz{sizes plies bs:Lz}{tk t g s l f o:Int}(M:∀e,e∈bs->ZD sizes plies e)(R:I8 bs tk=some (mw t g s l f o)):0<=f/\o<=(plies.length:Int):=by
 obtain⟨F,J,L,A,G,n,O,Y,B,y,U⟩:=M _ (acX R);simp at O;obtain⟨rfl,rfl,rfl,rfl,rfl,rfl⟩:=O;exact⟨B,U⟩
structure DZ(ck:Int)(places plies cuts bs gs:Lz):Prop where
 ck:ck=0
 len:gs.length<=240
 all:ol places plies cuts bs gs gs.length
def GCk(ck:Int)(places plies cuts bs gs:Lz)(ts:Lw):Prop:=
 ∃n:Int,ts=[oI n]/\(n=0->DZ ck places plies cuts bs gs)/\(DZ ck places plies cuts bs gs->n=0)/\(ck=0->gs.length<=240->DU places plies cuts bs gs->n=7)
section
variable{ck:Int}{places plies cuts bs gs:Lz}{n:Int}
def arN(h:ck≠0):GCk ck places plies cuts bs gs [oI ck]:=⟨ck,rfl,λe=>absurd e h,λe=>absurd e.ck h,λe=>absurd e h⟩
def adX(h:240 < gs.length):GCk ck places plies cuts bs gs [oI 5]:=⟨5,rfl,λe=>by omega,λe=>by have:=e.len;omega,λ_ e=>by omega⟩
def PS(K:n≠0)(O:DZ ck places plies cuts bs gs->False)(Y:DU places plies cuts bs gs->False):GCk ck places plies cuts bs gs [oI n]:=⟨n,rfl,λe=>absurd e K,λe=>(O e).elim,λ_ _ e=>(Y e).elim⟩
def PR(K:n≠0){i:Nat}{e:Lt}(a:ol places plies cuts bs gs i)(S:gs[((i:Int)).toNat]? =some e)(h:Gj bs e->False):GCk ck places plies cuts bs gs [oI n]:=by
 have x:gs[i]? =some e:=aA
 exact PS K (λz=>h (z.all i e (jl.1 x).1 x).pre) (agH a x h)
def KD(K:n≠0){i:Nat}{e:Lt}(a:ol places plies cuts bs gs i)(S:gs[((i:Int)).toNat]? =some e)(F:∀o,o∈ (gs.drop 0).take (((i:Int)).toNat - 0)->¬Dbl e o)(h:ZB places plies cuts bs (uG cuts gs i) (gs.take i) e->False):GCk ck places plies cuts bs gs [oI n]:=by
 have x:gs[i]? =some e:=aA
 exact PS K (λz=>h (z.all i e (jl.1 x).1 x)) (Xi a x (by simpa using F) h)
def adY{i j:Nat}{e o:Lt}(a:ol places plies cuts bs gs i)(S:gs[((i:Int)).toNat]? =some e)(d:((gs.drop 0).take (((i:Int)).toNat - 0))[j]? =some o)(h:Dbl e o):GCk ck places plies cuts bs gs [oI 7]:=by
 have x:gs[i]? =some e:=aA
 refine⟨7,rfl,λe=>by omega,λz=>?_,λ_ _ _=>rfl⟩;have r:o∈gs.take i:=by simpa using oo d
 exact((z.all i e (jl.1 x).1 x).dup o r h).elim
def aDO{i:Nat}(D:ck=0)(U:gs.length<=240)(a:ol places plies cuts bs gs i)(I:gs.length=i):GCk ck places plies cuts bs gs [oI 0]:=
 ⟨0,rfl,λ_=>⟨D,U,by rw[I];exact a⟩,λ_=>rfl,λ_ _ h=>(agI (by rw[I];exact a) h).elim⟩
end
def RCk(c:Lt)(places plies cuts bs gs:Lz)(m:Nat)(vs:List V)(w:List (Lz)):Prop:=
 ∃ (j:Nat) (a:Lz),j<=gs.length/\m=gs.length - j/\vs=[iV .i64 (j:Int)]/\w=[[c],a]/\a=uG cuts gs j/\ol places plies cuts bs gs j/\a.length=cuts.length/\Bs a
variable{s l lo:Int}{pcs:Lz}{z:T}
def RCk.next{c:Lt}{places plies cuts bs gs ys:Lz}{j:Nat}{t p:Int}(Q:(j:Int) < (gs.length:Int))(U:gs.length<=240)(a:ol places plies cuts bs gs j)(S:gs[((j:Int)).toNat]? =some (fm t p s l pcs))(hy:ys=uA (uG cuts gs j) pcs pcs.length)(P:ys.length=cuts.length)(b:Bs ys)
 (I:ZB places plies cuts bs (uG cuts gs j) (gs.take j) (fm t p s l pcs)):RCk c places plies cuts bs gs (gs.length - (j+1)) [iV .i64 (IntKind.i64.wrap ((j:Int)+1))] [[c],ys]:=by
 have x:gs[j]? =some (fm t p s l pcs):=aA
 refine⟨j+1,ys,aa,rfl,by rw[bF aa aa];rfl,rfl,?_,λk e Z H=>?_,P,b⟩
 . simp only[uG,x];exact hy
 . by_cases r:k=j
   . subst r;rw[x]at H;cases H;exact I
   . exact a k e aa H
def arK{places plies cuts bs gs:Lz}{j:Nat}{t p g g2 w K d I:Int}(R:I8 bs t=some (mw g g2 w K d I))(O:d<=p)(Y:p < I)(B:s=w)(S:∀o,o∈ (gs.drop 0).take (((j:Int)).toNat - 0)->¬Dbl (fm t p s l pcs) o)(Z:plies[p.toNat]? =some [tI lo,z])(U:l=lo)
 (a:vf places plies cuts g2 p s (uG cuts gs j) pcs):ZB places plies cuts bs (uG cuts gs j) (gs.take j) (fm t p s l pcs):=by
 have v:ey plies p=lo:=by simp only[ey,Z,YJ];rfl
 refine⟨⟨g,g2,w,K,d,I,R,O,Y,B⟩,aA,?_,λM y L A G n r=>?_⟩
 . show l=ey plies p;rw[v];exact U
 . have b:I8 bs t=some (mw M y L A G n):=r;rw[R]at b;simp at b;obtain⟨rfl,rfl,rfl,rfl,rfl,rfl⟩:=b;exact a
def adU{places plies cuts bs u b:Lz}{t p:Int}(Z:plies[p.toNat]? =some [tI lo,z])(h:ZB places plies cuts bs u b (fm t p s l pcs)):l=lo:=by
 have v:ey plies p=lo:=by simp only[ey,Z,YJ];rfl
 have O:l=ey plies p:=h.fk;rw[v]at O;exact O
def DD(M:ByteArray)(w L ps us v J:Lz)(ln r U c:Int)(sizes places plies bs cuts gs:Lz)(R:AF sizes places plies)(G:I4 bs)(pJ:bs.length<=1000000)(D:Jb cuts)(y:cuts.length<=1000000)(hg:∀e,e∈gs->nc e)(vU:gs.length<=maxLen)(ck:Int)(O:Te 41 [dV M w L ps us v J,pn ln r U c sizes places plies,oL 6 bs,oL 6 cuts] [oI ck])(vV:ck=0->(∀e,e∈bs->ZD sizes plies e)/\ ∀e,e∈cuts->Tc plies.length places.length e):Tg 53 [dV M w L ps us v J,pn ln r U c sizes places plies,oL 6 bs,oL 6 cuts,oL 5 gs] (GCk ck places plies cuts bs gs):=by
 refine aC Tryz.func53 ?_
 repeat' ((conv=>whnf);first|refine bZz (λh=>?_) (λh=>?_)|refine And.intro ⟨aa,aa,aa,aa⟩ ?_|refine cT (aa7 _) aa ?_|(refine aG (xs:=gs) hg aa aa ?_;rintro _ ⟨t,p,s,l,pcs,rfl,aCL,adD⟩ S)|(refine aG (xs:=(gs.drop 0).take (((j:Int)).toNat - 0)) (dH hg _ _) aa aa ?_;rintro _ ⟨t3,p3,s3,l3,aPC,rfl,aM9,aNa⟩ P)|(refine aG (xs:=plies) R.hy jN jN ?_;rintro _ ⟨z,q2,rfl⟩ hlo)|refine And.intro ag ?_|refine And.intro aa ?_|(refine aD rfl (O) ?_;rintro _ rfl)|(refine aD rfl (EM bs _ G bq) ?_;rintro _ ⟨g,g2,N,K,x,I,fb,rfl,LL,hf0⟩)|(refine mK [8] rfl (tD ln r U c sizes places plies cuts R D y (vV aa).2 g2 t p s l pcs zu aCL adD Na hlu jN jN) rfl (sV rfl rfl) ?_;rintro _ _ ⟨n,Y,rfl,rfl,⟨B,hyB⟩,hfit,Kw⟩)|exact g1 rfl rfl (arN aa)|exact g1 rfl rfl (adX aa)|exact g1 rfl rfl (aDO aa aa a aa)|exact g1 rfl rfl (adY a S P ⟨show t3=t by omega,show p3=p by omega⟩)|exact g1 rfl rfl (KD aa a S (H.all aa) (λh=>by have:=Kw (by rw[A];exact h.fit _ _ _ _ _ _ (LL (dM ai)));omega))|exact g1 rfl rfl (KD av a S (H.all aa) (λh=>by have:=adU hlo h;omega))|exact g1 rfl rfl (PR av a S (aBx (hf0 (T3 ai))))|exact g1 rfl rfl (PR av a S (λh=>by have d:=aBw (LL (dM ai)) h;have q1:x<=p:=d.1;have q2:p < I:=d.2.1;have q3:s=N:=d.2.2;omega))|(apply bp [2,3,4,6,12,14,15,34,35,36,69,70,71] [] [71] [(4,7),(8,1),(12,5),(16,6)] (RQ2 (λo=>¬Dbl (fm t p s l pcs) o) ((gs.drop 0).take (((j:Int)).toNat - 0)) [[iE ln r U c sizes places plies],zu,[fm t p s l pcs],[mw g g2 N K x I]]) (((gs.drop 0).take (((j:Int)).toNat - 0)).length) [iV .i64 0];(iterate 3 exact ae);exact .cons (aL.aM (xs:=[iE ln r U c sizes places plies]) rfl _) (.cons (aL.aM (xs:=zu) rfl _) (.cons (aL.aM (xs:=[fm t p s l pcs]) rfl _) (.cons (aL.aM (xs:=[mw g g2 N K x I]) rfl _) .nil)));exact⟨0,aa,Pre.zero,rfl,rfl,rfl⟩;rintro _ _ _ ⟨b,hi2,H,rfl,rfl,rfl⟩)|(refine aI [2,3,4,6,12,14,15,34,35,36,69,70,71] [] ?_;(conv=>whnf);exact⟨rfl,_,[_],_,.cons (aL.aM (xs:=[iE ln r U c sizes places plies]) rfl _) (.cons (aL.aM (xs:=zu) rfl _) (.cons (aL.aM (xs:=[fm t p s l pcs]) rfl _) (.cons (aL.aM (xs:=[mw g g2 N K x I]) rfl _) .nil))),RQ2.next aa (jt vU _ _) H P (λF=>by have d1:t3=t:=F.1;have d2:p3=p:=F.2;omega),rfl,rfl,aa⟩)|(apply bp [2,3,4,6,12,34,35,36] [] [36] [(4,7),(8,1)] (RCk (iE ln r U c sizes places plies) places plies cuts bs gs) (gs.length) [iV .i64 0];(iterate 3 exact ae);exact .cons (aL.aM (xs:=[iE ln r U c sizes places plies]) rfl _) (.cons (aL.aM (aL.replicate _ [tB false]) _) .nil);exact⟨0,_,aa,rfl,rfl,rfl,rfl,λk e Z=>by omega,ak,Bs.Tn _ _⟩;rintro _ _ _ ⟨j,zu,Q,rfl,rfl,rfl,A,a,hlu,Na⟩)|(refine aI [2,3,4,6,12,34,35,36] [] ?_;(conv=>whnf);exact⟨rfl,_,[_],_,.cons (aL.aM (xs:=[iE ln r U c sizes places plies]) rfl _) (.cons (aL.aM (aL.aM (xs:=Y) rfl _) _) .nil),RCk.next aa aa a S ((hfit aa).2.trans (by rw[A])) B hyB (arK (LL (dM ai)) aa aa aa (H.all aa) hlo aa (by rw[<-A];exact(hfit aa).1)),rfl,rfl,aa⟩))
end Go.aW.Cd
namespace Go.aW.Cd
open Go Go.Proofs
def S8(c:Lt)(N:Nat)(m:Nat)(vs:List V)(w:List (Lz)):Prop:= ∃i:Nat,i<=N/\m=N - i/\vs=[iV .i64 (i:Int)]/\w=[[c]]
def S8.next{c:Lt}{N i:Nat}(I:(i:Int) < (N:Int))(U:N<=maxLen):S8 c N (N - (i+1)) [iV .i64 (IntKind.i64.wrap ((i:Int)+1))] [[c]]:=
 ⟨i+1,aa,rfl,by simp only[maxLen]at U;rw[bF aa aa];rfl,rfl⟩
def sc{xs:Lz}{e:Lt}{n:Int}{K:Lt->Prop}(h:xs[n.toNat]? =some e)(z:0<=n)(Z:K e):0<=n/\ ∃e,xs[n.toNat]? =some e/\K e:=⟨z,e,h,Z⟩
def RSm(row:Lt)(N:Nat)(m:Nat)(vs:List V)(w:List (Lz)):Prop:= ∃ (i:Nat) (s:Int),i<=N/\m=N - i/\vs=[iV .i64 s,iV .i64 (i:Int)]/\w=[[row]]
def RSm.next{row:Lt}{N i:Nat}{s:Int}(I:(i:Int) < (N:Int))(U:N<=maxLen):RSm row N (N - (i+1)) [iV .i64 s,iV .i64 (IntKind.i64.wrap ((i:Int)+1))] [[row]]:=
 ⟨i+1,s,aa,rfl,by simp only[maxLen]at U;rw[bF aa aa];rfl,rfl⟩
def vX(s:ByteArray)(w L ps us v J:Lz)(l:eu s w L ps us v J)(g:Int):Tg 35 [dV s w L ps us v J,oI g] GB:=by
 have P:=l.eX;have r:=l.Km;refine aC Tryz.func35 ?_
 repeat' ((conv=>whnf);first|refine aJ (λh=>?_) (λh=>?_)|refine sc S aa ?_|(refine aG (xs:=B) N aa aa ?_;rintro _ ⟨Y,ln,rfl,y,e,U⟩ O)|(refine aG (xs:=us) l.iG aa aa ?_;rintro _ ⟨a,b,c,rfl⟩ z)|(refine aG (xs:=ps) l.hps aa aa ?_;rintro _ ⟨nm,B,g2,d,R,F,n,rfl,A,⟨N,H⟩,⟨K,o⟩,⟨D,aRi⟩,M,G⟩ S)|exact gB rfl rfl|(apply bp [1,2,8,9] [] [8,9] [(4,7)] (RSm (vD s w L ps us v J) us.length) (us.length) [iV .i64 0,iV .i64 0];(iterate 3 exact ae);exact .cons (aL.aM (xs:=[vD s w L ps us v J]) rfl _) .nil;exact⟨0,0,aa,rfl,rfl,rfl⟩;rintro _ _ _ ⟨k,x,Z,rfl,rfl,rfl⟩)|(refine aI [1,2,8,9] [] ?_;(conv=>whnf);exact⟨rfl,_,[_,_],_,.cons (aL.aM (xs:=[vD s w L ps us v J]) rfl _) .nil,RSm.next aa r,rfl,rfl,aa⟩)|(apply bp [1,2,5,6,7] [] [6,7] [(4,7)] (RSm (vD s w L ps us v J) 17) (17) [iV .i64 0,iV .i64 0];(iterate 3 exact ae);exact .cons (aL.aM (xs:=[vD s w L ps us v J]) rfl _) .nil;exact⟨0,0,aa,rfl,rfl,rfl⟩;rintro _ _ _ ⟨j,x,Q,rfl,rfl,rfl⟩)|(refine aI [1,2,5,6,7] [] ?_;(conv=>whnf);exact⟨rfl,_,[_,_],_,.cons (aL.aM (xs:=[vD s w L ps us v J]) rfl _) .nil,RSm.next aa av,rfl,rfl,aa⟩)|(apply bp [1,2,5] [] [5] [(4,7)] (S8 (vD s w L ps us v J) ps.length) (ps.length) [iV .i64 0];(iterate 3 exact ae);exact .cons (aL.aM (xs:=[vD s w L ps us v J]) rfl _) .nil;exact⟨0,aa,rfl,rfl,rfl⟩;rintro _ _ _ ⟨i,I,rfl,rfl,rfl⟩)|(refine aI [1,2,5] [] ?_;(conv=>whnf);exact⟨rfl,_,[_],_,.cons (aL.aM (xs:=[vD s w L ps us v J]) rfl _) .nil,S8.next aa P,rfl,rfl,aa⟩))
end Go.aW.Cd
namespace Go.aW.Cd
open Go Go.Proofs
def GCm(sizes places plies cuts:Lz)(g P:Int)(ts:Lw):Prop:= ∃b,ts=[oB b]/\(0<=g->g < (sizes.length:Int)->0<=P->P < (plies.length:Int)->b=(JR sizes places plies cuts g P).isSome)
def RZ{o:Option (Lz)}{zs:Lz}{b:Bool}(O:b=true->o=some zs)(z:b=false->o=none):b=o.isSome:=by
 cases b with
 |true=>rw[O rfl];rfl
 |false=>rw[z rfl];rfl
def xZ(s:ByteArray)(w L ps us v J:Lz)(ln r U c:Int)(sizes places plies:Lz)(R:AF sizes places plies)(cuts:Lz)(D:Jb cuts)(y:cuts.length<=maxLen)(g P:Int):Tg 54 [dV s w L ps us v J,pn ln r U c sizes places plies,oL 6 cuts,oI g,oI P] (GCm sizes places plies cuts g P):=by
 refine aC Tryz.func54 ?_
 repeat' ((conv=>whnf);first|refine aJ (λh=>?_) (λh=>?_)|(refine aD rfl (Fk ln r U c sizes places plies R cuts D y g P aa aa aa aa) ?_;rintro _ ⟨x,a,rfl,b,d⟩)|exact g1 rfl rfl ⟨_,rfl,λ_ _ _ _=>RZ b d⟩|exact g1 rfl rfl ⟨_,rfl,λ_ _ _ _=>by exfalso;omega⟩)
section
variable{np nb:Nat}{cuts:Lz}
end
end Go.aW.Cd
namespace Go.aW.Cd
open Go Go.Proofs
def B2(cuts gs r:Lz):∀k,k<=gs.length->uG cuts (gs++r) k=uG cuts gs k
 |0,_=>rfl
 |k+1,Z=>by
  simp only[uG,B2 cuts gs r k aa,aaf (show k < gs.length by omega)]
variable{places plies cuts P gs sizes:Lz}{e:Lt}
def ol.ya(h:ol places plies cuts P gs gs.length)(r:Lz):ol places plies cuts P (gs++r) gs.length:=by
 intro k e Z H;rw[aaf Z]at H;have:=h k e Z H;rw[B2 cuts gs r k aa,ach aa];exact this
def nH{a b:Nat}(s:a < b)(h:P[a]? =some e):e∈P.take b:=by
 refine abq.2 ⟨a,?_⟩;rw[ad5 s];exact h
def Wx{t:Int}(h:I8 P t=some e):nI 0 e=t/\ ∃k:Nat,P[k]? =some e:=by
 unfold I8 at h;have O:=aet h;have Y:=acX h;exact⟨rW,abq.1 Y⟩
def ahE(x:kA sizes plies P P.length){s v:Nat}{H o:Lt}(O:P[s]? =some H)(Y:P[v]? =some o){p:Int}(hg:nI 1 H=nI 1 o)(w:nI 4 H<=p)(G:p < nI 5 H)(D:nI 4 o<=p)(S:p < nI 5 o):H=o:=by
 have z:=(jl.1 O).1;have K:=(jl.1 Y).1;rcases aei s v with l|rfl|N
 . exact((x v o K Y).o H (nH l O) ⟨hg,aa,aa⟩).elim
 . rw[O,ii]at Y;exact Y
 . exact((x s H z O).o o (nH N Y) ⟨hg.symm,aa,aa⟩).elim
def acH{ck ck':Int}{gm:Lz}(x:kA sizes plies P P.length)(h:DZ ck places plies cuts P gs){i j:Nat}(b:i≠j){U p1 s1 z g p2 n R:Int}{y:Lt}{xs ys zs:Lz}
 (I:gs[i]? =some (fm U p1 s1 z xs)) (Q:gs[j]? =some (fm g p2 n R (y::ys))) (r:gm[i]? =some (fm U p1 s1 z (y::zs))) (N:DZ ck' places plies cuts P gm):False:=by
 have li:=(jl.1 I).1;have lj:=(jl.1 Q).1;have lm:=(jl.1 r).1;have A:=h.all i _ li I;have B:=h.all j _ lj Q;have M:=N.all i _ lm r;obtain⟨L,Z,c,a4,H,a6,Y,a7,a8,a9⟩:=A.pre;obtain⟨d,J,O,b4,b5,b6,bf,b7,b8,b9⟩:=B.pre;have G:=(B.fit _ _ _ _ _ _ bf).all 0 y (by show 0 < (y::ys).length;simp) rfl;have w:=(M.fit _ _ _ _ _ _ Y).all 0 y (by show 0 < (y::zs).length;simp) rfl;have ep:p1=p2:=w.p.symm.trans G.p;have eg:Z=J:=w.g.symm.trans G.g;subst ep eg;obtain⟨K,s,S⟩:=Wx Y;obtain⟨D,v,v2⟩:=Wx bf;have ee:=ahE x S v2 (p:=p1) rfl a7 a8 b7 b8
 have F:U=g:=by
  have a:nI 0 (mw L Z c a4 H a6)=U:=K;have e:nI 0 (mw d Z O b4 b5 b6)=g:=D;rw[<-a, <-e,ee]
 subst F;rcases aa8 i j with l|o
 . exact B.dup _ (nH l I) ⟨rfl,rfl⟩
 . exact A.dup _ (nH (show j < i by omega) Q) ⟨rfl,rfl⟩
def pT{sizes places plies cuts P:Lz}(hp:plies.length<=8)(h:∀e,e∈P->ZD sizes plies e):∀k,(iM sizes places plies cuts P k).length<=8 * k
 |0=>by simp[iM]
 |k+1=>by
  have c:=pT hp h k (places:=places) (cuts:=cuts);simp only[iM,XV]
  cases hk:P[k]? with
  |none=>simp;omega
  |some e=>
   obtain⟨t,g,s,l,f,o,rfl,D,O,Y,B⟩:=h e (oo hk);have:=Ck sizes places plies cuts (mw t g s l f o) (nI 5 (mw t g s l f o) - nI 4 (mw t g s l f o)).toNat;have H:nI 5 (mw t g s l f o)=o:=rfl;have U:nI 4 (mw t g s l f o)=f:=rfl;simp only[H,U]at this⊢;omega
def JP{g:Int}{a:Nat->Option Nat}{places:Lz}:∀ (n:Nat) (zs:Lz),iA g a places n=some zs->Is zs/\zs.length<=n
 |0,zs,h=>by
  simp only[iA,ii]at h;subst h;exact⟨λe H=>by simp at H,ak⟩
 |n+1,zs,h=>by
  simp only[iA]at h
  cases h1:iA g a places n with
  |none=>simp[h1]at h
  |some Y=>
   obtain⟨A,j⟩:=JP n Y h1;simp only[h1]at h
   cases hp:places[n]? with
   |none=>
    simp only[hp,ii]at h;subst h;exact⟨A,aa⟩
   |some p=>
    simp only[hp]at h
    by_cases D:nI 0 p=g
    . simp only[if_pos D]at h
      cases hf:a n with
      |none=>simp[hf]at h
      |some i=>
       simp only[hf,ii]at h;subst h;refine⟨λe H=>?_,by simp;omega⟩;rcases yl.1 H with H|H
       . exact A e H
       . simp only[vv]at H;exact⟨_,H⟩
    . simp only[if_neg D,ii]at h;subst h;exact⟨A,aa⟩
def OE{sizes places plies cuts:Lz}(hp:places.length<=maxLen)(e:Lt):∀n x,x∈mO sizes places plies cuts e n->nc x
 |0,x,h=>by simp[mO]at h
 |n+1,x,h=>by
  simp only[mO,yl]at h;rcases h with h|h
  . exact OE hp e n x h
  . cases hq:JR sizes places plies cuts (nI 1 e) (nI 4 e+(n:Int))with
    |none=>simp[hq]at h
    |some w=>
     simp only[hq,vv]at h;obtain⟨O,Y⟩:=JP _ _ hq;exact⟨_,_,_,_,w,h,O,aa⟩
def OD{sizes places plies cuts P:Lz}(hp:places.length<=maxLen):∀k x,x∈iM sizes places plies cuts P k->nc x
 |0,x,h=>by simp[iM]at h
 |k+1,x,h=>by
  simp only[iM,yl]at h;rcases h with h|h
  . exact OD hp k x h
  . cases hk:P[k]? with
    |none=>simp[hk]at h
    |some e=>
     simp only[hk]at h;exact OE hp e _ x h
end Go.aW.Cd
namespace Go.aW.Cd
open Go Go.Proofs
def BP{xs:Lz}{a:Nat}{v:Lt}{i:Int}:j8 (xs.set a v) i=j8 xs i\/(a=i.toNat/\j8 (xs.set a v) i=v):=by
 unfold j8
 by_cases h:a=i.toNat
 . subst h
   by_cases U:i.toNat < xs.length
   . right;rw[aaj U];exact⟨rfl,rfl⟩
   . left;rw[adu aa]
 . left;rw[aam h]
def By{c pcs:Lz}{i:Int}:∀j,nB 0 (j8 (uA c pcs j) i)=true->nB 0 (j8 c i)=true\/ ∃k z,k < j/\pcs[k]? =some z/\(nI 0 z).toNat=i.toNat
 |0,h=> .inl h
 |j+1,h=>by
  have b:(nB 0 (j8 c i)=true\/ ∃k z,k < j/\pcs[k]? =some z/\(nI 0 z).toNat=i.toNat)->(nB 0 (j8 c i)=true\/ ∃k z,k < j+1/\pcs[k]? =some z/\(nI 0 z).toNat=i.toNat):=λN=>N.elim .inl (λ⟨k,z,O,Y⟩=> .inr ⟨k,z,aa,Y⟩);simp only[uA]at h
  cases hp:pcs[j]? with
  |none=>
   simp only[hp]at h;exact b (By j h)
  |some e=>
   simp only[hp]at h;rcases BP (xs:=uA c pcs j) (a:=(nI 0 e).toNat) (v:=[tB true]) (i:=i)with O|⟨O,_⟩
   . rw[O]at h;exact b (By j h)
   . exact .inr ⟨j,e,aa,hp,O⟩
def Vl(n:Nat)(i:Int):nB 0 (j8 (List.replicate n [tB false]) i)=false:=by
 unfold j8;rw[ac8];split<;>rfl
def If{cuts pcs:Lz}{n:Nat}{i:Int}:∀j,nB 0 (j8 (fA cuts n pcs j) i)=true-> ∃k z,k < j/\pcs[k]? =some z/\(nI 1 (j8 cuts (nI 0 z))).toNat=i.toNat
 |0,h=>by
  simp only[fA,Vl]at h;cases h
 |j+1,h=>by
  have b:(∃k z,k < j/\pcs[k]? =some z/\(nI 1 (j8 cuts (nI 0 z))).toNat=i.toNat)->(∃k z,k < j+1/\pcs[k]? =some z/\(nI 1 (j8 cuts (nI 0 z))).toNat=i.toNat):=λ⟨k,z,O,Y⟩=>⟨k,z,aa,Y⟩;simp only[fA]at h
  cases hp:pcs[j]? with
  |none=>
   simp only[hp]at h;exact b (If j h)
  |some e=>
   simp only[hp]at h;rcases BP (xs:=fA cuts n pcs j) (a:=(nI 1 (j8 cuts (nI 0 e))).toNat) (v:=[tB true]) (i:=i)with O|⟨O,_⟩
   . rw[O]at h;exact b (If j h)
   . exact⟨j,e,aa,hp,O⟩
def No{cuts pcs:Lz}{n:Nat}:∀j,(fA cuts n pcs j).length=n
 |0=>by simp[fA]
 |j+1=>by
  simp only[fA];split
  . exact No j
  . rw[abn];exact No j
def WT{cuts pcs:Lz}{n:Nat}{i:Int}(I:i.toNat < n):∀j k z,k < j->pcs[k]? =some z->(nI 1 (j8 cuts (nI 0 z))).toNat=i.toNat->nB 0 (j8 (fA cuts n pcs j) i)=true
 |0,k,z,h,_,_=>aa
 |j+1,k,z,h,Z,A=>by
  simp only[fA]
  by_cases r:k=j
  . subst r;simp only[Z];rw[A];unfold j8;rw[aaj (by rw[No];exact I)];rfl
  . have c:=WT I j k z aa Z A
    cases hp:pcs[j]? with
    |none=>exact c
    |some e=>
     simp only;rcases BP (xs:=fA cuts n pcs j) (a:=(nI 1 (j8 cuts (nI 0 e))).toNat) (v:=[tB true]) (i:=i)with O|⟨_,O⟩
     . rw[O];exact c
     . rw[O];rfl
def Gy{cuts gs:Lz}{i:Int}:∀j,nB 0 (j8 (uG cuts gs j) i)=true-> ∃k e z,k < j/\gs[k]? =some e/\z∈nL 4 e/\(nI 0 z).toNat=i.toNat
 |0,h=>by
  simp only[uG,Vl]at h;cases h
 |j+1,h=>by
  have b:(∃k e z,k < j/\gs[k]? =some e/\z∈nL 4 e/\(nI 0 z).toNat=i.toNat)->(∃k e z,k < j+1/\gs[k]? =some e/\z∈nL 4 e/\(nI 0 z).toNat=i.toNat):=λ⟨k,e,z,O,Y⟩=>⟨k,e,z,aa,Y⟩;simp only[uG]at h
  cases hp:gs[j]? with
  |none=>
   simp only[hp]at h;exact b (Gy j h)
  |some e=>
   simp only[hp]at h;rcases By _ h with O|⟨k,z,_,Y,B⟩
   . exact b (Gy j O)
   . exact⟨j,e,z,aa,hp,oo Y,B⟩
def plc(cuts:Lz)(z:Lt):Int:=nI 1 (j8 cuts (nI 0 z))
structure PcI(g fH fk size:Int)(places cuts zs:Lz)(n:Nat):Prop where
 src:∀z,z∈zs-> ∃ (i:Nat) (c:Lt) (j:Nat) (p:Lt),z=[tI (i:Int)]/\cuts[i]? =some c/\xC (j:Int) fH fk size c=true/\j < n/\places[j]? =some p/\nI 0 p=g
 all:∀j p,j < n->places[j]? =some p->nI 0 p=g-> ∃z,z∈zs/\plc cuts z=(j:Int)
 srt:zs.Pairwise (λa b=>plc cuts a < plc cuts b)
 Xq:zs.length=((places.take n).filter (λp=>decide (nI 0 p=g))).length
variable{P F size:Int}
def aeP{cuts:Lz}{j i:Nat}(h:SB cuts P F size j=some i): ∃c,cuts[i]? =some c/\xC (j:Int) P F size c=true:=by
 unfold SB at h;rw[aec]at h;obtain⟨O,Y,_⟩:=h;exact⟨cuts[i],YI O,Y⟩
def HO{a:Int}{e:Lt}(h:xC a P F size e=true):nI 1 e=a/\nI 0 e=P/\nB 5 e=false/\nI 2 e=F/\nI 3 e=size:=by
 simp only[xC,LD,decide_eq_true_eq,ae2]at h;exact⟨h.1.1.1.1,h.1.1.1.2,h.1.1.2,h.1.2,h.2⟩
def He{cuts:Lz}{i:Nat}{c:Lt}{j:Int}(h:cuts[i]? =some c)(d:xC j P F size c=true):plc cuts [tI (i:Int)]=j:=by
 unfold plc;have H:nI 0 [tI (i:Int)]=(i:Int):=rfl;rw[H,je (i:=(i:Int)) bc];exact(HO d).1
def pcI{g P F size:Int}{places cuts:Lz}:∀ (n:Nat) (zs:Lz),iA g (SB cuts P F size) places n=some zs->PcI g P F size places cuts zs n
 |0,zs,h=>by
  simp only[iA,ii]at h;subst h;exact⟨λz A=>by simp at A,λj p Q=>by omega,List.Pairwise.nil,ak⟩
 |n+1,zs,h=>by
  simp only[iA]at h
  cases h1:iA g (SB cuts P F size) places n with
  |none=>simp[h1]at h
  |some Y=>
   have I:=pcI n Y h1;simp only[h1]at h
   cases hp:places[n]? with
   |none=>
    simp only[hp,ii]at h;subst h
    have J:places.length<=n:=by
     rw[adR]at hp;exact hp
    refine⟨λz A=>?_,λj p Q o U=>?_,I.srt,?_⟩
    . obtain⟨i,c,j,p,L,N,y,l,v⟩:=I.src z A;exact⟨i,c,j,p,L,N,y,aa,v⟩
    . exact I.all j p (by have:=(jl.1 o).1;omega) o U
    . rw[I.Xq,aac aa,aac aa]
   |some p=>
    simp only[hp]at h
    by_cases U:nI 0 p=g
    . simp only[if_pos U]at h
      cases hf:SB cuts P F size n with
      |none=>simp[hf]at h
      |some i=>
       simp only[hf,ii]at h;subst h;obtain⟨c,D,d⟩:=aeP hf;have R:=He D d;refine⟨λz A=>?_,λj q Q s B=>?_,?_,?_⟩
       . rcases yl.1 A with A|A
         . obtain⟨i,c,j,p,L,N,y,l,v⟩:=I.src z A;exact⟨i,c,j,p,L,N,y,aa,v⟩
         . simp only[vv]at A;exact⟨i,c,n,p,A,D,d,aa,hp,U⟩
       . by_cases e:j=n
         . subst e;exact⟨[tI (i:Int)],ak,R⟩
         . obtain⟨z,A,x⟩:=I.all j q aa s B;exact⟨z,by simp[A],x⟩
       . rw[ado];refine⟨I.srt,List.pairwise_singleton _ _,λa w b hb=>?_⟩;simp only[vv]at hb;subst hb;obtain⟨M,K,S,r,rfl,N,y,l,v⟩:=I.src a w;rw[R,He N y];omega
       . rw[abw,hp,aed,XV,XV,I.Xq];simp[U]
    . simp only[if_neg U,ii]at h;subst h;refine⟨λz A=>?_,λj q Q s B=>?_,I.srt,?_⟩
      . obtain⟨i,c,j,p,L,N,y,l,v⟩:=I.src z A;exact⟨i,c,j,p,L,N,y,aa,v⟩
      . by_cases e:j=n
        . subst e;rw[hp,ii]at s;subst s;exact(U B).elim
        . exact I.all j q aa s B
      . rw[abw,hp,aed,XV,I.Xq];simp[U]
def Src(sizes places plies cuts bs:Lz)(C:Nat->Int->Prop)(o:Lt):Prop:=
 ∃ (k:Nat) (e:Lt),bs[k]? =some e/\nI 0 o=nI 0 e/\nI 4 e<=nI 1 o/\nI 1 o < nI 5 e/\JR sizes places plies cuts (nI 1 e) (nI 1 o)=some (nL 4 o)/\C k (nI 1 o)
def Src.mono{sizes places plies cuts bs:Lz}{C D:Nat->Int->Prop}{o:Lt}(h:Src sizes places plies cuts bs C o)(I:∀k p,C k p->D k p):Src sizes places plies cuts bs D o:=by
 obtain⟨k,e,L,N,y,l,v,d⟩:=h;exact⟨k,e,L,N,y,l,v,I _ _ d⟩
section
variable{sizes places plies cuts bs:Lz}(hB:kA sizes plies bs bs.length)(hb:I4 bs)
include hB hb
def atI{G pcs:Lz}{eb:Lt}{k:Nat}{fH:Int}(hG:ol places plies cuts bs G G.length)(hsrc:∀o,o∈G->Src sizes places plies cuts bs (λP p=>P < k\/(P=k/\p < fH)) o)
 (Z:bs[k]? =some eb) (O:nI 4 eb<=fH) (Y:fH < nI 5 eb) (hp:JR sizes places plies cuts (nI 1 eb) fH=some pcs):
 ol places plies cuts bs (G++[fm (nI 0 eb) fH (nI 2 eb) (ey plies fH) pcs]) (G.length+1):=by
 have BJ:=(jl.1 Z).1;have hBk:=hB k eb BJ Z;obtain⟨t,g,s,l,f,o',rfl⟩:=hb eb (oo Z)
 have v:∀o,o∈G-> ∀ (P:Nat) (J:Lt),bs[P]? =some J->nI 4 J<=nI 1 o->nI 1 o < nI 5 J->(P < k\/(P=k/\nI 1 o < fH))->nI 1 J=g->nI 1 o=fH->False:=by
  intro o M P J he' w M6 D I eX;rcases D with D|⟨rfl,D⟩
  . exact hBk.o J (nH D he') ⟨I,by show nI 4 J < o';have:fH < o':=Y;omega,by show f < nI 5 J;have:f<=fH:=O;omega⟩
  . omega
 have aDi:I8 bs t=some (mw t g s l f o'):=by
  unfold I8;rw[aem];obtain⟨F,hge⟩:=jl.1 Z;refine⟨by simp[nI],k,F,hge,λj Q=>?_⟩;have B:=hBk.t bs[j] (nH Q (YI (afg Q F)));have C8:nI 0 bs[j]≠t:=B;simp[C8]
 have hI:=pcI _ _ hp
 have hsz:E8 sizes g=s:=by
  have:sizes[g.toNat]? =some [tI s]:=hBk.s;simp only[E8,this,YJ];rfl
 have MQ:∀ (kk:Nat) (z:Lt),pcs[kk]? =some z-> ∃ (i:Nat) (c:Lt) (j:Nat) (p:Lt),z=[tI (i:Int)]/\cuts[i]? =some c/\xC (j:Int) fH (ey plies fH) (E8 sizes g) c=true/\j < places.length/\places[j]? =some p/\nI 0 p=g:=λkk z A=>hI.src z (oo A)
 have aCu:∀ (a b:Nat) (x y:Lt),a < b->pcs[a]? =some x->pcs[b]? =some y->plc cuts x < plc cuts y:=by
  intro a b x y hab N R;obtain⟨la,ea⟩:=jl.1 N;obtain⟨lb,eb⟩:=jl.1 R;have:=adn.1 hI.srt a b la lb hab;rw[ea,eb]at this;exact this
 have N:ZB places plies cuts bs (uG cuts G G.length) G (fm t fH s (ey plies fH) pcs):=by
  refine⟨⟨t,g,s,l,f,o',aDi,O,Y,rfl⟩,λo M S=>?_,rfl,λt2 g2 s2 l2 f2 o2 xD=>?_⟩
  . obtain⟨P,J,n,h,a3,a4,a5,a6⟩:=hsrc o M;have d1:nI 0 o=t:=S.1;have d2:nI 1 o=fH:=S.2;rcases a6 with a6|⟨_,a6⟩
    . have B:=hBk.t J (nH a6 n);exact B (by rw[<-h];exact d1)
    . omega
  . have hf3:I8 bs t=some (mw t2 g2 s2 l2 f2 o2):=xD;rw[aDi,ii]at hf3;simp at hf3;obtain⟨rfl,rfl,rfl,rfl,rfl,rfl⟩:=hf3;refine⟨λkk z hkk A=>?_,λj p Q I=>?_⟩
    . obtain⟨i,c,j,p,rfl,D,d,FH,hjp,hpg⟩:=MQ kk z A;obtain⟨q1,q2,q3,q4,q5⟩:=HO d;have ec:j8 cuts (nI 0 [tI (i:Int)])=c:=je (i:=(i:Int)) af3;have ei:nI 0 [tI (i:Int)]=(i:Int):=rfl;have eX:=He D d;have zj:=(jl.1 D).1;have hpe:j8 places (j:Int)=p:=je (by simpa using hjp);refine⟨⟨by rw[ei];omega,by rw[ei];omega⟩,?_,?_,by rw[ec];exact q4,by rw[ec];exact q3,by rw[ec];exact q2,by rw[ec,q5];exact hsz,by rw[ec,q1,hpe];exact hpg⟩
      . cases L:nB 0 (j8 (uA (uG cuts G G.length) (nL 4 (fm t fH s (ey plies fH) pcs)) kk) (nI 0 [tI (i:Int)]))with
        |false=>rfl
        |true=>
         exfalso;rcases By _ L with L|⟨H,z3,e,K,c3⟩
         . obtain⟨k4,o4,z4,e,K,c3,c4⟩:=Gy _ L;obtain⟨P,J,n,h,a3,a4,a5,a6⟩:=hsrc o4 (oo K);obtain⟨i5,c5,j5,p5,rfl,b2,b3,b4,b5,b6⟩:=(pcI _ _ a5).src z4 c3;have e5:nI 0 [tI (i5:Int)]=(i5:Int):=rfl;rw[e5,ei]at c4;have:i5=i:=aa
           subst this;rw[D,ii]at b2;subst b2;obtain⟨r,U,_⟩:=HO b3;have Tz:j=j5:=aa
           subst Tz;rw[hjp,ii]at b5;subst b5;exact v o4 (oo K) P J n a3 a4 a6 (by rw[<-b6,hpg]) (by rw[<-U,q2])
         . have c2':pcs[H]? =some z3:=K;obtain⟨i5,c5,j5,p5,rfl,b2,b3,b4,b5,b6⟩:=MQ H z3 c2';have e5:nI 0 [tI (i5:Int)]=(i5:Int):=rfl;rw[e5,ei]at c3;have:i5=i:=aa
           subst this;have:=aCu H kk _ _ e c2' A;omega
      . cases L:nB 0 (j8 (fA cuts places.length (nL 4 (fm t fH s (ey plies fH) pcs)) kk) (nI 1 (j8 cuts (nI 0 [tI (i:Int)]))))with
        |false=>rfl
        |true=>
         exfalso;obtain⟨H,z3,e,K,c3⟩:=If _ L;have c2':pcs[H]? =some z3:=K;have:=aCu H kk _ _ e c2' A;obtain⟨i5,c5,j5,p5,rfl,b2,b3,b4,b5,b6⟩:=MQ H z3 c2';have hp5:=He b2 b3;have hp6:(nI 1 (j8 cuts (nI 0 [tI (i5:Int)]))).toNat=(nI 1 (j8 cuts (nI 0 [tI (i:Int)]))).toNat:=c3;have hp7:nI 1 (j8 cuts (nI 0 [tI (i5:Int)]))=(j5:Int):=hp5;have hp8:nI 1 (j8 cuts (nI 0 [tI (i:Int)]))=(j:Int):=eX;rw[hp7,hp8]at hp6;rw[hp5,eX]at this;omega
    . have FH:=(jl.1 Q).1;obtain⟨z,A,iB⟩:=hI.all j p FH Q I;obtain⟨kk,hkk⟩:=abq.1 A;have FF:nI 1 (j8 cuts (nI 0 z))=(j:Int):=iB;exact WT (by simpa using FH) _ kk z (jl.1 hkk).1 hkk (by rw[FF])
 intro kk x hkk MO
 by_cases hkG:kk=G.length
 . subst hkG
   have:x=fm t fH s (ey plies fH) pcs:=by
    simp at MO;exact MO.symm
   subst this;rw[B2 cuts G _ G.length (ww _),ach (ww _),ad0];exact N
 . exact hG.ya _ kk x aa MO
def Jy{k:Nat}{c:Lt}(Z:bs[k]? =some c){G:Lz}(J:ol places plies cuts bs G G.length)(a:∀o,o∈G->Src sizes places plies cuts bs (λP _=>P < k) o):
 ∀n:Nat,n<=(nI 5 c - nI 4 c).toNat->ol places plies cuts bs (G++mO sizes places plies cuts c n) (G++mO sizes places plies cuts c n).length/\ ∀o,o∈G++mO sizes places plies cuts c n->Src sizes places plies cuts bs (λP p=>P < k\/(P=k/\p < nI 4 c+(n:Int))) o
 |0,_=>by
  simp only[mO,aa9];exact⟨J,λo d=>(a o d).mono (λP p h=> .inl h)⟩
 |n+1,K=>by
  obtain⟨A,j⟩:=Jy Z J a n aa;simp only[mO];have b:∀o,Src sizes places plies cuts bs (λP p=>P < k\/(P=k/\p < nI 4 c+(n:Int))) o->Src sizes places plies cuts bs (λP p=>P < k\/(P=k/\p < nI 4 c+((n+1:Nat):Int))) o:=λo d=>d.mono (λP p h=>h.elim .inl (λh=> .inr ⟨h.1,aa⟩))
  cases hp:JR sizes places plies cuts (nI 1 c) (nI 4 c+(n:Int))with
  |none=>
   simp only[aa9];exact⟨A,λo d=>b o (j o d)⟩
  |some w=>
   have:=atI hB hb A j Z aa aa hp;simp only[<-aaQ];refine⟨by rw[XV];exact this,λo d=>?_⟩;rcases yl.1 d with d|d
   . exact b o (j o d)
   . simp only[vv]at d;subst d;exact⟨k,c,Z,rfl,by show nI 4 c<=nI 4 c+(n:Int);omega,by show nI 4 c+(n:Int) < nI 5 c;omega,hp,.inr ⟨rfl,by show nI 4 c+(n:Int) < nI 4 c+((n+1:Nat):Int);omega⟩⟩
def wQ:∀k:Nat,ol places plies cuts bs (iM sizes places plies cuts bs k) (iM sizes places plies cuts bs k).length/\ ∀o,o∈iM sizes places plies cuts bs k->Src sizes places plies cuts bs (λP _=>P < k) o
 |0=>⟨λk e Z H=>by simp[iM]at H,λo d=>by simp[iM]at d⟩
 |k+1=>by
  obtain⟨A,j⟩:=wQ k;simp only[iM]
  cases Z:bs[k]? with
  |none=>
   simp only[aa9];exact⟨A,λo d=>(j o d).mono (λP _ h=>by omega)⟩
  |some c=>
   obtain⟨M,L⟩:=Jy hB hb Z A j _ (ww _);exact⟨M,λo d=>(L o d).mono (λP p h=>by omega)⟩
def aaT(n:(iM sizes places plies cuts bs bs.length).length<=240):DZ 0 places plies cuts bs (iM sizes places plies cuts bs bs.length):=⟨rfl,n,(wQ hB hb bs.length).1⟩
end
end Go.aW.Cd
namespace Go.aW.Cd
open Go Go.Proofs
def ef(chk:Lz->Int):Nat->Lz->Lz->Int->Lz×Lz
 |0,a,_,_=>(a,[])
 |n+1,a,c,i=>
  if c.length=0 then(a,[])
  else if chk (a++c)=0 then(a++c,[])
  else if c.length / 2=0 then(a,[[tI 3,tI i,tI (chk (a++c))]])
  else
   let p:=ef chk n a (c.take (c.length / 2)) i
   let q:=ef chk n p.1 (c.drop (c.length / 2)) (i+(c.length / 2:Nat))
   (q.1,p.2++q.2)
def Lv(chk:Lz->Int)(n:Nat)(acc:Lz)(i:Int):ef chk n acc [] i=(acc,[]):=by
 cases n<;>simp[ef]
def yg{chk:Lz->Int}{n:Nat}{acc gs:Lz}{i:Int}(K:gs.length<=n)(h:gs≠ []->chk (acc++gs)=0):ef chk n acc gs i=(acc++gs,[]):=by
 cases gs with
 |nil=>rw[Lv,aa9]
 |cons g gs=>
  cases n with
  |zero=>simp at K
  |succ n=>simp[ef,h ak]
def wo{chk:Lz->Int}:∀ {n:Nat} {acc gs:Lz} {i:Int},gs.length<=n->(ef chk n acc gs i).2=[]->(ef chk n acc gs i).1=acc++gs/\(gs≠ []->chk (acc++gs)=0)
 |0,acc,gs,i,K,_=>by
  have:gs=[]:=abd.1 aa;subst this;simp[ef]
 |n+1,acc,gs,i,K,h=>by
  unfold ef at h⊢;split at h
  . rename_i z;have:gs=[]:=abd.1 z;subst this;simp
  . rename_i z;rw[if_neg z];split at h
    . rename_i O;rw[if_pos O];exact⟨rfl,λ_=>O⟩
    . rename_i O;split at h
      . simp at h
      . rename_i Y;exfalso;simp only[afc]at h;obtain⟨w,G⟩:=h;have A:=wo (n:=n) (gs:=gs.take (gs.length / 2)) ua w;rw[A.1]at G;have j:=wo (n:=n) (gs:=gs.drop (gs.length / 2)) Es G
        have B:=j.2 (λe=>by have:(gs.drop (gs.length / 2)).length=0:=(by rw[e];rfl);simp only[aax]at this;omega)
        rw[aaQ,adl]at B;exact O B
def Ge{chk:Lz->Int}{pre:Lz}{d:Lt}{e:Int}(H:e≠0)(S:chk (pre++[d])=e)(hp:∀p,p <+:pre->p≠ []->chk p=0):
 ∀ {n:Nat} {acc gs:Lz} {i:Int},gs.length<=n->gs≠ []->acc++gs=pre++[d]->ef chk n acc gs i=(pre,[[tI 3,tI (i+(gs.length:Int) - 1),tI e]])
 |0,acc,gs,i,K,z,_=>absurd (abd.1 aa) z
 |n+1,acc,gs,i,K,z,h=>by
  have U:gs.length≠0:=λe=>z (abd.1 e);unfold ef;rw[if_neg U,if_neg (by rw[h,S];exact H)];split
  . rename_i Y;have O:gs.length=1:=aa
    obtain⟨x,rfl⟩:=acf.1 O;have:=List.append_inj' h rfl;rw[h,S,this.1];simp
  . rename_i Y;have R:(acc++gs).length=pre.length+1:=by rw[h];simp
    have c:gs.drop (gs.length / 2)≠ []:=λe=>by
     have:(gs.drop (gs.length / 2)).length=0:=by rw[e];rfl
     simp only[aax]at this;omega
    have o:acc++gs.take (gs.length / 2) <+:pre:=by
     have B:acc++gs.take (gs.length / 2) <+:pre++[d]:=by
      rw[<-h];exact⟨gs.drop (gs.length / 2),by rw[aaQ,adl]⟩
     refine List.prefix_of_prefix_length_le B (List.prefix_append _ _) ?_;simp only[XV,aab]at R⊢;omega
    have a:acc++gs.take (gs.length / 2)≠ []:=λe=>by
     have:=congrArg List.length e;simp only[XV,aab,ac0]at this;omega
    have A:ef chk n acc (gs.take (gs.length / 2)) i=(acc++gs.take (gs.length / 2),[]):=yg ua λ_=>hp _ o a;have j:=Ge H S hp (n:=n) (acc:=acc++gs.take (gs.length / 2)) (gs:=gs.drop (gs.length / 2)) (i:=i+(gs.length / 2:Nat)) Es c (by rw[aaQ,adl,h]);simp only[A,j,ac1]
    have:i+((gs.length / 2:Nat):Int)+((gs.drop (gs.length / 2)).length:Int) - 1=i+(gs.length:Int) - 1:=by
     simp only[aax];omega
    rw[this]
def yf{chk:Lz->Int}:∀ {n:Nat} {acc gs:Lz} {i:Int},(ef chk n acc gs i).1.length<=acc.length+gs.length/\(ef chk n acc gs i).2.length<=gs.length
 |0,acc,gs,i=>by simp[ef]
 |n+1,acc,gs,i=>by
  unfold ef;split
  . simp
  . split
    . simp
    . split
      . rename_i z _ _;simp;omega
      . have A:=yf (chk:=chk) (n:=n) (acc:=acc) (gs:=gs.take (gs.length / 2)) (i:=i);have j:=yf (chk:=chk) (n:=n) (acc:=(ef chk n acc (gs.take (gs.length / 2)) i).1) (gs:=gs.drop (gs.length / 2)) (i:=i+(gs.length / 2:Nat));simp only[XV,aab,aax]at A j⊢;omega
def ye{chk:Lz->Int}:∀ {n:Nat} {acc gs:Lz} {i:Int}, ∀e,e∈ (ef chk n acc gs i).1->e∈acc\/e∈gs
 |0,acc,gs,i,e,H=> .inl (by simpa[ef]using H)
 |n+1,acc,gs,i,e,H=>by
  unfold ef at H;split at H
  . exact .inl H
  . split at H
    . exact yl.1 H
    . split at H
      . exact .inl H
      . rcases ye (chk:=chk) (n:=n) e H with h|h
        . rcases ye (chk:=chk) (n:=n) e h with h|h
          . exact .inl h
          . exact .inr (aah h)
        . exact .inr (abc h)
def tX{chk:Lz->Int}:∀ {n:Nat} {acc gs:Lz} {i:Int}, ∀e,e∈ (ef chk n acc gs i).2-> ∃a b,e=[tI 3,tI a,tI b]
 |0,acc,gs,i,e,H=>by simp[ef]at H
 |n+1,acc,gs,i,e,H=>by
  unfold ef at H;split at H
  . simp at H
  . split at H
    . simp at H
    . split at H
      . simp only[vv]at H;exact⟨_,_,H⟩
      . rcases yl.1 H with h|h
        . exact tX (chk:=chk) (n:=n) e h
        . exact tX (chk:=chk) (n:=n) e h
abbrev Ij(r f t a:Int):Lt:=[tI r,tI f,tI t,tI a]
abbrev RL(r f t a:Int):W:= .agg [.t (tI r),.t (tI f),.t (tI t),.t (tI a)]
def aLz(e:Lt):Prop:= ∃a b c d,e=[tI a,tI b,tI c,tI d]
abbrev ZA(xs:Lz):Prop:= ∀e,e∈xs->aLz e
abbrev oRl(id:ByteArray)(w l a b c:Int)(Z:Lz):W:= .agg [.t (.val (.string id)),.t (tI w),.t (tI l),.t (tI a),.t (tI b),.t (tI c),.t (.aO 4 Z)]
def aLy(e:Lt):Prop:= ∃id w l a b c Z,e=[.val (.string id),tI w,tI l,tI a,tI b,tI c,.aO 4 Z]/\id.size<=maxLen/\ZA Z/\Z.length<=maxLen
abbrev TG(xs:Lz):Prop:= ∀e,e∈xs->aLy e
def Cc(r f t a:Int):Tg 110 [RL r f t a] GI:=by
 refine aC Tryz.func110 ?_
 repeat' ((conv=>whnf);first|exact gI rfl rfl)
def Dp(n:Int):Tg 148 [oI n] GB:=by
 refine aC Tryz.func148 ?_
 repeat' ((conv=>whnf);first|refine aJ (λh=>?_) (λh=>?_)|exact gB rfl rfl)
def Dq(r f t a x y w h:Int):Tg 114 [RL r f t a,RL x y w h] GB:=by
 refine aC Tryz.func114 ?_
 repeat' ((conv=>whnf);first|refine bZz (λh=>?_) (λh=>?_)|(refine aD rfl (Dp _) ?_;rintro _ ⟨b,rfl⟩)|exact gB rfl rfl)
def aRc:lc Tryz.prog 259=some true:=ag
def zRc:dc Tryz.prog 259=some 4:=ag
def GBx(xs:Lz)(ts:Lw):Prop:= ∃a b c d e,ts=[RL a b c d,oI e]/\(e=0->DN xs)
def RBx(xs:Lz)(m:Nat)(vs:List V)(w:List (Lz)):Prop:= ∃ (i:Nat) (a b c d:Int),i<=xs.length/\m=xs.length - i/\vs=[iV .i64 (i:Int)]/\w=[[[tI 0,tI 0,tI 0,tI 0]],[[tI a,tI b]],[[tI c,tI d]]]
variable{xs zs:Lz}{a b c:Int}
def RBx.next{i:Nat}{d:Int}(I:(i:Int) < (xs.length:Int))(U:xs.length<=1000000):RBx xs (xs.length - (i+1)) [iV .i64 (IntKind.i64.wrap ((i:Int)+1))] [[[tI 0,tI 0,tI 0,tI 0]],[[tI a,tI b]],[[tI c,tI d]]]:=
 ⟨i+1,_,_,_,_,aa,rfl,by rw[bF aa aa];rfl,rfl⟩
def Aa(xs:Lz)(hx:cO xs)(U:xs.length<=1000000):Tg 113 [oL 2 xs] (GBx xs):=by
 refine aS ?_;refine aC Tryz.func113 ?_
 repeat' ((conv=>whnf);first|refine bZz (λh=>?_) (λh=>?_)|(have y:=(K aa).1.1;refine aG (xs:=xs) hx aa aa ?_;rintro _ ⟨M,z,rfl⟩ r)|refine And.intro ag ?_|(refine aD rfl (gv xs hx U) ?_;rintro _ ⟨e,rfl,K⟩)|exact eL rfl (cc aRc zRc rfl rfl (ww _) rfl (dm.refl _)) (cv rfl) ⟨_,_,_,_,_,rfl,λh=>by omega⟩|exact eL rfl (cc aRc zRc rfl rfl (ww _) rfl (dm.refl _)) (cv rfl) ⟨_,_,_,_,_,rfl,λ_=>K aa⟩|(apply bp [2,5,6,21,22,23] [] [23] [(4,4),(8,2),(12,2)] (RBx xs) (xs.length) [iV .i64 0];(iterate 3 exact ae);exact .cons (aL.aM (xs:=[[tI 0,tI 0,tI 0,tI 0]]) rfl _) (.cons (aL.aM (xs:=[[tI _,tI _]]) rfl _) (.cons (aL.aM (xs:=[[tI _,tI _]]) rfl _) .nil));exact⟨0,_,_,_,_,aa,rfl,rfl,rfl⟩;rintro _ _ _ ⟨i,a,b,c,d,I,rfl,rfl,rfl⟩)|(refine aI [2,5,6,21,22,23] [] ?_;(conv=>whnf);exact⟨rfl,_,[_],_,.cons (aL.aM (xs:=[[tI 0,tI 0,tI 0,tI 0]]) rfl _) (.cons (aL.aM (xs:=[[tI _,tI _]]) rfl _) (.cons (aL.aM (xs:=[[tI _,tI _]]) rfl _) .nil)),RBx.next aa U,rfl,rfl,aa⟩))
def aLF(ts:Lw):Prop:= ∃a b c,ts=[oI a,oI b,oB c]
def xe(a l:Int):Tg 151 [oI a,oI l] aLF:=by
 refine aS ?_;refine aC Tryz.func151 ?_
 repeat' ((conv=>whnf);first|refine aJ (λh=>?_) (λh=>?_)|exact H9 rfl (cv rfl) (cv rfl) (cv rfl) ⟨_,_,_,rfl⟩)
def aiA(zs:Lz)(m:Nat)(vs:List V):Prop:= ∃ (i:Nat) (H:Int),i<=zs.length/\m=zs.length - i/\vs=[iV .i64 H,iV .i64 (i:Int)]
def aiA.next{i:Nat}{lo:Int}(I:(i:Int) < (zs.length:Int))(U:zs.length<=1000000):aiA zs (zs.length - (i+1)) [iV .i64 lo,iV .i64 (IntKind.i64.wrap ((i:Int)+1))]:=
 ⟨i+1,_,aa,rfl,by rw[bF aa aa];rfl⟩
def Jt(zs:Lz)(I:Int)(A:cO zs)(U:zs.length<=1000000):Tg 146 [oL 2 zs,oI I] GI:=by
 refine aC Tryz.func146 ?_
 repeat' ((conv=>whnf);first|refine aJ (λh=>?_) (λh=>?_)|(refine aG (xs:=zs) A aa aa ?_;rintro _ ⟨L,d,rfl⟩ Y)|exact gI rfl rfl|(apply aV [1,5,9,10,11] [] [5,11] (aiA zs) (zs.length) [iV .i64 I,iV .i64 0];(iterate 3 exact ae);exact⟨0,_,aa,rfl,rfl⟩;rintro _ _ ⟨i,H,Z,rfl,rfl⟩)|(refine aI [1,5,9,10,11] [] ?_;(conv=>whnf);exact⟨rfl,_,[_,_],aiA.next aa U,rfl,rfl,rfl,aa⟩))
def aEz(e:Lt):Prop:= ∃o,e=[.aO 2 o]/\cO o/\o.length<=1000000
abbrev yn(xs:Lz):Prop:= ∀e,e∈xs->aEz e
def GEx(ts:Lw):Prop:= ∃M e,ts=[oL 2 M,oI e]/\cO M/\M.length<=60
def ahW(R:Lz)(m:Nat)(vs:List V)(w:List (Lz)):Prop:=
 ∃ (i:Nat) (M:Lz),i<=R.length/\m=R.length - i/\vs=[bD 4 2 M.length,iV .i64 (i:Int)]/\w=[M]/\cO M/\M.length<=i
def ahW.next{R:Lz}{i n:Nat}(I:(i:Int) < (R.length:Int))(U:R.length<=60)(A:cO zs)(N:zs.length<=i)(K:n=zs.length+1):
 ahW R (R.length - (i+1)) [bD 4 2 n,iV .i64 (IntKind.i64.wrap ((i:Int)+1))] [zs++[[tI a,tI b]]]:=by
 refine⟨i+1,_,aa,rfl,by subst K;rw[bF aa aa];simp,rfl,λe H=>?_,by simp;omega⟩;rcases yl.1 H with H|H
 . exact A e H
 . simp only[vv]at H;exact⟨a,b,H⟩
def Ov:cO []:=λe H=>by simp at H
def Cg(ln:Int)(R:Lz)(hp:yn R):Tg 145 [oI ln,oL 1 R] GEx:=by
 refine aS ?_;refine aC Tryz.func145 ?_
 repeat' ((conv=>whnf);first|refine bZz (λh=>?_) (λh=>?_)|(refine aG (xs:=R) hp aa aa ?_;rintro _ ⟨o,rfl,y,G⟩ S)|refine And.intro ⟨by simp[tr],by simp[tr,bh];omega,by simp[tr,maxLen];omega⟩ ?_|(refine aD rfl (Aa o y G) ?_;rintro _ ⟨a,b,c,d,e,rfl,_⟩)|exact eL rfl (dy 2 rfl) (cv rfl) ⟨[],_,rfl,Ov,ak⟩|exact eL rfl (df rfl rfl (xs:=M) rfl aa) (cv rfl) ⟨_,_,rfl,by rw[cD rfl];exact A,by rw[cD rfl];omega⟩|(apply cL [0,6,20,21,22] [] [6,22] [(4,2)] (ahW R) (R.length) [bD 4 2 0,iV .i64 0] (eo.dQ 6 2 rfl);(iterate 3 exact ae);exact .cons (aL.aM aL.nil _) .nil;exact⟨0,[],aa,rfl,rfl,rfl,Ov,ak⟩;rintro _ _ _ ⟨i,M,I,rfl,rfl,rfl,A,N⟩)|(refine aI [0,6,20,21,22] [] ?_;(conv=>whnf);exact⟨rfl,_,[_,_],_,.cons (aL.aM (aL.snoc (xs:=M) rfl [tI _,tI _]) _) .nil,ahW.next aa aa A N iC,rfl,rfl,aa⟩))
def zW(ln:Int)(R:Lz)(hp:yn R)(I:Int):Tg 106 [oI ln,oL 1 R,oI I] GII:=by
 refine aS ?_;refine aC Tryz.func106 ?_
 repeat' ((conv=>whnf);first|refine bZz (λh=>?_) (λh=>?_)|(refine aD rfl (Cg ln R hp) ?_;rintro _ ⟨M,e,rfl,A,N⟩)|(refine aD rfl (Jt M I A aa) ?_;rintro _ ⟨n,rfl⟩)|exact eL rfl (cv rfl) (cv rfl) ⟨_,_,rfl⟩)
def Rm(s:ByteArray)(S:s.size<=maxLen):Tg 149 [oS s] GB:=by
 refine aC Tryz.func149 ?_
 repeat' ((conv=>whnf);first|refine bZz (λh=>?_) (λh=>?_)|(refine jF aa aa ?_;intro a)|exact gB rfl rfl|(apply aV [0,8,9] [] [9] (RI s.size) (s.size) [iV .i64 0];(iterate 3 exact ae);exact RI.zero;rintro _ _ ⟨i,I,rfl,rfl⟩)|(refine aI [0,8,9] [] ?_;(conv=>whnf);exact⟨rfl,_,[_],RI.succ (N:=s.size) (i:=i) aa S,rfl,rfl,rfl,aa⟩))
def RI2(N:Nat)(j:List (Lz))(m:Nat)(vs:List V)(w:List (Lz)):Prop:= ∃i:Nat,i<=N/\m=N - i/\vs=[iV .i64 (i:Int)]/\w=j
def RI2.next{N i:Nat}{j:List (Lz)}(I:(i:Int) < (N:Int))(U:N<=maxLen):RI2 N j (N - (i+1)) [iV .i64 (IntKind.i64.wrap ((i:Int)+1))] j:=⟨i+1,aa,rfl,by simp only[maxLen]at U;rw[bF aa aa];rfl,rfl⟩
def is3:Is [[tI a],[tI b],[tI c]]:=λe H=>by
 simp only[aak,aa6,or_false]at H;rcases H with rfl|rfl|rfl<;>exact⟨_,rfl⟩
def apM{hp:HS}{id sz len:Nat}{rows:Lq}{x:T}(R:find hp id=some (.row sz rows))(M:aL rows xs)(U:len=xs.length):bB (bM hp) [.one (.t x),.one (.own id sz 0 len)]=some [.one (.t x),.one (.t (.aO sz xs))]:=by
 have:=kO (hp:=hp) (i:=0) R M (by omega:0+len<=xs.length);have N:bM hp (.one (.t x))=some (.one (.t x)):=rfl;simp only[bB,this,N];simp[U]
abbrev NE(a b c d:Int):Lz:=[[tI a,tI b],[tI c,tI b],[tI c,tI d],[tI a,tI d]]
def agR{d:Int}:cO (NE a b c d):=λe H=>by
 simp only[NE,aak,aa6,or_false]at H;rcases H with rfl|rfl|rfl|rfl<;>exact⟨_,_,rfl⟩
def Hi(xs:Lz)(hx:cO xs)(U:xs.length<=1000000)(x y w h:Int):Tg 116 [oL 2 xs,RL x y w h] GBI:=by
 refine aS ?_;refine aC Tryz.func116 ?_
 repeat' ((conv=>whnf);first|refine bZz (λh=>?_) (λh=>?_)|(refine aG (xs:=G) (L aa).1 aa aa ?_;rintro _ ⟨a,rfl,Q,d⟩ S)|(refine aD rfl (nG xs hx U) ?_;rintro _ ⟨G,e,rfl,L⟩)|(have z:=c';refine aD rfl (xe _ _) ?_;rintro _ ⟨H,D,tl,rfl⟩)|(refine aD rfl (xe _ _) ?_;rintro _ ⟨c',b,r,rfl⟩)|(refine iJ (apM rfl (show aL _ (NE c' H b D)from rfl) rfl) (rD a (NE c' H b D) Q agR d ak) ?_ ?_;(rintro _ ⟨n,rfl⟩;rfl);rintro _ ⟨n,rfl⟩)|exact eL rfl (cv rfl) (cv rfl) ⟨_,_,rfl⟩|(apply bp [14,70,71,72] [] [72] [(4,2)] (RI2 G.length [NE c' H b D]) (G.length) [iV .i64 0];(iterate 3 exact ae);exact .cons (aL.aM (xs:=NE _ _ _ _) rfl _) .nil;exact⟨0,aa,rfl,rfl,rfl⟩;rintro _ _ _ ⟨i,I,rfl,rfl,rfl⟩)|(refine aI [14,70,71,72] [] ?_;(conv=>whnf);exact⟨rfl,_,[_],_,.cons (aL.aM (xs:=NE _ _ _ _) rfl _) .nil,RI2.next aa (by have:=(L aa).2;simp only[maxLen];omega),rfl,rfl,aa⟩))
abbrev U2(l:Int)(ps:Lz):W:= .agg [.t (tI l),.t (.aO 4 ps)]
def GCr(ps:Lz)(ts:Lw):Prop:= ∃n e,ts=[oI n,oI e]/\(e=0->0<=n/\n < (ps.length:Int))
def Dr(l:Int)(ps n:Lz)(hp:ZA ps)(R:ps.length<=maxLen)(hx:cO n)(U:n.length<=1000000):Tg 69 [U2 l ps,oL 2 n] (GCr ps):=by
 refine aS ?_;refine aC Tryz.func69 ?_
 repeat' ((conv=>whnf);first|refine bZz (λh=>?_) (λh=>?_)|(refine aG (xs:=ps) hp aa aa ?_;rintro _ ⟨y,F,w,L,rfl⟩ S)|(refine aD rfl (Aa n hx U) ?_;rintro _ ⟨a,b,c,d,e,rfl,_⟩)|(refine aD rfl (Dq y F w L _ _ _ _) ?_;rintro _ ⟨D,rfl⟩)|exact eL rfl (cv rfl) (cv rfl) ⟨_,_,rfl,λh=>by omega⟩|(apply bp [6,19,20,21] [] [21] [(4,4)] (RI2 ps.length [[[tI a,tI b,tI c,tI d]]]) (ps.length) [iV .i64 0];(iterate 3 exact ae);exact .cons (aL.aM (xs:=[[tI a,tI b,tI c,tI d]]) rfl _) .nil;exact⟨0,aa,rfl,rfl,rfl⟩;rintro _ _ _ ⟨i,I,rfl,rfl,rfl⟩)|(refine aI [6,19,20,21] [] ?_;(conv=>whnf);exact⟨rfl,_,[_],_,.cons (aL.aM (xs:=[[tI a,tI b,tI c,tI d]]) rfl _) .nil,RI2.next aa R,rfl,rfl,aa⟩))
def GR(ln:Int)(R:Lz)(hp:yn R)(y F w L B d g N:Int):Tg 109 [oI ln,oL 1 R,RL y F w L,RL B d g N] GB:=by
 refine aC Tryz.func109 ?_
 repeat' ((conv=>whnf);first|refine aJ (λh=>?_) (λh=>?_)|refine And.intro ag ?_|(refine aD rfl (Cc _ _ _ _) ?_;rintro _ ⟨n,rfl⟩)|(refine aN rfl (Cc _ _ _ _) ?_;rintro _ ⟨n,rfl⟩)|(refine aD rfl (zW ln R hp _) ?_;rintro _ ⟨l,o,rfl⟩)|exact gB rfl rfl)
end Go.aW.Cd
namespace Go.aW.Cd
open Go Go.Proofs
class kw:Type 1 where
 pk: {α:Type}->[Inhabited α]->FuncId->Lw->(α->Lw)->(α->Prop)->α
 ok:∀ {α:Type} [Inhabited α] {f:FuncId} {args:Lw} {enc:α->Lw} {Q:α->Prop},(∃a,Fn Tryz.prog f args [] (aR (enc a)) []/\(aR (enc a)).cR=true/\Q a)->
  Fn Tryz.prog f args [] (aR (enc (pk f args enc Q))) []/\(aR (enc (pk f args enc Q))).cR=true/\Q (pk f args enc Q)
open Classical in
theorem yX:Nonempty kw:=by
 refine⟨⟨λf j b Q=>if h: ∃a,Fn Tryz.prog f j [] (aR (b a)) []/\(aR (b a)).cR=true/\Q a then h.choose else default,?_⟩⟩;intro α _ f j b Q h;rw[dif_pos h];exact h.choose_spec
variable[kw]
def pk{α:Type}[Inhabited α](f:FuncId)(args:Lw)(enc:α->Lw)(Q:α->Prop):α:=kw.pk f args enc Q
def lp{α:Type}[Inhabited α]{f:FuncId}{args:Lw}{enc:α->Lw}{Q:α->Prop}(h: ∃a,Fn Tryz.prog f args [] (aR (enc a)) []/\(aR (enc a)).cR=true/\Q a):
 ∃ts,Fn Tryz.prog f args [] (aR ts) []/\(aR ts).cR=true/\(ts=enc (pk f args enc Q)/\Q (pk f args enc Q)):=
 ⟨_,(kw.ok h).1,(kw.ok h).2.1,rfl,(kw.ok h).2.2⟩
def idV(id:ByteArray):Bool:=pk 149 [oS id] (λb=>[oB b]) (λ_=>True)
def Mp(id:ByteArray)(D:id.size<=maxLen): ∃ts,Fn Tryz.prog 149 [oS id] [] (aR ts) []/\(aR ts).cR=true/\(ts=[oB (idV id)]/\True):=by
 obtain⟨ts,O,Y,b,rfl⟩:=Rm id D;exact lp (enc:=λb=>[oB b]) (Q:=λ_=>True) ⟨b,O,Y,trivial⟩
def auK(e:Lt):Prop:= -1000<=nI 0 e/\nI 0 e<=1000
def aEF(l w:Int)(e:Lt):Prop:=(0<=nI 0 e/\1<=nI 2 e/\nI 2 e<=IntKind.i64.wrap (l - nI 0 e))/\0<=nI 1 e/\1<=nI 3 e/\nI 3 e<=IntKind.i64.wrap (w - nI 1 e)
structure XX(id:ByteArray)(w l a b c:Int)(fl:Lz):Prop where
 id:idV id=true
 rl:1<=l/\l<=1048576
 rw_:1<=w/\w<=1048576
 aG2:∀e,e∈ [[tI a],[tI b],[tI c]]->auK e
 fll:fl.length<=20
 flo:∀e,e∈fl->aEF l w e
def ahM(a b c:Int)(m:Nat)(vs:List V):Prop:= ∃i:Nat,i<=3/\Pre auK [[tI a],[tI b],[tI c]] i/\m=3 - i/\vs=[iV .i64 (i:Int)]
variable{a:Int}{Z:Lz}
def ahM.next{b c v:Int}{i:Nat}(I:(i:Int) < 3)(h:Pre auK [[tI a],[tI b],[tI c]] i)(S: [[tI a],[tI b],[tI c]][0+((i:Int)).toNat]? =some [tI v])(O: -1000<=v)(Y:v<=1000):ahM a b c (3 - (i+1)) [iV .i64 (IntKind.i64.wrap ((i:Int)+1))]:=
 ⟨i+1,aa,h.succ (e:=[tI v]) aA (show -1000<=v/\v<=1000 from⟨O,Y⟩),rfl,by rw[bF aa aa];rfl⟩
def U7{b:Bool}(h:(!b)=true):¬b=true:=bc
def z8(id:ByteArray)(w l a b c:Int)(Z:Lz)(D:id.size<=maxLen)(R:ZA Z)(x:Z.length<=maxLen):Tg 115 [oRl id w l a b c Z] (oq (λn=>n=0↔XX id w l a b c Z)):=by
 refine aC Tryz.func115 ?_
 repeat' ((conv=>whnf);first|refine bZz (λh=>?_) (λh=>?_)|(refine aG (xs:=Z) R aa aa ?_;rintro _ ⟨N,Q,K,y,rfl⟩ S)|refine And.intro aa ?_|(refine aD rfl (Mp id D) ?_;rintro _ ⟨rfl,_⟩)|(have e:(i:Int) < 3:=aa;refine cu (xs:=[[tI a],[tI b],[tI c]]) rfl is3 gZ ?_;rintro _ ⟨v,rfl⟩ B)|exact jX rfl rfl (iff_of_false av (λd=>U7 ai d.id))|exact jX rfl rfl (iff_of_false av (λd=>by have O:=d.rl;have Y:=d.rw_;omega))|exact jX rfl rfl (iff_of_false av (λd=>by have O: -1000<=v/\v<=1000:=d.aG2 _ (oo B);omega))|exact jX rfl rfl (iff_of_false av (λd=>by have O:=d.fll;omega))|exact jX rfl rfl (iff_of_false av (λd=>by have O:(0<=N/\1<=K/\K<=IntKind.i64.wrap (l - N))/\0<=Q/\1<=y/\y<=IntKind.i64.wrap (w - Q):=d.flo _ (oo S);omega))|exact jX rfl rfl (iff_of_true rfl ⟨dM ai,aa,aa,F.all gZ,aa,H.all aa⟩)|(apply aV [1,56,57,58] [] [58] (RQ (aEF l w) Z) (Z.length) [iV .i64 0];(iterate 3 exact ae);exact RQ.zero;rintro _ _ ⟨j,hi2,H,rfl,rfl⟩)|(refine aI [1,56,57,58] [] ?_;(conv=>whnf);exact⟨rfl,_,[_],RQ.next aa x H S (show(0<=N/\1<=K/\K<=IntKind.i64.wrap (l - N))/\0<=Q/\1<=y/\y<=IntKind.i64.wrap (w - Q)from⟨⟨aa,aa,aa⟩,aa,aa,aa⟩),rfl,rfl,rfl,aa⟩)|(apply aV [1,38,39,40] [] [40] (ahM a b c) (3) [iV .i64 0];(iterate 3 exact ae);exact⟨0,aa,Pre.zero,rfl,rfl⟩;rintro _ _ ⟨i,I,F,rfl,rfl⟩)|(refine aI [1,38,39,40] [] ?_;(conv=>whnf);exact⟨rfl,_,[_],ahM.next e F B aa aa,rfl,rfl,rfl,aa⟩))
def IN(e:Lt):Prop:= ∃id w l a b c Z,e=[.val (.string id),tI w,tI l,tI a,tI b,tI c,.aO 4 Z]/\XX id w l a b c Z
def IN.of{id:ByteArray}{w l b c:Int}(h:IN [.val (.string id),tI w,tI l,tI a,tI b,tI c,.aO 4 Z]):XX id w l a b c Z:=by
 obtain⟨S,j,A,G,K,F,d,H,h⟩:=h;simp only[aaz,T.val.injEq,Value.string.injEq,Value.int.injEq,T.aO.injEq,true_and,and_true]at H;obtain⟨rfl,rfl,rfl,rfl,rfl,rfl,rfl⟩:=H;exact h
structure aEr(aH lots:Lz):Prop where
 n:aH.length<=20
 all:∀e,e∈aH->IN e
 lots:lots.length=aH.length
def vE(v lots:Lz)(M:TG v)(g:v.length<=maxLen):Tg 107 [oL 7 v,oL 1 lots] (oq (λn=>n=0↔aEr v lots)):=by
 refine aC Tryz.func107 ?_
 repeat' ((conv=>whnf);first|refine bZz (λh=>?_) (λh=>?_)|(refine aG (xs:=v) M aa aa ?_;rintro _ ⟨id,y,z,N,Q,K,Z,rfl,D,x,J⟩ s)|(refine aD rfl (z8 id y z N Q K Z D x J) ?_;rintro _ ⟨o,rfl,a⟩)|exact jX rfl rfl (iff_of_false av (λd=>by have O:=d.n;omega))|exact jX rfl rfl (iff_of_false aa (λd=>by have O:=a.2 (IN.of (d.all _ (oo s)));omega))|exact jX rfl rfl (iff_of_false av (λd=>by have O:=d.lots;omega))|exact jX rfl rfl (iff_of_true rfl ⟨aa,F.all aa,aa⟩)|(apply aV [0,1,11,12,13] [] [13] (RQ IN v) (v.length) [iV .i64 0];(iterate 3 exact ae);exact RQ.zero;rintro _ _ ⟨i,I,F,rfl,rfl⟩)|(refine aI [0,1,11,12,13] [] ?_;(conv=>whnf);exact⟨rfl,_,[_],RQ.next aa g F s ⟨_,_,_,_,_,_,_,rfl,a.1 aa⟩,rfl,rfl,rfl,aa⟩))
def bkV(ln:Int)(R:Lz)(I:Int):Int×Int:=pk 106 [oI ln,oL 1 R,oI I] (λp=>[oI p.1,oI p.2]) (λ_=>True)
def GU(ln:Int)(R:Lz)(hp:yn R)(I:Int): ∃ts,Fn Tryz.prog 106 [oI ln,oL 1 R,oI I] [] (aR ts) []/\(aR ts).cR=true/\(ts=[oI (bkV ln R I).1,oI (bkV ln R I).2]/\True):=by
 obtain⟨ts,O,Y,n,e,rfl⟩:=zW ln R hp I;exact lp (enc:=λp:Int×Int=>[oI p.1,oI p.2]) (Q:=λ_=>True) ⟨(n,e),O,Y,trivial⟩
def jnV(ln:Int)(R:Lz)(p q:Lt):Bool:=pk 109 [oI ln,oL 1 R,.agg (p.map .t),.agg (q.map .t)] (λb=>[oB b]) (λ_=>True)
def D6(ln:Int)(R:Lz)(hp:yn R)(y F w L B d g N:Int): ∃ts,Fn Tryz.prog 109 [oI ln,oL 1 R,RL y F w L,RL B d g N] [] (aR ts) []/\(aR ts).cR=true/\(ts=[oB (jnV ln R (Ij y F w L) (Ij B d g N))]/\True):=by
 obtain⟨ts,O,Y,b,rfl⟩:=GR ln R hp y F w L B d g N;exact lp (f:=109) (args:=[oI ln,oL 1 R,.agg ((Ij y F w L).map .t),.agg ((Ij B d g N).map .t)]) (enc:=λb=>[oB b]) (Q:=λ_=>True) ⟨b,O,Y,trivial⟩
structure ClF(ln wd:Int)(aQ aH lots:Lz):Prop where
 back:(bkV ln aQ 0).2=0
 rs:aEr aH lots
 wd:1<=wd/\wd<=1048576
def nJ(ln r U c:Int)(sizes places R v lots:Lz)(hp:yn R)(M:TG v)(g:v.length<=maxLen):Tg 66 [YP ln r U c sizes places,oL 1 R,oL 7 v,oL 1 lots] (oq (λn=>n=0↔ClF ln r R v lots)):=by
 refine aC Tryz.func66 ?_
 repeat' ((conv=>whnf);first|refine bZz (λh=>?_) (λh=>?_)|(refine aD rfl (GU ln R hp _) ?_;rintro _ ⟨rfl,_⟩)|(refine aD rfl (vE v lots M g) ?_;rintro _ ⟨n,rfl,K⟩)|exact jX rfl rfl (iff_of_false aa (λd=>by have O:=d.back;omega))|exact jX rfl rfl (iff_of_false aa (λd=>by have O:=K.2 d.rs;omega))|exact jX rfl rfl (iff_of_false av (λd=>by have O:=d.wd;omega))|exact jX rfl rfl (iff_of_true rfl ⟨aa,K.1 aa,aa⟩))
abbrev BO(xs:Lz)(r:Int):Lt:=(xs[r.toNat]?).getD []
def ClL(v:Lz)(p:Lt):Prop:=(0<=nI 0 p/\nI 0 p < (v.length:Int))/\0<=nI 1 p/\nI 1 p < nI 2 p/\nI 2 p<=nI 2 (BO v (nI 0 p))
def rN{xs:Lz}{r:Int}{e:Lt}(h:xs[r.toNat]? =some e):BO xs r=e:=by simp[BO,h]
def aD8{v:Lz}{r f t q:Int}{id:ByteArray}{w l L I g:Int}(S:v[r.toNat]? =some [.val (.string id),tI w,tI l,tI L,tI I,tI g,.aO 4 Z])(z:0<=r)(O:r < (v.length:Int))(Y:0<=f)(B:f < t)(b:Bool)(G:b=decide (t<=l)):b=true↔ClL v [tI r,tI f,tI t,tI a]:=by
 have e:nI 2 (BO v r)=l:=by rw[rN S];rfl
 rw[G,decide_eq_true_eq];constructor
 . intro h;exact⟨⟨z,O⟩,Y,B,by show t<=nI 2 (BO v r);rw[e];exact h⟩
 . rintro⟨_,_,_,h⟩;have h:t<=nI 2 (BO v r):=h;rwa [e]at h
def AL(r f t a:Int)(v:Lz)(M:TG v):Tg 108 [RL r f t a,oL 7 v] (ZC (ClL v (Ij r f t a))):=by
 refine aC Tryz.func108 ?_
 repeat' ((conv=>whnf);first|refine aJ (λh=>?_) (λh=>?_)|(refine aG (xs:=v) M aa aa ?_;rintro _ ⟨id,w,l,L,I,D,Z,rfl,_,_,_⟩ S)|refine And.intro ag ?_|exact gBp rfl rfl (aD8 (q:=0) S aa aa aa aa _ rfl)|exact gBp rfl rfl (iff_of_false ak (λd=>by obtain⟨⟨O,Y⟩,B,g,_⟩:=d;have O:0<=r:=O;have Y:r < (v.length:Int):=Y;have B:0<=f:=B;have g:f < t:=g;omega)))
end Go.aW.Cd
namespace Go.aW
open Go
variable{P:Program}{M A:agt}{ρ:Env}{F:agt}{st:St}{a:Act}{w:World}
variable{tm' D:TS}{hp' B:HS}{c ctr n sz id y:Nat}{ks:List Nat}{S:Ren}{l:Nat->Nat}{rows:Lq}{U Y:bE}{b:Rc}
def Rel.aBm(h:Rel M A ρ F st a w)(f g:Nat->Option Nat)(d:∀o k,f o=some k->g k=some o)
 (D:∀t v,find tm' t=some v-> ∃u G,find st.tmps t=some u/\v=u.aM G/\ ∀o q,G o=some q->f o=some q)
 (N:∀k b,find hp' k=some b-> ∃o K G,find st.heap o=some K/\f o=some k/\b=K.aM G/\ ∀o q,G o=some q->f o=some q):
 Rel M A (λk=>(g k).bind ρ) (λk=>g k=none) ⟨st.n,tm',hp'⟩ a w:=by
 have H:∀id k l,f id=some k->ρ id=some l->(g k).bind ρ=some l:=by
  intro id k l R U;rw[d _ _ R];exact U
 refine⟨h.size,h.defers,λt v z=>?_,λk b Z=>?_,λk P b K q O Y y B=>?_,λk Z=>?_,h.bound,h.may,h.dR⟩
 . obtain⟨u,G,L,rfl,S⟩:=D t v z;exact(h.tmps _ u L).aM (λid k l R=>H id k l (S _ _ R))
 . obtain⟨o,K,G,c,R,rfl,S⟩:=N k b Z;exact(h.heap o K c).aM (λid k l R=>H id k l (S _ _ R)) (λl U=>H _ _ _ R U) (λ_ _ r=>r)
 . obtain⟨o,I,_,x,e,_⟩:=N _ _ O;obtain⟨n,Q,_,j,s,_⟩:=N _ _ Y;rw[d _ _ e]at y;rw[d _ _ s]at B;have:=h.inj o n I Q q x j y B;subst this;rw[e]at s;simpa using s
 . show(g k).bind ρ=none;rw[Z];rfl
def mC(o:Nat):Bool:=Nat.blt o 1000||Nat.ble 2000000 o
abbrev pid(j:Nat):Nat:=1000+j
def R6(o:Nat):Bool:=decide (1000<=o/\o < 2000000)
def fE(L:List (Nat×Nat))(o:Nat):Option Nat:=match find L o with
 |some q=>some q
 |none=>if R6 o=true/\find (swp L) o=none then some o else none
def gE(L:List (Nat×Nat))(k:Nat):Option Nat:=match find (swp L) k with
 |some q=>some q
 |none=>if R6 k=true/\find L k=none then some k else none
def LOk(L:List (Nat×Nat))(c:Nat):Prop:= ∀p,p∈L->find (swp L) p.2=some p.1/\find L p.1=some p.2/\p.2 < c
def fgE{L:List (Nat×Nat)}(h:LOk L c){o k:Nat}(R:fE L o=some k):gE L k=some o:=by
 unfold fE at R;split at R
 . rename_i q d;simp only[ii]at R;subst R;simp only[gE,(h _ (bX d)).1]
 . rename_i K;split at R
   . rename_i D;simp only[ii]at R;subst R;simp only[gE,D.2,K,D.1,and_self,if_true]
   . simp at R
def eo.aoH{tm:TS}{hp:HS}{c':Nat}(L:List (Nat×Nat))(R:LOk L c')(D:2000000<=c')(g:∀i,i < 4->find L i=some i)
 (c:∀t v,find tm' t=some v-> ∃u G,find tm t=some u/\v=u.aM G/\ ∀o q,G o=some q->fE L o=some q)
 (N:∀k b,find hp' k=some b-> ∃o K G,find hp o=some K/\fE L o=some k/\b=K.aM G/\ ∀o q,G o=some q->fE L o=some q):eo tm hp ctr tm' hp' c':=by
 intro M A ρ n a w J;refine⟨A,_,(J.aBm (fE L) (gE L) (λo k=>fgE R) c N).sub (λk Z=>?_),λid l P U=>?_,fZ.refl M A w⟩
 . simp only[bJ]at Z;unfold gE;split
   . rename_i q d;have r:=bX d;simp only[swp,aad,uu]at r;obtain⟨p,hp,O,_⟩:=r;have:=(R p hp).2.2;omega
   . rw[if_neg];simp only[R6,decide_eq_true_eq];omega
 . have:fE L id=some id:=by simp only[fE,g id P]
   show(gE L id).bind ρ=some l;rw[fgE R this];exact U
abbrev lit:Nat:=2000000
abbrev cJ:Nat:=900000
def mem(n k:Nat):List Nat:=(cJ::List.range n).filter λj=>decide (j≠k)
def mem_iff{k j:Nat}:j∈mem n k↔(j=cJ\/j < n)/\j≠k:=by simp[mem]
def qR{k:Nat}(K:n<=cJ):∀j,j∈mem n k->j < 1000000:=λj Q=>by
 have:=(mem_iff.1 Q).1;simp only[cJ]at this K;omega
def dh(sz:Nat)(F:Nat->Lz)(ks:List Nat):HS:=ks.map λj=>(pid j,.row sz (tr (F j)))
def amP{F:Nat->Lz}{K:HS->Prop}(h:K (dh sz F ks)):jG (dh sz F ks) K:=by
 rw[cM];exact h
def LY{F:Nat->Lz}{K:HS->Prop}(D:mC id=true)(Z:∀j,j∈ks->j < 1000000)(h:K (dh sz F ks)):jG (del (dh sz F ks) id) K:=by
 rw[cM];simp only[mC,ab6,ady,abv]at D
 have:∀l:List Nat,(∀j,j∈l->j < 1000000)->del (dh sz F l) id=dh sz F l:=by
  intro l
  induction l with
  |nil=>intro _;rfl
  |cons j l c=>
   intro U;have:=U j aa1;simp only[dh,aaq,del];rw[if_neg Ts];have Y:=c (λi I=>U i (aa2 _ I));simp only[dh]at Y;rw[Y]
 rw[this ks Z];exact h
def qu{sz:Nat}{F:Nat->Lz}{id:Nat}{b:bE}:∀ {ks:List Nat},find (dh sz F ks) id=some b-> ∃j,j∈ks/\id=pid j/\b= .row sz (tr (F j))
 | [],h=>by simp[dh,find]at h
 |j::ks,h=>by
  simp only[dh,aaq,aF]at h;split at h
  . rename_i e;simp only[ii]at h;exact⟨j,aa1,e.symm,h.symm⟩
  . obtain⟨d,O,Y⟩:=qu h;exact⟨d,aa2 _ O,Y⟩
def Fj{sz:Nat}{F:Nat->Lz}{j:Nat}:∀ {ks:List Nat},j∈ks->find (dh sz F ks) (pid j)=some (.row sz (tr (F j)))
 |d::ks,h=>by
  simp only[dh,aaq,aF]
  by_cases e:d=j
  . subst e;rw[if_pos rfl]
  . rw[if_neg Ts];rcases aak.1 h with rfl|h
    . exact absurd rfl e
    . exact Fj h
inductive jo(sz:Nat)(F:Nat->Lz)(ks:List Nat):HS->Prop
 |here:jo sz F ks (dh sz F ks)
 |cons {q:HS} {i:Nat} {b:bE} (h:jo sz F ks q) (ho:mC i=true):jo sz F ks ((i,b)::q)
def jo.find{sz:Nat}{F:Nat->Lz}{ks:List Nat}{hp:HS}(h:jo sz F ks hp)(Z:∀j,j∈ks->j < 1000000){j:Nat}(Q:j∈ks):Go.aW.find hp (pid j)=some (.row sz (tr (F j))):=by
 induction h with
 |here=>exact Fj Q
 |cons _ d c=>
  rw[aF,if_neg,c];have:=Z j Q;simp only[mC,ab6,ady,abv]at d;simp only[pid];omega
def dZ{α:Type}(x y:List (Nat×α))(k:Nat):find (x++y) k=match find x k with
 |some v=>some v
 |none=>find y k:=by
 induction x with
 |nil=>rfl
 |cons p x c=>
  obtain⟨q,v⟩:=p;simp only[ab8,aF];split
  . rfl
  . exact c
def Ren.BH(S:Ren)(hp:HS):HS:=S.ids.filterMap λp=>(find hp p.1).map λb=>(p.2,b.aM S.f)
def Ren.yc{p:Nat×Nat}(h:p∈S.ids):p∈S.all:=by simp[Ren.all,h]
def Ren.out(S:Ren)(E:Nat):Bool:=S.all.all λp=>mC p.1&&mC p.2&&decide (p.1≠E)&&decide (p.2≠2000000)
def vN(E k P:Nat):List (Nat×Nat):=if k=P then [(E,lit)]else [(E,pid k),(pid P,lit)]
def BA(x y:List (Nat×Nat)):swp (x++y)=swp x++swp y:=adt
def nX{L:List (Nat×Nat)}{k:Nat}(h:∀p,p∈L->p.2≠k):find (swp L) k=none:=by
 cases hf:find (swp L) k with
 |none=>rfl
 |some o=>
  have r:=bX hf;simp only[swp,aad,uu]at r;obtain⟨p,F,O,_⟩:=r;exact absurd O (h p F)
def tc{L:List (Nat×Nat)}{k:Nat}(h:∀p,p∈L->p.1≠k):find L k=none:=by
 cases hf:find L k with
 |none=>rfl
 |some o=>exact absurd rfl (h _ (bX hf))
def OZ{x y:List (Nat×Nat)}(h:LOk x c)(k:LOk y c)(O:∀p q,p∈x->q∈y->p.1≠q.1/\p.2≠q.2):LOk (x++y) c:=by
 intro p F;rcases yl.1 F with F|F
 . obtain⟨a,b,c⟩:=h p F;exact⟨by rw[BA,dZ,a],by rw[dZ,b],c⟩
 . obtain⟨a,b,c⟩:=k p F;refine⟨?_,?_,c⟩
   . rw[BA,dZ,nX (λq d=>(O q p d F).2)];exact a
   . rw[dZ,tc (λq d=>(O q p d F).1)];exact b
def acJ{E k P:Nat}(hE:mC E=true)(Z:k < 1000000)(a:P < 1000000)(D:2000000 < c):LOk (vN E k P) c:=by
 simp only[mC,ab6,ady,abv]at hE;intro p F;unfold vN at F⊢;split at F
 . rename_i e;rw[if_pos e];simp only[vv]at F;subst F;exact⟨by simp[swp,find],by simp[find],D⟩
 . rename_i e;rw[if_neg e];simp only[aak,aa6,or_false]at F;rcases F with rfl|rfl
   . exact⟨by simp[swp,find],by simp[find],by simp only[pid];omega⟩
   . refine⟨?_,?_,D⟩
     . simp only[swp,aaq,abh,aF];rw[if_neg Ey];simp
     . simp only[aF];rw[if_neg Ts];simp
def fR(S:Ren)(E k P:Nat):Nat->Option Nat:=fE (S.all++vN E k P)
def Ie{E k P o q:Nat}(h:S.f o=some q):fR S E k P o=some q:=by
 have:find (S.all++vN E k P) o=some q:=by rw[dZ,show find S.all o=some q from h]
 simp only[fR,fE,this]
def nP{E:Nat}(h:S.out E=true){p:Nat×Nat}(hp:p∈S.all):(p.1 < 1000\/2000000<=p.1)/\(p.2 < 1000\/2000000<=p.2)/\p.1≠E/\p.2≠2000000:=by
 have:=yt.1 h p hp;simp only[mC,LD,ab6,ady,abv,decide_eq_true_eq]at this;omega
abbrev nm(k j:Nat):Nat:=if j=k then lit else pid j
abbrev CG(E k j:Nat):Nat:=if j=k then E else pid j
def akX{E k P j:Nat}(l:S.out E=true)(hE:mC E=true)(Z:k < 1000000)(a:P < 1000000)(Q:j < 1000000):fR S E k P (CG E k j)=some (nm P j):=by
 simp only[mC,ab6,ady,abv]at hE
 have O:find S.all (CG E k j)=none:=tc λp F=>by
  have:=nP l F;simp only[CG,pid];split<;>omega
 have Y:find (swp S.all) (pid j)=none:=nX λp F=>by
  have:=nP l F;simp only[pid];omega
 simp only[fR,fE,dZ,BA,O]
 by_cases e:j=k
 . subst e;simp only[CG,if_true]
   by_cases o:j=P
   . subst o;simp[vN,aF,nm]
   . simp[vN,aF,nm,o]
 . have B:R6 (pid j)=true:=by simp only[R6,pid,decide_eq_true_eq];omega
   simp only[CG,e,if_false]
   by_cases o:j=P
   . subst o;have:¬k=j:=λh=>e h.symm;have g:¬E=pid j:=by simp only[pid];omega
     simp[vN,aF,nm,this,g]
   . have g:find (vN E k P) (pid j)=none:=tc λp F=>by
      unfold vN at F;split at F
      . simp only[vv]at F;subst F;simp only[pid];omega
      . simp only[aak,aa6,or_false]at F;rcases F with rfl|rfl<;>simp only[pid]<;>omega
     have U:find (swp (vN E k P)) (pid j)=none:=nX λp F=>by
      unfold vN at F;split at F
      . simp only[vv]at F;subst F;simp only[pid,lit];omega
      . simp only[aak,aa6,or_false]at F;rcases F with rfl|rfl<;>simp only[pid,lit]<;>omega
     simp[Y,B,g,U,nm,o]
def eo.aBn{tm:TS}{hp:HS}(S:Ren)(E n k P sz zb zc:Nat)(F F':Nat->Lz)(cb LP:bE)(X1:HS)(a:S.ok=true)(l:S.out E=true)(hE:mC E=true)(D:2000000 < S.ctr)(K:n<=cJ)
 (Z:k=cJ\/k < n) (d:P=cJ\/P < n) (A:find S.all zb=some zc) (hcb:find hp zb=some cb) (hq:S.BH hp=(zc,LP)::X1) (H:find hp E=some (.row sz (tr (F' k)))) (mo:jo sz F (mem n k) hp) (w:∀j,j≠k->F' j=F j):
 eo tm hp ctr (S.tm tm) ((zc,cb.aM (fR S E k P))::(X1++(lit,.row sz (tr (F' P)))::dh sz F' (mem n P))) S.ctr:=by
 have J:k < 1000000:=by simp only[cJ]at Z K;omega
 have xB:P < 1000000:=by simp only[cJ]at d K;omega
 have G:∀ {j:Nat},(j=cJ\/j < n)->j < 1000000:=λQ=>by simp only[cJ]at Q K;omega
 refine eo.aoH (S.all++vN E k P) (OZ (λp hp=>?_) (acJ hE J xB D) (λp q hp hq=>?_)) aa (λi I=>?_) (λt v z=>?_) (λid b c=>?_)
 . obtain⟨O,Y,B⟩:=Ren.fI a (o:=p.1) (n:=p.2) hp;exact⟨O,Y,B⟩
 . have O:=nP l hp;simp only[mC,ab6,ady,abv]at hE;unfold vN at hq;split at hq
   . simp only[vv]at hq;subst hq;simp only[lit];omega
   . simp only[aak,aa6,or_false]at hq;rcases hq with rfl|rfl<;>simp only[pid,lit]<;>omega
 . rw[dZ];have:i=0\/i=1\/i=2\/i=3:=aa
   rcases this with rfl|rfl|rfl|rfl<;>rfl
 . have r:=bX z;simp only[Ren.tm,aau,jU,uu]at r;obtain⟨R,_,u,L,rfl,rfl⟩:=r;exact⟨u,S.f,L,rfl,λo q hq=>Ie hq⟩
 . simp only[aF]at c;split at c
   . rename_i e;subst e;simp only[ii]at c;exact⟨zb,cb,_,hcb,Ie A,c.symm,λ_ _ h=>h⟩
   . rename_i s;rw[dZ]at c;split at c
     . rename_i v z;simp only[ii]at c;subst c;have r:=bX (show find (S.BH hp) id=some v by rw[hq,aF,if_neg s,z]);simp only[Ren.BH,aau,jU,uu]at r;obtain⟨⟨o,N⟩,AZ,x,nj,rfl,rfl⟩:=r;have AZ:=Ren.yc AZ;exact⟨o,x,S.f,nj,Ie (Ren.fI a AZ).2.1,rfl,λo q hq=>Ie hq⟩
     . have tn:∀ (M:Lz) (f:Nat->Option Nat),(bE.row sz (tr M))=(bE.row sz (tr M)).aM f:=λM f=>by simp only[bE.aM,gk]
       have key:∀j,(j=cJ\/j < n)->b= .row sz (tr (F' j))->id=nm P j-> ∃o x f',find hp o=some x/\fE (S.all++vN E k P) o=some id/\b=x.aM f'/\ ∀o q,f' o=some q->fE (S.all++vN E k P) o=some q:=by
        intro j Q hbj y;refine⟨CG E k j,.row sz (tr (F' j)),fR S E k P,?_,by rw[y];exact akX l hE J xB (G Q),by rw[hbj];exact tn _ _,λ_ _ h=>h⟩
        by_cases e:j=k
        . subst e;simpa[CG]using H
        . simp only[CG,e,if_false];rw[w j e];exact mo.find (λi I=>G (mem_iff.1 I).1) (mem_iff.2 ⟨Q,e⟩)
       rw[aF]at c;split at c
       . rename_i e;simp only[ii]at c;exact key P d c.symm (by simp[nm,e])
       . obtain⟨j,O,Y,B⟩:=qu c;obtain⟨g,U⟩:=mem_iff.1 O;exact key j g B (by simp[nm,U,Y])
def eo.OQ{tm:TS}{hp:HS}(S:Ren)(n sz zc:Nat)(rows:Lq)(X1:HS)(hok:S.ok=true)(hS:S.out 999=true)(D:2000000 < S.ctr)(K:n<=cJ)
 (hq:S.BH hp=(zc,.row 1 rows)::X1) (F:aL rows (List.replicate n [dw])):
 eo tm hp ctr (S.tm tm) ((zc,.row 1 ((List.range n).map λj=>[.own (nm cJ j) sz 0 0]))::(X1++(lit,.row sz (tr []))::dh sz (λ_=>[]) (mem n cJ))) S.ctr:=by
 intro M A ρ n0 a w J
 have hsw:∀id,1000<=id->id<=2000000->find (swp S.all) id=none:=λid O Y=>nX λp hp=>by
  have:=nP hS hp;omega
 have O:=J.aBm (tm':=S.tm tm) (hp':=S.BH hp) S.f (λk=>find (swp S.all) k) (λo k R=>(Ren.fI hok (bX R)).1) (λt v Z=>by
  have r:=bX Z;simp only[Ren.tm,aau,jU,uu]at r;obtain⟨t',_,u,L,rfl,rfl⟩:=r;exact⟨u,S.f,L,rfl,λ_ _ h=>h⟩) (λk b G=>by
  have r:=bX G;simp only[Ren.BH,aau,jU,uu]at r;obtain⟨⟨o,n'⟩,AZ,P,nj,rfl,rfl⟩:=r;have AZ:=Ren.yc AZ;exact⟨o,P,S.f,nj,(Ren.fI hok AZ).2.1,rfl,λ_ _ h=>h⟩)
 have hzc:zc < 1000\/2000000 < zc:=by
  have r:(zc,bE.row 1 rows)∈S.BH hp:=by rw[hq];exact aa1
  simp only[Ren.BH,aau,jU,uu]at r;obtain⟨⟨o,n'⟩,AZ,P,nj,rfl,_⟩:=r;have AZ:=Ren.yc AZ;have:=nP hS AZ;omega
 generalize hρ2:(λk=>(find (swp S.all) k).bind ρ)=ρ2 at O
 have cI:dD ρ2 (λid=>if 1000<=id/\id<=2000000 then some .dQ else ρ2 id):=λid l U=>by
  show(if 1000<=id/\id<=2000000 then some Loc.dQ else ρ2 id)=some l;rw[if_neg,U];rintro⟨q1,q2⟩;rw[O.fresh id (hsw id q1 q2)]at U;simp at U
 have hvt:∀id,1000<=id->id<=2000000->(λid=>if 1000<=id/\id<=2000000 then some Loc.dQ else ρ2 id) id=some .dQ:=λid q1 q2=>if_pos ⟨q1,q2⟩
 have akP:∀ {id:Nat} {b:bE},find ((zc,bE.row 1 ((List.range n).map λj=>[C.own (nm cJ j) sz 0 0]))::(X1++(lit,.row sz (tr []))::dh sz (λ_=>[]) (mem n cJ))) id=some b->
  (id=zc/\b= .row 1 ((List.range n).map λj=>[C.own (nm cJ j) sz 0 0]))\/find (S.BH hp) id=some b\/(1000<=id/\id<=2000000/\b= .row sz []):=by
  intro id b G;simp only[aF]at G;split at G
  . rename_i e;simp only[ii]at G;exact .inl ⟨e.symm,G.symm⟩
  . rename_i hne;rw[dZ]at G;split at G
    . rename_i v Z;exact .inr (.inl (by rw[hq,aF,if_neg hne,Z,G]))
    . rw[aF]at G;split at G
      . rename_i e;simp only[ii]at G;exact .inr (.inr ⟨by rw[<-e];simp[lit],by rw[<-e];exact ww _,G.symm⟩)
      . obtain⟨j,j1,j2,j3⟩:=qu G;have:=(mem_iff.1 j1).1;simp only[cJ]at this K;exact .inr (.inr ⟨by rw[j2];simp[pid],by rw[j2];simp only[pid];omega,j3⟩)
 have hold:∀ {id b:Nat} {bl:bE},find ((zc,bE.row 1 ((List.range n).map λj=>[C.own (nm cJ j) sz 0 0]))::(X1++(lit,.row sz (tr []))::dh sz (λ_=>[]) (mem n cJ))) id=some bl->
  (if 1000<=id/\id<=2000000 then some Loc.dQ else ρ2 id)=some (.gD b)-> ∃AB,find (S.BH hp) id=some AB/\ρ2 id=some (.gD b):=by
  intro id b bl G cU;have Ak:¬ (1000<=id/\id<=2000000):=λd=>by rw[if_pos d]at cU;simp at cU
  rw[if_neg Ak]at cU;rcases akP G with⟨rfl,_⟩|d|⟨q1,q2,_⟩
  . exact⟨.row 1 rows,by rw[hq,aF,if_pos rfl],cU⟩
  . exact⟨_,d,cU⟩
  . exact absurd ⟨q1,q2⟩ Ak
 refine⟨A,_,⟨O.size,O.defers,λt v Z=>(O.tmps t v Z).keeps (dS.refl _ _) (λ_ _=>rfl) cI,λid b G=>?_,λid id' b P q f1 f2 y B=>?_,λid hid=>?_,O.bound,O.may,O.dR⟩,λid l hid U=>?_,fZ.refl M A w⟩
 . rcases akP G with⟨rfl,rfl⟩|d|⟨q1,q2,rfl⟩
   . have z:=(O.heap id (.row 1 rows) (by rw[hq,aF,if_pos rfl])).keeps (dS.refl _ _) (λ_ _=>rfl) cI (λ_ h=>h) (λ_ _=>rfl);obtain⟨g1,g2⟩:=z;refine⟨λe H=>?_,?_⟩
     . simp only[aad]at H;obtain⟨j,_,rfl⟩:=H;rfl
     . rcases g2 with⟨b,c,e,s,g,k3,k4,k5,k6⟩|⟨s,g⟩
       . refine .inl ⟨b,c,e,s,g,k3,k4,by rw[F.len]at k5;simpa using k5,λi el j q I Q=>?_⟩;simp only[yu,jU]at I;obtain⟨i',hi',rfl⟩:=I
         obtain⟨hlt,rfl⟩:i < n/\i=i':=by
          have:=jl.1 hi';obtain⟨q1,q2⟩:=this;simp at q1 q2;exact⟨q1,q2⟩
         cases j with
         |succ j=>simp at Q
         |zero=>
          simp only[yq,ii]at Q;subst Q;have hrow:rows[i]? =some [C.t dw]:=by rw[F];simp[tr,hlt]
          obtain⟨x,N,hrc,hcell⟩:=k6 i _ 0 _ hrow rfl;refine⟨x,N,?_,hcell⟩;have hrt:RT w A dw x:=hrc;cases hrt;have Ak:¬i=cJ:=by simp only[cJ]at K⊢;omega
          refine .inr ⟨?_,rfl,rfl,rfl⟩;simp only[nm,Ak,if_false];exact hvt _ (by simp[pid]) (by simp only[pid,cJ]at K⊢;omega)
       . have PG:n=0:=by
          have:=F.len;rw[g]at this;simpa using this.symm
         subst PG;exact .inr ⟨s,rfl⟩
   . exact(O.heap id b d).keeps (dS.refl _ _) (λ_ _=>rfl) cI (λ_ h=>h) (λ_ _=>rfl)
   . exact⟨ak,.inr ⟨hvt id q1 q2,rfl⟩⟩
 . obtain⟨c1,g1,s1⟩:=hold f1 y;obtain⟨c2,g2,s2⟩:=hold f2 B;exact O.inj id id' c1 c2 q g1 g2 s1 s2
 . simp only[bJ]at hid;show(if 1000<=id/\id<=2000000 then some Loc.dQ else ρ2 id)=none;rw[if_neg aa];refine O.fresh id (nX λp hp=>?_);have:=(Ren.fI hok (o:=p.1) (n:=p.2) hp).2.2;omega
 . refine cI id l ?_;subst hρ2
   have:find (swp S.all) id=some id:=by
    have I:id=0\/id=1\/id=2\/id=3:=aa
    rcases I with rfl|rfl|rfl|rfl<;>rfl
   show(find (swp S.all) id).bind ρ=some l;rw[this];exact U
def cV(k sz:Nat)(l:Nat->Nat)(n:Nat):Lq:=(List.range n).map λj=>[.own (nm k j) sz 0 (l j)]
def Fb{k E P q:Nat}{A:Nat->Nat}{f:Nat->Option Nat}(U:∀j,j < n->A j=if j=k then q else l j)(h:∀j,j < n->f (CG E k j)=some (nm P j)):
 (bE.row 1 ((cV k sz l n).set k [.own E sz 0 q])).aM f= .row 1 (cV P sz A n):=by
 simp only[bE.aM,bE.row.injEq,true_and];apply abm;intro i;simp only[cV,yu,adG,abo,aej]
 by_cases I:i < n
 . have hi2:=h i I;have s:=U i I;have J:(List.range n)[i]? =some i:=afx
   rw[J]
   by_cases e:k=i
   . subst e;simp only[CG,if_true]at hi2;simp[I,C.aM,hi2,s]
   . have y:¬i=k:=λh=>e h.symm;simp only[CG,y,if_false]at hi2;simp[e,C.aM,nm,y,hi2,s]
 . have J:(List.range n)[i]? =none:=by simp;omega
   rw[J]
   by_cases e:k=i
   . subst e;simp[I]
   . simp[e]
def kn{k P:Nat}{A:Nat->Nat}{f:Nat->Option Nat}(U:∀j,j < n->A j=l j)(h:∀j,j < n->f (CG lit k j)=some (nm P j)):
 (bE.row 1 (cV k sz l n)).aM f= .row 1 (cV P sz A n):=by
 simp only[bE.aM,bE.row.injEq,true_and,cV,acm];apply abr;intro j Q;have Q:=aap.1 Q;have:=h j Q;simp only[CG]at this;simp[C.aM,nm,this,U j Q]
def Gn{k i:Nat}{K:Lc->Prop}(I:i=k)(Z:k < n)(h:K [.own lit sz 0 (l k)]):mP (cV k sz l n) i K:=by
 subst I;have:(cV i sz l n)[i]? =some [.own lit sz 0 (l i)]:=by simp[cV,Z,nm]
 simp only[mP,this];exact h
def oQ(N:List Nat)(tm:TS):Ren:=xG (xY tm [] N) λl=>⟨N,acA 2000004 l,2000004+4 * l.length⟩
def QZ{J:TS->HS->Nat->Prop}{tm:TS}{hp:HS}(N:List Nat)
 (x:qW (oQ N tm) λS=>jx (S.tm tm) λt=>mq (S.BH hp) λq=>S.ok=true/\S.out 999=true/\t=D/\q=(2000004,.row 1 rows)::B/\S.ctr=y/\Nat.blt 2000000 S.ctr=true)
 (M:aL rows (List.replicate n [dw])) (K:n<=cJ) (h:J D ((2000004,.row 1 (cV cJ sz (λ_=>0) n))::(B++(lit,.row sz (tr []))::dh sz (λ_=>[]) (mem n cJ))) y):bA J tm hp ctr:=by
 rw[kP,dX,fL]at x;obtain⟨O,Y,rfl,g,rfl,R⟩:=x;exact .wk (eo.OQ (oQ N tm) n sz 2000004 rows B O Y (pD R) K g M) h
def gf{J:TS->HS->Nat->Prop}{tm:TS}{hp:HS}{zb:Nat}{c:bE}(N:List Nat)(n k P E sz:Nat)(F F':Nat->Lz)(L:bE){ids:List (Nat×Nat)}
 (x:qW (oQ N tm) λS=>jx (S.tm tm) λt=>mq (S.BH hp) λq=>S.ok=true/\S.out E=true/\t=D/\q=(2000004,c)::B/\S.ctr=y/\Nat.blt 2000000 S.ctr=true/\S.ids=(zb,2000004)::ids)
 (hE:mC E=true) (d:find hp zb=some U) (H:find hp E=some (.row sz rows)) (b:jo sz F (mem n k) hp) (K:n<=cJ) (Z:k=cJ\/k < n) (a:P=cJ\/P < n)
 (M:aL rows (F' k)) (w:∀j,j≠k->F' j=F j) (e:∀f:Nat->Option Nat,(∀j,j < n->f (CG E k j)=some (nm P j))->U.aM f=L)
 (h:J D ((2000004,L)::(B++(lit,.row sz (tr (F' P)))::dh sz F' (mem n P))) y):bA J tm hp ctr:=by
 rw[kP,dX,fL]at x;obtain⟨O,Y,rfl,g,rfl,R,v⟩:=x;have A:find (oQ N tm).all zb=some 2000004:=(Ren.fI O (o:=zb) (n:=2000004) (by simp[Ren.all,v])).2.1;have G:∀ {j:Nat},(j=cJ\/j < n)->j < 1000000:=λQ=>by simp only[cJ]at Q K;omega
 rw[<-e (fR (oQ N tm) E k P) (λj Q=>akX Y hE (G Z) (G a) (G (.inr Q)))]at h;refine .wk (eo.aBn (oQ N tm) E n k P sz zb 2000004 F F' U c B O Y hE (pD R) K Z a A d g (by rw[H,M]) b w) h
def wB{Q:Exit->TS->HS->Nat->Prop}{tm:TS}{hp:HS}(ks:List Nat)(R:Nat->List V->HS->Prop)(A:Nat)(v:List V)
 (h:bA (λtm' hp' c'=>tm'=D/\c'=y/\R A v hp') tm hp ctr) (z:D=fF ks v D)
 (s:∀m vs hq,R m vs hq->jx (fF ks vs D) λr=>X P n b (dP (bA λtm' hp' c'=> ∃m' e,R m' e hp'/\tm'=fF ks e D/\c'=y/\m' < m) Q) r hq y):
 ∃I:Nat->TS->HS->Nat->Prop,bA (λtm hp c=> ∃m,I m tm hp c) tm hp ctr/\
  ∀m tm hp c,I m tm hp c->X P n b (dP (bA λtm hp c=> ∃m',m' < m/\I m' tm hp c) Q) tm hp c:=by
 refine⟨λm tm' hp' c'=> ∃e,R m e hp'/\tm'=fF ks e D/\c'=y,?_,?_⟩
 . obtain⟨tm',hp',c',a,rfl,rfl,M⟩:=h.get;exact .wk a ⟨A,v,M,z,rfl⟩
 . rintro m tm' hq c' ⟨vs,M,rfl,rfl⟩;have:=s m vs hq M;rw[dX]at this;refine(congrArg (λJ=>X P n b (dP (bA J) Q) _ _ _) ?_).mp this;funext tm' hp' c'';exact propext ⟨λ⟨m',e,O,Y,g,U⟩=>⟨m',U,e,O,Y,g⟩,λ⟨m',U,e,O,Y,g⟩=>⟨m',e,O,Y,g,U⟩⟩
def U9:List Nat->List Nat
 | []=>[]
 |x::r=>match Nat.beq x 2000000 with
  |true=>U9 r|false=>x::U9 r
def XG(N:List Nat)(tm:TS):Ren:=xG (xY tm [] N) λl=>xG (U9 l) λl=>⟨N,acA 2000004 l++[(2000000,2000000)],2000004+4 * l.length⟩
def Ren.aBI(S:Ren):Bool:=S.all.all λp=>mC p.1&&mC p.2
def Oa{J:TS->HS->Nat->Prop}{tm:TS}{hp:HS}{zb:Nat}{w LP:bE}(N:List Nat)(n k sz:Nat)(F:Nat->Lz)(F6:bE){ids:List (Nat×Nat)}
 (x:qW (XG N tm) λS=>jx (S.tm tm) λt=>mq (S.BH hp) λq=>S.ok=true/\S.aBI=true/\t=D/\q=(2000004,LP)::B/\S.ctr=y/\Nat.blt 2000000 S.ctr=true/\S.ids=(zb,2000004)::ids/\find S.all 2000000=some 2000000)
 (hcb:find hp zb=some w) (mo:jo sz F (mem n k) hp) (K:n<=cJ) (sW:∀f:Nat->Option Nat,(∀j,j < n->f (nm k j)=some (nm k j))->w.aM f=F6)
 (h:J D ((2000004,F6)::(B++dh sz F (mem n k))) y):bA J tm hp ctr:=by
 rw[kP,dX,fL]at x;obtain⟨O,Y,rfl,g,rfl,R,h7,h8⟩:=x;generalize XG N tm=S at O Y g R h7 h8 h;have R:=pD R;have A:find S.all zb=some 2000004:=(Ren.fI O (o:=zb) (n:=2000004) (by simp[Ren.all,h7])).2.1
 have l:∀p,p∈S.all->(p.1 < 1000\/2000000<=p.1)/\(p.2 < 1000\/2000000<=p.2):=λp hp=>by
  have:=yt.1 Y p hp;simpa[mC,ady,abv]using this
 have aCJ:∀j,j < 1000000->fE S.all (pid j)=some (pid j):=λj Q=>by
  have H:find S.all (pid j)=none:=tc λp hp=>by have:=l p hp;simp only[pid];omega
  have U:find (swp S.all) (pid j)=none:=nX λp hp=>by have:=l p hp;simp only[pid];omega
  have G:R6 (pid j)=true:=by simp only[R6,pid,decide_eq_true_eq];omega
  simp[fE,H,U,G]
 have aJR:fE S.all lit=some lit:=by simp only[fE,h8]
 rw[<-sW (fE S.all) (λj Q=>by
  simp only[nm];split
  . exact aJR
  . exact aCJ j (by simp only[cJ]at K;omega))]at h
 refine .wk (eo.aoH S.all (λp hp=>?_) (acz R) (λi I=>?_) (λt v z=>?_) (λid b c=>?_)) h
 . exact Ren.fI O (o:=p.1) (n:=p.2) hp
 . have:i=0\/i=1\/i=2\/i=3:=aa
   rcases this with rfl|rfl|rfl|rfl<;>rfl
 . have r:=bX z;simp only[Ren.tm,aau,jU,uu]at r;obtain⟨M,_,u,L,rfl,rfl⟩:=r;exact⟨u,S.f,L,rfl,λo q d=>by simp only[fE,show find S.all o=some q from d]⟩
 . simp only[aF]at c;split at c
   . rename_i e;subst e;simp only[ii]at c;exact⟨zb,w,_,hcb,by simp only[fE,A],c.symm,λ_ _ h=>h⟩
   . rename_i P;rw[dZ]at c;split at c
     . rename_i v z;simp only[ii]at c;subst c;have r:=bX (show find (S.BH hp) id=some v by rw[g,aF,if_neg P,z]);simp only[Ren.BH,aau,jU,uu]at r;obtain⟨⟨o,s⟩,AZ,Z,a,rfl,rfl⟩:=r;have AZ:=Ren.yc AZ;exact⟨o,Z,S.f,a,by simp only[fE,(Ren.fI O AZ).2.1],rfl,λo q d=>by simp only[fE,show find S.all o=some q from d]⟩
     . obtain⟨j,j1,j2,j3⟩:=qu c;have Q:=qR K j j1;exact⟨pid j,.row sz (tr (F j)),S.f,mo.find (qR K) j1,by rw[j2];exact aCJ j Q,by rw[j3];simp only[bE.aM,gk],λo q d=>by simp only[fE,show find S.all o=some q from d]⟩
def Sw{hp:HS}{k d:Nat}{F:Nat->Lz}(h:∀j,j < n->find hp (nm k j)=some (.row sz (tr (F j)))):
 bB (bB (cA (d+1) hp)) (cV k sz (λj=>(F j).length) n)=some ((List.range n).map λj=>[.aO sz (F j)]):=by
 unfold cV
 have:∀l:List Nat,(∀j,j∈l->j < n)->bB (bB (cA (d+1) hp)) (l.map λj=>[C.own (nm k j) sz 0 (F j).length])=some (l.map λj=>[.aO sz (F j)]):=by
  intro l
  induction l with
  |nil=>intro _;rfl
  |cons j l c=>
   intro U
   have e:cA (d+1) hp (.own (nm k j) sz 0 (F j).length)=some (.aO sz (F j)):=by
    have J:0+(F j).length<=(tr (F j)).length:=iC
    simp only[cA,h j (U j aa1),true_and,J,if_true];rw[o5,mF];simp
   simp only[aaq,bB,e,c (λi I=>U i (aa2 _ I))]
 exact this _ (λj Q=>aap.1 Q)
def abE{P:Program}{hp:HS}{tm:TS}{t k len:Nat}{F:Nat->Lz}(h:find tm t=some (.w (.one (.own id 1 0 len))))(R:find hp id=some (.row 1 (cV k sz l n)))(U:len=n)(o:∀j,l j=(F j).length)(Z:n<=k)(K:n<=cJ)(O:jo sz F (mem n k) hp):
 Rs P hp tm (.tmp t) (.one (.t (.aO 1 ((List.range n).map λj=>[.aO sz (F j)])))):=by
 subst U;obtain rfl:l=λj=>(F j).length:=funext o;refine⟨_,.one (.t (.aO 1 ((List.range len).map λj=>[.aO sz (F j)]))),by simp only[de,h];rfl,?_,Ja.refl _⟩
 have A:=Sw (hp:=hp) (n:=len) (k:=k) (sz:=sz) (d:=4) (F:=F) (λj Q=>by
  have:¬j=k:=aa
  simp only[nm,this,if_false];exact O.find (qR K) (mem_iff.2 ⟨.inr Q,this⟩))
 have M:((cV k sz (λj=>(F j).length) len).drop 0).take len=cV k sz (λj=>(F j).length) len:=by rw[acg,aac (by simp[cV])]
 have Z:0+len<=(cV k sz (λj=>(F j).length) len).length:=by simp[cV]
 have:cA 6 hp (.own id 1 0 len)=some (.aO 1 ((List.range len).map λj=>[.aO sz (F j)])):=by
  simp only[cA,R,true_and,Z,if_true,M,A,wv]
 simp only[bM,this,wv]
def ZR{l:Nat}{Q:Exit->TS->HS->Nat->Prop}{tm:TS}{hp:HS}(N ks:List Nat)(R:Nat->List V->HS->Prop)(A:Nat)(v:List V)(sz:Nat)
 (x:qW (oQ N tm) λS=>jx (S.tm tm) λt=>mq (S.BH hp) λq=>S.ok=true/\S.out 999=true/\t=D/\q=(2000004,.row 1 rows)::B/\S.ctr=y/\Nat.blt 2000000 S.ctr=true)
 (z:D=fF ks v D) (M:aL rows (List.replicate n [dw])) (K:n<=cJ) (h:R A v ((2000004,.row 1 (cV cJ sz (λ_=>0) n))::(B++(lit,.row sz (tr []))::dh sz (λ_=>[]) (mem n cJ))))
 (s:∀m vs hq,R m vs hq->jx (fF ks vs D) λr=>X P l b (dP (bA λtm' hp' c'=> ∃m' e,R m' e hp'/\tm'=fF ks e D/\c'=y/\m' < m) Q) r hq y):
 ∃I:Nat->TS->HS->Nat->Prop,bA (λtm hp c=> ∃m,I m tm hp c) tm hp ctr/\
  ∀m tm hp c,I m tm hp c->X P l b (dP (bA λtm hp c=> ∃m',m' < m/\I m' tm hp c) Q) tm hp c:=
 wB ks R A v (QZ N x M K ⟨rfl,rfl,h⟩) z s
def Gq{l:Nat}{Q:Exit->TS->HS->Nat->Prop}{tm:TS}{hp:HS}{zb:Nat}{ids:List (Nat×Nat)}(N ks:List Nat)(R:Nat->List V->HS->Prop)(A:Nat)(v:List V)(n k s E sz:Nat)(F F':Nat->Lz)(G:bE)
 (x:qW (oQ N tm) λS=>jx (S.tm tm) λt=>mq (S.BH hp) λq=>S.ok=true/\S.out E=true/\t=D/\q=(2000004,Y)::B/\S.ctr=y/\Nat.blt 2000000 S.ctr=true/\S.ids=(zb,2000004)::ids)
 (z:D=fF ks v D) (hE:mC E=true) (d:find hp zb=some U) (H:find hp E=some (.row sz rows)) (O:jo sz F (mem n k) hp) (K:n<=cJ) (Z:k=cJ\/k < n) (a:s=cJ\/s < n)
 (M:aL rows (F' k)) (o:∀j,j≠k->F' j=F j) (g:∀f:Nat->Option Nat,(∀j,j < n->f (CG E k j)=some (nm s j))->U.aM f=G) (L:R A v ((2000004,G)::(B++(lit,.row sz (tr (F' s)))::dh sz F' (mem n s))))
 (h:∀m vs hq,R m vs hq->jx (fF ks vs D) λr=>X P l b (dP (bA λtm' hp' c'=> ∃m' e,R m' e hp'/\tm'=fF ks e D/\c'=y/\m' < m) Q) r hq y):
 ∃I:Nat->TS->HS->Nat->Prop,bA (λtm hp c=> ∃m,I m tm hp c) tm hp ctr/\
  ∀m tm hp c,I m tm hp c->X P l b (dP (bA λtm hp c=> ∃m',m' < m/\I m' tm hp c) Q) tm hp c:=
 wB ks R A v (gf N n k s E sz F F' G x hE d H O K Z a M o g ⟨rfl,rfl,L⟩) z h
def ZS{l:Nat}{Q:Exit->TS->HS->Nat->Prop}{tm:TS}{hp:HS}{zb:Nat}{ids:List (Nat×Nat)}(N ks:List Nat)(R:Nat->List V->HS->Prop)(A:Nat)(v:List V)(n k sz:Nat)(F:Nat->Lz)(G:bE)
 (x:qW (XG N tm) λS=>jx (S.tm tm) λt=>mq (S.BH hp) λq=>S.ok=true/\S.aBI=true/\t=D/\q=(2000004,Y)::B/\S.ctr=y/\Nat.blt 2000000 S.ctr=true/\S.ids=(zb,2000004)::ids/\find S.all 2000000=some 2000000)
 (z:D=fF ks v D) (d:find hp zb=some U) (O:jo sz F (mem n k) hp) (K:n<=cJ) (g:∀f:Nat->Option Nat,(∀j,j < n->f (nm k j)=some (nm k j))->U.aM f=G) (h:R A v ((2000004,G)::(B++dh sz F (mem n k))))
 (s:∀m vs hq,R m vs hq->jx (fF ks vs D) λr=>X P l b (dP (bA λtm' hp' c'=> ∃m' e,R m' e hp'/\tm'=fF ks e D/\c'=y/\m' < m) Q) r hq y):
 ∃I:Nat->TS->HS->Nat->Prop,bA (λtm hp c=> ∃m,I m tm hp c) tm hp ctr/\
  ∀m tm hp c,I m tm hp c->X P l b (dP (bA λtm hp c=> ∃m',m' < m/\I m' tm hp c) Q) tm hp c:=
 wB ks R A v (Oa N n k sz F G x d O K g ⟨rfl,rfl,h⟩) z s
inductive DV(sz:Nat)(F:Nat->Lz)(ks:List Nat)(ids:List Nat):HS->HS->Prop
 |here (hi:ids.all mC=true) (hk:∀j,j∈ks->j < 1000000):DV sz F ks ids (dh sz F ks) (dh sz F ks)
 |keep {q q1:HS} {i:Nat} {b:bE} (h:DV sz F ks ids q q1) (hn:bI ids i=none):DV sz F ks ids ((i,b)::q) ((i,b)::q1)
 |drop {q q1:HS} {i j:Nat} {b:bE} (h:DV sz F ks ids q q1) (hn:bI ids i=some j):DV sz F ks ids ((i,b)::q) q1
def Kf{k:Nat}(Z:R6 k=true):∀ {ids:List Nat},ids.all mC=true->k≠lit->bI ids k=none
 | [],_,_=>rfl
 |x::r,h,U=>by
  simp only[adw,LD]at h;have O:=h.1;simp only[mC,ab6,ady,abv]at O;simp only[R6,decide_eq_true_eq]at Z;simp only[bI];rw[if_neg aa,Kf (by simp only[R6,decide_eq_true_eq];omega) h.2 U];rfl
def DV.eq{F:Nat->Lz}{ids:List Nat}{q q1:HS}(h:DV sz F ks ids q q1):gR ids q=q1:=by
 induction h with
 |here I Z=>
  have:∀l:HS,(∀p,p∈l->bI ids p.1=none)->gR ids l=l:=by
   intro l
   induction l with
   |nil=>intro _;rfl
   |cons p l c=>
    intro U;simp only[gR,U p aa1];rw[c (λq d=>U q (aa2 _ d))]
  refine this _ (λp M=>?_);simp only[dh,aad]at M;obtain⟨j,Q,rfl⟩:=M;have:=Z j Q;exact Kf (by simp only[R6,pid,decide_eq_true_eq];omega) I Ey
 |keep _ K c=>simp only[gR,K,c]
 |drop _ K c=>simp only[gR,K,c]
def amN{f:FuncId}{us args:Lw}{hp z b:HS}{F:Nat->Lz}{pk:List Nat}{K:V->HS->Nat->Prop}{Good:Lw->HS->Prop}(ids:List Nat)(I:uQ ids ctr=true)(h: ∃ts N,Fn P f args z (aR ts) N/\Good ts N)
 (w:us.map (W.aM (bI ids))=args) (d:cG (bI ids) hp 0 ids=z) (S:DV sz F pk ids hp b) (Z:∀ts N,Good ts N->K ((aR ts).aM (ic ids ctr)) (fT (ic ids ctr) N++b) (ctr+4)): ∃v hp' c',dI P f us hp ctr v hp' c'/\K v hp' c':=
 mK ids I h w d (λts N D=>by rw[S.eq];exact Z ts N D)
end Go.aW
namespace Go.aW
open Go
variable{P:Program}
def Gs{α:Type}{l:List α}{K:List α->Prop}(h:K l):jG l K:=by
 rw[cM];exact h
def amO{c:Prop}[Decidable c]{X Y:Prop}(h:c)(hx:X):ite c X Y:=by
 rw[if_pos h];exact hx
variable{j ctr id sz:Nat}{ty:TypeId}
def Gp{cs:Lc}{c:C}{K:C->Prop}(h:cs[j]? =some c)(Z:K c):match cs[j]? with
 |some c=>Db c K
 |none=>False:=by
 simp only[h,mW];exact Z
def Ce{α:Type}{l:List α}{c:α}(h:j < l.length):bt l j [c]=l.set j c:=by
 apply abm;intro k;rw[eY gZ,adG];simp only[aco]
 by_cases Z:j=k
 . subst Z;simp[h]
 . rw[if_neg aa,if_neg Z]
abbrev bC(b:Bool):C:= .t (.val (.bool b))
def asZ(b:List Bool)(f:Nat->Option Nat):(b.map bC).map (C.aM f)=b.map bC:=by
 rw[acm];rfl
def atA{b:List Bool}(h:j < b.length)(r:Lc):(b.map bC++r)[j]? =some (bC b[j]):=by
 rw[aaf bc];simp[h]
def Gc{b:List Bool}{c:Bool}(h:j < b.length)(r:Lc):bt (b.map bC++r) j [bC c]=(b.set j c).map bC++r:=by
 rw[Ce gZ,List.set_append_left _ _ bc,afe]
def LV{t:Nat}{tm:TS}{hp:HS}{i:Nat}{K:V->HS->Prop}(h:find tm t=some (.w (.one (.ptr id sz i j))))(Z:K (.w (.one (.ptr id sz i j))) hp):
 ∃v hp',YB P (.nilCheck (.tmp t)) ty tm hp ctr v hp'/\K v hp':=by
 refine⟨_,_,⟨λw=>rfl,?_⟩,Z⟩;rintro n ⟨g,y,B,O,Y,l⟩ rfl rfl;have e:St.get ⟨n,tm,hp⟩ (.tmp t)= .w (.one (.ptr id sz i j)):=afz
 simp only[aK,e]
def TO{n t:Nat}{tm:TS}{hp:HS}{i:Nat}{K:V->HS->Prop}(h:find tm t=some (.w (.one (.ptr id sz i j))))(Z:K (.w (.one (.ptr id sz i j))) hp):
 ∃v hp',jA P n (.nilCheck (.tmp t)) ty tm hp ctr v hp'/\K v hp':=by
 refine⟨_,_,?_,Z⟩;rintro⟨g,y,B,O,Y,l⟩ rfl rfl;refine jz ?_;have e:St.get ⟨n,tm,hp⟩ (.tmp t)= .w (.one (.ptr id sz i j)):=afz
 simp only[aK,e]
def TN{n x:Nat}{t t' e:TypeId}{tm:TS}{hp:HS}{i:Nat}{K:V->HS->Prop}(hx:find tm x=some (.w (.one (.ptr id sz i j))))(L:P.underlying t=some (.pointer e))(Z:K (bV false) hp):
 ∃v hp',jA P n (.binOp .eql t (.tmp x) (.const (.pointer none)) t') ty tm hp ctr v hp'/\K v hp':=by
 refine⟨_,_,?_,Z⟩;rintro⟨g,y,B,O,Y,l⟩ rfl rfl;intro M A ρ a w J
 have o:∀ (b:Addr) (w:World),(Op.equal t (.pointer (some b)) (.pointer none)).run P w= .ok false w:=by
  intro b w;show(Op.equalIn 10000 t (.pointer (some b)) (.pointer none)).run P w=_;unfold Op.equalIn;simp[run_underlying L]
 have h:RC w A ρ (.ptr id sz i j) (a.eval (.tmp x)):=(J.tmps x _ hx).1;obtain⟨b,_,G⟩:=h
 have D:(eqGuard .eql t (.tmp x) (.const (.pointer none)) (.pointer (some ⟨b,i * sz+j,none⟩)) (.pointer none)).run P w= .ok () w:=by
  unfold eqGuard;simp
 have c:(execOp a.eval ⟨g,.binOp .eql t (.tmp x) (.const (.pointer none)) t',B,O,Y,l⟩).run P w= .ok (.value (.bool false)) w:=by
  have d:a.eval (.const (.pointer none))= .pointer none:=rfl;simp only[execOp,G,d,Sem.run_bind,D,Result.andThen_ok,Sem.run_pure];simp[binOp,o]
 exact⟨_,w,A,ρ,.inl c,J.sub cW,RV.ofValue w A ρ (.bool false),dA.refl _ _,dD.refl _,bY.refl _ _⟩
end Go.aW
namespace Go.aW.Cd
open Go Go.Proofs
variable[kw]
def Bv(e:Lt):Prop:= ∃s L,e=[.val (.string s),.aO 1 L]/\s.size<=maxLen/\Is L/\L.length<=maxLen
abbrev oWk(s:ByteArray)(L:Lz):W:= .agg [.t (.val (.string s)),.t (.aO 1 L)]
def AM(m:Int):Tg 182 [oI m] (ZC (0<=m/\m < 8)):=by
 refine aC Tryz.func182 ?_
 repeat' ((conv=>whnf);first|refine aJ (λh=>?_) (λh=>?_)|(refine gBp rfl rfl ?_;constructor<;>intro d<;>first|exact⟨h,of_decide_eq_true d⟩|exact decide_eq_true d.2|exact absurd d.1 h|exact absurd d ak))
def Ll(s:ByteArray)(L:Lz)(m:Int):Bool:=pk 135 [oWk s L,oI m] (λb=>[oB b]) (λ_=>True)
def Rg(s:ByteArray)(L:Lz)(r:Is L)(U:L.length<=maxLen)(m:Int):Tg 135 [oWk s L,oI m] GB:=by
 refine aC Tryz.func135 ?_
 repeat' ((conv=>whnf);first|(refine aD rfl (me L m r U) ?_;rintro _ ⟨b,rfl⟩)|exact gB rfl rfl)
def Mf(s:ByteArray)(L:Lz)(r:Is L)(U:L.length<=maxLen)(m:Int): ∃ts,Fn Tryz.prog 135 [oWk s L,oI m] [] (aR ts) []/\(aR ts).cR=true/\(ts=[oB (Ll s L m)]/\True):=by
 obtain⟨ts,O,Y,b,rfl⟩:=Rg s L r U m;exact lp (enc:=λb=>[oB b]) (Q:=λ_=>True) ⟨b,O,Y,trivial⟩
def aiN(n:Nat)(cs:Lc):Prop:= ∃b:List Bool,cs=b.map bC/\b.length=n
def aiN.jB{n j:Nat}{c:Bool}{b:List Bool}(G:b.length=n)(Q:j < n)(f:Nat->Option Nat):aiN n ((bt (b.map bC) j [bC c]).map (C.aM f)):=by
 have h:=Gc (c:=c) (b:=b) (j:=j) aa [];simp only[aa9]at h;rw[h,asZ];exact⟨_,rfl,by simp[G]⟩
def aEg{b:List Bool}{j:Nat}(h:j < b.length):(b.map bC)[j]? =some (bC b[j]):=by simp[h]
def RSk(N:Nat)(m:Nat)(vs:List V)(hq:HS):Prop:= ∃ (i:Nat) (R:Lc),i<=N/\m=N - i/\vs=[iV .i64 (i:Int)]/\hq=[(4,.row 8 [R])]/\aiN 8 R
def Ju(F:Lz)(a:∀e,e∈F->Bv e)(U:F.length<=maxLen):Tg 134 [oL 2 F] GI:=by
 refine aC Tryz.func134 ?_
 repeat' ((conv=>whnf);first|refine bZz (λh=>?_) (λh=>?_)|(have g:=G.1 (dM ai);refine And.intro g ?_)|refine cT (aa7 _) aa ?_|(refine aG (xs:=F) (n:=(i:Int)) a aa aa ?_;rintro _ ⟨s,L,rfl,S,l,R⟩ Y)|(refine aG (dH a 0 _) (n:=(j:Int)) aa aa ?_;rintro _ ⟨w,r,rfl,O,v,x⟩ z)|(refine aG (xs:=L) l aa aa ?_;rintro _ ⟨m,rfl⟩ D)|refine And.intro aa ?_|(refine aD rfl (pB s S) ?_;rintro _ ⟨n,rfl⟩)|(refine aD rfl (AM m) ?_;rintro _ ⟨b,rfl,G⟩)|(refine Gp (aEg ?_) ?_;omega)|refine amO ⟨rfl,rfl,by simp;omega⟩ ?_|refine Gs ?_|exact gI rfl rfl|(apply gh [0,7,13,14,15,40,41,42] [] [42] (RSk L.length) (L.length) [iV .i64 0];(iterate 3 exact ae);exact⟨0,_,aa,rfl,rfl,rfl,List.replicate 8 false,rfl,rfl⟩;rintro _ _ _ ⟨q,_,d,rfl,rfl,rfl,c,rfl,o⟩)|(refine aI [0,7,13,14,15,40,41,42] [] ?_;(conv=>whnf);exact⟨rfl,_,[_],⟨q+1,_,aa,rfl,by rw[bF aa (by simp only[maxLen]at R;omega)];rfl,rfl,aiN.jB o aa _⟩,rfl,rfl,aa⟩)|(apply aV [0,4,13,14,15,27,28,29] [] [29] (RI ((F.drop 0).take ((i:Int).toNat - 0)).length) (((F.drop 0).take ((i:Int).toNat - 0)).length) [iV .i64 0];(iterate 3 exact ae);exact RI.zero;rintro _ _ ⟨j,Q,rfl,rfl⟩)|(refine aI [0,4,13,14,15,27,28,29] [] ?_;(conv=>whnf);exact⟨rfl,_,[_],RI.succ (N:=((F.drop 0).take ((i:Int).toNat - 0)).length) (i:=j) aa (jt U _ _),rfl,rfl,rfl,aa⟩)|(apply aV [0,13,14,15] [] [15] (RI F.length) (F.length) [iV .i64 0];(iterate 3 exact ae);exact RI.zero;rintro _ _ ⟨i,I,rfl,rfl⟩)|(refine aI [0,13,14,15] [] ?_;(conv=>whnf);exact⟨rfl,_,[_],RI.succ (N:=F.length) (i:=i) aa U,rfl,rfl,rfl,aa⟩))
end Go.aW.Cd
namespace Go.aW.Cd
open Go Go.Proofs
variable[kw]
def Ti.of{n:Int}{nm:ByteArray}{m t:Int}{af us:Lz}(h:Ti n [.val (.string nm),tI m,tI t,.aO 1 af,.aO 1 us]):∀q,q∈af->X5 n q:=by
 obtain⟨b,l,M,c,a,H,h⟩:=h;simp only[aaz,T.aO.injEq,true_and,and_true]at H;obtain⟨_,_,_,rfl,_⟩:=H;exact h
def nS(k:Nat)(e:Lt):ByteArray:=match e[k]? with
 |some (.val (.string s))=>s|_=>ByteArray.empty
def Eb(b:List Bool)(t:Int):Lt:=b.map (λc=>tB c)++[tI t]
def recC(b:List Bool)(t:Int):Lc:=(Eb b t).map .t
def JF(b:List Bool)(t:Int)(f:Nat->Option Nat):(recC b t).map (C.aM f)=recC b t:=HD _ _
def wV(b:List Bool)(t:Int):recC b t=b.map bC++[.t (tI t)]:=by simp[recC,Eb]
abbrev M8(b:List Bool)(t:Int):HS:=[(0,.row 17 [recC b t])]
abbrev oSc(tk op w a:Int):W:= .agg [.t (tI tk),.t (tI op),.t (tI w),.t (tI a)]
abbrev Lo(xs:Lz)(i:Int):Lt:=(xs[i.toNat]?).getD []
def NM{xs:Lz}{i:Int}{e:Lt}(h:xs[i.toNat]? =some e):Lo xs i=e:=by simp[Lo,h]
abbrev Fl(b:List Bool)(i:Int):Bool:=(b[i.toNat]?).getD false
abbrev rX(os ws:Lz)(op w a:Int):Prop:=op < 0\/(os.length:Int)<=op\/w < 0\/(ws.length:Int)<=w\/a < 0\/1073741824 < a
def DY(os ws:Lz)(b:List Bool)(lt op w a:Int):Int:=
 if rX os ws op w a then 3
 else if Ll (nS 0 (Lo ws w)) (nL 1 (Lo ws w)) (nI 1 (Lo os op))=false then 4
 else if Fl b op=true then 2
 else if(nL 3 (Lo os op)).all (λq=>Fl b (nI 0 q))=false then 5
 else if a < lt then 6 else 1
def aoM{b:List Bool}{i:Int}(h:i.toNat < b.length):Fl b i=b[i.toNat]:=by simp[Fl,h]
def jd3{os ws:Lz}{b:List Bool}{lt op w a:Int}(h:rX os ws op w a):DY os ws b lt op w a=3:=by simp[DY,h]
section
variable{os ws:Lz}{b:List Bool}{lt op w a m t:Int}{nm s:ByteArray}{af us ms:Lz}
variable(hu:¬rX os ws op w a)(ho:os[op.toNat]? =some [.val (.string nm),tI m,tI t,.aO 1 af,.aO 1 us])(hw:ws[w.toNat]? =some [.val (.string s),.aO 1 ms])
include hu ho hw
def J8:DY os ws b lt op w a=(if Ll s ms m=false then 4 else if Fl b op=true then 2 else if af.all (λq=>Fl b (nI 0 q))=false then 5 else if a < lt then 6 else 1):=by
 unfold DY;rw[if_neg hu,NM ho,NM hw];rfl
def jd4(hc:Ll s ms m=false):DY os ws b lt op w a=4:=by rw[J8 hu ho hw,if_pos hc]
variable(hc:Ll s ms m=true)
include hc
def jd2(hp:Fl b op=true):DY os ws b lt op w a=2:=by rw[J8 hu ho hw,hc,if_neg ak,if_pos hp]
variable(hp:Fl b op=false)
include hp
def jd5{q:Lt}(hq:q∈af)(h:Fl b (nI 0 q)=false):DY os ws b lt op w a=5:=by
 rw[J8 hu ho hw,hc,hp,if_neg ak,if_neg ak,if_pos];rw[List.all_eq_false];exact⟨q,hq,by rw[h];simp⟩
variable(ha:∀q,q∈af->Fl b (nI 0 q)=true)
include ha
def jd6(h:a < lt):DY os ws b lt op w a=6:=by
 rw[J8 hu ho hw,hc,hp,if_neg ak,if_neg ak,if_neg (by rw[yt.2 ha];simp),if_pos h]
def jd1(h:¬a < lt):DY os ws b lt op w a=1:=by
 rw[J8 hu ho hw,hc,hp,if_neg ak,if_neg ak,if_neg (by rw[yt.2 ha];simp),if_neg h]
end
def VA{os ws:Lz}{b:List Bool}{lt op w a:Int}(h:DY os ws b lt op w a=1):¬rX os ws op w a:=λhu=>by rw[jd3 hu]at h;cases h
def UP{b:List Bool}{t i:Int}{j:Nat}(Q:j=i.toNat)(h:j < b.length):(recC b t)[j]? =some (bC (Fl b i)):=by
 subst Q;rw[wV,atA h,aoM h]
def UQ{b:List Bool}{t:Int}{j:Nat}(G:b.length=16)(Q:j=16):(recC b t)[j]? =some (.t (tI t)):=by
 subst Q;rw[wV,aai aga];simp[G]
def Mm(b:List Bool)(t:Int):QL (M8 b t) (.row 17 [recC b t]):=by
 intro e H c hc;simp only[vv]at H;subst H;rw[wV]at hc;simp only[yl,aad,vv]at hc;rcases hc with⟨x,_,rfl⟩|rfl<;>rfl
def qe{hp:HS}{b:List Bool}{t:Int}{cs:Lc}(h:find hp 0=some (.row 17 [cs]))(hc:cs=recC b t):od (M8 b t) hp (M8 b t):=by
 subst hc;refine⟨λq K d=>?_,λq L d=>?_⟩
 . simp only[find]at d;split at d
   . rename_i e;subst e;exact⟨aa,_,h⟩
   . simp at d
 . simp only[find]at d;split at d
   . rename_i e;subst e;simp only[ii]at d;subst d;exact⟨h,rfl,Mm b t⟩
   . simp at d
def RJd(b:List Bool)(lt:Int)(x:Lt)(af:Lz)(m:Nat)(vs:List V)(hq:HS):Prop:= ∃ (i:Nat) (R:Lc),i<=af.length/\m=af.length - i/\vs=[iV .i64 (i:Int)]/\hq=[(0,.row 17 [R]),(4,.row 4 [x.map .t])]/\R=recC b lt/\Pre (λq=>Fl b (nI 0 q)=true) af i
def Mh(os ws:Lz)(c:∀e,e∈os->ES e)(d:lu os)(hw:∀e,e∈ws->Bv e)(b:List Bool)(G:b.length=16)(lt tk op w a:Int): ∃ts N,Fn Tryz.prog 97 [oL 5 os,oL 2 ws,.one (.ptr 0 17 0 0),oSc tk op w a] (M8 b lt) (aR ts) N/\(λts N=>N=M8 b lt/\ts=[oI (DY os ws b lt op w a)]) ts N:=by
 have r:=d.1;refine ij Tryz.func97 ?_
 repeat' ((conv=>whnf);first|refine bZz (λh=>?_) (λh=>?_)|(refine aG (xs:=os) (λe H=>(⟨c e H,d.2 e H⟩:ES e/\Ti (os.length:Int) e)) aa aa ?_;rintro _ ⟨⟨nm,m,t,af,us,rfl,A,⟨v,y⟩,M,F⟩,j⟩ Y;have n:=j.of)|(refine aG (xs:=ws) hw aa aa ?_;rintro _ ⟨s,ms,rfl,L,l,R⟩ O)|(refine aG (xs:=af) n aa aa ?_;rintro _ ⟨q,rfl,B,g⟩ D)|refine And.intro ag ?_|refine And.intro aa ?_|(refine aN rfl (Mf s ms l R m) ?_;rintro _ ⟨rfl,_⟩)|refine TN rfl Tryz.underlying227 ?_|refine LV rfl ?_|refine TO rfl ?_|(refine Gp (UP (i:=op) ?_ ?_) ?_;omega;omega)|(refine Gp (UP (i:=q) ?_ ?_) ?_;omega;omega)|(refine Gp (UQ G ?_) ?_;rfl)|exact⟨_,_,_,rfl,rfl,qe rfl rfl,rfl,by rw[jd3 Gx]⟩|exact⟨_,_,_,rfl,rfl,qe rfl rfl,rfl,by rw[jd4 Gx Y O (T3 ai)]⟩|exact⟨_,_,_,rfl,rfl,qe rfl rfl,rfl,by rw[jd2 Gx Y O (dM ai) ai]⟩|exact⟨_,_,_,rfl,rfl,qe rfl rfl,rfl,by rw[jd5 Gx Y O (dM ai) ai (oo D) (T3 ai)]⟩|exact⟨_,_,_,rfl,rfl,qe rfl rfl,rfl,by rw[jd6 Gx Y O (dM ai) ai (o.all aa) ai]⟩|exact⟨_,_,_,rfl,rfl,qe rfl rfl,rfl,by rw[jd1 Gx Y O (dM ai) ai (o.all aa) ai]⟩|(apply gh [2,7,70,71,72] [] [72] (RJd b lt [tI tk,tI op,tI w,tI a] af) (af.length) [iV .i64 0];(iterate 3 exact ae);exact⟨0,_,aa,rfl,rfl,rfl,JF _ _ _,Pre.zero⟩;rintro _ _ _ ⟨i,_,I,rfl,rfl,rfl,rfl,o⟩)|(refine aI [2,7,70,71,72] [] ?_;(conv=>whnf);exact⟨rfl,_,[_],⟨i+1,_,aa,rfl,by rw[bF aa (by simp only[maxLen]at y;omega)];rfl,rfl,JF _ _ _,o.succ af3 (dM ai)⟩,rfl,rfl,aa⟩))
end Go.aW.Cd
namespace Go.aW
open Go
variable{P:Program}
variable{ctr n id clock nn y:Nat}{D:TS}{rows:Lq}{mk:Nat->Nat->C}{tk:Nat->Int}{b:Rc}{B:HS}{Y:bE}
def bA.join{J:TS->HS->Nat->Prop}{tm:TS}{hp:HS}(h:bA (λtm hp c=>bA J tm hp c) tm hp ctr):bA J tm hp ctr:=by
 obtain⟨s,b,F,a,Y⟩:=h.get;exact .sem a Y
def eo.aLh{tm:TS}{hp:HS}(sz:Nat):eo tm hp ctr tm ((ctr,.row sz [])::hp) (ctr+4):=by
 intro M A ρ n a w J;have j:ρ ctr=none:=J.fresh ctr (ww _);have R:dD ρ (dr ρ ctr .dQ):=dD.jB j;have P:∀ {id:Nat},id≠ctr->dr ρ ctr .dQ id=ρ id:=λD=>by simp[dr,D]
 refine⟨A,dr ρ ctr .dQ,⟨J.size,J.defers,λu v z=>(J.tmps u v z).keeps (dS.refl _ _) (λ_ _=>rfl) R,λid L G=>?_,λid S L o b O Y y B=>?_,λid D=>?_,J.bound,J.may,J.dR⟩,R.T6,fZ.refl M A w⟩
 . simp only[aF]at G;split at G
   . rename_i e;subst e;simp only[ii]at G;subst G;exact⟨ak,.inr ⟨by simp[dr],rfl⟩⟩
   . exact(J.heap id L G).keeps (dS.refl _ _) (λ_ _=>rfl) R (λ_ h=>h) (λ_ _=>rfl)
 . have U:id≠ctr:=by intro e;subst e;simp[dr]at y
   have l:S≠ctr:=by intro e;subst e;simp[dr]at B
   simp only[aF]at O Y;rw[if_neg (λe:ctr=id=>U e.symm)]at O;rw[if_neg (λe:ctr=S=>l e.symm)]at Y;rw[P U]at y;rw[P l]at B;exact J.inj id S L o b O Y y B
 . simp only[bJ]at D;rw[P aa];exact J.fresh id V2
def BS{J:TS->HS->Nat->Prop}{tm:TS}{hp:HS}{zb:Nat}{X1:HS}{cB:Nat}{cb LP:bE}{ajH:Lq}(keys:List Nat)(n E sz:Nat)(F F':Nat->Lz)(F6:bE){ids:List (Nat×Nat)}
 (x:qW (oQ keys tm) λS=>jx (S.tm tm) λt=>mq (S.BH hp) λq=>S.ok=true/\S.out E=true/\S.out lit=true/\t=D/\q=(2000004,LP)::X1/\S.ctr=cB/\Nat.blt 2000000 S.ctr=true/\S.ids=(zb,2000004)::ids)
 (hE:mC E=true) (hEl:E≠lit) (hcb:find hp zb=some cb) (H:find hp E=some (.row sz rows)) (U:find hp lit=some (.row sz ajH)) (mo:jo sz F (mem n cJ) hp) (K:n < cJ)
 (N:aL rows (F' n)) (C5:aL ajH (F' cJ)) (w:∀j,j < n->F' j=F j) (sW:∀f:Nat->Option Nat,(∀j,j < n->f (pid j)=some (pid j))->f E=some (pid n)->cb.aM f=F6)
 (h:J D ((2000004,F6)::(X1++(lit,.row sz (tr (F' cJ)))::dh sz F' (mem (n+1) cJ))) cB):bA J tm hp ctr:=by
 rw[kP,dX,fL]at x;obtain⟨O,Y,h2',rfl,s,rfl,R,h7⟩:=x;generalize oQ keys tm=S at O Y h2' s R h7 h;have R:=pD R;have A:find S.all zb=some 2000004:=(Ren.fI O (o:=zb) (n:=2000004) (by simp[Ren.all,h7])).2.1;have hE':E < 1000\/2000000<=E:=by simpa[mC,ady,abv]using hE
 have hnd:n < 900000:=K
 let L:=S.all++[(E,pid n),(lit,lit)]
 have o1:∀p,p∈S.all->(p.1 < 1000\/2000000 < p.1)/\(p.2 < 1000\/2000000 < p.2)/\p.1≠E:=λp hp=>by
  have a:=nP Y hp;have b:=nP h2' hp;simp only[lit]at b;omega
 have fS:∀ {o q:Nat},S.f o=some q->fE L o=some q:=λ{o q} d=>by
  have:find L o=some q:=by rw[dZ,show find S.all o=some q from d]
  simp only[fE,this]
 have fO:∀ {o:Nat},(1000<=o/\o<=2000000)\/o=E->find S.all o=none:=λ{o} B=>tc λp hp=>by
  have:=o1 p hp;omega
 have fs:∀ {o:Nat},(1000<=o/\o<=2000000)->find (swp S.all) o=none:=λ{o} B=>nX λp hp=>by
  have:=o1 p hp;omega
 have fEE:fE L E=some (pid n):=by
  have:find L E=some (pid n):=by rw[dZ,fO (.inr rfl)];simp[find]
  simp only[fE,this]
 have fl:fE L lit=some lit:=by
  have:find L lit=some lit:=by rw[dZ,fO (.inl ⟨by simp[lit],ww _⟩)];simp[find,hEl]
  simp only[fE,this]
 have fp:∀j,j < 1000000->j≠n->fE L (pid j)=some (pid j):=λj Q hjn=>by
  have l:find L (pid j)=none:=by
   rw[dZ,fO (.inl ⟨by simp[pid],by simp only[pid];omega⟩)];simp only[aF];rw[if_neg Ts,if_neg Ey];rfl
  have y:find (swp L) (pid j)=none:=by
   rw[BA,dZ,fs ⟨by simp[pid],by simp only[pid];omega⟩];simp only[swp,aaq,abh,aF];rw[if_neg Ts,if_neg Ey];rfl
  have G:R6 (pid j)=true:=by simp only[R6,pid,decide_eq_true_eq];omega
  simp[fE,l,y,G]
 rw[<-sW (fE L) (λj Q=>fp j aa aa) fEE]at h;refine .wk (eo.aoH L (OZ (λp hp=>?_) (λp hp=>?_) (λp q hp d=>?_)) (acz R) (λi I=>?_) (λt v z=>?_) (λid b c=>?_)) h
 . exact Ren.fI O (o:=p.1) (n:=p.2) hp
 . simp only[aak,aa6,or_false]at hp;rcases hp with rfl|rfl
   . refine⟨by simp[swp,find],by simp[find],?_⟩;simp only[pid];omega
   . refine⟨?_,?_,R⟩
     . simp only[swp,aaq,abh,aF];rw[if_neg Ey];simp
     . simp[find,hEl]
 . have:=o1 p hp;simp only[aak,aa6,or_false]at d;rcases d with rfl|rfl<;>simp only[pid,lit]<;>omega
 . rw[dZ];have:i=0\/i=1\/i=2\/i=3:=aa
   rcases this with rfl|rfl|rfl|rfl<;>rfl
 . have r:=bX z;simp only[Ren.tm,aau,jU,uu]at r;obtain⟨t',_,u,g,rfl,rfl⟩:=r;exact⟨u,S.f,g,rfl,λo q d=>fS d⟩
 . have tn:∀ (M:Lz) (f:Nat->Option Nat),(bE.row sz (tr M))=(bE.row sz (tr M)).aM f:=λM f=>by simp only[bE.aM,gk]
   simp only[aF]at c;split at c
   . rename_i e;subst e;simp only[ii]at c;exact⟨zb,cb,_,hcb,fS A,c.symm,λ_ _ h=>h⟩
   . rename_i P;rw[dZ]at c;split at c
     . rename_i v z;simp only[ii]at c;subst c;have r:=bX (show find (S.BH hp) id=some v by rw[s,aF,if_neg P,z]);simp only[Ren.BH,aau,jU,uu]at r;obtain⟨⟨o,n'⟩,AZ,Z,nj,rfl,rfl⟩:=r;exact⟨o,Z,S.f,nj,fS (Ren.fI O (Ren.yc AZ)).2.1,rfl,λo q d=>fS d⟩
     . rw[aF]at c;split at c
       . rename_i e;simp only[ii]at c;exact⟨lit,.row sz (tr (F' cJ)),fE L,by rw[U,C5],by rw[<-e];exact fl,by rw[<-c];exact tn _ _,λ_ _ h=>h⟩
       . obtain⟨j,j1,j2,j3⟩:=qu c;obtain⟨j4,j5⟩:=mem_iff.1 j1;have j6:j < n+1:=j4.elim (λe=>absurd e j5) (λh=>h)
         by_cases e:j=n
         . subst e;exact⟨E,.row sz (tr (F' j)),fE L,by rw[H,N],by rw[j2];exact fEE,by rw[j3];exact tn _ _,λ_ _ h=>h⟩
         . have Q:=mo.find (qR (acz K)) (mem_iff.2 ⟨.inr (show j < n by omega),j5⟩);exact⟨pid j,.row sz (tr (F' j)),fE L,by rw[Q,w j aa],by rw[j2];exact fp j aa e,by rw[j3];exact tn _ _,λ_ _ h=>h⟩
def bQ(mk:Nat->Nat->C)(k n:Nat)(tk:Nat->Int):cF:=(List.range n).map λj=>(.int .i64 (tk j),mk (nm k j) j,j)
def aiI(mk:Nat->Nat->C):Prop:= ∀id j f q,f id=some q->(mk id j).aM f=mk q j
def tt{k P c:Nat}{f:Nat->Option Nat}(r:aiI mk)(R:∀j,j < n->f (CG lit k j)=some (nm P j)):(bE.mp (bQ mk k n tk) c).aM f= .mp (bQ mk P n tk) c:=by
 simp only[bE.aM,bE.mp.injEq,and_true,bQ,acm];apply abr;intro j Q;simp only[Function.comp];rw[r _ _ _ _ (R j (aap.1 Q))]
def K4{c E:Nat}{a:Nat->Int}{f:Nat->Option Nat}{t:Int}(r:aiI mk)(g:a n=t)(d:∀j,j < n->a j=tk j)(K:n < cJ)(R:∀j,j < n->f (pid j)=some (pid j))(hE:f E=some (pid n)):
 (bE.mp (bQ mk cJ n tk++[(.int .i64 t,mk E n,n)]) c).aM f= .mp (bQ mk cJ (n+1) a) c:=by
 have b:∀j,j<=n->nm cJ j=pid j:=λj Q=>if_neg aa;simp only[bE.aM,bE.mp.injEq,and_true,bQ,adt,acm,abf,aaq,abh];congr 1
 . apply abr;intro j Q;have Q:=aap.1 Q;simp only[Function.comp];rw[b j aa,r _ _ _ _ (R j Q),d j Q]
 . rw[r _ _ _ _ hE,b n (ww _),g]
def kY(tk:Nat->Int)(n:Nat)(t:Int):Nat:=((List.range n).find? λj=>decide (tk j=t)).getD cJ
def ru(tk:Nat->Int)(n:Nat):Prop:= ∀a b,a < n->b < n->tk a=tk b->a=b
def MM(tk:Nat->Int)(n:Nat)(t:Int):kY tk n t=cJ\/kY tk n t < n:=by
 unfold kY
 cases h:(List.range n).find? λj=>decide (tk j=t)with
 |none=>exact .inl rfl
 |some j=>exact .inr (aap.1 (acX h))
def PA{i:Nat}{t:Int}(Q:ru tk n)(I:i < n)(h:tk i=t):kY tk n t=i:=by
 unfold kY
 cases hf:(List.range n).find? λj=>decide (tk j=t)with
 |none=>
  have:=List.find?_eq_none.1 hf i (aap.2 I);simp[h]at this
 |some j=>
  have O:=aet hf;simp only[decide_eq_true_eq]at O;exact Q j i (aap.1 (acX hf)) I (O.trans h.symm)
def VK{t:Int}(h:kY tk n t < n)(K:n<=cJ):tk (kY tk n t)=t:=by
 unfold kY at h⊢
 cases hf:(List.range n).find? λj=>decide (tk j=t)with
 |none=>
  rw[hf]at h;simp at h;omega
 |some j=>
  have O:=aet hf;simpa using O
def nw{k:Nat}:∀p,p∈bQ mk k n tk->mz p.1:=λp F=>by
 simp only[bQ,aad]at F;obtain⟨j,_,rfl⟩:=F;exact⟨_,rfl⟩
def xO{k i:Nat}{p:Value×C×Nat}(h:(bQ mk k n tk)[i]? =some p):i < n/\p=(.int .i64 (tk i),mk (nm k i) i,i):=by
 simp only[bQ,yu,jU]at h;obtain⟨j,Q,rfl⟩:=h;obtain⟨O,Y⟩:=jl.1 Q;simp at O Y;subst Y;exact⟨O,rfl⟩
def agA{k:Nat}{t:Int}(h:∀p,p∈bQ mk k n tk->p.1≠ .int .i64 t):kY tk n t=cJ:=by
 unfold kY
 cases hf:(List.range n).find? λj=>decide (tk j=t)with
 |none=>rfl
 |some j=>
  have O:=aet hf;simp only[decide_eq_true_eq]at O;exact absurd (by rw[O]) (h (.int .i64 (tk j),mk (nm k j) j,j) (by simp only[bQ,aad];exact⟨j,acX hf,rfl⟩))
def ZV{t ty kt S:TypeId}{m x:Operand}{tm:TS}{hp:HS}{k:Nat}{z:Value}{U:Int}{K:V->HS->Prop}(R:find hp id=some (.mp (bQ mk k nn tk) clock))(r:Gt n tm m= .w (.one (.map id)))(hx:(Gt n tm x).val? =some (.int .i64 U))
 (L:P.underlying t=some (.map kt S)) (A:ny P S=some z) (J:eK P kt mz) (Q:ru tk nn) (Z:k=kY tk nn U) (O:k < nn->tk k=U->K (.w (cw (mk lit k))) hp) (Y:k=cJ->K (.w (.one (.t (.val z)))) hp):
 ∃v hp',jA P n (.lookup t m x false) ty tm hp ctr v hp'/\K v hp':=by
 refine Gr r R hx L A J ⟨_,rfl⟩ nw (λi p I hp=>?_) (λD=>Y (Z.trans (agA D)));obtain⟨a,rfl⟩:=xO I;simp only[Value.int.injEq,true_and]at hp;have e:k=i:=Z.trans (PA Q a hp);subst e;have:=O a hp;simpa[nm]using this
def N5{l:Nat}{Q:Exit->TS->HS->Nat->Prop}{tm:TS}{hp:HS}{zb:Nat}{ids:List (Nat×Nat)}(N ks:List Nat)(R:Nat->List V->HS->Prop)(A:Nat)(v:List V)(sz:Nat)
 (x:qW (oQ N tm) λS=>jx (S.tm tm) λt=>mq (S.BH ((ctr,.row sz [])::hp)) λq=>S.ok=true/\S.out ctr=true/\t=D/\q=(2000004,Y)::B/\S.ctr=y/\Nat.blt 2000000 S.ctr=true/\S.ids=(zb,2000004)::ids)
 (z:D=fF ks v D) (hE:mC ctr=true) (d:find ((ctr,.row sz [])::hp) zb=some (.mp [] 0)) (O:jo sz (λ_=>[]) (mem 0 cJ) ((ctr,.row sz [])::hp)) (h:R A v ((2000004,.mp [] 0)::(B++(lit,.row sz (tr []))::dh sz (λ_=>[]) (mem 0 cJ))))
 (s:∀m vs hq,R m vs hq->jx (fF ks vs D) λr=>X P l b (dP (bA λtm' hp' c'=> ∃m' e,R m' e hp'/\tm'=fF ks e D/\c'=y/\m' < m) Q) r hq y):
 ∃I:Nat->TS->HS->Nat->Prop,bA (λtm hp c=> ∃m,I m tm hp c) tm hp ctr/\
  ∀m tm hp c,I m tm hp c->X P l b (dP (bA λtm hp c=> ∃m',m' < m/\I m' tm hp c) Q) tm hp c:=
 wB ks R A v (.sem (eo.aLh sz) (gf N 0 cJ cJ ctr sz (λ_=>[]) (λ_=>[]) (.mp [] 0) x hE d (by rw[aF,if_pos rfl];rfl) O (aa7 _) (.inl rfl) (.inl rfl) rfl (λ_ _=>rfl) (λf _=>rfl) ⟨rfl,rfl,h⟩)) z s
def Jc{i j:Nat}{r:Lc}{K:Lc->Prop}(I:i=j)(Q:j < rows.length)(h:K r):mP (rows.set i r) j K:=by
 subst I;simp only[mP,aaj Q];exact h
def LW{f:FuncId}{us:Lw}{hp:HS}{K:V->HS->Nat->Prop}{Good:Lw->HS->Prop}(L:wm us=true)(h: ∃ts N,yw P f us (aR ts) N/\Good ts N)
 (Z:∀ts N,Good ts N->K ((aR ts).up ctr) (gK ctr N++hp) (ctr+4)): ∃v hp' c',dI P f us hp ctr v hp' c'/\K v hp' c':=by
 obtain⟨ts,N,O,Y⟩:=h;exact⟨_,_,_,j7 (Dx L O),Z ts N Y⟩
def N7{a b:Nat}{t ty kt S:TypeId}{tm:TS}{hp:HS}{k q:Nat}{U:Int}{K:V->HS->Prop}(r:find tm a=some (.w (.one (.map id))))(hx:find tm b=some (iV .i64 U))(R:find hp id=some (.mp (bQ mk k nn tk) clock))
 (L:P.underlying t=some (.map kt S)) (J:eK P kt mz) (Q:ru tk nn) (hq:q < nn) (j:tk q=U) (Z:K (.w (cw (mk (nm k q) q))) hp):
 ∃v hp',YB P (.lookup t (.tmp a) (.tmp b) false) ty tm hp ctr v hp'/\K v hp':=by
 refine⟨_,_,⟨λw=>rfl,?_⟩,Z⟩;rintro n ⟨l,d,F,I,N,y⟩ rfl rfl;have H:St.get ⟨n,tm,hp⟩ (.tmp a)= .w (.one (.map id)):=Y1
 have o:St.get ⟨n,tm,hp⟩ (.tmp b)=iV .i64 U:=PL
 have G:(iV .i64 U).val? =some (.int .i64 U):=rfl
 have key: ∃i p,iY P (bQ mk k nn tk).isEmpty kt (.int .i64 U) (bQ mk k nn tk)=some (some i)/\(bQ mk k nn tk)[i]? =some p/\p.1= .int .i64 U:=by
  rcases J.at_ (bQ mk k nn tk) (.int .i64 U) (bQ mk k nn tk).isEmpty nw ⟨_,rfl⟩with⟨_,Y⟩|h
  . exact absurd (by rw[j]) (Y (.int .i64 (tk q),mk (nm k q) q,q) afr)
  . exact h
 obtain⟨i,p,O,Y,B⟩:=key;obtain⟨g,rfl⟩:=xO Y;simp only[Value.int.injEq,true_and]at B;have e:i=q:=Q i q g hq (B.trans j.symm);subst e;have s:P.underlying t=some (.map kt S):=L;simp only[aK,H,o,fU,G,s,R,O,Y,wv]
def Je{l:Nat}{Q:Exit->TS->HS->Nat->Prop}{J tm:TS}{w hp:HS}{aD4 zb:Nat}{U:bE}{ids:List (Nat×Nat)}(N ks:List Nat)(R:Nat->List V->HS->Prop)(A:Nat)(v:List V)(n k s E sz:Nat)(F F':Nat->Lz)(G:bE)(a:eo J w aD4 tm hp ctr)
 (x:qW (oQ N tm) λS=>jx (S.tm tm) λt=>mq (S.BH hp) λq=>S.ok=true/\S.out E=true/\t=D/\q=(2000004,Y)::B/\S.ctr=y/\Nat.blt 2000000 S.ctr=true/\S.ids=(zb,2000004)::ids)
 (z:D=fF ks v D) (hE:mC E=true) (g:find hp zb=some U) (H:find hp E=some (.row sz rows)) (O:jo sz F (mem n k) hp) (K:n<=cJ) (Z:k=cJ\/k < n) (d:s=cJ\/s < n)
 (M:aL rows (F' k)) (o:∀j,j≠k->F' j=F j) (sW:∀f:Nat->Option Nat,(∀j,j < n->f (CG E k j)=some (nm s j))->U.aM f=G) (L:R A v ((2000004,G)::(B++(lit,.row sz (tr (F' s)))::dh sz F' (mem n s))))
 (h:∀m vs hq,R m vs hq->jx (fF ks vs D) λr=>X P l b (dP (bA λtm' hp' c'=> ∃m' e,R m' e hp'/\tm'=fF ks e D/\c'=y/\m' < m) Q) r hq y):
 ∃I:Nat->TS->HS->Nat->Prop,bA (λtm hp c=> ∃m,I m tm hp c) J w aD4/\
  ∀m tm hp c,I m tm hp c->X P l b (dP (bA λtm hp c=> ∃m',m' < m/\I m' tm hp c) Q) tm hp c:=
 wB ks R A v (.sem a (gf N n k s E sz F F' G x hE g H O K Z d M o sW ⟨rfl,rfl,L⟩)) z h
def Z4{tm:TS}{hp:HS}{sz:Nat}(N:List Nat)
 (x:qW (oQ N tm) λS=>jx (S.tm tm) λt=>mq (S.BH hp) λq=>S.ok=true/\S.out 999=true/\t=D/\q=(2000004,.row 1 rows)::B/\S.ctr=y/\Nat.blt 2000000 S.ctr=true)
 (M:aL rows (List.replicate n [dw])) (K:n<=cJ):eo tm hp ctr D ((2000004,.row 1 (cV cJ sz (λ_=>0) n))::(B++(lit,.row sz (tr []))::dh sz (λ_=>[]) (mem n cJ))) y:=by
 rw[kP,dX,fL]at x;obtain⟨O,Y,rfl,g,rfl,R⟩:=x;exact eo.OQ (oQ N tm) n sz 2000004 rows B O Y (pD R) K g M
end Go.aW
namespace Go.aW.Cd
open Go Go.Proofs
variable[kw]
def lC(P:Lz)(j:Nat):Int:=nI 0 ((P[j]?).getD [])
variable{P:Lz}{e:Lt}
def GG{j:Nat}(h:P[j]? =some e):lC P j=nI 0 e:=by simp[lC,h]
def R4{i:Nat}(h:ru (lC P) i)(S:P[((i:Int)).toNat]? =some e)(F:∀o,o∈ (P.drop 0).take (((i:Int)).toNat - 0)->nI 0 o≠nI 0 e):ru (lC P) (i+1):=by
 have x:P[i]? =some e:=aA
 have Q:=GG x
 have g:∀a,a < i->lC P a≠lC P i:=λa w d=>by
  have I:=(jl.1 x).1;have r:P[a]' aa∈P.take i:=oo (i:=a) (by rw[ad5 w];simp);have O:=F _ (by simpa using r);rw[Q,GG (YI aa)]at d;exact O d
 intro a b w G s
 by_cases M:a=i
 . by_cases c:b=i
   . omega
   . subst M;exact absurd s.symm (g b aa)
 . by_cases c:b=i
   . subst c;exact absurd s (g a aa)
   . exact h a b aa aa s
def ahN(P:Lz)(m:Nat)(vs:List V):Prop:= ∃i:Nat,i<=P.length/\m=P.length - i/\vs=[iV .i64 (i:Int)]/\ru (lC P) i
def ahN.next{i:Nat}(I:(i:Int) < (P.length:Int))(U:P.length<=maxLen)(h:ru (lC P) i)(S:P[((i:Int)).toNat]? =some e)(F:∀o,o∈ (P.drop 0).take (((i:Int)).toNat - 0)->nI 0 o≠nI 0 e):ahN P (P.length - (i+1)) [iV .i64 (IntKind.i64.wrap ((i:Int)+1))]:=
 ⟨i+1,aa,rfl,by simp only[maxLen]at U;rw[bF aa aa];rfl,R4 h S F⟩
def Mj(M:ByteArray)(w L ps us v J:Lz)(O:eu M w L ps us v J)(P:Lz)(G:I4 P)(c:P.length<=maxLen)(F:Lz)(Z:∀e,e∈F->Bv e)(U:F.length<=maxLen):Tg 96 [dV M w L ps us v J,oL 6 P,oL 2 F] (oq (λn=>n=0->lu J/\P.length<=60/\ru (lC P) P.length)):=by
 refine aC Tryz.func96 ?_
 repeat' ((conv=>whnf);first|refine bZz (λh=>?_) (λh=>?_)|refine cT (aa7 _) aa ?_|(refine aG (xs:=P) (n:=(i:Int)) G aa aa ?_;rintro _ ⟨t,g,s,l,f,o,rfl⟩ Y)|(refine aG (dH G 0 _) (n:=(j:Int)) aa aa ?_;rintro _ ⟨x,g2,N,K,d,D,rfl⟩ B)|refine And.intro aa ?_|(refine aD rfl (lF M w L ps us v J O) ?_;rintro _ ⟨e,rfl,r⟩)|(refine aD rfl (Ju F Z U) ?_;rintro _ ⟨y,rfl⟩)|(refine jX rfl rfl (λz=>?_);first|(exfalso;omega)|exact⟨(r aa).2,aa,by have e:P.length=i:=aa;rw[e];exact A⟩)|(apply aV [1,2,9,20,21,22,44,45,46] [] [46] (RQ (λo=>nI 0 o≠t) ((P.drop 0).take ((i:Int).toNat - 0))) (((P.drop 0).take ((i:Int).toNat - 0)).length) [iV .i64 0];(iterate 3 exact ae);exact RQ.zero;rintro _ _ ⟨j,Q,H,rfl,rfl⟩)|(refine aI [1,2,9,20,21,22,44,45,46] [] ?_;(conv=>whnf);exact⟨rfl,_,[_],RQ.next aa (jt c _ _) H B ai,rfl,rfl,rfl,aa⟩)|(apply aV [1,2,20,21,22] [] [22] (ahN P) (P.length) [iV .i64 0];(iterate 3 exact ae);exact⟨0,aa,rfl,rfl,λa b R=>by omega⟩;rintro _ _ ⟨i,I,rfl,rfl,A⟩)|(refine aI [1,2,20,21,22] [] ?_;(conv=>whnf);exact⟨rfl,_,[_],ahN.next aa c A Y (H.all aa),rfl,rfl,rfl,aa⟩))
def scE(s:ByteArray)(w L ps us v J P F:Lz):Int:=pk 96 [dV s w L ps us v J,oL 6 P,oL 2 F] (λe=>[oI e]) (λe=>e=0->lu J/\P.length<=60/\ru (lC P) P.length)
def JD(M:ByteArray)(w L ps us v J:Lz)(l:eu M w L ps us v J)(P:Lz)(G:I4 P)(b:P.length<=maxLen)(F:Lz)(a:∀e,e∈F->Bv e)(U:F.length<=maxLen): ∃ts,Fn Tryz.prog 96 [dV M w L ps us v J,oL 6 P,oL 2 F] [] (aR ts) []/\(aR ts).cR=true/\
 ∃e:Int,ts=[oI e]/\e=scE M w L ps us v J P F/\(e=0->lu J/\P.length<=60/\ru (lC P) P.length):=by
 obtain⟨ts,O,Y,e,rfl,B⟩:=Mj M w L ps us v J l P G b F a U;obtain⟨ts,s,S,z,R⟩:=lp (f:=96) (args:=[dV M w L ps us v J,oL 6 P,oL 2 F]) (enc:=λe=>[oI e]) (Q:=λe=>e=0->lu J/\P.length<=60/\ru (lC P) P.length) ⟨e,O,Y,B⟩;exact⟨ts,s,S,_,z,rfl,R⟩
end Go.aW.Cd
namespace Go.aW.Cd
open Go Go.Proofs
variable[kw]
def RX(os ws:Lz)(tk op w a:Int):Tg 97 [oL 5 os,oL 2 ws,.one (.t (.val (.pointer none))),oSc tk op w a] (oq (λn=>n=3)):=by
 refine aC Tryz.func97 ?_
 repeat' ((conv=>whnf);first|refine nA (op:= .binOp .eql 227 (.tmp 12) (.const (.pointer none)) 227) (v:=bV true) ag ?_|exact jX rfl rfl rfl)
abbrev Rcd:=List Bool×Int
abbrev SSt:=Int->Rcd
def YN:SSt:=λ_=>(List.replicate 16 false,0)
def JS(os ws bs:Lz)(st:SSt)(x:Lt):Int:=
 if kY (lC bs) bs.length (nI 0 x) < bs.length then DY os ws (st (nI 0 x)).1 (st (nI 0 x)).2 (nI 1 x) (nI 2 x) (nI 3 x)else 3
def zV(os ws bs:Lz)(st:SSt)(x:Lt):SSt:=
 if JS os ws bs st x=1 then λt=>if t=nI 0 x then((st t).1.set (nI 1 x).toNat true,nI 3 x)else st t else st
def kW(os ws bs xs:Lz):Nat->SSt
 |0=>YN
 |j+1=>match xs[j]? with
  |some x=>zV os ws bs (kW os ws bs xs j) x|none=>kW os ws bs xs j
def oJ(os ws bs xs:Lz)(j:Nat):Int:=match xs[j]? with
 |some x=>JS os ws bs (kW os ws bs xs j) x|none=>0
def GP(os ws bs xs:Lz):∀ (j:Nat) (t:Int),(kW os ws bs xs j t).1.length=16
 |0,t=>by simp[kW,YN]
 |j+1,t=>by
  have c:=GP os ws bs xs j
  cases hx:xs[j]? with
  |none=>
   simp only[kW,hx];exact c t
  |some x=>
   simp only[kW,hx,zV];split
   . show(if t=nI 0 x then(((kW os ws bs xs j t).1.set (nI 1 x).toNat true,nI 3 x):Rcd)else kW os ws bs xs j t).1.length=16;split
     . simp[c]
     . exact c t
   . exact c t
def FJ(bs:Lz)(st:SSt)(n j:Nat):Lz:=if j < n then [Eb (st (lC bs j)).1 (st (lC bs j)).2]else []
variable{st:SSt}{e:Lt}
def Yc{bs:Lz}{n k:Nat}{t:Int}(Z:k < n)(Q:lC bs k=t):FJ bs st n k=[Eb (st t).1 (st t).2]:=by
 subst Q;simp[FJ,Z]
def Yb{bs:Lz}{n j:Nat}(h:n<=j):FJ bs st n j=[]:=if_neg aa
def G7(id _j:Nat):C:= .ptr id 17 0 0
def wW:aiI G7:=λid j f q h=>by simp[G7,C.aM,h]
abbrev stC(s:ByteArray)(w L ps us v os:Lz):Lc:=[.t (.val (.string s)),.t (.aO 1 w),.t (.aO 1 L),.t (.aO 7 ps),.t (.aO 3 us),.t (.aO 6 v),.t (.aO 5 os)]
abbrev HJ(X:HS)(bs:Lz)(n k:Nat)(a:Lz)(F:Nat->Lz):HS:=(2000004,.mp (bQ G7 k n (lC bs)) n)::(X++(lit,.row 17 (tr a))::dh 17 F (mem n k))
def RJ1(X:HS)(bs:Lz)(m:Nat)(vs:List V)(hq:HS):Prop:= ∃i:Nat,i<=bs.length/\m=bs.length - i/\vs=[iV .i64 (i:Int)]/\hq=HJ X bs i cJ (FJ bs YN i cJ) (FJ bs YN i)
def xJ(bs xs:Lz)(j:Nat):Nat:=match xs[j]? with
 |some x=>kY (lC bs) bs.length (nI 0 x)|none=>cJ
def xI(bs xs:Lz)(j:Nat):xJ bs xs j=cJ\/xJ bs xs j < bs.length:=by
 unfold xJ;split
 . exact MM _ _ _
 . exact .inl rfl
def NV(os ws bs xs:Lz)(j:Nat)(zs:Lz):Prop:=zs.length=xs.length/\Is zs/\ ∀i,i < j->zs[i]? =some [tI (oJ os ws bs xs i)]
def RJ2(st:Lc)(os ws bs xs:Lz)(m:Nat)(vs:List V)(hq:HS):Prop:= ∃ (j k:Nat) (zs a:Lz),j<=xs.length/\m=xs.length - j/\vs=[iV .i64 (j:Int)]/\k=xJ bs xs j/\a=FJ bs (kW os ws bs xs j) bs.length k/\
 ∃b,aL b zs/\hq=HJ [(2000008,.row 1 b),(2000012,.row 7 [st])] bs bs.length k a (FJ bs (kW os ws bs xs j) bs.length)/\NV os ws bs xs j zs
def GJA(E:Int)(os ws bs xs:Lz)(ts:Lw)(N:HS):Prop:=(∃e:Int,e≠0/\¬ (E=0/\xs.length<=300)/\ts=[.one (.t dw),.one (.t (.val (.map none))),oI e]/\N=[])\/
 ∃zs,ts=[.one (.own 0 1 0 xs.length),.one .any,oI 0]/\N=[(0,.row 1 (tr zs))]/\NV os ws bs xs xs.length zs/\xs.length<=300/\lu os/\ru (lC bs) bs.length/\bs.length<=60/\E=0
abbrev zO(e:Lt):Prop:= ∃tk op w a,e=[tI tk,tI op,tI w,tI a]
def aLE(X:HS)(bs:Lz):((2000004,bE.mp [] 0)::(X++(lit,bE.row 17 (tr []))::dh 17 (λ_=>[]) (mem 0 cJ)))=HJ X bs 0 cJ (FJ bs YN 0 cJ) (FJ bs YN 0):=by
 have:FJ bs YN 0=λ_=>[]:=by funext j;simp[FJ]
 rw[this];rfl
def OO{mk:Nat->Nat->C}{bs:Lz}{i k a:Nat}{t:Int}{c:C}{es':cF}{r:Lt}(Q:ru (lC bs) bs.length)(I:i < bs.length)(S:bs[((i:Int)).toNat]? =some (tI t::r))(h:DM (bQ mk k i (lC bs)) i (.int .i64 t) c es' a):es'=bQ mk k i (lC bs)++[(.int .i64 t,c,i)]/\a=i+1:=by
 rcases h with⟨q,p,O,Y,_⟩|⟨_,O,Y⟩
 . obtain⟨B,rfl⟩:=xO O;simp only[Value.int.injEq,true_and]at Y;have x:bs[i]? =some (tI t::r):=aA
   have:=Q q i aa I (by rw[Y,GG x];rfl);omega
 . exact⟨O,Y⟩
def aeI{bs xs:Lz}{j:Nat}(h:xs[((j:Int)).toNat]? =some e):xJ bs xs j=kY (lC bs) bs.length (nI 0 e):=by
 have N:xs[j]? =some e:=bc
 simp only[xJ,N]
def JT{os ws bs xs:Lz}{j:Nat}(h:xs[((j:Int)).toNat]? =some e):oJ os ws bs xs j=JS os ws bs (kW os ws bs xs j) e:=by
 have N:xs[j]? =some e:=bc
 simp only[oJ,N]
def Uk{os ws bs xs:Lz}{j:Nat}(h:xs[((j:Int)).toNat]? =some e):kW os ws bs xs (j+1)=zV os ws bs (kW os ws bs xs j) e:=by
 have N:xs[j]? =some e:=bc
 simp only[kW,N]
def wK{os ws bs xs:Lz}{j:Nat}(h:xs[((j:Int)).toNat]? =some e)(d:oJ os ws bs xs j≠1):kW os ws bs xs (j+1)=kW os ws bs xs j:=by
 rw[JT h]at d;rw[Uk h,zV,if_neg d]
section
variable{os ws bs xs zs:Lz}{j k:Nat}{tk op w a v:Int}{b:List Bool}{lt:Int}
def Fv(h:xs[((j:Int)).toNat]? =some [tI tk,tI op,tI w,tI a])(Z:k=kY (lC bs) bs.length tk)(A:k < bs.length)(z:kW os ws bs xs j tk=(b,lt)):oJ os ws bs xs j=DY os ws b lt op w a:=by
 subst Z;rw[JT h];show(if kY (lC bs) bs.length tk < bs.length then DY os ws (kW os ws bs xs j tk).1 (kW os ws bs xs j tk).2 op w a else 3)=_;rw[if_pos A,z]
def U4(h:xs[((j:Int)).toNat]? =some [tI tk,tI op,tI w,tI a])(Z:k=kY (lC bs) bs.length tk)(b:k=cJ)(K:bs.length<=cJ):oJ os ws bs xs j=3:=by
 rw[JT h,JS,if_neg];show ¬kY (lC bs) bs.length tk < bs.length;rw[<-Z];omega
def NV.next(h:NV os ws bs xs j zs)(Q:(j:Int) < (xs.length:Int))(z:oJ os ws bs xs j=v){i:Nat}(I:i=j):NV os ws bs xs (j+1) (zs.set i [tI v]):=by
 subst I;obtain⟨O,Y,B⟩:=h;refine⟨by simp[O],λe H=>?_,λq d=>?_⟩
 . rcases aao H with H|rfl
   . exact Y e H
   . exact⟨_,rfl⟩
 . rw[adG]
   by_cases e:i=q
   . subst e;rw[if_pos rfl,if_pos aa,z]
   . rw[if_neg e];exact B q aa
def aEH{st:SSt}{r:Rcd}{n c:Nat}(A:ru (lC bs) n)(Z:k < n)(Q:lC bs k=tk)(D:c≠k):FJ bs (λt=>if t=tk then r else st t) n c=FJ bs st n c:=by
 unfold FJ
 by_cases a:c < n
 . have:lC bs c≠tk:=λe=>D (A c k a Z (e.trans Q.symm));simp[a,this]
 . simp[a]
def aaH(h:xs[((j:Int)).toNat]? =some [tI tk,tI op,tI w,tI a])(d:oJ os ws bs xs j=1):kW os ws bs xs (j+1)=λt=>if t=tk then((kW os ws bs xs j t).1.set op.toNat true,a)else kW os ws bs xs j t:=by
 rw[JT h]at d;rw[Uk h,zV,if_pos d];rfl
def Jr(h:xs[((j:Int)).toNat]? =some [tI tk,tI op,tI w,tI a])(d:oJ os ws bs xs j=1)(z:kW os ws bs xs j tk=(b,lt)):kW os ws bs xs (j+1)=λt=>if t=tk then(b.set op.toNat true,a)else kW os ws bs xs j t:=by
 rw[aaH h d];funext t
 by_cases e:t=tk
 . subst e;simp[z]
 . simp[e]
variable{A:Nat}
def abC{j:Nat}(G:b.length=16)(O:A=op.toNat)(Y:A < 16)(B:j=16):bt (bt (recC b lt) A [bC true]) j [.t (tI a)]=recC (b.set op.toNat true) a:=by
 subst O B;rw[wV,wV,Gc aa,Ce aga,List.set_append_right _ _ aga];simp[G]
def anX(G:b.length=16)(Y:A < 16):A+1<=(recC b lt).length:=by simp[recC,Eb,G];omega
def abD{c:C}(G:b.length=16)(Y:A < 16):16+1<=(bt (recC b lt) A [c]).length:=by
 rw[cg (by simp[recC,Eb,G];omega)];simp[recC,Eb,G]
end
def Vx{hp:HS}{ctr:Nat}{b:List Bool}{t:Int}(h:find hp lit=some (.row 17 (tr [Eb b t]))):∀id,id∈ [lit]-> ∃b,find hp id=some b/\(b.aM (bI [lit])).aM (ic [lit] ctr)=b:=by
 intro id hid;simp only[vv]at hid;subst hid;exact⟨_,h,by simp only[bE.aM,gk]⟩
def Vy(os ws:Lz)(c:∀e,e∈os->ES e)(d:lu os)(M:∀e,e∈ws->Bv e)(b:List Bool)(G:b.length=16)(lt tk op w a:Int): ∃ts N,Fn Tryz.prog 97 [oL 5 os,oL 2 ws,.one (.ptr 0 17 0 0),oSc tk op w a] (M8 b lt) (aR ts) N/\N=M8 b lt/\ts=[oI (DY os ws b lt op w a)]:=
 Mh os ws c d M b G lt tk op w a
def D7(B:ByteArray)(M L ps us v os:Lz)(P:eu B M L ps us v os)(bs:Lz)(G:I4 bs)(pJ:bs.length<=maxLen)(ws:Lz)(y:∀e,e∈ws->Bv e)(U:ws.length<=maxLen)(xs:Lz)(hx:∀e,e∈xs->zO e): ∃ts N,yw Tryz.prog 63 [dV B M L ps us v os,oL 6 bs,oL 2 ws,oL 4 xs] (aR ts) N/\GJA (scE B M L ps us v os bs ws) os ws bs xs ts N:=by
 refine jc Tryz.func63 ?_
 repeat' ((conv=>whnf);first|refine bZz (λh=>?_) (λh=>?_)|(refine aG (xs:=xs) hx aa aa ?_;rintro _ ⟨tk,op,w,a,rfl⟩ O;have S:k=kY (lC bs) bs.length tk:=(by rw[Z,aeI O];rfl))|(have J:=VA (by assumption:DY os ws b lt op w a=1);simp only[rX]at J;have aNd:=Wa.1.1;refine And.intro aa ?_)|(refine aG (xs:=bs) G aa aa ?_;rintro _ ⟨t,g,s,l,f,o,rfl⟩ K)|refine And.intro ag ?_|refine And.intro aa ?_|(refine aD rfl (JD B M L ps us v os P bs G pJ ws y U) ?_;rintro _ ⟨e,rfl,hE,r⟩)|(refine aD rfl (RX os ws tk op w a) ?_;rintro _ ⟨v3,rfl,rfl⟩)|refine jq ?_|(have Wa:=r aa;have TB:=Wa.2.1;refine Jd (es:=bQ G7 cJ i (lC bs)) (clock:=i) rfl rfl rfl rfl Tryz.underlying158 (iu Tryz.underlying3) ⟨t,rfl⟩ nw ?_;intro es' ck' hput;obtain⟨rfl,rfl⟩:=OO Wa.2.2 aa K hput)|(have F:=K;clear F;apply BS [12,2,3,4,30,31,32] i 2000048 17 (FJ bs YN i) (FJ bs YN (i+1)) (.mp (bQ G7 cJ (i+1) (lC bs)) (i+1));(conv=>whnf);exact⟨rfl,rfl,rfl,rfl,rfl,rfl,rfl,rfl⟩;exact rfl;exact av;exact rfl;exact rfl;exact rfl;(repeat first|exact jo.here|refine jo.cons ?_ rfl);(simp only[cJ];omega);(simp[FJ];rfl);(rw[Yb (n:=i) V9,Yb (n:=i+1) V9];rfl);(intro c D;simp[FJ,D,Nat.lt_succ_of_lt D]);exact(λf R hE=>K4 wW (GG (by simpa using K)) (λ_ _=>rfl) V9 R hE);exact⟨_,[_],⟨i+1,aa,rfl,by rw[bF aa aa];rfl,rfl⟩,rfl,rfl,aa⟩)|(have Wa:=r aa;have TB:=Wa.2.1;have Ba:bs.length<=cJ:=V9;obtain rfl:i=bs.length:=aa;apply Gq [12,15,2,4,45,46,47] [47] (RJ2 (stC B M L ps us v os) os ws bs xs) xs.length [iV .i64 0] bs.length cJ (xJ bs xs 0) lit 17 (FJ bs YN bs.length) (FJ bs (kW os ws bs xs 0) bs.length) (.mp (bQ G7 (xJ bs xs 0) bs.length (lC bs)) bs.length);(conv=>whnf);exact⟨rfl,rfl,rfl,rfl,rfl,rfl,rfl⟩;exact rfl;exact rfl;exact rfl;exact rfl;(repeat first|exact jo.here|refine jo.cons ?_ rfl);exact Ba;exact .inl rfl;exact xI _ _ _;exact rfl;exact(λ_ _=>rfl);exact(λf R=>tt wW R);exact⟨0,_,_,_,aa,rfl,rfl,rfl,rfl,_,aL.aM (aL.replicate _ [tI 0]) _,rfl,ak,λe H=>⟨_,(acv.1 H).2⟩,λq d=>by omega⟩;rintro _ _ _ ⟨j,k,zs,xk,Q,rfl,rfl,Z,hxk,UJ,hrO,rfl,x⟩;cases hrO;have hkk:k=cJ\/k < bs.length:=(by rw[Z];exact xI _ _ _))|(have hlk:=O;clear hlk;refine ZV rfl rfl rfl Tryz.underlying158 rfl (iu Tryz.underlying3) Wa.2.2 S (λA AW=>?_) (λhkd=>?_);(obtain⟨b,lt,z⟩: ∃b lt,kW os ws bs xs j tk=(b,lt):=⟨_,_,rfl⟩;have adN:b.length=16:=(by have:=GP os ws bs xs j tk;rw[z]at this;exact this);have MO:xk=[Eb b lt]:=(by rw[hxk,Yc A AW,z]);subst MO))|(refine si [2000000] rfl (Vx rfl) rfl (sV rfl (rfl:aL _ [Eb b lt])) (Vy os ws P.hos Wa.1 y b adN lt tk op w a) ?_;rintro _ rfl)|refine Jc aa (by simp[tr];have:=x.1;omega) ?_|(refine cu (xs:=zs) rfl x.2.1 (by have:=x.1;omega) ?_;rintro _ ⟨x0,rfl⟩ Tw)|refine LV rfl ?_|refine TO rfl ?_|refine amO ⟨rfl,rfl,anX adN aa⟩ ?_|refine amO ⟨rfl,rfl,abD adN aa⟩ ?_|(have CW:DY os ws b lt op w a=1:=ai;apply gf [12,15,2,4,45,46,47] bs.length k (xJ bs xs (j+1)) lit 17 (FJ bs (kW os ws bs xs j) bs.length) (FJ bs (kW os ws bs xs (j+1)) bs.length) (.mp (bQ G7 (xJ bs xs (j+1)) bs.length (lC bs)) bs.length);(conv=>whnf);exact⟨rfl,rfl,rfl,rfl,rfl,rfl,rfl⟩;exact rfl;exact rfl;exact rfl;(repeat first|exact jo.here|refine jo.cons ?_ rfl);exact Ba;exact hkk;exact xI _ _ _;(rw[Jr O W1 z,Yc A AW,if_pos rfl];exact congrArg (λq=>[q]) (abC adN aa aa aa));(intro c D;rw[Jr O W1 z,aEH Wa.2.2 A AW D]);exact(λf R=>tt wW R);exact⟨_,[_],⟨j+1,_,_,_,aa,rfl,by rw[bF aa aa];rfl,rfl,rfl,_,aL.aM (aL.set (xs:=zs) rfl _ [tI _]) _,rfl,x.next aa (Fv O S A z) aa⟩,rfl,rfl,aa⟩)|(have CW:DY os ws b lt op w a≠1:=ai;apply gf [12,15,2,4,45,46,47] bs.length k (xJ bs xs (j+1)) lit 17 (FJ bs (kW os ws bs xs j) bs.length) (FJ bs (kW os ws bs xs (j+1)) bs.length) (.mp (bQ G7 (xJ bs xs (j+1)) bs.length (lC bs)) bs.length);(conv=>whnf);exact⟨rfl,rfl,rfl,rfl,rfl,rfl,rfl⟩;exact rfl;exact rfl;exact rfl;(repeat first|exact jo.here|refine jo.cons ?_ rfl);exact Ba;exact hkk;exact xI _ _ _;(rw[wK O W1,Yc A AW,z];rfl);(intro c D;rw[wK O W1]);exact(λf R=>tt wW R);exact⟨_,[_],⟨j+1,_,_,_,aa,rfl,by rw[bF aa aa];rfl,rfl,rfl,_,aL.aM (aL.set (xs:=zs) rfl _ [tI _]) _,rfl,x.next aa (Fv O S A z) aa⟩,rfl,rfl,aa⟩)|(have F:=hkd;clear F;apply gf [12,15,2,4,45,46,47] bs.length k (xJ bs xs (j+1)) lit 17 (FJ bs (kW os ws bs xs j) bs.length) (FJ bs (kW os ws bs xs (j+1)) bs.length) (.mp (bQ G7 (xJ bs xs (j+1)) bs.length (lC bs)) bs.length);(conv=>whnf);exact⟨rfl,rfl,rfl,rfl,rfl,rfl,rfl⟩;exact rfl;exact rfl;exact rfl;(repeat first|exact jo.here|refine jo.cons ?_ rfl);exact Ba;exact hkk;exact xI _ _ _;(rw[wK O (by rw[U4 O S hkd Ba];decide), <-hxk];rfl);(intro c D;rw[wK O (by rw[U4 O S hkd Ba];decide)]);exact(λf R=>tt wW R);exact⟨_,[_],⟨j+1,_,_,_,aa,rfl,by rw[bF aa aa];rfl,rfl,rfl,_,aL.aM (aL.set (xs:=zs) rfl _ [tI _]) _,rfl,x.next aa (U4 O S hkd Ba) aa⟩,rfl,rfl,aa⟩)|(apply N5 [12,2,3,4,30,31,32] [32] (RJ1 [(2000008,.row 7 [stC B M L ps us v os])] bs) bs.length [iV .i64 0] 17;(conv=>whnf);exact⟨rfl,rfl,rfl,rfl,rfl,rfl,rfl⟩;exact rfl;exact rfl;exact rfl;(repeat first|exact jo.here|refine jo.cons ?_ rfl);exact⟨0,aa,rfl,rfl,aLE _ _⟩;rintro _ _ _ ⟨i,I,rfl,rfl,rfl⟩)|refine Gs ?_|exact⟨_,[],rfl,⟨aa7 _,List.nodup_nil⟩,.inl ⟨_,ai,λh=>by have Y:=h.1;omega,rfl,rfl⟩⟩|exact⟨_,[],rfl,⟨aa7 _,List.nodup_nil⟩,.inl ⟨_,av,λh=>by have Y:=h.2;omega,rfl,rfl⟩⟩|exact⟨_,[2000008],rfl,⟨av,ak⟩,.inr ⟨zs,rfl,sV rfl (rfl:aL _ zs),by have e:xs.length=j:=aa;rw[e];exact x,aa,Wa.1,Wa.2.2,Wa.2.1,aa⟩⟩)
end Go.aW.Cd
namespace Go.aW.Cd
open Go Go.Proofs
variable[kw]
def mL(J F P xs:Lz):Lz:=(List.range xs.length).map λj=>[tI (oJ J F P xs j)]
variable{J F P xs:Lz}
def NV.eq{zs:Lz}(h:NV J F P xs xs.length zs):zs=mL J F P xs:=by
 obtain⟨O,_,B⟩:=h;apply abm;intro i;unfold mL
 by_cases I:i < xs.length
 . rw[B i I];simp[I]
 . rw[abe (show zs.length<=i by omega),abe gZ]
structure aiK(os bs xs:Lz):Prop where
 n:xs.length<=300
 op:lu os
 tk:ru (lC bs) bs.length
 bn:bs.length<=60
def GJg(E:Int)(J F P xs:Lz)(ts:Lw):Prop:= ∃e:Int,ts=[oL 1 (if e=0 then mL J F P xs else []),oI e]/\(e=0->aiK J P xs)/\(e=0↔E=0/\xs.length<=300)
def Mi(s:ByteArray)(w L ps us v J:Lz)(l:eu s w L ps us v J)(P:Lz)(G:I4 P)(b:P.length<=maxLen)(F:Lz)(a:∀e,e∈F->Bv e)(U:F.length<=maxLen)(xs:Lz)(hx:∀e,e∈xs->zO e):Tg 34 [dV s w L ps us v J,oL 6 P,oL 2 F,oL 4 xs] (GJg (scE s w L ps us v J P F) J F P xs):=by
 refine aS ?_;refine aC Tryz.func34 ?_
 repeat' ((conv=>whnf);first|(refine LW rfl (D7 s w L ps us v J l P G b F a U xs hx) ?_;rintro _ _ (⟨e,H,D,rfl,rfl⟩|⟨M,rfl,rfl,x,K,c,d,g,hE⟩))|exact eL rfl (dy 1 rfl) (cv rfl) ⟨_,by rw[if_neg H],λh=>absurd h H,iff_of_false H D⟩|exact eL rfl (df rfl rfl (xs:=M) (T5 _ _) (by have:=x.1;omega)) (cv rfl) ⟨_,by rw[if_pos rfl,cD x.1.symm,x.eq],λ_=>⟨K,c,d,g⟩,iff_of_true rfl ⟨hE,K⟩⟩)
def Vz(s:ByteArray)(w L ps us v J P F xs:Lz):Int:=pk 34 [dV s w L ps us v J,oL 6 P,oL 2 F,oL 4 xs] (λe=>[oL 1 (if e=0 then mL J F P xs else []),oI e]) (λe=>(e=0->aiK J P xs)/\(e=0↔scE s w L ps us v J P F=0/\xs.length<=300))
def JgF(s:ByteArray)(w L ps us v J P F xs:Lz)(ts:Lw):Prop:=ts=[oL 1 (if Vz s w L ps us v J P F xs=0 then mL J F P xs else []),oI (Vz s w L ps us v J P F xs)]/\(Vz s w L ps us v J P F xs=0->aiK J P xs)/\(Vz s w L ps us v J P F xs=0↔scE s w L ps us v J P F=0/\xs.length<=300)
def kj(s:ByteArray)(w L ps us v J:Lz)(l:eu s w L ps us v J)(P:Lz)(G:I4 P)(b:P.length<=maxLen)(F:Lz)(a:∀e,e∈F->Bv e)(U:F.length<=maxLen)(xs:Lz)(hx:∀e,e∈xs->zO e):
 Tg 34 [dV s w L ps us v J,oL 6 P,oL 2 F,oL 4 xs] (JgF s w L ps us v J P F xs):=by
 obtain⟨Z,O,Y,e,rfl,B⟩:=Mi s w L ps us v J l P G b F a U xs hx;exact lp (f:=34) (args:=[dV s w L ps us v J,oL 6 P,oL 2 F,oL 4 xs]) (enc:=λe=>[oL 1 (if e=0 then mL J F P xs else []),oI e]) (Q:=λe=>(e=0->aiK J P xs)/\(e=0↔scE s w L ps us v J P F=0/\xs.length<=300)) ⟨e,O,Y,B⟩
def iH(J F P xs:Lz)(i:Nat):Lz:=(List.range i).filterMap λj=>if oJ J F P xs j=1 then xs[j]? else none
def Hj(J F P xs:Lz):Is (mL J F P xs):=λe H=>by
 simp only[mL,aad]at H;obtain⟨j,_,rfl⟩:=H;exact⟨_,rfl⟩
def CC(J F P xs:Lz):(mL J F P xs).length=xs.length:=by simp[mL]
def Hl{i:Nat}{v:Int}(h:(mL J F P xs)[((i:Int)).toNat]? =some [tI v]):v=oJ J F P xs i:=by
 have N:(mL J F P xs)[i]? =some [tI v]:=bc
 simp only[mL,yu,jU]at N;obtain⟨j,Q,Y⟩:=N;obtain⟨B,g⟩:=jl.1 Q;simp at Y g;rw[<-Y, <-g]
def OS{i:Nat}{e:Lt}(h:xs[((i:Int)).toNat]? =some e)(d:oJ J F P xs i=1):iH J F P xs (i+1)=iH J F P xs i++[e]:=by
 have N:xs[i]? =some e:=bc
 simp[iH,abf,d,N]
def OR{i:Nat}(d:oJ J F P xs i≠1):iH J F P xs (i+1)=iH J F P xs i:=by
 simp[iH,abf,d]
def tP(J F P xs:Lz)(i:Nat):(iH J F P xs i).length<=i:=by
 have:=acp (λj=>if oJ J F P xs j=1 then xs[j]? else none) (List.range i);simpa[iH]using this
def RPp(J F P xs:Lz)(m:Nat)(vs:List V)(w:List (Lz)):Prop:= ∃ (i:Nat) (M:Lz),i<=xs.length/\m=xs.length - i/\vs=[bD 4 4 M.length,iV .i64 (i:Int)]/\w=[M]/\M=iH J F P xs i
def GPp(E:Int)(J F P xs:Lz)(ts:Lw):Prop:=ts=[oL 4 (if E=0 then iH J F P xs xs.length else []),oI E]
def Rk(s:ByteArray)(l L ps us O J:Lz)(Z:eu s l L ps us O J)(P:Lz)(G:I4 P)(b:P.length<=maxLen)(F:Lz)(y:∀e,e∈F->Bv e)(U:F.length<=maxLen)(xs:Lz)(hx:∀e,e∈xs->zO e):Tg 15 [dV s l L ps us O J,oL 6 P,oL 2 F,oL 4 xs] (GPp (Vz s l L ps us O J P F xs) J F P xs):=by
 refine aS ?_;refine aC Tryz.func15 ?_
 repeat' ((conv=>whnf);first|refine bZz (λh=>?_) (λh=>?_)|(have c:Vz s l L ps us O J P F xs=0:=aa;have g:=(d c).n;refine aG (xs:=xs) hx aa aa ?_;rintro _ ⟨j,H,w,a,rfl⟩ S)|(simp only[if_pos c];refine aG (xs:=mL J F P xs) (Hj _ _ _ _) aa (by rw[CC];omega) ?_;rintro _ ⟨v,rfl⟩ x;have z:=Hl x)|(have R:=tP J F P xs i;rw[<-A]at R;refine And.intro ⟨by simp[tr],by simp[tr,bh];omega,by simp[tr,maxLen];omega⟩ ?_)|(refine aD rfl (kj s l L ps us O J Z P G b F y U xs hx) ?_;rintro _ ⟨rfl,d,_⟩)|exact eL rfl (dy 4 rfl) (cv rfl) (by unfold GPp;rw[if_neg aa])|(have c:Vz s l L ps us O J P F xs=0:=aa;exact eL rfl (df rfl rfl (xs:=M) rfl aa) (cv rfl) (by unfold GPp;rw[c,if_pos rfl,cD rfl,A,show xs.length=i by omega]))|(apply cL [10,12,26,27,28] [] [12,28] [(4,4)] (RPp J F P xs) (xs.length) [bD 4 4 0,iV .i64 0] (eo.dQ 12 4 rfl);(iterate 3 exact ae);exact .cons (aL.aM aL.nil _) .nil;exact⟨0,[],aa,rfl,rfl,rfl,rfl⟩;rintro _ _ _ ⟨i,M,I,rfl,rfl,rfl,A⟩)|(refine aI [10,12,26,27,28] [] ?_;(conv=>whnf);first|exact⟨rfl,_,[_,_],_,.cons (aL.aM (aL.snoc (xs:=M) rfl [tI _,tI _,tI _,tI _]) _) .nil,⟨i+1,_,aa,rfl,by rw[bF aa aa];simp[tr],rfl,by rw[OS S aa,A]⟩,rfl,rfl,aa⟩|exact⟨rfl,_,[_,_],_,.cons (aL.aM (xs:=M) rfl _) .nil,⟨i+1,_,aa,rfl,by rw[bF aa aa];rfl,rfl,by rw[OR aa,A]⟩,rfl,rfl,aa⟩))
end Go.aW.Cd
