import Derived.Test.YtkpopiejnimcoaaGreatDoorBB
set_option linter.all false
set_option maxRecDepth 100000
set_option maxHeartbeats 4000000
namespace Go.aW.Cd
open Go
abbrev tU(n:Int):T:= .val (.int .u32 n)
def IsU(e:Lt):Prop:= ∃n:Int,e=[tU n]/\0<=n/\n < 4294967296
abbrev Us(xs:Lz):Prop:= ∀e,e∈xs->IsU e
def lb:Lt->Nat
 | [.val (.int _ n)]=>n.toNat|_=>0
def nv:Lz->Nat
 | []=>0|e::r=>lb e+4294967296 * nv r
def oD(n:Int):lb [tU n]=n.toNat:=rfl
def IsU.lt{e:Lt}(h:IsU e):lb e < 4294967296:=by obtain⟨n,rfl,z,O⟩:=h;rw[oD];omega
def Hr:∀ (xs ys:Lz),nv (xs++ys)=nv xs+4294967296 ^ xs.length * nv ys
 | [],ys=>by simp[nv]
 |e::xs,ys=>by
  simp only[ab8,nv,Hr xs ys,aaa,ada];grind
def Hp:∀ {xs:Lz},(∀e,e∈xs->lb e=0)->nv xs=0
 | [],_=>rfl
 |e::xs,h=>by
  simp only[nv];rw[h e aa1,Hp (λq d=>h q (aa2 _ d))]
def CF(xs:Lz)(n:Nat):nv xs=nv (xs.take n)+4294967296 ^ (xs.take n).length * nv (xs.drop n):=by
 rw[<-Hr,adl]
def Fw:∀ {xs:Lz},Us xs->nv xs < 4294967296 ^ xs.length
 | [],_=>by simp[nv]
 |e::xs,h=>by
  have O:=(h e aa1).lt;have Y:=Fw (xs:=xs) (λq d=>h q (aa2 _ d));simp only[nv,aaa,ada];omega
def Us.take{xs:Lz}(h:Us xs)(n:Nat):Us (xs.take n):=λe H=>h e (aah H)
def Us.drop{xs:Lz}(h:Us xs)(n:Nat):Us (xs.drop n):=λe H=>h e (abc H)
variable{xs a P:Lz}{n x:Int}
def Us.cut(h:Us xs)(a b:Nat):Us ((xs.drop a).take b):=(h.drop a).take b
def Us.set{xs:Lz}(h:Us xs){i:Nat}{n:Int}(z:0<=n)(K:n < 4294967296):Us (xs.set i [tU n]):=by
 intro e H;rcases aao H with H|rfl
 . exact h e H
 . exact⟨n,rfl,z,K⟩
def Us.snoc(h:Us xs)(z:0<=n)(K:n < 4294967296):Us (xs++[[tU n]]):=by
 intro e H;simp only[yl,vv]at H;rcases H with H|rfl
 . exact h e H
 . exact⟨n,rfl,z,K⟩
def Us.replicate(k:Nat):Us (List.replicate k [tU (0:Int)]):=by
 intro e H;obtain⟨_,rfl⟩:=acv.1 H;exact⟨0,rfl,aa,aa⟩
def Us.nil:Us []:=λe H=>by simp at H
def Hq(k:Nat):nv (List.replicate k [tU (0:Int)])=0:=by
 apply Hp;intro e H;obtain⟨_,rfl⟩:=acv.1 H;rfl
def Ly(xs ys:Lz):Prop:=ys.length<=xs.length/\Us ys/\nv ys=nv xs/\(∀e,ys.getLast? =some e->lb e≠0)/\ ∃k,ys=xs.take k
def Jl{n:Nat}(hx:Us xs)(K:n<=xs.length)(A:∀e,e∈xs.drop n->lb e=0)(U:n=0\/ ∃e,xs[n - 1]? =some e/\lb e≠0):Ly xs (xs.take n):=by
 refine⟨by simp;omega,hx.take n,?_,?_,n,rfl⟩
 . rw[CF xs n,Hp A];simp
 . intro e H;rcases U with rfl|⟨J,O,Y⟩
   . simp at H
   . have:(xs.take n).getLast? =xs[n - 1]? :=by
      rw[aez,aa4]
      have z:0 < n:=by
       rcases aev n with h|h
       . subst h;simp at H
       . exact h
      rw[if_pos gZ];congr 1;simp;omega
     rw[this,O]at H;simp only[ii]at H;subst H;exact Y
def drop_zero{xs:Lz}{n:Nat}{e:Lt}(h:xs[n]? =some e)(H:lb e=0)(A:∀e,e∈xs.drop (n+1)->lb e=0):∀e,e∈xs.drop n->lb e=0:=by
 obtain⟨l,rfl⟩:=jl.1 h;intro q d;rw[abt l]at d;rcases aak.1 d with rfl|d
 . exact H
 . exact A q d
def JU:∀ {xs:Lz},(∀e,xs.getLast? =some e->lb e≠0)->xs≠ []->4294967296 ^ (xs.length - 1)<=nv xs
 | [],_,h=>absurd rfl h
 | [e],h,_=>by
   have:=h e rfl;simp only[nv,aco,Nat.sub_self,aex];omega
 |e::J::r,h,_=>by
  have c:=JU (xs:=J::r) (λq d=>h q (by simpa using d)) ak;simp only[nv,aaa]at c⊢;have H:r.length+1+1 - 1=(r.length+1 - 1)+1:=aa
  rw[H,ada];omega
def qG(n:Int):IntKind.u32.wrap n=n % 4294967296:=W0
def yJ(n:Int):IntKind.u64.wrap n=n % 18446744073709551616:=W0
def gM(n:Int):0<=IntKind.u32.wrap n:=by rw[qG];omega
def iK(n:Int):IntKind.u32.wrap n < 4294967296:=by rw[qG];omega
def u64_in(z:0<=n)(O:n < 18446744073709551616):IntKind.u64.wrap n=n:=by rw[yJ];omega
def u32_in(z:0<=n)(O:n < 4294967296):IntKind.u32.wrap n=n:=by rw[qG];omega
def yP(a:Int)(k:Nat)(Z:k<=64):a.fdiv (2 ^ (min ((k:Int)).toNat IntKind.u64.bits))=a / ((2 ^ k:Nat):Int):=by
 have:min ((k:Int)).toNat IntKind.u64.bits=k:=by simp only[IntKind.bits,aa0];omega
 rw[this,adO]
 . simp
 . exact Int.pow_nonneg aa
def Oy(a:Int):a.fdiv (2 ^ (min (32:Int).toNat IntKind.u64.bits))=a / 4294967296:=yP a 32 aa
def aBh(a:Int):a.fdiv (2 ^ (min (63:Int).toNat IntKind.u64.bits))=a / 9223372036854775808:=yP a 63 aa
def Uu(a:Int)(k:Nat)(Z:k<=64):IntKind.u64.wrap (a * 2 ^ (min ((k:Int)).toNat IntKind.u64.bits))=(a * ((2 ^ k:Nat):Int)) % 18446744073709551616:=by
 have:min ((k:Int)).toNat IntKind.u64.bits=k:=by simp only[IntKind.bits,aa0];omega
 rw[this,yJ];simp
def Uv(a:Int):IntKind.u64.wrap (a * 2 ^ (min (32:Int).toNat IntKind.u64.bits))=(a * 4294967296) % 18446744073709551616:=Uu a 32 aa
def UZ{a b:Nat}(k:Nat)(w:a < 2 ^ k):a|||(b * 2 ^ k)=a+b * 2 ^ k:=by
 have h:=Nat.two_pow_add_eq_or_of_lt w b;rw[abl,Nat.or_comm, <-h,aek]
def aoU{a b:Int}(H:0<=a)(w:a < 4294967296)(N:0<=b)(G:b < 4294967296):
 IntKind.u64.wrap ((BitVec.ofInt IntKind.u64.bits (b * 4294967296)|||BitVec.ofInt IntKind.u64.bits a).toNat:Int)=b * 4294967296+a:=by
 have e:∀x:Int,0<=x->x < 18446744073709551616->(BitVec.ofInt IntKind.u64.bits x).toNat=x.toNat:=by
  intro x z O;simp only[ad9,IntKind.bits];congr 1;omega
 rw[aea,e _ aa aa,e _ aa aa,Nat.or_comm];have:=UZ (a:=a.toNat) (b:=b.toNat) 32 aa;rw[show(b * 4294967296).toNat=b.toNat * 2 ^ 32 by omega,this,u64_in aa aa];omega
def Nm(k:Nat)(ys:Lz):Prop:=ys.length<=k/\Us ys/\(∀e,ys.getLast? =some e->lb e≠0)
def Ly.nm{ys:Lz}{k:Nat}(h:Ly xs ys)(Z:xs.length<=k):Nm k ys:=⟨by have:=h.1;omega,h.2.1,h.2.2.2.1⟩
def Io(w:Us a)(G:∀e,P.getLast? =some e->lb e≠0)(h:a.length < P.length):nv a < nv P:=by
 have O:=Fw w;have Y:=JU G (by intro e;subst e;simp at h);have B:4294967296 ^ a.length<=4294967296 ^ (P.length - 1):=abi aa aa;omega
def JV{k:Nat}(h:xs[k]? =some [tU x]):nv xs=nv (xs.take k)+4294967296 ^ k * (x.toNat+4294967296 * nv (xs.drop (k+1))):=by
 obtain⟨l,H⟩:=jl.1 h;rw[CF xs k,abt l,H];simp only[nv,oD,aab];rw[Nat.min_eq_left aa]
def Xt{k:Nat}{y:Int}(w:Us a)(S:a.drop (k+1)=P.drop (k+1))(O:a[k]? =some [tU x])(Y:P[k]? =some [tU y])(z:0<=x)(h:x < y):nv a < nv P:=by
 rw[JV O,JV Y,S];have l:=Fw (w.take k)
 have Z:(a.take k).length=k:=by
  have:=(jl.1 O).1;simp;omega
 rw[Z]at l;have:4294967296 ^ k * (x.toNat+1+4294967296 * nv (P.drop (k+1)))<=4294967296 ^ k * (y.toNat+4294967296 * nv (P.drop (k+1))):=abk _ aa;rw[show x.toNat+1+4294967296 * nv (P.drop (k+1))=(x.toNat+4294967296 * nv (P.drop (k+1)))+1 by omega,ac7]at this;omega
def SX{k:Nat}(S:a.drop (k+1)=P.drop (k+1))(O:a[k]? =some [tU x])(Y:P[k]? =some [tU x]):a.drop k=P.drop k:=by
 obtain⟨g1,H⟩:=jl.1 O;obtain⟨g2,o⟩:=jl.1 Y;rw[abt g1,abt g2,H,o,S]
def S7(n:Int)(a b:Nat):Prop:=(n < 0↔a < b)/\(n=0↔a=b)
end Go.aW.Cd
namespace Go.aW.Cd
open Go Go.Proofs
def Gi(xs:Lz)(m:Nat)(vs:List V):Prop:= ∃n:Nat,n<=xs.length/\(∀e,e∈xs.drop n->lb e=0)/\m=n/\vs=[iV .i64 (n:Int)]
variable{xs ps qs:Lz}{n:Nat}{a:Int}
def Gi.next(K:n<=xs.length)(z:(n:Int) > 0)(A:∀e,e∈xs.drop n->lb e=0)(S:xs[(IntKind.i64.wrap ((n:Int) - 1)).toNat]? =some [tU a])(w:a=0)(U:xs.length<=1000000):
 Gi xs (n - 1) [iV .i64 (IntKind.i64.wrap ((n:Int) - 1))]:=by
 have H:IntKind.i64.wrap ((n:Int) - 1)=((n - 1:Nat):Int):=by rw[aB aa aa];omega
 rw[H]at S;refine⟨n - 1,aa,?_,rfl,by rw[H]⟩;refine drop_zero S ?_ ?_
 . subst w;rfl
 . rw[show n - 1+1=n by omega];exact A
def E7(hx:Us xs)(K:n<=xs.length)(A:∀e,e∈xs.drop n->lb e=0)(h:¬ (n:Int) > 0):Ly xs ((xs.drop 0).take ((n:Int).toNat - 0)):=by
 have:=Jl hx K A (.inl aa);simpa using this
def E6(hx:Us xs)(K:n<=xs.length)(A:∀e,e∈xs.drop n->lb e=0)(h:(n:Int) > 0)(S:xs[(IntKind.i64.wrap ((n:Int) - 1)).toNat]? =some [tU a])(z:0<=a)(w:a≠0)(U:xs.length<=1000000):Ly xs ((xs.drop 0).take ((n:Int).toNat - 0)):=by
 have H:IntKind.i64.wrap ((n:Int) - 1)=((n - 1:Nat):Int):=by rw[aB aa aa];omega
 rw[H]at S;have:=Jl hx K A (.inr ⟨_,S,by rw[oD];omega⟩);simpa using this
def dF(xs:Lz)(hx:Us xs)(U:xs.length<=1000000):Tg 299 [oL 1 xs] (GL 1 (Ly xs)):=by
 refine aC Tryz.func299 ?_
 repeat' ((conv=>whnf);first|refine aJ (λh=>?_) (λh=>?_)|refine cT (aa7 _) aa ?_|(refine aG hx aj aq ?_;rintro _ ⟨a,rfl,H,l⟩ S)|refine And.intro aa ?_|(first|exact gLt rfl rfl (E7 hx K A aa)|exact gLt rfl rfl (E6 hx K A aa S H aa U))|(apply aV [0,3] [] [3] (Gi xs) (xs.length) [iV .i64 (xs.length:Int)];(iterate 3 exact ae);exact⟨xs.length,aa,ak,rfl,rfl⟩;rintro _ _ ⟨n,K,A,rfl,rfl⟩)|(refine aI [0,3] [] ?_;(conv=>whnf);exact⟨rfl,_,[_],Gi.next K aa A S aa U,rfl,rfl,rfl,aa⟩))
def aEB(xs:Lz)(ts:Lw):Prop:= ∃k,ts=[.one (.own 0 1 0 k)]/\k<=xs.length/\Ly xs (xs.take k)
def axE(n:Nat):0+n=n:=aas n
def fP(xs:Lz)(hx:Us xs)(U:xs.length<=1000000): ∃ts N,Fn Tryz.prog 299 [.one (.own 0 1 0 xs.length)] [(0,.row 1 (tr xs))] (aR ts) N/\GRd 1 xs (aEB xs) ts N:=by
 refine ij Tryz.func299 ?_
 repeat' ((conv=>whnf);first|refine aJ (λh=>?_) (λh=>?_)|refine oZ (aa7 _) aa (.inr rfl) ?_|refine And.intro ⟨by(simp (disch:=omega) only[aB];omega),by(simp (disch:=omega) only[aB];omega)⟩ ?_|refine And.intro aa ?_|(refine cu (xs:=xs) rfl hx (by(simp (disch:=omega) only[aB];omega)) ?_;rintro _ ⟨a,rfl,H,l⟩ S)|(first|exact aDP rfl rfl rfl rfl ⟨_,rfl,aa,by have:=E7 hx K A aa;simpa using this⟩|exact aDP rfl rfl rfl rfl ⟨_,rfl,aa,by have:=E6 hx K A aa (by rw[axE]at S;exact S) H aa U;simpa using this⟩)|(apply bp [0,3] [] [3] [(0,1)] (λm o w=>Gi xs m o/\w=[xs]) (xs.length) [iV .i64 (xs.length:Int)];(iterate 3 exact ae);exact .cons (aL.aM rfl _) .nil;exact⟨⟨xs.length,aa,ak,rfl,rfl⟩,rfl⟩;rintro _ _ _ ⟨⟨n,K,A,rfl,rfl⟩,rfl⟩)|(refine aI [0,3] [] ?_;(conv=>whnf);exact⟨rfl,_,[_],_,.cons (aL.aM rfl _) .nil,⟨Gi.next K aa A (by rw[axE]at S;exact S) aa U,rfl⟩,rfl,rfl,aa⟩))
def rz{b:Int}:Us [[tU (IntKind.u32.wrap a)],[tU (IntKind.u32.wrap b)]]:=by
 intro e H;simp only[aak,aa6,or_false]at H;rcases H with rfl|rfl
 . exact⟨_,rfl,gM _,iK _⟩
 . exact⟨_,rfl,gM _,iK _⟩
def aoX{n:Int}(z:0<=n)(O:n < 18446744073709551616):nv [[tU (IntKind.u32.wrap n)],[tU (IntKind.u32.wrap (n.fdiv (2 ^ (min (32:Int).toNat IntKind.u64.bits))))]]=n.toNat:=by
 simp only[nv,oD,Oy,qG];omega
def vM(n:Int)(z:0<=n)(O:n < 18446744073709551616):Tg 295 [oU n] (GL 1 (λys=>Nm 2 ys/\nv ys=n.toNat)):=by
 refine aS ?_;refine aC Tryz.func295 ?_
 repeat' ((conv=>whnf);first|refine And.intro aa ?_|(refine QY rfl rfl (fP [[tU (IntKind.u32.wrap n)],[tU (IntKind.u32.wrap (n.fdiv (2 ^ (min (32:Int).toNat IntKind.u64.bits))))]] rz ak) rfl rfl ?_;rintro _ ⟨k,rfl,Z,L⟩)|exact nt rfl (df rfl rfl (xs:=[[_],[_]]) rfl acq) ⟨_,rfl,by simpa using L.nm ak,by simpa using L.2.2.1.trans (aoX z O)⟩)
def aA5:Tryz.prog.underlying 340=some (.slice 223):=ag
def aBc:dc Tryz.prog 223=some 1:=ag
abbrev RK(n:Int):W:= .one (.t (tU n))
def mT(xs:Lz)(hx:Us xs)(U:xs.length<=1000000):Tg 309 [oL 1 xs] (GL 1 (λys=>Nm xs.length ys/\nv ys=nv xs)):=by
 refine aS ?_;refine aC Tryz.func309 ?_
 repeat' ((conv=>whnf);first|refine And.intro ⟨aa,aa,by have:=L.1;omega,by have:=L.1;omega⟩ ?_|(refine aD rfl (dF xs hx U) ?_;rintro _ ⟨ys,rfl,L⟩)|refine TV (ys:=ys) rfl rfl rfl rfl aA5 aBc rfl (aL.replicate _ [tU 0]) ak ?_|exact nt rfl (df rfl rfl rfl (by simp[bt])) ⟨_,rfl,by have h:=L.nm (ww _);simpa[bt]using h,by have h:=L.2.2.1;simpa[bt]using h⟩)
def acW(n:Int):Tg 316 [RK n] (ZC False):=by
 refine aC Tryz.func316 ?_
 repeat' ((conv=>whnf);first|(refine gBp rfl rfl ?_;simp))
def Th(a b:Int):Tg 308 [RK a,RK b] (oq (λn=>(n < 0↔a < b)/\(n=0↔a=b))):=by
 refine aC Tryz.func308 ?_
 repeat' ((conv=>whnf);first|refine bZz (λh=>?_) (λh=>?_)|(refine aD rfl (acW _) ?_;rintro _ ⟨c,rfl,D⟩)|(first|(refine jX rfl rfl ?_;omega)|(exfalso;simp_all;done)))
def VC(n:Int):Tg 62 [oI n] (ZC False):=by
 refine aC Tryz.func62 ?_
 repeat' ((conv=>whnf);first|(refine gBp rfl rfl ?_;simp))
def YD(a b:Int):Tg 32 [oI a,oI b] (oq (λn=>(n < 0↔a < b)/\(n=0↔a=b))):=by
 refine aC Tryz.func32 ?_
 repeat' ((conv=>whnf);first|refine bZz (λh=>?_) (λh=>?_)|(refine aD rfl (VC _) ?_;rintro _ ⟨c,rfl,D⟩)|(first|(refine jX rfl rfl ?_;omega)|(exfalso;simp_all;done)))
def ahZ(ps qs:Lz)(m:Nat)(vs:List V):Prop:= ∃k:Nat,k<=ps.length/\ps.drop k=qs.drop k/\m=k/\vs=[iV .i64 ((k:Int) - 1)]
def ahZ.next{k:Nat}{x y:Int}(Z:k<=ps.length)(U:ps.length<=1000000)(z:(k:Int) - 1≥0)(S:ps.drop k=qs.drop k)(O:ps[((k:Int) - 1).toNat]? =some [tU x])(Y:qs[((k:Int) - 1).toNat]? =some [tU y])(H:x=y):
 ahZ ps qs (k - 1) [iV .i64 (IntKind.i64.wrap ((k:Int) - 1 - 1))]:=by
 subst H;have l:((k:Int) - 1).toNat=k - 1:=aa
 rw[l]at O Y;have o:IntKind.i64.wrap ((k:Int) - 1 - 1)=((k - 1:Nat):Int) - 1:=by rw[aB aa aa];omega
 exact⟨k - 1,aa,SX (by rw[show k - 1+1=k by omega];exact S) O Y,rfl,by rw[o]⟩
def agS{k:Nat}{x y n:Int}(w:Us ps)(G:Us qs)(z:(k:Int) - 1≥0)(S:ps.drop k=qs.drop k)(O:ps[((k:Int) - 1).toNat]? =some [tU x])(Y:qs[((k:Int) - 1).toNat]? =some [tU y])(hx:0<=x)(hy:0<=y)
 (K:n≠0) (D:(n < 0↔x < y)/\(n=0↔x=y)):S7 n (nv ps) (nv qs):=by
 have H:((k:Int) - 1).toNat=k - 1:=aa
 have o:k - 1+1=k:=aa
 rw[H]at O Y;rcases Int.lt_trichotomy x y with h|h|h
 . have:=Xt w (by rw[o];exact S) O Y hx h;exact⟨aa,aa⟩
 . omega
 . have:=Xt G (by rw[o];exact S.symm) Y O hy h;exact⟨aa,aa⟩
def Xs{n:Int}(w:Us ps)(G:Us qs)(Y:∀e,ps.getLast? =some e->lb e≠0)(o:∀e,qs.getLast? =some e->lb e≠0)(K:n≠0)(D:(n < 0↔(ps.length:Int) < (qs.length:Int))/\(n=0↔(ps.length:Int)=(qs.length:Int))):S7 n (nv ps) (nv qs):=by
 rcases aei ps.length qs.length with h|h|h
 . have:=Io w o h;exact⟨aa,aa⟩
 . omega
 . have:=Io G Y h;exact⟨aa,aa⟩
def Xr{k:Nat}(S:ps.drop k=qs.drop k)(Z:¬ ((k:Int) - 1≥0)):S7 0 (nv ps) (nv qs):=by
 have:k=0:=aa
 subst this;simp only[acg]at S;rw[S];exact⟨aa,aa⟩
def mh(xs ys:Lz)(hx:Us xs)(hy:Us ys)(U:xs.length<=1000000)(r:ys.length<=1000000):Tg 297 [oL 1 xs,oL 1 ys] (oq (λn=>S7 n (nv xs) (nv ys))):=by
 refine aC Tryz.func297 ?_
 repeat' ((conv=>whnf);first|refine bZz (λh=>?_) (λh=>?_)|(refine aG F aa aa ?_;rintro _ ⟨x,rfl,P,b⟩ Y)|(refine aG a aa aa ?_;rintro _ ⟨y,rfl,w,G⟩ O)|refine And.intro ag ?_|(refine aD rfl (dF xs hx U) ?_;rintro _ ⟨g,rfl,⟨e,F,Q,R,_⟩⟩)|(refine aD rfl (dF ys hy r) ?_;rintro _ ⟨N,rfl,⟨j,a,v,tb,_⟩⟩)|(refine aD rfl (YD _ _) ?_;rintro _ ⟨c,rfl,D⟩)|(refine aN rfl (Th _ _) ?_;rintro _ ⟨d,rfl,o⟩)|(refine jX rfl rfl ?_;rw[<-Q, <-v];first|exact Xs F a R tb aa D|exact agS F a aa S Y O P w aa o|exact Xr S aa)|(apply aV [0,1,6] [] [6] (ahZ g N) (g.length) [iV .i64 (IntKind.i64.wrap ((g.length:Int) - 1))];(iterate 3 exact ae);exact⟨g.length,aa,by rw[List.drop_length,adf aa],rfl,by rw[aB aa aa]⟩;rintro _ _ ⟨k,Z,S,rfl,rfl⟩)|(refine aI [0,1,6] [] ?_;(conv=>whnf);exact⟨rfl,_,[_],ahZ.next Z aa aa S Y O aa,rfl,rfl,rfl,aa⟩))
end Go.aW.Cd
namespace Go.aW.Cd
open Go
def fo(xs:Lz)(i k:Nat):Nat:=nv ((xs.drop i).take k)
def JA(xs:Lz)(i:Nat):fo xs i 0=0:=by simp[fo,nv]
def lD{α:Type}{l:List α}{k:Nat}{e:α}(h:l[k]? =some e):l.take (k+1)=l.take k++[e]:=by
 rw[abw,h];rfl
variable{xs:Lz}{U a S Q u0 b borrow carry lo un Bn:Nat}
def fG{i k:Nat}{x:Int}(h:xs[i+k]? =some [tU x]):fo xs i (k+1)=fo xs i k+4294967296 ^ k * x.toNat:=by
 have N:(xs.drop i)[k]? =some [tU x]:=by rw[acr];exact h
 have Z:((xs.drop i).take k).length=k:=by
  have:=(jl.1 N).1;rw[aab];omega
 unfold fo;rw[lD N,Hr,Z];simp[nv,oD]
def UC{i k:Nat}{x:Int}(h:xs[i]? =some [tU x]):fo xs i (k+1)=x.toNat+4294967296 * fo xs (i+1) k:=by
 obtain⟨l,H⟩:=jl.1 h;unfold fo;rw[abt l,H,List.take_succ_cons];simp[nv,oD]
def Rj{ys:Lz}{i k:Nat}(h:∀j,i<=j->j < i+k->xs[j]? =ys[j]?):fo xs i k=fo ys i k:=by
 unfold fo;congr 1;apply abm;intro n;rw[aa4,aa4];split
 . rw[acr,acr];exact h _ aa aa
 . rfl
def wR{i k j:Nat}{e:Lt}(h:j < i\/i+k<=j):fo (xs.set j e) i k=fo xs i k:=
 Rj λn O Y=>by rw[aam aa]
def yR(hx:Us xs)(i k:Nat):fo xs i k < 4294967296 ^ k:=by
 have h:=Fw (hx.cut i k);exact aar h (abi aa ua)
def amB(k:Nat):0 < 4294967296 ^ k:=acT aa
def SQ{V X q:Nat}(D:U < (a+1) * X)(I:S * X<=V)(hq:q=a / S)(O:1<=S)(g:Q * V<=U):Q<=q:=by
 subst hq;rw[Nat.le_div_iff_mul_le aa]
 have Y:Q * S * X<=U:=by
  rw[ab0];exact aal (abk _ I) g
 have B:Q * S * X < (a+1) * X:=aa
 have:=adg B;omega
def WW{V X B M q r:Nat}(J:U < (a * B+u0+1) * X)(I:(S * B+M) * X<=V)(L:q * S+r=a)(j:Q * V<=U)(e:Q < B)(b:Q<=q)(N:B<=q\/r * B+u0 < q * M):Q < q:=by
 rcases Nat.lt_or_eq_of_le b with h|h
 . exact h
 . subst h;rcases N with h|h
   . omega
   . exfalso
     have Y:Q * (S * B+M) * X < (a * B+u0+1) * X:=by
      rw[ab0];exact aeb (aal (abk _ I) j) J
     have D:=adg Y;have g:Q * (S * B+M)=Q * S * B+Q * M:=by rw[ac7,ab0]
     have F:a * B=Q * S * B+r * B:=by rw[<-L,aaw]
     omega
def afY{V X B M q r:Nat}(y:0 < X)(x:0 < B)(P:(a * B+u0) * X<=U)(n:(S * B+M) * X<=V)(s:V < (S * B+M+1) * X)(Z:M < B)(O:1<=S)(F:a < S * B+B)(Q:q * S+r=a)
 (D:¬ (r < B/\(B<=q\/r * B+u0 < q * M))):q < B/\q * V < U+V:=by
 have b:B * X<=V:=by
  refine aal ?_ n;refine YH X ?_;have:1 * B<=S * B:=YH B O;omega
 have c:0 < B * X:=afk x y
 by_cases J:r < B
 . have d:q < B:=by
    apply Nat.lt_of_not_le;intro h;exact D ⟨J,.inl h⟩
   have j:q * M<=r * B+u0:=by
    apply ae6;intro h;exact D ⟨J,.inr h⟩
   refine⟨d,?_⟩
   have H:q * (S * B+M)<=a * B+u0:=by
    have o:q * (S * B+M)=q * S * B+q * M:=by rw[ac7,ab0]
    have G:a * B=q * S * B+r * B:=by rw[<-Q,aaw]
    omega
   have e:q * V<=q * ((S * B+M+1) * X):=abk q (acz s)
   have v:q * ((S * B+M+1) * X)=q * (S * B+M) * X+q * X:=by
    rw[<-ab0,ac7 q (S * B+M) 1,adv,aaw]
   have l:q * (S * B+M) * X<=(a * B+u0) * X:=YH X H;have A:q * X < B * X:=abx d y;omega
 . have z:q * S < S * B:=aa
   have d:q < B:=by
    rw[abl q S]at z;exact aeE z
   refine⟨d,?_⟩
   have H:(S * B+M+1) * X<=(S+1) * (B * X):=by
    rw[<-ab0];refine YH X ?_;rw[aaw];omega
   have o:q * V<=q * ((S+1) * (B * X)):=abk q aa;have G:q * ((S+1) * (B * X))=(q * S+q) * (B * X):=by rw[<-ab0,ac7 q S 1,adv]
   have e:(q * S+q) * (B * X)<=a * (B * X):=YH _ aa;have v:a * (B * X)=a * B * X:=by rw[ab0]
   have l:a * B * X<=(a * B+u0) * X:=YH X aa;omega
def Uh{c q y u Bi d e I:Nat}(w:a+(borrow+carry) * Bi=b+q * c)(D:carry+q * y=lo+I * 4294967296)(S:u+e * 4294967296=d+lo+borrow):(a+Bi * u)+(e+I) * (4294967296 * Bi)=(b+Bi * d)+q * (c+Bi * y):=by
 have O:Bi * (u+e * 4294967296)=Bi * (d+lo+borrow):=by rw[S]
 have Y:Bi * (carry+q * y)=Bi * (lo+I * 4294967296):=by rw[D]
 grind
def XN{c y u Bi d e:Nat}(w:a+c=b+carry * Bi)(S:carry+u+y=d+e * 4294967296):(a+Bi * u)+(c+Bi * y)=(b+Bi * d)+e * (4294967296 * Bi):=by
 have O:Bi * (carry+u+y)=Bi * (d+e * 4294967296):=by rw[S]
 grind
def aaG{V q:Nat}(B:U=lo+Bn * un)(h:lo+(borrow+carry) * Bn=a+q * V)(g:U < (Q+1) * V)(hq:Q<=q)(J:carry+borrow<=un):a < V:=by
 obtain⟨k,rfl⟩: ∃k,un=carry+borrow+k:=⟨un - (carry+borrow),aa⟩
 have H:Bn * (carry+borrow+k)=(borrow+carry) * Bn+Bn * k:=by
  rw[ac7,abl,aek carry borrow]
 have o:(Q+1) * V<=(q+1) * V:=YH V aa;have G:(q+1) * V=q * V+V:=by rw[aaw,adm]
 have e:0<=Bn * k:=aa7 _;omega
def Uj{V q G:Nat}(B:U=lo+Bn * un)(h:lo+(borrow+carry) * Bn=a+q * V)(I:V < Bn)(hq:q * V < U+V)(l:un < carry+borrow)(Y:a+V=b+G * Bn)(K:a < Bn)(w:b < Bn):b < V:=by
 obtain⟨k,Z⟩: ∃k,borrow+carry=un+1+k:=⟨borrow+carry - un - 1,aa⟩;rw[Z]at h
 have H:(un+1+k) * Bn=Bn * un+Bn+k * Bn:=by
  rw[aaw,aaw,adm,abl un Bn]
 match G,Y with
 |0,Y=>simp only[afd,ace]at Y;have:=aa7 (k * Bn);omega
 |1,Y=>simp only[adm]at Y;omega
 |c+2,Y=>
  have o:(c+2) * Bn=c * Bn+2 * Bn:=by rw[aaw]
  have:=aa7 (c * Bn);omega
end Go.aW.Cd
namespace Go.aW.Cd
open Go Go.Proofs
variable{n c d:Int}{N L j:Nat}{zs:Lz}
def bF(z: -9223372036854775808<=n)(O:n < 9223372036854775808):IntKind.i64.wrap n=n:=aB z O
abbrev bD(id sz len:Nat):V:= .w (.one (.own id sz 0 len))
def NU(N:Nat)(m:Nat)(vs:List V)(w:List (Lz)):Prop:= ∃ (i:Nat) (M:Lz) (c:Int),i<=N/\m=N - i/\vs=[bD 4 1 i,iV .u64 c,iV .i64 (i:Int)]/\w=[M]/\M.length=i/\Us M
def NU.zero:NU N N [bD 4 1 0,iV .u64 0,iV .i64 0] [[]]:=⟨0,[],0,aa,rfl,rfl,rfl,rfl,Us.nil⟩
def NU.next{i k:Nat}(h:i < N)(D:N<=1000001)(U:zs.length=i)(B:Us zs)(Z:k=i+1):NU N (N - (i+1)) [bD 4 1 k,iV .u64 d,iV .i64 (IntKind.i64.wrap ((i:Int)+1))] [zs++[[tU (IntKind.u32.wrap c)]]]:=
 ⟨i+1,_,d,aa,rfl,by rw[bF aa aa,Z];rfl,rfl,by simp[U],B.snoc (gM _) (iK _)⟩
def oC(xs ys:Lz)(hx:Us xs)(hy:Us ys)(U:xs.length<=400000)(r:ys.length<=400000):Tg 303 [oL 1 xs,oL 1 ys] (GL 1 (Nm (max xs.length ys.length+1))):=by
 refine aS ?_;refine aC Tryz.func303 ?_
 repeat' ((conv=>whnf);first|refine aJ (λh=>?_) (λh=>?_)|(refine aG F aa aa ?_;rintro _ ⟨x,rfl,P,b⟩ Y)|(refine aG a aa aa ?_;rintro _ ⟨y,rfl,w,D⟩ O)|refine And.intro ⟨ah,ah,ah,ah⟩ ?_|refine And.intro ⟨by simp[tr,A],by simp[tr,bh];omega,by simp[tr,maxLen];omega⟩ ?_|refine And.intro aa ?_|(refine aD rfl (dF xs hx aa) ?_;rintro _ ⟨g,rfl,⟨e,F,Q,R,_⟩⟩)|(refine aD rfl (dF ys hy aa) ?_;rintro _ ⟨N,rfl,⟨j,a,v,tb,_⟩⟩)|(refine QY rfl rfl (fP (M++[[tU (IntKind.u32.wrap c)]]) (B.snoc (gM _) (iK _)) gZ) (by simp[W.aM,C.aM,bI,tr]) (aL.snoc (xs:=M) rfl [tU _]) ?_;rintro _ ⟨k,rfl,Z,L⟩)|exact nt rfl (df rfl rfl (aL.snoc (xs:=M) rfl [tU _]) acq) ⟨_,rfl,by simpa using L.nm gZ⟩|(apply bp [1,5,6,24,25,26] [] [5,6,26] [(4,1)] (NU (max g.length N.length)) (max g.length N.length) [bD 4 1 0,iV .u64 0,iV .i64 0];(iterate 3 exact ae);exact .cons (aL.aM (aL.replicate 0 [tU 0]) _) .nil;exact NU.zero;rintro _ _ _ ⟨i,M,c,I,rfl,rfl,rfl,A,B⟩)|(refine aI [1,5,6,24,25,26] [] ?_;(conv=>whnf);exact⟨rfl,_,[_,_,_],_,.cons (aL.aM (aL.snoc (xs:=M) rfl [tU _]) _) .nil,NU.next aa aa A B (by simp[tr,A]),rfl,rfl,aa⟩))
def EN(N L:Nat)(m:Nat)(vs:List V)(w:List (Lz)):Prop:= ∃ (i:Nat) (M:Lz) (c:Int),i<=N/\m=N - i/\vs=[iV .u64 c,iV .i64 (i:Int)]/\w=[M]/\M.length=L/\Us M
def EN.zero(A:zs.length=L)(B:Us zs):EN N L N [iV .u64 0,iV .i64 0] [zs]:=⟨0,zs,0,aa,rfl,rfl,rfl,A,B⟩
def EN.next{i:Nat}(h:i < N)(D:N<=1000001)(U:zs.length=L)(B:Us zs):EN N L (N - (i+1)) [iV .u64 d,iV .i64 (IntKind.i64.wrap ((i:Int)+1))] [zs.set j [tU (IntKind.u32.wrap c)]]:=
 ⟨i+1,_,d,aa,rfl,by rw[bF aa aa];rfl,rfl,by simp[U],B.set (gM _) (iK _)⟩
def GLB(p:Lz->Prop)(ts:Lw):Prop:= ∃o b,ts=[.one (.t (.aO 1 o)),.one (.t (.val (.bool b)))]/\p o
def Ae(xs ys:Lz)(hx:Us xs)(hy:Us ys)(U:xs.length<=400000)(r:ys.length<=400000):Tg 315 [oL 1 xs,oL 1 ys] (GLB (Nm xs.length)):=by
 refine aS ?_;refine aC Tryz.func315 ?_
 repeat' ((conv=>whnf);first|refine aJ (λh=>?_) (λh=>?_)|(refine aG F aa aa ?_;rintro _ ⟨x,rfl,P,b⟩ Y)|(refine aG s aa aa ?_;rintro _ ⟨y,rfl,w,D⟩ O)|refine And.intro ⟨ah,ah,ah,ah⟩ ?_|refine And.intro ⟨aa,aa⟩ ?_|refine And.intro aa ?_|(refine aD rfl (dF xs hx aa) ?_;rintro _ ⟨g,rfl,⟨e,F,Q,R,_⟩⟩)|(refine aD rfl (dF ys hy aa) ?_;rintro _ ⟨N,rfl,⟨j,s,v,tb,_⟩⟩)|(refine aD rfl (mh g N F s aa aa) ?_;rintro _ ⟨n,rfl,K⟩)|(refine cu (xs:=M) rfl B aa ?_;rintro _ ⟨a,rfl,H,l⟩ S)|(refine QY rfl rfl (fP M B aa) agh rfl ?_;rintro _ ⟨k,rfl,Z,L⟩)|exact eL rfl (df rfl rfl (xs:=M) rfl acq) (cv rfl) ⟨_,_,rfl,by simpa using L.nm aa⟩|exact eL rfl (dy 1 rfl) (cv rfl) ⟨_,_,rfl,ak,Us.nil,ak⟩|(apply bp [1,6,7,22,23,24] [] [7,24] [(4,1)] (EN g.length g.length) (g.length) [iV .u64 0,iV .i64 0];(iterate 3 exact ae);exact .cons (aL.aM (aL.replicate g.length [tU 0]) _) .nil;exact EN.zero ak (Us.replicate _);rintro _ _ _ ⟨i,M,c,I,rfl,rfl,rfl,A,B⟩)|(refine aI [1,6,7,22,23,24] [] ?_;(conv=>whnf);exact⟨rfl,_,[_,_],_,.cons (aL.aM (aL.set (xs:=M) rfl _ [tU _]) _) .nil,EN.next aa aa A B,rfl,rfl,aa⟩))
def nF(n:Int):0<=IntKind.u64.wrap n:=by rw[yJ];omega
def NS(N L:Nat)(m:Nat)(vs:List V)(w:List (Lz)):Prop:= ∃ (i:Nat) (M:Lz),i<=N/\m=N - i/\vs=[iV .i64 (i:Int)]/\w=[M]/\M.length=L/\Us M
def NS.zero(A:zs.length=L)(B:Us zs):NS N L N [iV .i64 0] [zs]:=⟨0,zs,aa,rfl,rfl,rfl,A,B⟩
def NS.next{i:Nat}(h:i < N)(D:N<=1000001)(U:zs.length=L)(B:Us zs):NS N L (N - (i+1)) [iV .i64 (IntKind.i64.wrap ((i:Int)+1))] [zs.set j [tU (IntKind.u32.wrap c)]]:=
 ⟨i+1,_,aa,rfl,by rw[bF aa aa];rfl,rfl,by simp[U],B.set (gM _) (iK _)⟩
def mg(xs ys:Lz)(hx:Us xs)(hy:Us ys)(U:xs.length<=400000)(r:ys.length<=400000):Tg 277 [oL 1 xs,oL 1 ys] (GL 1 (Nm (xs.length+ys.length))):=by
 refine aS ?_;refine aC Tryz.func277 ?_
 repeat' ((conv=>whnf);first|refine aJ (λh=>?_) (λh=>?_)|(refine aG F aa aa ?_;rintro _ ⟨x,rfl,P,b⟩ Y)|(refine aG n aa aa ?_;rintro _ ⟨y,rfl,w,D⟩ O)|refine And.intro ⟨ah,ah,ah,ah⟩ ?_|refine And.intro ⟨ah,ah⟩ ?_|refine And.intro aa ?_|(refine aD rfl (dF xs hx aa) ?_;rintro _ ⟨g,rfl,⟨e,F,Q,R,_⟩⟩)|(refine aD rfl (dF ys hy aa) ?_;rintro _ ⟨N,rfl,⟨s,n,v,tb,_⟩⟩)|(refine cu (xs:=M) rfl B ah ?_;rintro _ ⟨a,rfl,H,l⟩ S)|(refine QY rfl rfl (fP M B aa) (by simp (disch:=omega) [W.aM,C.aM,bI,A,aB];omega) rfl ?_;rintro _ ⟨k,rfl,Z,L⟩)|exact nt rfl (df rfl rfl (xs:=M) rfl acq) ⟨_,rfl,by simpa using L.nm aa⟩|(apply bp [1,5,6,7,8,21,22,23,28,29,30] [] [8,30] [(4,1)] (EN N.length (g.length+N.length)) (N.length) [iV .u64 0,iV .i64 0];(iterate 3 exact ae);exact .cons (aL.aM rfl _) .nil;exact EN.zero A B;rintro _ _ _ ⟨k,M,c,j,rfl,rfl,rfl,A,B⟩)|(refine aI [1,5,6,7,8,21,22,23,28,29,30] [] ?_;(conv=>whnf);exact⟨rfl,_,[_,_],_,.cons (aL.aM (aL.set (xs:=M) rfl _ [tU _]) _) .nil,EN.next aa aa A B,rfl,rfl,aa⟩)|(apply bp [1,5,21,22,23] [] [23] [(4,1)] (NS g.length (g.length+N.length)) (g.length) [iV .i64 0];(iterate 3 exact ae);exact .cons (aL.aM (aL.replicate _ [tU 0]) _) .nil;exact NS.zero (by simp (disch:=omega) only[adk,aB];omega) (Us.replicate _);rintro _ _ _ ⟨i,M,I,rfl,rfl,rfl,A,B⟩)|(refine aI [1,5,21,22,23] [] ?_;(conv=>whnf);exact⟨rfl,_,[_],_,.cons (aL.aM (aL.set (xs:=M) rfl _ [tU _]) _) .nil,NS.next aa aa A B,rfl,rfl,aa⟩))
def RSh(d:Int)(N:Nat)(m:Nat)(vs:List V)(w:List (Lz)):Prop:= ∃ (k:Nat) (M:Lz) (r:Int),k<=N/\m=k/\0<=r/\r < d/\vs=[iV .u64 r,iV .i64 ((k:Int) - 1)]/\w=[M]/\M.length=N/\Us M
def RSh.zero(S:1<=d)(D:N<=1000000)(A:zs.length=N)(B:Us zs):RSh d N N [iV .u64 0,iV .i64 (IntKind.i64.wrap ((N:Int) - 1))] [zs]:=⟨N,zs,0,aa,rfl,aa,aa,by rw[bF aa aa],rfl,A,B⟩
def RSh.next{X:Int}{k:Nat}(S:1<=d)(o:d < 4294967296)(y:0<=X)(Z:k<=N)(D:N<=1000000)(z:(k:Int) - 1≥0)(A:zs.length=N)(B:Us zs):RSh d N (k - 1) [iV .u64 (X.tmod (IntKind.u64.wrap d)),iV .i64 (IntKind.i64.wrap ((k:Int) - 1 - 1))] [zs.set j [tU (IntKind.u32.wrap c)]]:=by
 have e:IntKind.u64.wrap d=d:=u64_in aa aa;refine⟨k - 1,_,_,aa,rfl,?_,?_,by rw[bF aa aa];congr 3;omega,rfl,by simp[A],B.set (gM _) (iK _)⟩
 . exact ads _ y
 . rw[e];exact ac4 _ aa
def GSh(n:Nat)(d:Int)(ts:Lw):Prop:= ∃M r,ts=[.one (.t (.aO 1 M)),.one (.t (tU r))]/\Nm n M/\0<=r/\r < d
def anA(S:1<=d)(o:d < 4294967296):IntKind.u64.wrap d≠0:=by rw[u64_in aa aa];omega
def Ek(xs:Lz)(d:Int)(hx:Us xs)(U:xs.length<=400000)(F:1<=d)(o:d < 4294967296):Tg 310 [oL 1 xs,RK d] (GSh xs.length d):=by
 refine aS ?_;refine aC Tryz.func310 ?_
 repeat' ((conv=>whnf);first|refine aJ (λh=>?_) (λh=>?_)|(refine aG hx aa aa ?_;rintro _ ⟨x,rfl,P,b⟩ Y)|refine And.intro ⟨ah,ah,ah,ah⟩ ?_|refine And.intro ⟨ah,ah⟩ ?_|refine And.intro (anA F o) ?_|refine And.intro aa ?_|(refine cu (xs:=M) rfl B ah ?_;rintro _ ⟨a,rfl,H,l⟩ S)|(refine QY rfl rfl (fP M B aa) agh rfl ?_;rintro _ ⟨k,rfl,Z,L⟩)|exact eL rfl (df rfl rfl (xs:=M) rfl acq) (cv rfl) ⟨_,_,rfl,by simpa using L.nm aa,gM _,by rw[u32_in aa aa];omega⟩|(apply bp [0,1,6,7,8] [] [7,8] [(4,1)] (RSh d xs.length) (xs.length) [iV .u64 0,iV .i64 (IntKind.i64.wrap ((xs.length:Int) - 1))];(iterate 3 exact ae);exact .cons (aL.aM (aL.replicate _ [tU 0]) _) .nil;exact RSh.zero F aa ak (Us.replicate _);rintro _ _ _ ⟨k,M,r,j,rfl,w,D,rfl,rfl,A,B⟩)|(refine aI [0,1,6,7,8] [] ?_;(conv=>whnf);exact⟨rfl,_,[_,_],_,.cons (aL.aM (aL.set (xs:=M) rfl _ [tU _]) _) .nil,RSh.next F o (nF _) j aa aa A B,rfl,rfl,aa⟩))
def ZJ{s:ByteArray}{B:Nat}{K:UInt8->Prop}(D:s.size=N)(g:(List.range N).all (λi=>match s[i]? with|some b=>Nat.blt i (2 ^ b.toNat)&&Nat.ble b.toNat B|none=>false)=true)(z:0<=n)(O:n < (N:Int))(Z:∀b:UInt8,b.toNat<=B->n.toNat < 2 ^ b.toNat->K b):0<=n/\ ∃b,s[n.toNat]? =some b/\K b:=by
 have l:n.toNat < s.size:=aa
 have Y:=yt.1 g n.toNat gZ;have e:s[n.toNat]? =some s[n.toNat]:=agc
 rw[e]at Y;simp only[LD,ady,abv]at Y;exact⟨z,_,e,Z _ Y.2 Y.1⟩
def Ut(a:Int)(k:Nat)(Z:k<=32):a.fdiv (2 ^ (min (k:Int).toNat IntKind.u32.bits))=a / 2 ^ k:=by
 have e:min (k:Int).toNat IntKind.u32.bits=k:=by simp only[IntKind.bits];omega
 rw[e,adO _ (Int.le_of_lt (Int.pow_pos aa))]
def u8_in(z:0<=n)(O:n < 256):IntKind.u8.wrap n=n:=by simp[IntKind.wrap,IntKind.bits,IntKind.signed];omega
def sr8(x:Int):x.fdiv (2 ^ min (Int.toNat 8) IntKind.u32.bits)=x / 256:=Ut x 8 aa
def aH2(x:Int):x.fdiv (2 ^ min (Int.toNat 16) IntKind.u32.bits)=x / 65536:=Ut x 16 aa
def BG{x y D:Int}{k:Nat}{b:UInt8}(l:(2:Int) ^ k=D)(z:0<=x)(Z:k<=24)(hy:y=x / D)(a:y < 256)(G:b.toNat<=8)(hq:(IntKind.u8.wrap y).toNat < 2 ^ b.toNat)(K:n=(k+b.toNat:Nat)):0<=n/\n<=32/\x.toNat < 2 ^ n.toNat:=by
 have F:(0:Int) < 2 ^ k:=Int.pow_pos aa;rw[<-l]at hy;have w:0<=y:=by rw[hy];exact aer z aa
 rw[u8_in w a]at hq;refine⟨aa,aa,?_⟩;have e:n.toNat=k+b.toNat:=aa
 rw[e,ade];have B:y+1<=((2 ^ b.toNat:Nat):Int):=aa
 have g:x < (y+1) * 2 ^ k:=by
  rw[hy];exact aep x F
 have U:(y+1) * 2 ^ k<=((2 ^ b.toNat:Nat):Int) * 2 ^ k:=ac3 B aa
 have R:((2 ^ b.toNat:Nat):Int) * 2 ^ k=((2 ^ k * 2 ^ b.toNat:Nat):Int):=by
  rw[abl];simp
 omega
def i8:(2:Int) ^ 8=256:=av
def i16:(2:Int) ^ 16=65536:=av
def i24:(2:Int) ^ 24=16777216:=av
def AU(x:Int)(z:0<=x)(O:x < 4294967296):Tg 94 [RK x] (oq (λn=>0<=n/\n<=32/\x.toNat < 2 ^ n.toNat)):=by
 refine aC Tryz.func94 ?_
 repeat' ((conv=>whnf);first|refine aJ (λh=>?_) (λh=>?_)|(refine ZJ (N:=256) (B:=8) ag ag (u8w _).1 (u8w _).2 ?_;intro a b d)|refine And.intro aa ?_|(refine jX rfl rfl ?_;(try simp only[sr8,aH2]at *);first|exact BG (k:=0) (y:=x) (D:=1) av z aa aa aa b d eN|exact BG i8 z aa rfl aa b d eN|exact BG i16 z aa rfl aa b d eN|exact BG i24 z aa aa aa b d eN))
def pu(x:Int)(z:0 < x)(O:x < 4294967296):Tg 311 [RK x] (oq (λn=>0<=n/\n<=31/\x.toNat < 2 ^ (32 - n.toNat))):=by
 refine aC Tryz.func311 ?_
 repeat' ((conv=>whnf);first|(refine aD rfl (AU x aa O) ?_;rintro _ ⟨n,rfl,g,d,N⟩)|(refine jX rfl rfl ?_;rw[aB aa aa];refine⟨aa,?_,?_⟩;(rcases aff 0 n with h|h;omega;(have e:n.toNat=0:=by omega);rw[e]at N;omega);rw[show 32 - (32 - n).toNat=n.toNat by omega];exact N))
end Go.aW.Cd
namespace Go.aW.Cd
open Go
def LM:Lz->Nat
 | []=>0|y::_=>lb y
def rt(s:Nat):Lz->Lz
 | []=>[]|x::r=>[tU (((lb x+4294967296 * LM r) / 2 ^ s % 4294967296:Nat):Int)]::rt s r
def UG(s:Nat):∀xs,(rt s xs).length=xs.length
 | []=>rfl
 |_::r=>by simp[rt,UG s r]
variable{xs P zs us:Lz}{x lo I z:Int}{s n:Nat}
def aBR(h:Us xs):nv xs % 4294967296=LM xs:=by
 cases xs with
 |nil=>rfl
 |cons y r=>
  have:=(h y aa1).lt;simp only[nv,LM];omega
def abB{x m P Q:Nat}(K:0 < P)(hx:x < P * Q):(x+P * Q * (m % (P * Q))) / P % (P * Q)+P * Q * (m / P)=(x+P * Q * m) / P:=by
 have H:∀n,(x+P * Q * n) / P=x / P+Q * n:=λn=>by rw[ab0,Nat.add_mul_div_left _ _ K]
 rw[H,H];have r:=aes m P;have O:m % (P * Q) % P=m % P:=Nat.mod_mul_right_mod m P Q;have v:=aes (m % (P * Q)) P;rw[O]at v;have l:x / P < Q:=aeo hx;have g:m % P < P:=ae0 _ K
 have o:x / P+Q * (m % (P * Q))=(x / P+Q * (m % P))+P * Q * (m % (P * Q) / P):=by
  have:Q * (m % (P * Q))=Q * (P * (m % (P * Q) / P)+m % P):=by rw[v]
  rw[this];grind
 have G:x / P+Q * (m % P) < P * Q:=by
  have:Q * (m % P+1)<=Q * P:=abk Q g;rw[ac7,adv,abl Q P]at this;omega
 rw[o,Nat.add_mul_mod_self_left,adT G];have:Q * m=Q * (P * (m / P)+m % P):=by rw[r]
 rw[this];grind
def tO(h:s<=32):2 ^ s * 2 ^ (32 - s)=4294967296:=by
 rw[<-ade,show s+(32 - s)=32 by omega]
def ajT{s:Nat}(S:s<=32):∀ {xs:Lz},Us xs->nv (rt s xs)=nv xs / 2 ^ s
 | [],_=>by simp[rt,nv]
 |x::r,h=>by
  have J:Us r:=λe H=>h e (aa2 _ H);have N:=(h x aa1).lt;have c:=ajT S J;have y:=tO S;have:=abB (x:=lb x) (m:=nv r) (P:=2 ^ s) (Q:=2 ^ (32 - s)) (acT aa) (by rw[y];exact N);rw[y,aBR J]at this;simp only[rt,nv,oD,c,aa0];exact this
def UH{s:Nat}:∀ {xs:Lz} {i:Nat} {x:Lt},xs[i]? =some x->(rt s xs)[i]? =some [tU (((lb x+4294967296 * LM (xs.drop (i+1))) / 2 ^ s % 4294967296:Nat):Int)]
 | [],i,x,h=>agb
 |y::r,0,x,h=>by
  simp only[yq,ii]at h;subst h;simp[rt]
 |y::r,i+1,x,h=>by
  simp only[ac9]at h;simp only[rt,ac9,List.drop_succ_cons];exact UH h
def D3{α:Type}{zs F:List α}{i:Nat}{e:α}(h:zs.take i=F.take i)(I:i < zs.length)(H:F[i]? =some e):(zs.set i e).take (i+1)=F.take (i+1):=by
 rw[lD H, <-h];have:(zs.set i e)[i]? =some e:=afx
 rw[lD this];congr 1;apply abm;intro n;rw[aa4,aa4];split
 . rw[aam aa]
 . rfl
def adJ{i:Nat}{y:Int}(h:xs[i]? =some [tU y]):LM (xs.drop i)=y.toNat:=by
 obtain⟨l,H⟩:=jl.1 h;rw[abt l,H];rfl
def adK{i:Nat}(h:xs.length<=i):LM (xs.drop i)=0:=by
 rw[adf h];rfl
def U6{k:Nat}{y:Int}(h:xs[k]? =some [tU x]):nv (xs.set k [tU y])+4294967296 ^ k * x.toNat=nv xs+4294967296 ^ k * y.toNat:=by
 have l:=(jl.1 h).1;have Y:(xs.set k [tU y])[k]? =some [tU y]:=agc
 have H:(xs.set k [tU y]).take k=xs.take k:=by
  apply abm;intro n;rw[aa4,aa4];split
  . rw[aam aa]
  . rfl
 have o:(xs.set k [tU y]).drop (k+1)=xs.drop (k+1):=by
  apply abm;intro n;rw[acr,acr,aam aa]
 rw[JV h,JV Y,H,o];simp only[ac7];omega
def Lf(xs:Lz)(s i:Nat)(zs:Lz):Prop:=
 zs.length=xs.length+1/\Us zs/\nv zs=nv (xs.take i) * 2 ^ s/\(∃z:Int,zs[i]? =some [tU z]/\0<=z/\z < ((2 ^ s:Nat):Int))/\ ∀j,i < j->j < zs.length->zs[j]? =some [tU 0]
def Lf.zero:Lf xs s 0 (List.replicate (xs.length+1) [tU 0]):=by
 refine⟨ak,Us.replicate _,by rw[Hq];simp[nv],⟨0,ak,aa,?_⟩,λj _ Q=>?_⟩
 . have:0 < 2 ^ s:=acT aa;omega
 . simp only[adk]at Q;simp[ac8,Q]
def xn{x:Nat}(S:s<=32):x * 2 ^ s % 4294967296=(x % 2 ^ (32 - s)) * 2 ^ s:=by
 rw[<-tO S,abl x (2 ^ s),Nat.mul_mod_mul_left,abl]
def FB{x:Nat}(hx:x < 4294967296):x * 2 ^ s / 4294967296 < 2 ^ s:=by
 rw[acj aa,abl (2 ^ s)];exact abx hx (acT aa)
def ajV{x:Nat}(S:s<=32):x * 2 ^ s % 4294967296+2 ^ s<=4294967296:=by
 rw[xn S];have O:x % 2 ^ (32 - s)+1<=2 ^ (32 - s):=ae0 _ (acT aa);have Y:=YH (2 ^ s) O;rw[aaw,adm,abl (2 ^ (32 - s)),tO S]at Y;exact Y
def apL{X X' lo I z w b U n2 a B:Nat}(y:X'=X * B)(G:lo+B * I=z+w)(L:U+X * z=b+X * lo)(N:n2+X' * 0=U+X' * I)(D:b=a):n2=a+X * w:=by
 have e:X * (lo+B * I)=X * (z+w):=by rw[G]
 rw[ac7,ac7, <-ab0, <-y]at e;omega
def aB7{x:Nat}(S:s<=31)(b:x < 4294967296)(U:0<=z)(R:z < ((2 ^ s:Nat):Int))(Z:lo=z+((x * 2 ^ s % 4294967296:Nat):Int))(l:I=((x * 2 ^ s / 4294967296:Nat):Int)):
 (0<=lo/\lo < 4294967296)/\(0<=I/\I < ((2 ^ s:Nat):Int))/\I < 4294967296/\lo.toNat+4294967296 * I.toNat=z.toNat+x * 2 ^ s:=by
 have y:2 ^ s<=2147483648:=abi (n:=2) aa S;have d:=FB (x:=x) (s:=s) aa;have c:=ajV (x:=x) (s:=s) aa;have g:=Nat.mod_add_div (x * 2 ^ s) 4294967296;generalize x * 2 ^ s=W at *
 generalize 2 ^ s=Q at *
 omega
def acK{i:Nat}(hx:xs[i]? =some [tU x]):nv (xs.take (i+1))=nv (xs.take i)+4294967296 ^ i * x.toNat:=by
 have hi1:=(jl.1 hx).1;rw[lD hx,Hr];simp only[nv,oD,aab,afo,ace];rw[Nat.min_eq_left aa]
def aB6{i:Nat}(hx:xs[i]? =some [tU x])(A:zs[i]? =some [tU z])(d:(zs.set i [tU lo])[i+1]? =some [tU 0])(D:nv zs=nv (xs.take i) * 2 ^ s)(G:lo.toNat+4294967296 * I.toNat=z.toNat+x.toNat * 2 ^ s):
 nv ((zs.set i [tU lo]).set (i+1) [tU I])=nv (xs.take (i+1)) * 2 ^ s:=by
 have L:=U6 (y:=lo) A;have N:=U6 (y:=I) d;rw[acK hx,aaw,ab0];exact apL (B:=4294967296) (X':=4294967296 ^ (i+1)) (ada ..) G L N D
def Lf.next{i:Nat}(h:Lf xs s i zs)(S:s<=31)(hx:xs[i]? =some [tU x])(P:0<=x)(b:x < 4294967296)(A:zs[i]? =some [tU z])
 (Z:lo=z+((x.toNat * 2 ^ s % 4294967296:Nat):Int)) (l:I=((x.toNat * 2 ^ s / 4294967296:Nat):Int)):Lf xs s (i+1) ((zs.set i [tU lo]).set (i+1) [tU I]):=by
 obtain⟨O,Y,B,⟨a,g,F,R⟩,v⟩:=h;rw[A]at g;simp only[ii,aaz,T.val.injEq,Value.int.injEq,true_and,and_true]at g;subst g;have hi1:=(jl.1 hx).1
 have d:(zs.set i [tU lo])[i+1]? =some [tU 0]:=by
  rw[aam aa];exact v (i+1) aa aa
 obtain⟨⟨D,K⟩,⟨N,M⟩,H,G⟩:=aB7 S aa F R Z l;refine⟨by simp[O],(Y.set D K).set N H,aB6 hx A d B G,⟨I,by rw[aaj gZ],N,M⟩,λj Q U=>?_⟩;simp only[abn]at U;rw[aam aa,aam aa];exact v j aa U
def Lf.fin(h:Lf xs s xs.length zs):zs.length=xs.length+1/\Us zs/\nv zs=nv xs * 2 ^ s:=by
 refine⟨h.1,h.2.1,?_⟩;rw[h.2.2.1,ad0]
def anP(i k:Nat):4294967296 ^ i * fo xs i k<=nv xs:=by
 by_cases I:i<=xs.length
 . rw[CF xs i];have:(xs.take i).length=i:=by simp;omega
   rw[this];have Y:=CF (xs.drop i) k;have B:fo xs i k<=nv (xs.drop i):=by unfold fo;omega
   have:=abk (4294967296 ^ i) B;omega
 . unfold fo;rw[adf aa];simp[nv]
def anC{a:Lz}{i:Nat}(w:Us a)(L:nv us=nv a * 2 ^ s)(G:∀e,P.getLast? =some e->lb e≠0)(K:P.length=n)(d:1<=n)(I:i+n=a.length+1){V:Nat}(H:V=nv P * 2 ^ s):fo us i n < V:=by
 have O:=Fw w;have Y:=JU G (by intro e;subst e;simp at K;omega);have B:=anP (xs:=us) i n;rw[L]at B;have g:nv a * 2 ^ s < 4294967296 ^ a.length * 2 ^ s:=abx O (acT aa);have e:a.length=i+(n - 1):=aa
 rw[e,ade,ab0]at g;have U:=aeE (aeb B g);rw[H];refine aar U (YH _ ?_);rw[<-K];exact Y
def arW(G:Us P)(K:P.length=n)(d:1<=n)(hx:P[n - 1]? =some [tU x])(S:s<=32)(R:x.toNat < 2 ^ (32 - s)):nv P * 2 ^ s < 4294967296 ^ n:=by
 have O:=JV hx;rw[adf aa]at O;simp only[nv,afo,ace]at O;have Y:=Fw (G.take (n - 1));have e:(P.take (n - 1)).length=n - 1:=by simp;omega
 rw[e]at Y
 have B:nv P < 4294967296 ^ (n - 1) * 2 ^ (32 - s):=by
  have:4294967296 ^ (n - 1) * (x.toNat+1)<=4294967296 ^ (n - 1) * 2 ^ (32 - s):=abk _ R;rw[ac7,adv]at this;omega
 have g:=abx B (acT (n:=s) (show 0 < 2 by omega));rw[ab0,abl (2 ^ (32 - s)),tO S]at g;have o:4294967296 ^ n=4294967296 ^ (n - 1) * 4294967296:=by rw[<-ada];congr 1;omega
 rw[o];exact g
def aaW{vs:Lz}(h:nv vs < 4294967296 ^ n)(U:n<=vs.length):fo vs 0 n=nv vs:=by
 have O:=CF vs n;have e:(vs.take n).length=n:=by simp;omega
 rw[e]at O;unfold fo;rw[acg]
 have:nv (vs.drop n)=0:=by
  apply Nat.eq_zero_of_not_pos;intro F;have:4294967296 ^ n * 1<=4294967296 ^ n * nv (vs.drop n):=abk _ F;omega
 rw[this]at O;simpa using O.symm
def acD{i V:Nat}(B:Us us)(hx:us[i]? =some [tU x])(h:fo us (i+1) n < V):fo us i (n+1) < 4294967296 * V:=by
 rw[UC hx];have O:IsU [tU x]:=B _ (oo hx);have:=O.lt;rw[oD]at this;have:=abk 4294967296 (Nat.succ_le_of_lt h);rw[Nat.succ_eq_add_one,ac7]at this;omega
end Go.aW.Cd
namespace Go.aW
open Go
variable{P:Program}{M A:agt}{ρ:Env}{F:agt}{st:St}{a:Act}{w:World}
abbrev CH:V:= .w (.one (.t dw))
def dS.refl(A:agt)(w:World):dS A A w w:=⟨ww _,λ_ _ K=>⟨rfl,K⟩⟩
def eo.dQ{tm:TS}{hp:HS}{ctr:Nat}(t sz:Nat)(h:find tm t=some CH):eo tm hp ctr ((t,.w (.one (.own ctr sz 0 0)))::tm) ((ctr,.row sz [])::hp) (ctr+4):=by
 intro M A ρ n a w J;have j:ρ ctr=none:=J.fresh ctr (ww _);have R:dD ρ (dr ρ ctr .dQ):=dD.jB j;have P:∀ {id:Nat},id≠ctr->dr ρ ctr .dQ id=ρ id:=λD=>by simp[dr,D]
 refine⟨A,dr ρ ctr .dQ,⟨J.size,J.defers,λu v z=>?_,λid L G=>?_,λid S L o b O Y y B=>?_,λid D=>?_,J.bound,J.may,J.dR⟩,R.T6,fZ.refl M A w⟩
 . simp only[aF]at z;split at z
   . rename_i e;subst e;simp only[ii]at z;subst z;have N:RW w A ρ (.one (.t dw)) (a.tmps.getD t undef):=J.tmps t _ h;obtain⟨O,Y⟩:=N;have c:RT w A dw (a.tmps.getD t undef):=O;generalize a.tmps.getD t undef=x at c Y;cases c;exact⟨.inr ⟨by simp[dr],rfl,rfl,rfl⟩,rfl⟩
   . exact(J.tmps u v z).keeps (dS.refl _ _) (λ_ _=>rfl) R
 . simp only[aF]at G;split at G
   . rename_i e;subst e;simp only[ii]at G;subst G;exact⟨ak,.inr ⟨by simp[dr],rfl⟩⟩
   . exact(J.heap id L G).keeps (dS.refl _ _) (λ_ _=>rfl) R (λ_ h=>h) (λ_ _=>rfl)
 . simp only[aF]at O Y;have U:id≠ctr:=by intro e;subst e;simp[dr]at y
   have l:S≠ctr:=by intro e;subst e;simp[dr]at B
   rw[if_neg (λe=>U e.symm)]at O;rw[if_neg (λe=>l e.symm)]at Y;rw[P U]at y;rw[P l]at B;exact J.inj id S L o b O Y y B
 . simp only[bJ]at D;rw[P aa];exact J.fresh id V2
def eo.aO{tm:TS}{hp:HS}{ctr:Nat}(t sz:Nat)(h:find tm t=some CH):eo tm hp ctr ((t,.w (.one (.t (.aO sz []))))::tm) hp ctr:=by
 intro M A ρ n a w J;refine⟨A,ρ,⟨J.size,J.defers,λu v z=>?_,J.heap,J.inj,J.fresh,J.bound,J.may,J.dR⟩,jm.refl _,fZ.refl M A w⟩;simp only[aF]at z;split at z
 . rename_i e;subst e;simp only[ii]at z;subst z;exact(Ja.one (.nil sz)).rw (J.tmps t _ h)
 . exact J.tmps u v z
def Jn{α:Type}{l:List α}{k i:Nat}{e:α}(h:(l.take k)[i]? =some e):l[i]? =some e:=by
 rw[aa4]at h;split at h
 . exact h
 . simp at h
def cL{n:Nat}{b:Rc}{Q:Exit->TS->HS->Nat->Prop}{tm vB:TS}{hp AY:HS}{ctr Z:Nat}(N:List Nat)(a:List (Nat×Nat))(ks:List Nat)(L:List (Nat×Nat))(R:Nat->List V->List (Lz)->Prop)(A:Nat)(v:List V){j:List (Lz)}{D:TS}{d:HS}{y:Nat}
 (K:eo tm hp ctr vB AY Z)
 (x:qW (Bo N a vB AY) λS=>jx (S.tm vB) λt=>mq (S.hp AY) λq=>S.ok=true/\t=D/\q=d/\S.ctr=y)
 (QJ:D.length=N.length) (z:D=fF ks v D) (F:tF L d j) (h:R A v j)
 (s:∀m vs w,R m vs w->jx (fF ks vs D) λr=>mq (mkH L w) λhq=>X P n b (dP (bA λtm' hp' c'=> ∃m' e xss',tF L hp' xss'/\R m' e xss'/\tm'=fF ks e D/\c'=y/\m' < m) Q) r hq y):
 ∃I:Nat->TS->HS->Nat->Prop,bA (λtm hp c=> ∃m,I m tm hp c) tm hp ctr/\
  ∀m tm hp c,I m tm hp c->X P n b (dP (bA λtm hp c=> ∃m',m' < m/\I m' tm hp c) Q) tm hp c:=by
 rw[kP,dX,fL]at x;obtain⟨l,H,o,G⟩:=x;refine⟨λm tm' hp' c'=> ∃e xss',tF L hp' xss'/\R m e xss'/\tm'=fF ks e D/\c'=y,.sem K (.mk' ⟨Bo N a vB AY,l,A,v,j,by rw[o];exact F,h,H.trans z,G⟩),?_⟩;rintro m tm' hq c' ⟨vs,w,hH',M,rfl,rfl⟩;have:=s m vs w M;rw[dX,fL, <-hH'.eq]at this;refine(congrArg (λJ=>X P n b (dP (bA J) Q) _ _ _) ?_).mp this;funext tm' hp' c'';exact propext ⟨λ⟨m',e,xss',O,Y,B,g,U⟩=>⟨m',U,e,xss',O,Y,B,g⟩,λ⟨m',U,e,xss',O,Y,B,g⟩=>⟨m',e,xss',O,Y,B,g,U⟩⟩
def Rel.shrink{A l:agt}{hp:HS}(h:Rel M l ρ F st a w)(y:∀b,A b->l b)(hsub:∀id b,find hp id=some b->find st.heap id=some b)(G:∀id blk b,find hp id=some blk->ρ id=some (.gD b)->A b):Rel M A ρ F ⟨st.n,st.tmps,hp⟩ a w:=by
 have Z:dS l A w w:=⟨ww _,λb _ K=>⟨rfl,λh=>K (y b h)⟩⟩;refine⟨h.size,h.defers,λt v z=>(h.tmps t v z).keeps Z (λ_ _=>rfl) (dD.refl _),λid blk R=>?_,λid id' blk gU b O Y=>h.inj id id' blk gU b (hsub _ _ O) (hsub _ _ Y),h.fresh,λb G=>h.bound b (y b G),h.may,h.dR.sub (λ_ _ h=>h) y⟩;have d:=h.heap id blk (hsub _ _ R)
 cases blk with
 |row P o=>
  obtain⟨O,Y⟩:=d;refine⟨O,?_⟩;rcases Y with⟨b,c,e,s,L,H,k4,k5,k6⟩|Y
  . refine .inl ⟨b,c,e,s,L,G id _ b R s,k4,k5,λi r j k I Q=>?_⟩;obtain⟨x,N,D,hcell⟩:=k6 i r j k I Q;exact⟨x,N,D.keeps Z (λ_ _=>rfl) (dD.refl _),hcell⟩
  . exact .inr Y
 |mp J clock=>
  obtain⟨b,S,s,L,H,k4,k5,k6⟩:=d;refine⟨b,S,s,L,G id _ b R s,k4,k5,λi k c n I=>?_⟩;obtain⟨e,O,Y,B,g,U⟩:=k6 i k c n I;exact⟨e,O,Y,B,g.keeps Z (λ_ _=>rfl) (dD.refl _),U⟩
def HX{id:Nat}{blk:bE}{b:Nat}(h:HB w M A ρ id blk)(H:ρ id=some (Loc.gD b)):A b/\b < w.heap.size:=by
 cases blk with
 |row N o=>
  obtain⟨_,Y⟩:=h;rcases Y with⟨K,c,e,s,v,z,S,_⟩|⟨Y,_⟩
  . rw[H]at s;simp only[ii,Loc.gD.injEq]at s;subst s;refine⟨z,?_⟩;rcases aa8 b w.heap.size with h|h
    . exact h
    . rw[aav h]at S;simp at S
  . rw[H]at Y;simp at Y
 |mp B I=>
  obtain⟨K,d,s,v,z,S,_⟩:=h;rw[H]at s;simp only[ii,Loc.gD.injEq]at s;subst s;refine⟨z,?_⟩;rcases aa8 b w.heap.size with h|h
  . exact h
  . rw[aav h]at S;simp at S
set_option maxHeartbeats 1000000 in
def aaZ{t len n ctr ty sz:Nat}{ps:Array (Nat×Operand)}{l:List (Nat×W)}{tm:TS}{hp:HS}{xs:Lz}(U:jZ (St.get ⟨n,tm,hp⟩) ps.toList=some l)
 (H:fc P t len l ctr=some (.w (.one (.own ctr sz 0 len)),(ctr,.row sz (tr xs)))) (hlen:xs.length=len):jA P n (.buildSlice t len ps) ty tm hp ctr (.w (.one (.t (.aO sz xs)))) hp:=by
 rintro⟨dst',op',ty',pos',after',guard'⟩ rfl rfl;intro M A ρ a w J;have K:bJ ctr ctr:=ww _;have hp':S9 w A ρ l (ps.map λp=>(p.1,a.eval p.2)).toList:=agk
 unfold fc at H;split at H
 . rename_i e L;split at H
   . rename_i z d;split at H
     . rename_i D;simp only[jU,uu,V.w.injEq,W.one.injEq,C.own.injEq,bE.row.injEq,true_and,and_true]at H;obtain⟨r,hxs,rfl,_,rfl⟩:=H;obtain⟨i,zv,I,MN,hzs,Sb,yB⟩:=gJ d w A ρ;obtain⟨o,hvs,hE⟩:=tg hxs (pL yB len) hp';have aCZ:=zy hxs;simp only[adk]at aCZ;have hle:(tr xs).length * z.length<=o.size:=by rw[hE.2.1];exact ww _
       obtain⟨O,Y⟩:=J.alloc K (sz:=z.length) (xs:=tr xs) (c:=o) (e:=e) hE.1 hle hE.2.2
       have hold:∀id blk b,find hp id=some blk->dr ρ ctr (.gD w.heap.size) id=some (.gD b)->A b:=by
        intro id blk b R hρ;have g:=J.heap id blk R
        by_cases hid:id=ctr
        . subst hid;exfalso;have hfr:=J.fresh id K
          cases blk with
          |row sz xs=>
           rcases g.2 with⟨Z,_,_,S,_⟩|⟨S,_⟩
           . rw[hfr]at S;simp at S
           . rw[hfr]at S;simp at S
          |mp B clock=>
           obtain⟨Z,en,S,_⟩:=g;rw[hfr]at S;simp at S
        . have:ρ id=some (.gD b):=by simpa[dr,hid]using hρ
          exact(HX g this).1
       have cP:Rel M A (dr ρ ctr (.gD w.heap.size)) (bJ (ctr+4)) ⟨n,tm,hp⟩ a (w.alloc (.cells o e)):=by
        refine Rel.sub (Rel.shrink O (A:=A) (hp:=hp) (λb G=> .inl G) (λid b R=>?_) hold) (λid hid=>⟨by simp only[bJ]at hid⊢;omega,by simp only[bJ]at hid;omega⟩);simp only[aF];split
        . rename_i y;subst y;exfalso;have g:=J.heap ctr b R;have hfr:=J.fresh ctr K
          cases b with
          |row sz xs=>
           rcases g.2 with⟨Z,_,_,S,_⟩|⟨S,_⟩
           . rw[hfr]at S;simp at S
           . rw[hfr]at S;simp at S
          |mp B clock=>
           obtain⟨Z,en,S,_⟩:=g;rw[hfr]at S;simp at S
        . exact R
       have rV:¬ (len * i.size > 2 ^ 24):=by rw[Sb];have:=D.1;omega
       have hsize:(sizeOf e).run P w= .ok i.size w:=af0
       rw[<-Sb]at hvs
       have hrun:(Instr.buildSlice t len (ps.map λp=>(p.1,a.eval p.2))).run P w= .ok (.slice (some ⟨w.heap.size,0,none⟩) len len) (w.alloc (.cells o e)):=by
        generalize (ps.map λp=>(p.1,a.eval p.2))=qs at hvs;simp only[Instr.buildSlice,Sem.run_bind,run_underlying L,Result.andThen_ok,hsize,rV,if_false]
        by_cases F:len * i.size=0
        . rw[F,Ct,Array.map_empty]at hvs;simp[F,Ct,hvs,newRow]
        . simp[F,fM I MN,hvs,newRow]
       have hnew:(w.alloc (.cells o e)).heap[w.heap.size]? =some (.cells o e (0,0)):=heap_alloc_new w _;have hkA:dS A A w (w.alloc (.cells o e)):=⟨ak,λb h K=>⟨RowKit.Below.heap_alloc w _ b h,K⟩⟩
       have hval:RV (w.alloc (.cells o e)) A (dr ρ ctr (.gD w.heap.size)) (.w (.one (.t (.aO z.length xs)))) (.slice (some ⟨w.heap.size,0,none⟩) len len):=by
        refine⟨RT.aO (λi j=>o.getD (i * z.length+j) undef) hlen.symm (ww _) ak (λG=>by have:=J.bound _ G;omega) (λel hel=>?_) (λi el j c I Q=>?_) (λi el j c I Q=>?_),rfl⟩
        . have:=hE.1 (el.map .t) (by simp only[tr,aad];exact⟨el,hel,rfl⟩);simpa using this
        . obtain⟨x,N,_,_⟩:=hE.2.2 i (el.map .t) j (.t c) (by simp[tr,I]) Fc;simp only[World.cell?,hnew,aew,aag,if_false,aas,N,aae,YJ]
        . obtain⟨x,N,hrc,_⟩:=hE.2.2 i (el.map .t) j (.t c) (by simp[tr,I]) Fc;simp only[aae,N,YJ];have aJo:RT w A c x:=hrc;exact aJo.keeps hkA
       exact uq.of (s:=Instr.buildSlice t len (ps.map λp=>(p.1,a.eval p.2))) (by
        show(Bind.bind (Instr.buildSlice t len (ps.map λp=>(p.1,a.eval p.2))) λv=>Pure.pure (Next.value v)).run P w=_;rw[Sem.run_bind];simp only[Sem.run_pure]) hrun cP hval (dA.alloc M w _) Y (bY.refl A w)
     . simp at H
   . simp at H
 . simp at H
end Go.aW
namespace Go.aW.Cd
open Go Go.Proofs
def aH8(a:Int)(s:Nat)(z:0<=a)(O:a < 4294967296)(S:s<=31):IntKind.u64.wrap (a * 2 ^ (min ((s:Int)).toNat IntKind.u64.bits))=((a.toNat * 2 ^ s:Nat):Int):=by
 rw[Uu a s aa];have x:2 ^ s<=2147483648:=abi (n:=2) aa S;have Y:a.toNat * 2 ^ s<=4294967295 * 2147483648:=adS aa x
 have e:a * ((2 ^ s:Nat):Int)=((a.toNat * 2 ^ s:Nat):Int):=by
  rw[adB];congr 1;omega
 rw[e];omega
def aoS{z:Int}{b k:Nat}(d:0<=z)(A:z < ((2 ^ k:Nat):Int))(G:b * 2 ^ k < 4294967296)(Z:2 ^ k<=4294967296):
 IntKind.u32.wrap ((BitVec.ofInt IntKind.u32.bits z|||BitVec.ofInt IntKind.u32.bits ((b * 2 ^ k:Nat):Int)).toNat:Int)=IntKind.u32.wrap (z+((b * 2 ^ k:Nat):Int)):=by
 have e:∀x:Int,0<=x->x < 4294967296->(BitVec.ofInt IntKind.u32.bits x).toNat=x.toNat:=by
  intro x s O;simp only[ad9,IntKind.bits];congr 1;omega
 rw[aea,e _ d aa,e _ aa aa];have:=UZ (a:=z.toNat) (b:=b) k aa;rw[aa0,this];congr 1;omega
def QM(xs:Lz)(s:Nat)(m:Nat)(vs:List V)(w:List (Lz)):Prop:= ∃ (i:Nat) (M:Lz),i<=xs.length/\m=xs.length - i/\vs=[iV .i64 (i:Int)]/\w=[M]/\Lf xs s i M
def QM.next{xs zs:Lz}{s i:Nat}{x z:Int}(h:Lf xs s i zs)(S:s<=31)(U:xs.length<=1000000)(I:i < xs.length)(hx:xs[((i:Int)).toNat]? =some [tU x])(P:0<=x)(b:x < 4294967296)(A:zs[0+((i:Int)).toNat]? =some [tU z]):
 QM xs s (xs.length - (i+1)) [iV .i64 (IntKind.i64.wrap ((i:Int)+1))]
  [(zs.set (0+((i:Int)).toNat) [tU (IntKind.u32.wrap ((BitVec.ofInt IntKind.u32.bits z|||BitVec.ofInt IntKind.u32.bits (IntKind.u32.wrap (IntKind.u64.wrap (IntKind.u64.wrap x * 2 ^ (min ((s:Int)).toNat IntKind.u64.bits))))).toNat:Int))]).set (0+(IntKind.i64.wrap ((i:Int)+1)).toNat)
    [tU (IntKind.u32.wrap ((IntKind.u64.wrap (IntKind.u64.wrap x * 2 ^ (min ((s:Int)).toNat IntKind.u64.bits))).fdiv (2 ^ (min (32:Int).toNat IntKind.u64.bits))))]]:=by
 have M:((i:Int)).toNat=i:=aa
 have H:IntKind.i64.wrap ((i:Int)+1)=((i+1:Nat):Int):=by rw[bF aa aa];rfl
 rw[M]at hx;rw[M,aas]at A;rw[u64_in (n:=x) P aa,aH8 x s P b S,H,M,aas,aa0,aas,Oy];refine⟨i+1,_,aa,rfl,rfl,rfl,h.next S hx P b A ?_ ?_⟩
 . have d:=h;obtain⟨_,_,_,⟨a,g,F,R⟩,_⟩:=d;rw[A]at g;simp only[ii,aaz,T.val.injEq,Value.int.injEq,true_and,and_true]at g;subst g;have y:2 ^ s<=2147483648:=abi (n:=2) aa S
   have o:IntKind.u32.wrap ((x.toNat * 2 ^ s:Nat):Int)=((x.toNat * 2 ^ s % 4294967296:Nat):Int):=by
    rw[qG];omega
   have c:=ajV (x:=x.toNat) (s:=s) aa;rw[o,xn aa,aoS F R (by rw[<-xn aa];omega) aa,u32_in aa (by rw[<-xn aa];omega)]
 . have:=FB (x:=x.toNat) (s:=s) aa;have y:2 ^ s<=2147483648:=abi (n:=2) aa S;rw[u32_in aa aa];omega
variable{zs us:Lz}{s n:Nat}{y:Int}
def acL{xs:Lz}{i:Nat}(h:Lf xs s i zs)(e:i=xs.length):zs.length=xs.length+1/\Us zs/\nv zs=nv xs * 2 ^ s:=by subst e;exact h.fin
def Hw(xs:Lz)(s:Nat)(hx:Us xs)(U:xs.length<=400000)(S:s<=31): ∃ts N,yw Tryz.prog 312 [oL 1 xs,oI s] (aR ts) N/\GN 1 (λys=>ys.length=xs.length+1/\Us ys/\nv ys=nv xs * 2 ^ s) ts N:=by
 refine jc Tryz.func312 ?_
 repeat' ((conv=>whnf);first|refine aJ (λh=>?_) (λh=>?_)|(refine aG hx aa aa ?_;rintro _ ⟨x,rfl,P,b⟩ Y)|refine And.intro ⟨ah,ah,ah,ah⟩ ?_|refine And.intro (show(0:Int)<=(s:Int) by omega) ?_|refine And.intro ⟨ah,ah⟩ ?_|refine And.intro aa ?_|(refine cu (xs:=M) rfl R.2.1 (by have:=R.1;omega) ?_;rintro _ ⟨z,rfl,d,Z⟩ O)|(refine cu (xs:=M.set _ [tU _]) (aL.set rfl _ [tU _]) (R.2.1.set (gM _) (iK _)) (by have:=R.1;simp (disch:=omega) only[abn,aB];omega) ?_;rintro _ ⟨c,rfl,_,_⟩ _)|exact gN rfl rfl rfl (xs:=M) rfl (by have:=R.1;simp (disch:=omega) only[aB];omega) (acL R aa)|(apply bp [1,5,13,14,15] [] [15] [(4,1)] (QM xs s) (xs.length) [iV .i64 0];(iterate 3 exact ae);exact .cons (aL.aM (aL.replicate _ [tU 0]) _) .nil;exact⟨0,_,aa,rfl,rfl,rfl,by rw[bF aa aa,show((xs.length:Int)+1).toNat=xs.length+1 by omega];exact Lf.zero⟩;rintro _ _ _ ⟨i,M,I,rfl,rfl,rfl,R⟩)|(refine aI [1,5,13,14,15] [] ?_;(conv=>whnf);exact⟨rfl,_,[_],_,.cons (aL.aM (aL.set (aL.set (xs:=M) rfl _ [tU _]) _ [tU _]) _) .nil,QM.next R S aa aa Y P b ai,rfl,rfl,aa⟩))
def aBJ{a b:Int}(H:0<=a)(w:a < 4294967296)(N:0<=b)(G:b < 4294967296):
 IntKind.u64.wrap ((BitVec.ofInt IntKind.u64.bits a|||BitVec.ofInt IntKind.u64.bits (b * 4294967296)).toNat:Int)=b * 4294967296+a:=by
 rw[<-aoU H w N G];rw[aea,aea,Nat.or_comm]
def Ff{W:Int}{N:Nat}(S:s<=31)(B:W=(N:Int)):IntKind.u32.wrap (W.fdiv (2 ^ (min ((s:Int)).toNat IntKind.u64.bits)))=((N / 2 ^ s % 4294967296:Nat):Int):=by
 rw[yP _ s aa,qG,B];have H:(N:Int) / ((2 ^ s:Nat):Int)=((N / 2 ^ s:Nat):Int):=rfl;rw[H];omega
def Rp{x:Int}(P:0<=x)(b:x < 4294967296)(w:0<=y)(D:y < 4294967296)(S:s<=31):
 IntKind.u32.wrap ((IntKind.u64.wrap ((BitVec.ofInt IntKind.u64.bits (IntKind.u64.wrap x)|||BitVec.ofInt IntKind.u64.bits (IntKind.u64.wrap (IntKind.u64.wrap y * 2 ^ (min (32:Int).toNat IntKind.u64.bits)))).toNat:Int)).fdiv (2 ^ (min ((s:Int)).toNat IntKind.u64.bits)))=(((x.toNat+4294967296 * y.toNat) / 2 ^ s % 4294967296:Nat):Int):=by
 apply Ff S;rw[u64_in P aa,u64_in w aa,Uv,ae3 aa aa,aBJ P b w D];omega
def DK(us:Lz)(n s:Nat)(m:Nat)(vs:List V)(w:List (Lz)):Prop:= ∃ (i:Nat) (M:Lz),i<=n/\m=n - i/\vs=[iV .i64 (i:Int)]/\w=[us,M]/\M.length=n/\Us M/\M.take i=(rt s (us.take n)).take i
def Ug{i:Nat}(h:i < n):(us.take n)[i]? =us[i]? :=by rw[aa4,if_pos h]
def DK.next{i:Nat}{x v:Int}(K:n<=us.length)(U:us.length<=1000000)(A:zs.length=n)(B:Us zs)(Q:zs.take i=(rt s (us.take n)).take i)(I:i < n)(hx:us[0+((i:Int)).toNat]? =some [tU x])
 (hy:LM ((us.take n).drop (i+1))=y.toNat) (z:v=(((x.toNat+4294967296 * y.toNat) / 2 ^ s % 4294967296:Nat):Int)):
 DK us n s (n - (i+1)) [iV .i64 (IntKind.i64.wrap ((i:Int)+1))] [us,zs.set (0+((i:Int)).toNat) [tU v]]:=by
 have M:0+((i:Int)).toNat=i:=aa
 rw[M]at hx⊢;rw[<-Ug I]at hx;refine⟨i+1,_,aa,rfl,by rw[bF aa aa];rfl,rfl,by simp[A],B.set aa aa,?_⟩;refine D3 Q aa ?_;rw[UH hx,oD,hy,z]
def UN{i:Nat}(r:(i:Int) < n)(I:IntKind.i64.wrap ((i:Int)+1) < (n:Int))(h:us[0+(IntKind.i64.wrap ((i:Int)+1)).toNat]? =some [tU y])(U:n<=1000000):LM ((us.take n).drop (i+1))=y.toNat:=by
 have M:0+(IntKind.i64.wrap ((i:Int)+1)).toNat=i+1:=by rw[bF aa aa];omega
 rw[bF aa aa]at I;rw[M, <-Ug (n:=n) (i:=i+1) aa]at h;exact adJ h
def Rq{i k:Nat}(S:s<=31)(B:Us us)(K:n<=us.length)(A:zs.length=n)(Q:zs.take i=(rt s (us.take n)).take i)(I:n<=i)(L:Ly zs (zs.take k)):Nm n (zs.take k)/\nv (zs.take k)=fo us 0 n / 2 ^ s:=by
 refine⟨L.nm aa,?_⟩;rw[L.2.2.1]
 have e:zs=rt s (us.take n):=by
  rw[aac aa,aac (by rw[UG];simp;omega)]at Q;exact Q
 rw[e,ajT aa (B.take n)];simp[fo]
def El(us:Lz)(n s:Nat)(hx:Us us)(K:n<=us.length)(U:us.length<=400001)(S:s<=31): ∃ts N,Fn Tryz.prog 314 [.one (.own 0 1 0 n),oI s] [(0,.row 1 (tr us))] (aR ts) N/\GRd 1 us (λts=> ∃ys,ts=[oL 1 ys]/\Nm n ys/\nv ys=fo us 0 n / 2 ^ s) ts N:=by
 refine ij Tryz.func314 ?_
 repeat' ((conv=>whnf);first|refine aJ (λh=>?_) (λh=>?_)|refine And.intro ⟨ah,ah,ah,ah⟩ ?_|refine And.intro (show(0:Int)<=(s:Int) by omega) ?_|refine And.intro ⟨ah,ah⟩ ?_|refine And.intro aa ?_|(refine cu (xs:=us) (i:=0+((i:Int)).toNat) rfl hx aa ?_;rintro _ ⟨x,rfl,P,b⟩ Y)|(refine cu (xs:=us) rfl hx ah ?_;rintro _ ⟨y,rfl,w,D⟩ O)|(refine cu (xs:=M) rfl B aa ?_;rintro _ ⟨z,rfl,d,F⟩ _)|(refine QY rfl rfl (fP M B aa) agh rfl ?_;rintro _ ⟨k,rfl,Z,L⟩)|exact aKP rfl rfl rfl rfl (ys:=M) rfl aa rfl rfl ⟨_,rfl,Rq S hx K A Q aa af4⟩|(apply bp [0,1,5,12,13,14] [] [14] [(0,1),(4,1)] (DK us n s) (n) [iV .i64 0];(iterate 3 exact ae);exact .cons (aL.aM rfl _) (.cons (aL.aM (aL.replicate _ [tU 0]) _) .nil);exact⟨0,_,aa,rfl,rfl,rfl,ak,Us.replicate _,ak⟩;rintro _ _ _ ⟨i,M,I,rfl,rfl,rfl,A,B,Q⟩)|(refine aI [0,1,5,12,13,14] [] ?_;(conv=>whnf);exact⟨rfl,_,[_],_,.cons (aL.aM rfl _) (.cons (aL.aM (aL.set (xs:=M) rfl _ [tU _]) _) .nil),(by first|exact DK.next K aa A B Q aa Y (UN aa h O aa) (Rp P b w D S)|exact DK.next (y:=0) K aa A B Q aa Y (adK (by simp;rw[bF aa aa]at h;omega)) (Ff S (by rw[u64_in P aa];omega))),rfl,rfl,aa⟩))
end Go.aW.Cd
namespace Go.aW.Cd
open Go
variable{xs us vs:Lz}{e:Lt}{a B u0 A n:Nat}{un b y c c':Int}
def B1(h:Us xs){k:Nat}(Z:k < xs.length): ∃x:Int,xs[k]? =some [tU x]/\0<=x/\x < 4294967296:=by
 obtain⟨x,e,z,O⟩:=h _ (aaC Z);exact⟨x,by rw[<-e];simp[Z],z,O⟩
def yG{rows:Lq}{i j:Nat}{K:Lc->Prop}(h:aL rows xs)(H:xs[j]? =some e)(A:i=j)(Z:K (e.map .t)):mP rows i K:=by
 subst A;have:rows[i]? =some (e.map .t):=by rw[h];simp[tr,H]
 simp only[mP,this];exact Z
structure Est(U V un u1 u0 v1 v0:Nat):Prop where
 first:U / V<=(un * 4294967296+u1) / v1
 step:∀q r,q * v1+r=un * 4294967296+u1->U / V<=q->(4294967296<=q\/r * 4294967296+u0 < q * v0)->U / V < q
 fin:∀q r,q * v1+r=un * 4294967296+u1->¬ (r < 4294967296/\(4294967296<=q\/r * 4294967296+u0 < q * v0))->q < 4294967296/\q * V < U+V
def three{X un:Nat}:a+X * u0+X * B * A+X * B * B * un=a+((un * B+A) * B+u0) * X:=by grind
def two{X:Nat}:a+X * u0+X * B * A=a+(A * B+u0) * X:=by grind
def WX{U V X un S M b:Nat}(x:0 < B)(y:0 < X)(J:U=a+((un * B+A) * B+u0) * X)(w:a < X)(I:V=b+(S * B+M) * X)(G:b < X)(L:1<=S)(Z:M < B)(v:u0 < B)(l:U < B * V):
 U / V<=(un * B+A) / S/\(∀q r,q * S+r=un * B+A->U / V<=q->(B<=q\/r * B+u0 < q * M)->U / V < q)/\(∀q r,q * S+r=un * B+A->¬ (r < B/\(B<=q\/r * B+u0 < q * M))->q < B/\q * V < U+V):=by
 generalize un * B+A=top at *
 have d:0 < V:=by
  have:0 < (S * B+M) * X:=afk (Nat.add_pos_left (afk L x) _) y;omega
 have h:U / V * V<=U:=Nat.div_mul_le_self U V
 have e:U / V < B:=by
  rw[acj d];exact l
 have j:(top * B+u0) * X<=U:=aa
 have c:U < (top * B+u0+1) * X:=by rw[aaw (top * B+u0) 1 X,adm];omega
 have n:(S * B+M) * X<=V:=aa
 have s:V < (S * B+M+1) * X:=by rw[aaw (S * B+M) 1 X,adm];omega
 have F:top < S * B+B:=by
  have O:(top * B+u0) * X < B * ((S * B+M+1) * X):=aeb j (afg l (Nat.mul_lt_mul_of_pos_left s x));rw[<-ab0]at O;have Y:=adg O;have D:B * (S * B+M+1)<=B * (S * B+B):=abk B aa;have g:top * B < (S * B+B) * B:=by rw[abl (S * B+B) B];omega
  exact adg g
 refine⟨?_,?_,?_⟩
 . refine SQ (X:=B * X) ?_ ?_ rfl L h
   . refine aar c ?_;rw[<-ab0];refine YH X ?_;rw[aaw,adm];omega
   . refine aal ?_ n;rw[<-ab0];exact YH X aa
 . intro q r O Y D;exact WW c n O h e Y D
 . intro q r O Y;exact afY y x j n s Z L F O Y
def asD{i:Nat}{A u0 S M:Int}(K:2<=n)(J:Us us)(I:Us vs)(O:us[i+n]? =some [tU un])(Y:us[i+(n - 1)]? =some [tU A])(D:us[i+(n - 2)]? =some [tU u0])(g:vs[n - 1]? =some [tU S])(U:vs[n - 2]? =some [tU M])
 (L:0 < S) (l:fo us i (n+1) < 4294967296 * fo vs 0 n):Est (fo us i (n+1)) (fo vs 0 n) un.toNat A.toNat u0.toNat S.toNat M.toNat:=by
 obtain⟨k,rfl⟩: ∃k,n=k+2:=⟨n - 2,aa⟩;simp only[Nat.add_sub_cancel,show k+2 - 1=k+1 by omega]at Y D g U;have z:=(J _ (oo D)).lt;have Z:=(I _ (oo U)).lt;rw[oD]at z Z
 have H:fo us i (k+2+1)=fo us i k+4294967296 ^ k * u0.toNat+4294967296 ^ k * 4294967296 * A.toNat+4294967296 ^ k * 4294967296 * 4294967296 * un.toNat:=by
  rw[fG O,fG Y,fG D,show 4294967296 ^ (k+2)=4294967296 ^ k * 4294967296 * 4294967296 by rw[ada,ada],ada]
 have j:vs[0+k]? =some [tU M]:=by rw[aas];exact U
 have d:vs[0+(k+1)]? =some [tU S]:=by rw[aas];exact g
 have o:fo vs 0 (k+2)=fo vs 0 k+4294967296 ^ k * M.toNat+4294967296 ^ k * 4294967296 * S.toNat:=by
  rw[fG d,fG j,ada]
 rw[three]at H;rw[two]at o;obtain⟨a,b,c⟩:=WX (B:=4294967296) (X:=4294967296 ^ k) aa (amB k) H (yR J i k) o (yR I 0 k) aa Z z l;exact⟨a,b,c⟩
def CJ{q:Int}(H:0<=q)(hq:q < 4294967296)(w:0<=y)(hy:y < 4294967296):0<=q * y/\q * y<=18446744065119617025:=by
 refine⟨aeL H w,?_⟩;have O:q * y<=4294967295 * y:=ac3 aa w;omega
def Jo{u lo d:Int}(v:0<=u)(L:u < 4294967296)(B:0<=lo)(U:lo < 4294967296)(N:0<=b)(G:b<=1)(S:d=IntKind.u64.wrap (IntKind.u64.wrap (u - lo) - b)):
 ∃K:Int,d.fdiv (2 ^ (min (63:Int).toNat IntKind.u64.bits))=K/\0<=K/\K<=1/\u+K * 4294967296=IntKind.u32.wrap d+lo+b/\(K=0↔lo+b<=u):=by
 rw[aBh,qG,S,yJ,yJ];refine⟨_,rfl,?_⟩;omega
structure rY(us vs jn:Lz)(i k q:Nat)(c b:Int):Prop where
 len:jn.length=us.length
 ok:Us jn
 b0:0<=b
 b1:b<=1
 c0:0<=c
 c1:c < 4294967296
 eq:fo us i k+(b.toNat+c.toNat) * 4294967296 ^ k=fo jn i k+q * fo vs 0 k
 rest:∀j,i+k<=j->jn[j]? =us[j]?
def rY.zero{i q:Nat}(B:Us us):rY us vs us i 0 q 0 0:=
 ⟨rfl,B,aa,aa,aa,aa,by simp[JA],λ_ _=>rfl⟩
def rY.next{a:Lz}{i k q:Nat}{u g d K:Int}(h:rY us vs a i k q c b)(hq:q < 4294967296)(hy:vs[k]? =some [tU y])(w:0<=y)(D:y < 4294967296)(L:a[i+k]? =some [tU u])(v:0<=u)(O:u < 4294967296)
 (s:g=c+(q:Int) * y) (F:d=IntKind.u64.wrap (IntKind.u64.wrap (u - IntKind.u32.wrap g) - b)) (N:K=d.fdiv (2 ^ (min (63:Int).toNat IntKind.u64.bits))) (P:c'=g / 4294967296):
 rY us vs (a.set (i+k) [tU (IntKind.u32.wrap d)]) i (k+1) q c' K:=by
 obtain⟨A,x⟩:=CJ (q:=(q:Int)) (y:=y) aa aa w D;obtain⟨J,H,o,G,e,_⟩:=Jo (u:=u) (lo:=IntKind.u32.wrap g) (b:=b) v O (gM _) (iK _) h.b0 h.b1 F;rw[H]at N;subst N;have l:=(jl.1 L).1;have Z:IntKind.u32.wrap g=g % 4294967296:=qG _;have B:=h.c0;have I:=h.c1;have M:=h.b0;refine⟨by simp[h.len],h.ok.set (gM _) (iK _),o,G,aa,?_,?_,λj Q=>?_⟩
 . omega
 . have g1:fo us i (k+1)=fo us i k+4294967296 ^ k * u.toNat:=fG (by rw[<-h.rest (i+k) (ww _)];exact L);have S:(a.set (i+k) [tU (IntKind.u32.wrap d)])[i+k]? =some [tU (IntKind.u32.wrap d)]:=agc
   have g2:=fG S;rw[wR (.inr (ww _))]at g2;have n:vs[0+k]? =some [tU y]:=by rw[aas];exact hy
   have z:=fG n;rw[g1,g2,z,ada,abl (4294967296 ^ k) 4294967296];refine Uh (carry:=c.toNat) (borrow:=b.toNat) (lo:=(g % 4294967296).toNat) h.eq ?_ ?_
   . have r:q * y.toNat=((q:Int) * y).toNat:=by
      rw[show(q:Int) * y=((q * y.toNat:Nat):Int) by rw[adB];congr 1;omega];rfl
     rw[r,P];omega
   . have:=gM d;omega
 . rw[aam aa];exact h.rest j aa
structure zP(us vs jn:Lz)(i k:Nat)(c:Int):Prop where
 len:jn.length=us.length
 ok:Us jn
 c0:0<=c
 c1:c<=1
 eq:fo us i k+fo vs 0 k=fo jn i k+c.toNat * 4294967296 ^ k
 rest:∀j,i+k<=j->jn[j]? =us[j]?
def zP.zero{i:Nat}(B:Us us):zP us vs us i 0 0:=
 ⟨rfl,B,aa,aa,by simp[JA],λ_ _=>rfl⟩
def zP.next{a:Lz}{i k:Nat}{u g:Int}(h:zP us vs a i k c)(hy:vs[k]? =some [tU y])(w:0<=y)(D:y < 4294967296)(L:a[i+k]? =some [tU u])(v:0<=u)(O:u < 4294967296)
 (s:g=c+(u+y)) (P:c'=g / 4294967296):zP us vs (a.set (i+k) [tU (IntKind.u32.wrap g)]) i (k+1) c':=by
 have l:=(jl.1 L).1;have B:=h.c0;have I:=h.c1;refine⟨by simp[h.len],h.ok.set (gM _) (iK _),aa,aa,?_,λj Q=>?_⟩
 . have g1:fo us i (k+1)=fo us i k+4294967296 ^ k * u.toNat:=fG (by rw[<-h.rest (i+k) (ww _)];exact L);have S:(a.set (i+k) [tU (IntKind.u32.wrap g)])[i+k]? =some [tU (IntKind.u32.wrap g)]:=agc
   have g2:=fG S;rw[wR (.inr (ww _))]at g2;have n:vs[0+k]? =some [tU y]:=by rw[aas];exact hy
   have z:=fG n;rw[g1,g2,z,ada,abl (4294967296 ^ k) 4294967296];refine XN (carry:=c.toNat) h.eq ?_;rw[qG,P];omega
 . rw[aam aa];exact h.rest j aa
def Ui{a:Lz}{i q:Nat}(h:rY us vs a i n q c b)(j:us[i+n]? =some [tU un])(I:0 < fo vs 0 n)(g:fo us i (n+1) / fo vs 0 n<=q)(J:c+b<=un):fo (a.set (i+n) e) i n < fo vs 0 n:=by
 rw[wR (.inr (ww _))];have N:=h.b0;have r:=h.c0;refine aaG (U:=fo us i (n+1)) (un:=un.toNat) (carry:=c.toNat) (borrow:=b.toNat) (Bn:=4294967296 ^ n) (fG j) h.eq ?_ g aa;rw[abl,ac7,adv];exact Nat.lt_mul_div_succ _ I
def XO{a g:Lz}{i q:Nat}{K:Int}{J:Lt}(I:Us vs)(h:rY us vs a i n q c b)(j:us[i+n]? =some [tU un])(hq:q * fo vs 0 n < fo us i (n+1)+fo vs 0 n)(l:un < c+b)(B:zP (a.set (i+n) e) vs g i n K)(d:0<=un):fo (g.set (i+n) J) i n < fo vs 0 n:=by
 rw[wR (.inr (ww _))];have N:=h.b0;have r:=h.c0;have G:=B.eq;rw[wR (.inr (ww _))]at G;exact Uj (U:=fo us i (n+1)) (un:=un.toNat) (carry:=c.toNat) (borrow:=b.toNat) (Bn:=4294967296 ^ n) (fG j) h.eq (yR I 0 n) hq aa G (yR h.ok i n) (yR B.ok i n)
def Qv{q r M u0:Int}(H:0<=q)(hq:q < 4294967296)(w:0<=r)(J:r < 4294967296)(Z:0<=M)(z:M < 4294967296)(v:0<=u0)(L:u0 < 4294967296):
 (IntKind.u64.wrap (q * IntKind.u64.wrap M) > IntKind.u64.wrap ((BitVec.ofInt IntKind.u64.bits (IntKind.u64.wrap (r * 2 ^ (min (32:Int).toNat IntKind.u64.bits)))|||BitVec.ofInt IntKind.u64.bits (IntKind.u64.wrap u0)).toNat:Int))↔r.toNat * 4294967296+u0.toNat < q.toNat * M.toNat:=by
 obtain⟨A,Q⟩:=CJ H hq Z z;rw[u64_in Z aa,u64_in A aa,u64_in v aa,Uv,ae3 aa aa,aoU v L w J]
 have s:q.toNat * M.toNat=(q * M).toNat:=by
  rw[show q * M=((q.toNat * M.toNat:Nat):Int) by rw[adB];congr 1<;>omega];rfl
 rw[s];omega
def anD{A:Int}(z:0<=un)(O:un < 4294967296)(N:0<=A)(s:A < 4294967296):
 IntKind.u64.wrap ((BitVec.ofInt IntKind.u64.bits (IntKind.u64.wrap (IntKind.u64.wrap un * 2 ^ (min (32:Int).toNat IntKind.u64.bits)))|||BitVec.ofInt IntKind.u64.bits (IntKind.u64.wrap A)).toNat:Int)=((un.toNat * 4294967296+A.toNat:Nat):Int):=by
 rw[u64_in z aa,u64_in N aa,Uv,ae3 aa aa,aoU N s z O];omega
end Go.aW.Cd
namespace Go.aW.Cd
open Go Go.Proofs
variable{sz U A n N:Nat}{xs ys us vs P qs ps ds es zs cs:Lz}{d x a un u0 S M r c b D y B:Int}{rows:Lq}{e J:Lt}{s:ByteArray}
def apO{hp:HS}{Q:Nat}{xs' d:Lz}(h:find hp 0=some (.row sz (tr xs')))(O:find hp 1=some (.row Q (tr d))):od [(0,.row sz (tr xs)),(1,.row Q (tr ys))] hp [(0,.row sz (tr xs')),(1,.row Q (tr d))]:=by
 have a:∀ (z:Nat) (M:Lz),QL [(0,.row sz (tr xs)),(1,.row Q (tr ys))] (.row z (tr M)):=by
  intro z M e H c D;simp only[tr,aad]at H;obtain⟨J,_,rfl⟩:=H;simp only[aad]at D;obtain⟨F,_,rfl⟩:=D;rfl
 refine⟨λk b Z=>?_,λk L Z=>?_⟩
 . simp only[find]at Z;split at Z
   . rename_i e;subst e;exact⟨aa,_,h⟩
   . split at Z
     . rename_i e;subst e;exact⟨aa,_,O⟩
     . simp at Z
 . simp only[find]at Z;split at Z
   . rename_i e;subst e;simp only[ii]at Z;subst Z;exact⟨h,rfl,a _ _⟩
   . split at Z
     . rename_i e;subst e;simp only[ii]at Z;subst Z;exact⟨O,rfl,a _ _⟩
     . simp at Z
def gDg{hp:HS}{tm:TS}{rs:List ResultVar}{t Q:Nat}{x:T}{a:Lq}{G:Lw->HS->Prop}(J:rs=[.tmp t])(h:find tm t=some (.w (.one (.t x))))(R:find hp 0=some (.row sz rows))(e:find hp 1=some (.row Q a))(M:aL rows xs)(b:aL a ys)(hg:G [.one (.t x)] [(0,.row sz (tr xs)),(1,.row Q (tr ys))]):
 ∃qs ts N,bg Tryz.prog hp tm rs=some qs/\bB (G0 [(0,.row sz (tr us)),(1,.row Q (tr vs))] hp) qs=some ts/\od [(0,.row sz (tr us)),(1,.row Q (tr vs))] hp N/\G ts N:=by
 subst J;refine⟨[.one (.t x)],[.one (.t x)],_,by simp only[bg,de,h],?_,apO (by rw[R,M]) (by rw[e,b]),hg⟩;simp only[bB,G0,inW,VH,if_true]
def auO(us vs:Lz)(i n:Nat)(ts:Lw)(N:HS):Prop:= ∃a d,ts=[.one (.t (tU d))]/\N=[(0,.row 1 (tr a)),(1,.row 1 (tr vs))]/\a.length=us.length/\Us a/\fo a i n < fo vs 0 n/\0<=d/\d < 4294967296
def Fq(U V q:Nat):Prop:=q < 4294967296/\q * V < U+V/\U / V<=q
def q64(X v:Nat)(h:X < 18446744073709551616):IntKind.u64.wrap ((X / v:Nat):Int)=((X / v:Nat):Int):=by
 have O:=Nat.div_le_self X v;generalize X / v=y at O;exact u64_in aa aa
def R1(U W un A S:Nat)(us vs:Lz)(m:Nat)(F:List V)(w:List (Lz)):Prop:=
 ∃q r:Int,0<=q/\0<=r/\m=4294967296 - r.toNat/\F=[iV .u64 q,iV .u64 r]/\w=[us,vs]/\q.toNat * S+r.toNat=un * 4294967296+A/\U / W<=q.toNat/\q < 18446744073709551616/\r < 8589934592
def R1.zero{V:Nat}{A:Int}(H:Est U V un.toNat A.toNat u0.toNat S.toNat M.toNat)(z:0<=un)(O:un < 4294967296)(N:0<=A)(s:A < 4294967296)(l:0 < S)(L:S < 4294967296)
 (Q:a=IntKind.u64.wrap ((BitVec.ofInt IntKind.u64.bits (IntKind.u64.wrap (IntKind.u64.wrap un * 2 ^ (min (32:Int).toNat IntKind.u64.bits)))|||BitVec.ofInt IntKind.u64.bits (IntKind.u64.wrap A)).toNat:Int)):
 R1 U V un.toNat A.toNat S.toNat us vs (4294967296 - (un.toNat * 4294967296+A.toNat) % S.toNat) [iV .u64 (IntKind.u64.wrap (a.tdiv (IntKind.u64.wrap S))),iV .u64 (a.tmod (IntKind.u64.wrap S))] [us,vs]:=by
 have e:=anD z O N s;have b:IntKind.u64.wrap S=((S.toNat:Nat):Int):=by rw[u64_in aa aa];omega
 have R:=ae0 (un.toNat * 4294967296+A.toNat) (show 0 < S.toNat by omega);have I:=Nat.div_le_self (un.toNat * 4294967296+A.toNat) S.toNat;have g:=aes (un.toNat * 4294967296+A.toNat) S.toNat;have c:=H.first;have h:un.toNat * 4294967296+A.toNat < 18446744073709551616:=aa
 have d:=q64 (un.toNat * 4294967296+A.toNat) S.toNat h;rw[e]at Q;clear H e
 have o:((un.toNat * 4294967296+A.toNat:Nat):Int).tdiv ((S.toNat:Nat):Int)=(((un.toNat * 4294967296+A.toNat) / S.toNat:Nat):Int):=by
  rw[abH (ab4 _)];rfl
 have G:((un.toNat * 4294967296+A.toNat:Nat):Int).tmod ((S.toNat:Nat):Int)=(((un.toNat * 4294967296+A.toNat) % S.toNat:Nat):Int):=by
  rw[Int.tmod_eq_emod_of_nonneg (ab4 _)];rfl
 rw[Q,b,o,G,d];clear o G d Q b;refine⟨(((un.toNat * 4294967296+A.toNat) / S.toNat:Nat):Int),(((un.toNat * 4294967296+A.toNat) % S.toNat:Nat):Int),ab4 _,ab4 _,by rw[aa0],rfl,rfl,?_,by rw[aa0];exact c,?_,?_⟩
 . rw[aa0,aa0,abl];exact g
 . clear c g R;generalize (un.toNat * 4294967296+A.toNat) / S.toNat=y at *
   omega
 . clear c g I;generalize (un.toNat * 4294967296+A.toNat) % S.toNat=y at *
   omega
def R1.next{V un:Nat}{q:Int}(H:Est U V un A u0.toNat S.toNat M.toNat)(B:0<=q)(w:0<=r)(z:0 < S)(L:S < 4294967296)(s:q.toNat * S.toNat+r.toNat=un * 4294967296+A)(g:U / V<=q.toNat)(hq:q < 18446744073709551616)(J:r < 4294967296)
 (D:4294967296<=q.toNat\/r.toNat * 4294967296+u0.toNat < q.toNat * M.toNat):
 R1 U V un A S.toNat us vs (4294967296 - (r+S).toNat) [iV .u64 (IntKind.u64.wrap (q - 1)),iV .u64 (IntKind.u64.wrap (r+IntKind.u64.wrap S))] [us,vs]:=by
 have O:=H.step q.toNat r.toNat s g D;clear H D;generalize b:U / V=Q0 at O g;refine⟨q - 1,r+S,aa,aa,rfl,?_,rfl,?_,by rw[b];omega,aa,aa⟩
 . rw[u64_in (n:=S) aa aa,u64_in aa aa,u64_in aa aa]
 . obtain⟨Z,a⟩: ∃Z,q.toNat=Z+1:=⟨q.toNat - 1,aa⟩;rw[a,aaw,adm]at s;rw[show(q - 1).toNat=Z by omega,show(r+S).toNat=r.toNat+S.toNat by omega];omega
def R2(us vs:Lz)(i n:Nat)(q:Int)(m:Nat)(F:List V)(w:List (Lz)):Prop:=
 ∃ (k:Nat) (c b:Int) (rz:Lz),k<=n/\m=n - k/\F=[iV .u64 c,iV .u64 b,iV .i64 (k:Int)]/\w=[rz,vs]/\rY us vs rz i k q.toNat c b/\Fq (fo us i (n+1)) (fo vs 0 n) q.toNat
def R2.next{us vs rz:Lz}{i n k:Nat}{q c b y u a D:Int}(H:0<=q)(h:rY us vs rz i k q.toNat c b)(o:Fq (fo us i (n+1)) (fo vs 0 n) q.toNat)(Z:(k:Int) < (n:Int))(K:n<=1000000)(hy:vs[0+((k:Int)).toNat]? =some [tU y])(w:0<=y)(d:y < 4294967296)(L:rz[i+((k:Int)).toNat]? =some [tU u])(v:0<=u)(O:u < 4294967296)
 (U:a=IntKind.u64.wrap (c+IntKind.u64.wrap (q * IntKind.u64.wrap y))) (l:D=IntKind.u64.wrap (IntKind.u64.wrap (IntKind.u64.wrap u - IntKind.u64.wrap (IntKind.u32.wrap a)) - b)):
 R2 us vs i n q (n - (k+1)) [iV .u64 (a.fdiv (2 ^ (min (32:Int).toNat IntKind.u64.bits))),iV .u64 (D.fdiv (2 ^ (min (63:Int).toNat IntKind.u64.bits))),iV .i64 (IntKind.i64.wrap ((k:Int)+1))] [rz.set (i+((k:Int)).toNat) [tU (IntKind.u32.wrap D)],vs]:=by
 have M:((k:Int)).toNat=k:=aa
 rw[M]at hy L⊢;rw[aas]at hy;obtain⟨A,Q⟩:=CJ (q:=q) (y:=y) H (by have:=o.1;omega) w d;have r:=h.c0;have s:=h.c1;have j:a=c+(q.toNat:Int) * y:=by rw[U,u64_in w aa,u64_in A aa,u64_in aa aa,ad1 H]
 rw[u64_in v aa,u64_in (gM _) (by have:=iK a;omega)]at l;refine⟨k+1,_,_,_,aa,rfl,by rw[bF aa aa];rfl,rfl,h.next o.1 hy w d L v O j l rfl (Oy _),o⟩
def rY.to{a:Lz}{i k q:Nat}(h:rY us vs a i k q c b)(e:k=n):rY us vs a i n q c b:=e▸h
def zP.to{a:Lz}{i k:Nat}(h:zP us vs a i k c)(e:k=n):zP us vs a i n c:=e▸h
def J6(z:0<=un)(O:un < 4294967296)(r:0<=c)(s:c < 4294967296)(N:0<=b)(x:b<=1)(l:D=IntKind.u64.wrap (IntKind.u64.wrap (IntKind.u64.wrap un - c) - b)):D.fdiv (2 ^ (min (63:Int).toNat IntKind.u64.bits))=0↔c+b<=un:=by
 rw[u64_in z aa]at l;obtain⟨K,e,_,_,_,h⟩:=Jo z O r s N x l;rw[e];exact h
def R3(us vs:Lz)(i n q:Nat)(un:Int)(m:Nat)(F:List V)(w:List (Lz)):Prop:=
 ∃ (k:Nat) (Q:Int) (g rz:Lz) (e:Lt) (c b:Int),k<=n/\m=n - k/\F=[iV .u64 Q,iV .i64 (k:Int)]/\w=[g,vs]/\rY us vs rz i n q c b/\un < c+b/\zP (rz.set (i+n) e) vs g i k Q/\Fq (fo us i (n+1)) (fo vs 0 n) q
def R3.zero{us vs rz:Lz}{i k n q:Nat}{un c b D:Int}(h:rY us vs rz i k q c b)(o:Fq (fo us i (n+1)) (fo vs 0 n) q)(e:k=n)(z:0<=un)(O:un < 4294967296)(l:D=IntKind.u64.wrap (IntKind.u64.wrap (IntKind.u64.wrap un - c) - b))(P:D.fdiv (2 ^ (min (63:Int).toNat IntKind.u64.bits))≠0):
 R3 us vs i n q un n [iV .u64 0,iV .i64 0] [rz.set (i+((n:Int)).toNat) [tU (IntKind.u32.wrap D)],vs]:=by
 have M:((n:Int)).toNat=n:=aa
 rw[M];refine⟨0,0,_,rz,_,c,b,aa,rfl,rfl,rfl,h.to e,?_,zP.zero (h.ok.set (gM _) (iK _)),o⟩;have:=J6 z O h.c0 h.c1 h.b0 h.b1 l;omega
def R3.next{us vs rz g:Lz}{i n k q:Nat}{un Q c b y u a:Int}{e:Lt}(P:rY us vs rz i n q c b)(l:un < c+b)(h:zP (rz.set (i+n) e) vs g i k Q)(o:Fq (fo us i (n+1)) (fo vs 0 n) q)(Z:(k:Int) < (n:Int))(K:n<=1000000)(hy:vs[0+((k:Int)).toNat]? =some [tU y])(w:0<=y)(D:y < 4294967296)(L:g[i+((k:Int)).toNat]? =some [tU u])(v:0<=u)(O:u < 4294967296)
 (U:a=IntKind.u64.wrap (Q+IntKind.u64.wrap (IntKind.u64.wrap u+IntKind.u64.wrap y))):
 R3 us vs i n q un (n - (k+1)) [iV .u64 (a.fdiv (2 ^ (min (32:Int).toNat IntKind.u64.bits))),iV .i64 (IntKind.i64.wrap ((k:Int)+1))] [g.set (i+((k:Int)).toNat) [tU (IntKind.u32.wrap a)],vs]:=by
 have M:((k:Int)).toNat=k:=aa
 rw[M]at hy L⊢;rw[aas]at hy;have r:=h.c0;have s:=h.c1;have j:a=Q+(u+y):=by rw[U,u64_in w aa,u64_in v aa,u64_in (n:=u+y) aa aa,u64_in aa aa]
 exact⟨k+1,_,_,rz,e,c,b,aa,rfl,by rw[bF aa aa];rfl,rfl,P,l,h.next hy w D L v O j (Oy _),o⟩
def agL{rz:Lz}{i k q:Nat}(h:rY us vs rz i k q c b)(o:Fq (fo us i (n+1)) (fo vs 0 n) q)(e:k=n)(j:us[i+n]? =some [tU un])(z:0<=un)(O:un < 4294967296)(I:0 < fo vs 0 n)(l:D=IntKind.u64.wrap (IntKind.u64.wrap (IntKind.u64.wrap un - c) - b))(g:D.fdiv (2 ^ (min (63:Int).toNat IntKind.u64.bits))=0)(LM:0<=d)(r:d < 4294967296):
 auO us vs i n [.one (.t (tU d))] [(0,.row 1 (tr (rz.set (i+((n:Int)).toNat) [tU (IntKind.u32.wrap D)]))),(1,.row 1 (tr vs))]:=by
 have M:((n:Int)).toNat=n:=aa
 rw[M];exact⟨_,d,rfl,rfl,by simp[h.len],h.ok.set (gM _) (iK _),Ui (h.to e) j I o.2.2 ((J6 z O h.c0 h.c1 h.b0 h.b1 l).1 g),LM,r⟩
def agK{rz g:Lz}{i k q:Nat}{Q:Int}(s:Us vs)(h:rY us vs rz i n q c b)(l:un < c+b)(a:zP (rz.set (i+n) e) vs g i k Q)(o:Fq (fo us i (n+1)) (fo vs 0 n) q)(N:k=n)(j:us[i+n]? =some [tU un])(z:0<=un)(P:0<=x)(J:x < 4294967296)(LM:0<=d)(r:d < 4294967296):
 auO us vs i n [.one (.t (tU d))] [(0,.row 1 (tr (g.set (i+((n:Int)).toNat) [tU x]))),(1,.row 1 (tr vs))]:=by
 have M:((n:Int)).toNat=n:=aa
 rw[M];exact⟨_,d,rfl,rfl,by simp[a.len,h.len],a.ok.set P J,XO s h j o.2.1 l (a.to N) z,LM,r⟩
def akT{V un q r:Nat}{u0 S M:Nat}(H:Est U V un A u0 S M)(s:q * S+r=un * 4294967296+A)(g:U / V<=q)(D:¬ (r < 4294967296/\(4294967296<=q\/r * 4294967296+u0 < q * M))):Fq U V q:=by
 obtain⟨a,b⟩:=H.fin q r s D;exact⟨a,b,g⟩
def fq2{V un:Nat}{q:Int}(H:Est U V un A u0.toNat S.toNat M.toNat)(B:0<=q)(w:0<=r)(s:q.toNat * S.toNat+r.toNat=un * 4294967296+A)(g:U / V<=q.toNat)(Z:0<=M)(z:M < 4294967296)(v:0<=u0)(L:u0 < 4294967296)(J:r < 4294967296)(hq:¬q≥4294967296)
 (h:¬ (IntKind.u64.wrap (q * IntKind.u64.wrap M) > IntKind.u64.wrap ((BitVec.ofInt IntKind.u64.bits (IntKind.u64.wrap (r * 2 ^ (min (32:Int).toNat IntKind.u64.bits)))|||BitVec.ofInt IntKind.u64.bits (IntKind.u64.wrap u0)).toNat:Int))):Fq U V q.toNat:=by
 refine akT H s g ?_;rintro⟨_,O|O⟩
 . omega
 . exact h ((Qv B aa w J Z z v L).2 O)
def aD7{q:Int}(H:0<=q)(w:0<=r)(Z:0<=M)(z:M < 4294967296)(v:0<=u0)(L:u0 < 4294967296)(J:r < 4294967296)(hq:¬q≥4294967296)
 (h:(IntKind.u64.wrap (q * IntKind.u64.wrap M) > IntKind.u64.wrap ((BitVec.ofInt IntKind.u64.bits (IntKind.u64.wrap (r * 2 ^ (min (32:Int).toNat IntKind.u64.bits)))|||BitVec.ofInt IntKind.u64.bits (IntKind.u64.wrap u0)).toNat:Int))):4294967296<=q.toNat\/r.toNat * 4294967296+u0.toNat < q.toNat * M.toNat:=
 .inr ((Qv H aa w J Z z v L).1 h)
def Em(us vs:Lz)(i n:Nat)(B:Us us)(I:Us vs)(K:2<=n)(U:n<=vs.length)(Km:i+n+1<=us.length)(R:us.length<=1000000)(j:vs.length<=1000000)(l:fo us i (n+1) < 4294967296 * fo vs 0 n)(S:Int)(L:vs[n - 1]? =some [tU S])(hvp:0 < S): ∃ts N,Fn Tryz.prog 313 [.one (.own 0 1 i (n+1)),.one (.own 1 1 0 n)] [(0,.row 1 (tr us)),(1,.row 1 (tr vs))] (aR ts) N/\auO us vs i n ts N:=by
 obtain⟨un,hun,un0,un1⟩:=B1 B (k:=i+n) aa;obtain⟨A,O,Z9,u11⟩:=B1 B (k:=i+(n - 1)) aa;obtain⟨u0,v,u00,u01⟩:=B1 B (k:=i+(n - 2)) aa;obtain⟨M,PC,v00,v01⟩:=B1 I (k:=n - 2) aa;obtain⟨v1',aCm,v10,v11⟩:=B1 I (k:=n - 1) aa;obtain rfl:v1'=S:=by rw[L]at aCm;simpa using aCm.symm
 have est:=asD K B I hun O v L PC hvp l;have hVp:0 < fo vs 0 n:=by(apply Nat.pos_of_ne_zero;intro e;rw[e]at l;omega)
 refine ij Tryz.func313 ?_
 repeat' ((conv=>whnf);first|refine aJ (λh=>?_) (λh=>?_)|refine And.intro ⟨ah,ah⟩ ?_|refine And.intro (show IntKind.u64.wrap v1'≠0 by rw[u64_in aa aa];omega) ?_|refine And.intro (show(0:Int)<=32 by omega) ?_|refine And.intro (show(0:Int)<=63 by omega) ?_|refine And.intro ag ?_|refine yG (xs:=us) rfl hun ah ?_|refine yG (xs:=us) rfl O ah ?_|refine yG (xs:=us) rfl v ah ?_|refine yG (xs:=vs) rfl L ah ?_|refine yG (xs:=vs) rfl PC ah ?_|(refine cu (xs:=vs) (i:=0+((k:Int)).toNat) rfl I aa ?_;rintro _ ⟨y,rfl,w,D⟩ hsy)|(refine cu (xs:=vs) (i:=0+((z:Int)).toNat) rfl I aa ?_;rintro _ ⟨y,rfl,w,D⟩ hsy)|(refine cu (xs:=rz) (i:=i+((k:Int)).toNat) rfl P.ok (by have:=P.len;omega) ?_;rintro _ ⟨u,rfl,v,O⟩ hsu)|refine yG (xs:=rz) rfl ((P.rest (i+n) aa).trans hun) ah ?_|(refine cu (xs:=J) (i:=i+((z:Int)).toNat) rfl a.ok Sv ?_;rintro _ ⟨u,rfl,v,O⟩ hsu)|(refine cu (xs:=J) (i:=i+((n:Int)).toNat) rfl a.ok Sv ?_;rintro _ ⟨u,rfl,v,O⟩ hsu)|exact gDg rfl rfl rfl rfl (xs:=rz.set (i+((n:Int)).toNat) [tU _]) (aL.set rfl _ [tU _]) rfl (agL P o aa hun un0 un1 hVp rfl h (gM _) (iK _))|exact gDg rfl rfl rfl rfl (xs:=J.set (i+((n:Int)).toNat) [tU _]) (aL.set rfl _ [tU _]) rfl (agK I hS' aCV a hF' aa hun un0 (gM _) (iK _) (gM _) (iK _))|(apply bp [0,5,8,10,129,130,131] [] [10,131] [(0,1),(1,1)] (R3 us vs i n q.toNat un) (n) [iV .u64 0,iV .i64 0];(iterate 3 exact ae);exact .cons (aL.aM (aL.set (xs:=rz) rfl _ [tU _]) _) (.cons (aL.aM rfl _) .nil);exact R3.zero P o aa un0 un1 rfl h;rintro _ _ _ ⟨z,Q,J,aPd,G,F,x,hk3,rfl,rfl,rfl,hS',aCV,a,hF'⟩)|(refine aI [0,5,8,10,129,130,131] [] ?_;(conv=>whnf);exact⟨rfl,_,[_,_],_,.cons (aL.aM (aL.set (xs:=J) rfl _ [tU _]) _) (.cons (aL.aM rfl _) .nil),R3.next hS' aCV a hF' aa aa hsy w D ai ai ai rfl,rfl,rfl,aa⟩)|(apply bp [0,1,5,8,10,11,76,77,78] [] [10,11,78] [(0,1),(1,1)] (R2 us vs i n q) (n) [iV .u64 0,iV .u64 0,iV .i64 0];(iterate 3 exact ae);exact .cons (aL.aM rfl _) (.cons (aL.aM rfl _) .nil);exact⟨0,0,0,us,aa,rfl,rfl,rfl,rY.zero B,by first|exact akT est s g (λd=>absurd d.1 aa)|exact fq2 est H Y s g v00 v01 u00 u01 aa aa h⟩;rintro _ _ _ ⟨k,c,b,rz,Z,rfl,rfl,rfl,P,o⟩)|(refine aI [0,1,5,8,10,11,76,77,78] [] ?_;(conv=>whnf);exact⟨rfl,_,[_,_,_],_,.cons (aL.aM (aL.set (xs:=rz) rfl _ [tU _]) _) (.cons (aL.aM rfl _) .nil),R2.next H P o aa aa hsy w D ai ai ai rfl rfl,rfl,rfl,aa⟩)|(apply bp [0,1,5,7,8,9] [] [8,9] [(0,1),(1,1)] (R1 (fo us i (n+1)) (fo vs 0 n) un.toNat A.toNat v1'.toNat us vs) (_) [_,_];(iterate 3 exact ae);exact .cons (aL.aM rfl _) (.cons (aL.aM rfl _) .nil);exact R1.zero est un0 un1 Z9 u11 hvp v11 rfl;rintro _ _ _ ⟨q,r,H,Y,hmr,rfl,rfl,s,g,aJs,aQx⟩)|(refine aI [0,1,5,7,8,9] [] ?_;(conv=>whnf);exact⟨rfl,_,[_,_],_,.cons (aL.aM rfl _) (.cons (aL.aM rfl _) .nil),R1.next est H Y hvp v11 s g aJs aa (by first|exact .inl aa|exact aD7 H Y v00 v01 u00 u01 aa aa h),rfl,rfl,aa⟩))
abbrev oB(b:Bool):W:= .one (.t (tB b))
def aLM(k:Nat)(ys:Lz)(ts:Lw):Prop:= ∃N x ok,ts=[oL 1 N,oL 1 x,oB ok]/\(N.length<=k/\Us N)/\Nm k x/\(nv ys≠0->nv x < nv ys)
def aaB(I:Us vs)(K:1<=n)(U:n<=vs.length)(h:4294967296 ^ (n - 1)<=fo vs 0 n): ∃S,vs[n - 1]? =some [tU S]/\0 < S:=by
 obtain⟨x,N,z,_⟩:=B1 I (k:=n - 1) aa;refine⟨x,N,?_⟩;have e:n=(n - 1)+1:=aa
 have O:=fG (xs:=vs) (i:=0) (k:=n - 1) (x:=x) (by rw[aas];exact N);rw[<-e]at O;have Y:=yR I 0 (n - 1);rcases aff 0 x with c|c
 . exact c
 . have:x.toNat=0:=aa
   rw[this,afo]at O;omega
structure Dv(bs vs:Lz)(n s:Nat):Prop where
 len:vs.length=n+1
 ok:Us vs
 val:fo vs 0 n=nv bs * 2 ^ s
 top: ∃v1,vs[n - 1]? =some [tU v1]/\0 < v1
def P7{s:Nat}(G:Us P)(a:∀e,P.getLast? =some e->lb e≠0)(K:P.length=n)(d:2<=n)(hx:P[n - 1]? =some [tU x])(S:s<=31)(y:x.toNat < 2 ^ (32 - s))(h:vs.length=P.length+1/\Us vs/\nv vs=nv P * 2 ^ s):Dv P vs n s:=by
 obtain⟨O,Y,B⟩:=h;have R:=arW G K aa hx aa y;have e:fo vs 0 n=nv P * 2 ^ s:=by rw[<-B];exact aaW (by rw[B];exact R) aa
 refine⟨aa,Y,e,aaB Y aa aa ?_⟩;have g:=JU a (by intro e;subst e;simp at K;omega);rw[K]at g;rw[e];have:nv P * 1<=nv P * 2 ^ s:=abk _ (acT aa);omega
def NT(n e a:Nat)(vs:Lz)(m:Nat)(F:List V)(w:List (Lz)):Prop:=
 ∃ (j:Nat) (z:Int) (A N:Lz),j<=e+1 - n/\m=j/\F=[iV .i64 z]/\w=[A,vs,N]/\A.length=e+1/\Us A/\N.length=e+1 - n/\Us N/\fo A j n < a/\((z= -1/\j=0)\/ ∃i:Nat,z=(i:Int)/\j=i+1)
def axF(j:Nat):((j:Int) - 1= -1/\j=0)\/ ∃i:Nat,(j:Int) - 1=(i:Int)/\j=i+1:=by
 rcases j with _|i
 . exact .inl ⟨aa,rfl⟩
 . exact .inr ⟨i,aa,rfl⟩
def O3{k:Nat}(h:qs[k]? =some e)(Z:qs.length=k+1):qs.getLast? =some e:=by
 rw[aez,Z];simpa using h
def one_pos(U:qs.length=1)(h:qs[(0:Int).toNat]? =some [tU x])(Q:∀e,qs.getLast? =some e->lb e≠0)(z:0<=x):1<=x/\nv qs=x.toNat:=by
 have N:qs[0]? =some [tU x]:=h;have:=Q _ (O3 N aa);rw[oD]at this;refine⟨aa,?_⟩
 match qs,U with
 | [e],_=>
   simp only[yq,ii]at N;subst N;simp[nv,oD]
def sk(K:2<=n)(U:qs.length=n)(G:n<=1000000)(h:qs[(IntKind.i64.wrap ((n:Int) - 1)).toNat]? =some [tU x])(Q:∀e,qs.getLast? =some e->lb e≠0)(z:0<=x):0 < x/\qs[n - 1]? =some [tU x]:=by
 rw[bF aa aa,show((n:Int) - 1).toNat=n - 1 by omega]at h;have:=Q _ (O3 h aa);rw[oD]at this;exact⟨aa,h⟩
def acC(h:(qs.length:Int)=0):nv qs=0:=by
 have:qs=[]:=ac5 aa;subst this;rfl
def iy(F:Us ps)(tb:∀e,qs.getLast? =some e->lb e≠0)(h:S7 c (nv ps) (nv qs))(D:¬c < 0):qs.length<=ps.length:=by
 apply ae6;intro l;have:=Io F tb l;exact D (h.1.2 this)
def NT.zero{s:Nat}(F:Us ps)(O:us.length=ps.length+1)(a:Us us)(b:nv us=nv ps * 2 ^ s)(l:Dv P vs n s)(G:∀e,P.getLast? =some e->lb e≠0)(K:P.length=n)(d:2<=n)(I:n<=ps.length)(R:ps.length<=400000)(D:N=ps.length+1 - n):
 NT n ps.length (fo vs 0 n) vs (ps.length+1 - n) [iV .i64 (IntKind.i64.wrap ((N:Int) - 1))] [us,vs,List.replicate N [tU 0]]:=by
 subst D;exact⟨ps.length+1 - n,_,us,_,aa,rfl,by rw[bF aa aa],rfl,O,a,ak,Us.replicate _,anC F b G K aa aa l.val,axF _⟩
def anQ{j e V:Nat}(B:Us us)(U:us.length=e+1)(Q:j+1<=e+1 - n)(h:fo us (j+1) n < V):fo us j (n+1) < 4294967296 * V:=by
 obtain⟨x,N,_,_⟩:=B1 B (k:=j) aa;exact acD B N h
def NT.next{a:Lz}{e V i k:Nat}(Q:i+1<=e+1 - n)(R:e<=400000)(U:us.length=e+1)(I:a.length=us.length)(B:Us a)(hq:qs.length=e+1 - n)(g:Us qs)(S:fo a i n < V)(LM:0<=d)(r:d < 4294967296):
 NT n e V vs i [iV .i64 (IntKind.i64.wrap ((i:Int) - 1))] [a,vs,qs.set k [tU d]]:=
 ⟨i,_,a,_,aa,rfl,by rw[bF aa aa],rfl,aa,B,by simp[hq],g.set LM r,S,axF _⟩
def aIu{a b c d i:Nat}(O:a=i)(Y:b=n+1)(B:c=n)(g:d=0): [W.one (C.own 0 1 a b),W.one (C.own 1 1 d c)]=[.one (.own 0 1 i (n+1)),.one (.own 1 1 0 n)]:=by subst O;subst Y;subst B;subst g;rfl
def aBH{a b:Nat}{r:Lw}(h:b=n)(z:a=0):W.one (C.own 0 1 a b)::r= .one (.own 0 1 0 n)::r:=by subst h;subst z;rfl
def aJ2{f:Nat->Option Nat}: [(0,bE.row 1 ((tr us).map λe=>e.map (C.aM f))),(1,bE.row 1 ((tr vs).map λe=>e.map (C.aM f)))]=[(0,bE.row 1 (tr us)),(1,bE.row 1 (tr vs))]:=by rw[gk,gk]
def anW{s:Nat}(z:nv P=nv ys)(l:Dv P vs n s)(h:fo us 0 n < fo vs 0 n){r:Nat}(J:r=fo us 0 n / 2 ^ s):r < nv ys:=by
 rw[l.val,z,abl]at h;rw[J];exact aeo h
def uM(xs:Lz)(s:Int)(hx:Us xs)(U:xs.length<=400000)(r:0<=s)(S:s<=31): ∃ts N,yw Tryz.prog 312 [oL 1 xs,oI s] (aR ts) N/\GN 1 (λys=>ys.length=xs.length+1/\Us ys/\nv ys=nv xs * 2 ^ s.toNat) ts N:=by
 have:=Hw xs s.toNat hx U aa;rw[ad1 r]at this;exact this
def CI(us:Lz)(n:Nat)(s:Int)(hx:Us us)(K:n<=us.length)(U:us.length<=400001)(r:0<=s)(S:s<=31): ∃ts N,Fn Tryz.prog 314 [.one (.own 0 1 0 n),oI s] [(0,.row 1 (tr us))] (aR ts) N/\GRd 1 us (λts=> ∃ys,ts=[oL 1 ys]/\Nm n ys/\nv ys=fo us 0 n / 2 ^ s.toNat) ts N:=by
 have:=El us n s.toNat hx K U aa;rw[ad1 r]at this;exact this
def kL(k:Nat)(xs ys:Lz)(U:xs.length<=k)(hx:Us xs)(l:ys.length<=k)(hy:Us ys)(Z:k<=200000)(e:2<=k):Tg 301 [oL 1 xs,oL 1 ys] (aLM k ys):=by
 refine aS ?_;refine aC Tryz.func301 ?_
 repeat' ((conv=>whnf);first|refine aJ (λh=>?_) (λh=>?_)|(refine aG a au au ?_;rintro _ ⟨x,rfl,P,b⟩ hsx)|refine oZ (aa7 _) aa (.inr rfl) ?_|refine oZ au au (.inl au) ?_|refine And.intro ⟨au,au,au,au⟩ ?_|refine And.intro ⟨au,au⟩ ?_|refine And.intro au ?_|refine And.intro ag ?_|(refine aD rfl (dF xs hx aa) ?_;rintro _ ⟨g,rfl,⟨K,F,va,ta,_⟩⟩)|(refine aD rfl (dF ys hy aa) ?_;rintro _ ⟨N,rfl,⟨lb',a,vb,tb,_⟩⟩)|(refine aD rfl (mh g N F a aa aa) ?_;rintro _ ⟨c,rfl,D⟩)|(refine aD rfl (mT g F aa) ?_;rintro _ ⟨O,rfl,⟨ln,un,tn⟩,vn⟩)|(refine aD rfl (Ek g x F aa (one_pos aa hsx tb P).1 b) ?_;rintro _ ⟨M,r,rfl,⟨lz,uz,tz⟩,w,I⟩)|(refine aD rfl (vM _ (nF _) (by rw[u64_in aa aa];omega)) ?_;rintro _ ⟨J,rfl,⟨H,uo,to⟩,vo⟩)|(refine aD rfl (pu x (sk aa rfl aa hsx tb P).1 b) ?_;rintro _ ⟨s,rfl,hs0,Y,R⟩)|(refine LX rfl (uM g s F aa hs0 aa) ?_;rintro us ⟨A,VN,hu3⟩)|(refine LX rfl (uM N s a aa hs0 aa) ?_;rintro o ⟨y,hv2,hv3⟩)|(refine mK [4,8] rfl (Em rz o i N.length hU2 hv2 aa aa au aa aa (anQ hU2 Km Q hsg) _ (Exists.choose_spec (P7 a tb rfl aa (sk aa rfl aa hsx tb P).2 aa R ⟨y,hv2,hv3⟩).top).1 (Exists.choose_spec (P7 a tb rfl aa (sk aa rfl aa hsx tb P).2 aa R ⟨y,hv2,hv3⟩).top).2) (aIu aa au aa rfl) aJ2 ?_;rintro _ _ ⟨n,d,rfl,rfl,hl3,hU3,B,LM,hd1⟩)|(refine cu (xs:=qs2) rfl hQ2 aa ?_;rintro _ ⟨q0,rfl,_,_⟩ _)|(refine TK rfl rfl (fP qs2 hQ2 aa) (aBH au rfl) rfl ?_;rintro _ ⟨v,rfl,S,L⟩)|(refine TK rfl rfl (CI rz N.length s hU2 au aa hs0 Y) (aBH aa rfl) rfl ?_;rintro _ ⟨G,rfl,⟨lr,ur,tr'⟩,vr⟩)|exact H9 rfl (dy 1 rfl) (dy 1 rfl) (cv rfl) ⟨_,_,_,rfl,⟨ak,Us.nil⟩,⟨ak,Us.nil,ak⟩,λh=>absurd (vb.symm.trans (acC aa)) h⟩|exact H9 rfl (dy 1 rfl) (cv rfl) (cv rfl) ⟨_,_,_,rfl,⟨ak,Us.nil⟩,⟨aa,un,tn⟩,λ_=>by rw[vn, <-vb];exact D.1.1 aa⟩|exact H9 rfl (cv rfl) (cv rfl) (cv rfl) ⟨_,_,_,rfl,⟨aa,uz⟩,⟨aa,uo,to⟩,λ_=>by rw[vo,u64_in aa aa, <-vb,(one_pos aa hsx tb P).2];omega⟩|exact H9 rfl (df rfl rfl (xs:=qs2) rfl aa) (cv rfl) (cv rfl) ⟨_,_,_,rfl,⟨by simp only[aab,aax];omega,hQ2.cut _ _⟩,⟨aa,ur,tr'⟩,λ_=>anW vb (P7 a tb rfl aa (sk aa rfl aa hsx tb P).2 aa R ⟨y,hv2,hv3⟩) hsg vr⟩|(apply bp [9,10,11,12,13,14] [] [14] [(4,1),(8,1),(12,1)] (NT N.length g.length (fo o 0 N.length) o) (g.length+1 - N.length) [_];(iterate 3 exact ae);exact .cons (aL.aM rfl _) (.cons (aL.aM rfl _) (.cons (aL.aM (aL.replicate _ [tU 0]) _) .nil));exact NT.zero F A VN hu3 (P7 a tb rfl aa (sk aa rfl aa hsx tb P).2 aa R ⟨y,hv2,hv3⟩) tb rfl aa (iy F tb D aa) aa (by have:=iy F tb D aa;rw[bF aa aa];omega);rintro _ _ _ ⟨j,z,rz,qs2,Q,hmj,rfl,rfl,Km,hU2,Tx,hQ2,hsg,(⟨rfl,rfl⟩|⟨i,rfl,rfl⟩)⟩)|(refine aI [9,10,11,12,13,14] [] ?_;(conv=>whnf);exact⟨rfl,_,[_],_,.cons (aL.aM (aL.aM (xs:=n) rfl _) _) (.cons (aL.aM (aL.aM (xs:=o) rfl _) _) (.cons (aL.aM (aL.set (xs:=qs2) rfl _ [tU _]) _) .nil)),NT.next (us:=rz) Q aa Km hl3 hU3 Tx hQ2 B LM hd1,rfl,rfl,aa⟩))
def acO(h:∀e,P.getLast? =some e->lb e≠0)(U:(P.length:Int) > 0):nv P≠0:=by
 have g:=JU h (by intro e;subst e;simp at U);have:=amB (P.length - 1);omega
def AR(k:Nat)(xs ys:Lz)(U:xs.length<=k)(hx:Us xs)(r:ys.length<=k)(hy:Us ys)(Z:k<=200000)(J:2<=k)(hp:nv ys≠0): ∃ts,Fn Tryz.prog 301 [oL 1 xs,oL 1 ys] [] (aR ts) []/\(aR ts).cR=true/\ ∃qs rs ok,ts=[oL 1 qs,oL 1 rs,oB ok]/\Nm k rs/\nv rs < nv ys:=by
 obtain⟨ts,O,Y,qs,rs,ok,B,_,g,F⟩:=kL k xs ys U hx r hy Z J;exact⟨ts,O,Y,qs,rs,ok,B,g,F hp⟩
def JX(k:Nat)(xs ys:Lz)(U:xs.length<=k)(hx:Us xs)(r:ys.length<=k)(hy:Us ys)(Z:k<=200000)(J:2<=k):Tg 300 [oL 1 xs,oL 1 ys] (GL 1 (λzs=>zs.length<=k/\Us zs)):=by
 refine aC Tryz.func300 ?_
 repeat' ((conv=>whnf);first|refine aJ (λh=>?_) (λh=>?_)|(refine aD rfl (mT xs hx aa) ?_;rintro _ ⟨g,rfl,⟨e,F,R⟩,Q⟩)|(refine aD rfl (mT ys hy aa) ?_;rintro _ ⟨N,rfl,⟨j,n,tb⟩,v⟩)|(refine aD rfl (AR k a b z A K w Z J (acO H aa)) ?_;rintro _ ⟨d,x,ok,rfl,D,l⟩)|exact gLt rfl rfl ⟨z,A⟩|(apply aV [0,1] [] [0,1] (λm o=> ∃L I,(L.length<=k/\Us L)/\Nm k I/\m=nv I/\o=[.w (oL 1 L),.w (oL 1 I)]) (nv N) [.w (oL 1 g),.w (oL 1 N)];(iterate 3 exact ae);exact⟨g,N,⟨aa,F⟩,⟨aa,n,tb⟩,rfl,rfl⟩;rintro _ _ ⟨a,b,⟨z,A⟩,⟨K,w,H⟩,c,rfl⟩)|(refine aI [0,1] [] ?_;(conv=>whnf);exact⟨rfl,_,[_,_],⟨b,x,⟨K,w⟩,D,rfl,rfl⟩,rfl,rfl,rfl,aa⟩))
def aIn:lc Tryz.prog 342=some true:=ag
def zIn:dc Tryz.prog 342=some 2:=ag
def TF:lc Tryz.prog 344=some true:=ag
def Tj:dc Tryz.prog 344=some 3:=ag
abbrev Tq(b:Bool)(xs:Lz):W:= .agg [.t (tB b),.t (.aO 1 xs)]
def GIn(k:Nat)(ts:Lw):Prop:= ∃b o,ts=[Tq b o]/\o.length<=k/\Us o
def GIB(ts:Lw):Prop:= ∃n b,ts=[oI n,oB b]
def qF(n:Int):IntKind.u64.wrap n < 18446744073709551616:=by rw[yJ];omega
def fa(b:Bool)(k:Nat)(xs:Lz)(U:xs.length<=k)(hx:Us xs)(Z:k<=1000000):Tg 298 [oB b,oL 1 xs] (GIn k):=by
 refine aS ?_;refine aC Tryz.func298 ?_
 repeat' ((conv=>whnf);first|refine aP (λh=>?_) (λh=>?_)|(refine aD rfl (mT xs hx aa) ?_;rintro _ ⟨Y,rfl,⟨z,A,_⟩,_⟩)|exact nt rfl (cc aIn zIn rfl rfl (ww _) rfl (dm.refl _)) ⟨_,Y,rfl,aa,A⟩)
def CQ(n:Int):Tg 302 [oI n] (GIn 2):=by
 refine aS ?_;refine aC Tryz.func302 ?_
 repeat' ((conv=>whnf);first|refine aJ (λh=>?_) (λh=>?_)|(refine aD rfl (vM _ (nF _) (qF _)) ?_;rintro _ ⟨Y,rfl,⟨z,A,_⟩,_⟩)|(refine aD rfl (fa _ 2 Y aa A aa) ?_;rintro _ ⟨b,M,rfl,K,w⟩)|exact nt rfl (cc aIn zIn rfl rfl (ww _) rfl (dm.refl _)) ⟨_,M,rfl,aa,w⟩)
def kM(b:Bool)(k:Nat)(xs:Lz)(U:xs.length<=k)(hx:Us xs)(Z:k<=1000000):Tg 296 [Tq b xs] (GIn k):=by
 refine aS ?_;refine aC Tryz.func296 ?_
 repeat' ((conv=>whnf);first|(refine aD rfl (fa _ k xs U hx Z) ?_;rintro _ ⟨b,M,rfl,K,w⟩)|exact nt rfl (cc aIn zIn rfl rfl (ww _) rfl (dm.refl _)) ⟨_,M,rfl,aa,w⟩)
def Kh(b c:Bool)(k:Nat)(xs ys:Lz)(U:xs.length<=k)(hx:Us xs)(r:ys.length<=k)(hy:Us ys)(Z:k<=1000000):Tg 269 [Tq b xs,Tq c ys] GI:=by
 refine aC Tryz.func269 ?_
 repeat' ((conv=>whnf);first|refine aP (λh=>?_) (λh=>?_)|refine And.intro ag ?_|(refine aN rfl (kM _ k xs U hx Z) ?_;rintro _ ⟨b,M,rfl,K,w⟩)|(refine aN rfl (kM _ k ys r hy Z) ?_;rintro _ ⟨b,F,rfl,O,g⟩)|(refine aD rfl (mh M F w g aa aa) ?_;rintro _ ⟨n,rfl,_⟩)|(refine aD rfl (mh F M g w aa aa) ?_;rintro _ ⟨n,rfl,_⟩)|exact gI rfl rfl)
def Kg(b:Bool)(k:Nat)(xs:Lz)(U:xs.length<=k)(hx:Us xs)(Z:k<=1000000):Tg 305 [Tq b xs] (GIn k):=by
 refine aS ?_;refine aC Tryz.func305 ?_
 repeat' ((conv=>whnf);first|(refine aD rfl (fa _ k xs U hx Z) ?_;rintro _ ⟨b,M,rfl,K,w⟩)|exact nt rfl (cc aIn zIn rfl rfl (ww _) rfl (dm.refl _)) ⟨_,M,rfl,aa,w⟩)
def Ki(b c:Bool)(k:Nat)(xs ys:Lz)(U:xs.length<=k)(hx:Us xs)(r:ys.length<=k)(hy:Us ys)(Z:k<=400000):Tg 304 [Tq b xs,Tq c ys] (GIn (k+1)):=by
 refine aS ?_;refine aC Tryz.func304 ?_
 repeat' ((conv=>whnf);first|refine bZz (λh=>?_) (λh=>?_)|refine And.intro ag ?_|(refine aN rfl (oC xs ys hx hy aa aa) ?_;rintro _ ⟨M,rfl,⟨z,A,_⟩⟩)|(refine aD rfl (Ae xs ys hx hy aa aa) ?_;rintro _ ⟨M,q,rfl,⟨z,A,_⟩⟩)|(refine aD rfl (Ae ys xs hy hx aa aa) ?_;rintro _ ⟨F,q2,rfl,⟨G,L,_⟩⟩)|(refine aD rfl (fa _ (k+1) M aa A aa) ?_;rintro _ ⟨b,F,rfl,K,w⟩)|(refine aN rfl (fa _ (k+1) M aa A aa) ?_;rintro _ ⟨b,F,rfl,K,w⟩)|(refine aD rfl (fa _ (k+1) F aa L aa) ?_;rintro _ ⟨b,F,rfl,K,w⟩)|exact nt rfl (cc aIn zIn rfl rfl (ww _) rfl (dm.refl _)) ⟨_,F,rfl,aa,w⟩)
def mj(b c:Bool)(k:Nat)(xs ys:Lz)(U:xs.length<=k)(hx:Us xs)(r:ys.length<=k)(hy:Us ys)(Z:k<=400000):Tg 270 [Tq b xs,Tq c ys] (GIn (2 * k)):=by
 refine aS ?_;refine aC Tryz.func270 ?_
 repeat' ((conv=>whnf);first|refine And.intro ag ?_|(refine aN rfl (mg xs ys hx hy aa aa) ?_;rintro _ ⟨M,rfl,⟨z,A,_⟩⟩)|(refine aN rfl (fa _ (2 * k) M aa A aa) ?_;rintro _ ⟨b,F,rfl,K,w⟩)|exact nt rfl (cc aIn zIn rfl rfl (ww _) rfl (dm.refl _)) ⟨_,F,rfl,aa,w⟩)
def Er(b:Bool)(k:Nat)(xs:Lz)(U:xs.length<=k)(hx:Us xs)(Z:k<=1000000):Tg 283 [Tq b xs] GIB:=by
 refine aS ?_;refine aC Tryz.func283 ?_
 repeat' ((conv=>whnf);first|refine bZz (λh=>?_) (λh=>?_)|refine And.intro (show 0<=IntKind.i64.wrap (32 * (i:Int)) by rw[aB aa aa];omega) ?_|(refine aG w aj aq ?_;rintro _ ⟨x,rfl,P,J⟩ S)|(refine aD rfl (kM _ k xs U hx Z) ?_;rintro _ ⟨b,Y,rfl,K,w⟩)|exact eL rfl (cv rfl) (cv rfl) ⟨_,_,rfl⟩|(apply aV [1,4,14,15,16] [] [4,16] (λm o=> ∃ (i:Nat) (n:Int),i<=Y.length/\m=Y.length - i/\o=[iV .u64 n,iV .i64 i]) (Y.length) [iV .u64 0,iV .i64 0];(iterate 3 exact ae);exact⟨0,0,aa,rfl,rfl⟩;rintro _ _ ⟨i,n,I,rfl,rfl⟩)|(refine aI [1,4,14,15,16] [] ?_;(conv=>whnf);exact⟨rfl,_,[_,_],⟨i+1,_,aa,rfl,by rw[aB (n:=(i:Int)+1) aa aa];rfl⟩,rfl,rfl,rfl,aa⟩))
abbrev lI(b:Bool)(xs ds:Lz):W:= .agg [.t (tB b),.t (.aO 1 xs),.t (.aO 1 ds)]
def EU(k:Nat)(ts:Lw):Prop:= ∃b o G,ts=[lI b o G]/\(o.length<=k/\Us o)/\G.length<=k/\Us G
def X8(k:Nat)(ts:Lw):Prop:= ∃b o G q,ts=[lI b o G,oB q]/\(o.length<=k/\Us o)/\G.length<=k/\Us G
def gx{r s:Lc}(h:dm r s):dm (.t dw::r) (.t (.aO 1 [])::s):= .cons (.nil 1) h
def iW{c:C}{r s:Lc}(h:dm r s):dm (c::r) (c::s):= .cons (.refl c) h
def Hx(xs:Lz)(hx:Us xs)(U:xs.length<=1000000): ∃ts,Fn Tryz.prog 297 [oL 1 xs,.one (.t dw)] [] (aR ts) []/\(aR ts).cR=true/\oq (λn=>S7 n (nv xs) (nv [])) ts:=
 PW (mh xs [] hx Us.nil U ak) (.cons (Ja.refl _) (.cons (.one (.nil 1)) .nil))
def Cs(k:Nat)(xs:Lz)(U:xs.length<=k)(hx:Us xs)(Z:k<=1000000):Tg 276 [oL 1 xs] GB:=by
 refine aC Tryz.func276 ?_
 repeat' ((conv=>whnf);first|(refine aD rfl (Hx xs hx aa) ?_;rintro _ ⟨n,rfl,_⟩)|exact gB rfl rfl)
def kH(xs:Lz): ∃ts,Fn Tryz.prog 271 [oL 1 xs] [] (aR ts) []/\(aR ts).cR=true/\(λts=>ts=[Tq false xs]) ts:=by
 refine aS ?_;refine aC Tryz.func271 ?_
 repeat' ((conv=>whnf);first|exact nt rfl (cc aIn zIn rfl rfl (ww _) rfl (dm.refl _)) rfl)
def eP(b:Bool)(k:Nat)(xs ds:Lz)(U:xs.length<=k)(hx:Us xs)(r:ds.length<=k)(S:Us ds)(Z:k<=1000000)(J:2<=k):Tg 268 [lI b xs ds] (EU k):=by
 refine aS ?_;refine aC Tryz.func268 ?_
 repeat' ((conv=>whnf);first|refine aP (λh=>?_) (λh=>?_)|(refine aD rfl (Cs k ds r S Z) ?_;rintro _ ⟨q,rfl⟩)|(refine aD rfl (vM 1 aa aa) ?_;rintro _ ⟨Y,rfl,⟨z,A,_⟩,_⟩)|exact nt rfl (cc TF Tj rfl rfl (ww _) rfl (dm.refl _)) ⟨_,xs,ds,rfl,⟨U,hx⟩,r,S⟩|exact nt rfl (cc TF Tj rfl rfl (ww _) rfl (iW (gx (iW .nil)))) ⟨_,[],Y,rfl,⟨ak,Us.nil⟩,aa,A⟩)
def kF(b:Bool)(k:Nat)(xs ds:Lz)(U:xs.length<=k)(hx:Us xs)(r:ds.length<=k)(S:Us ds)(Z:k<=200000)(J:2<=k):Tg 278 [Tq b xs,oL 1 ds] (EU k):=by
 refine aS ?_;refine aC Tryz.func278 ?_
 repeat' ((conv=>whnf);first|(refine aD rfl (JX k xs ds U hx r S Z J) ?_;rintro _ ⟨N,rfl,h,j⟩)|(refine aD rfl (kL k xs N U hx h j Z J) ?_;rintro _ ⟨e,x,ok,rfl,⟨z,A⟩,⟨K,w,_⟩,_⟩)|(refine aD rfl (kL k ds N r S h j Z J) ?_;rintro _ ⟨a,l,n,rfl,⟨O,g⟩,⟨G,L,_⟩,_⟩)|(refine aD rfl (kM _ k e z A aa) ?_;rintro _ ⟨c,F,rfl,R,d⟩)|exact nt rfl (cc TF Tj rfl rfl (ww _) rfl (dm.refl _)) ⟨_,F,a,rfl,⟨R,d⟩,O,g⟩)
def JI(n d:Int):Tg 282 [oI n,oI d] (X8 2):=by
 refine aS ?_;refine aC Tryz.func282 ?_
 repeat' ((conv=>whnf);first|refine aJ (λh=>?_) (λh=>?_)|(refine aD rfl (CQ n) ?_;rintro _ ⟨b,o,rfl,z,A⟩)|(refine aD rfl (CQ d) ?_;rintro _ ⟨c,G,rfl,K,w⟩)|(refine aD rfl (kF _ 2 o G z A K w aa aa) ?_;rintro _ ⟨e,Y,B,rfl,⟨O,g⟩,R,L⟩)|exact eL rfl (cc TF Tj rfl rfl (ww _) rfl (dm.refl _)) (cv rfl) ⟨_,Y,B,_,rfl,⟨O,g⟩,R,L⟩|exact eL rfl (cc TF Tj rfl rfl (ww _) rfl (iW (gx (gx .nil)))) (cv rfl) ⟨_,[],[],_,rfl,⟨ak,Us.nil⟩,ak,Us.nil⟩)
def Ry(b c:Bool)(k:Nat)(xs ds ys es:Lz)(U:xs.length<=k)(hx:Us xs)(r:ds.length<=k)(S:Us ds)(s:ys.length<=k)(hy:Us ys)(v:es.length<=k)(H:Us es)(Z:k<=200000)(J:2<=k):Tg 249 [lI b xs ds,lI c ys es] GI:=by
 refine aC Tryz.func249 ?_
 repeat' ((conv=>whnf);first|refine And.intro ag ?_|(refine aN rfl (eP _ k xs ds U hx r S aa J) ?_;rintro _ ⟨I,a,j,rfl,⟨z,A⟩,K,w⟩)|(refine aN rfl (eP _ k ys es s hy v H aa J) ?_;rintro _ ⟨Q,l,y,rfl,⟨O,g⟩,G,L⟩)|(refine aN rfl (kH y) ?_;rintro _ rfl)|(refine aN rfl (kH j) ?_;rintro _ rfl)|(refine aN rfl (mj _ _ k a y z A G L aa) ?_;rintro _ ⟨D,P,rfl,R,d⟩)|(refine aN rfl (mj _ _ k l j O g K w aa) ?_;rintro _ ⟨B,h,rfl,Y,e⟩)|(refine aN rfl (Kh _ _ (2 * k) P h R d Y e aa) ?_;rintro _ ⟨n,rfl⟩)|exact gI rfl rfl)
def Ru(b:Bool)(k:Nat)(xs ds:Lz)(U:xs.length<=k)(hx:Us xs)(r:ds.length<=k)(S:Us ds)(Z:k<=200000)(J:2<=k):Tg 286 [lI b xs ds] (EU k):=by
 refine aS ?_;refine aC Tryz.func286 ?_
 repeat' ((conv=>whnf);first|refine And.intro ag ?_|(refine aD rfl (eP _ k xs ds U hx r S aa J) ?_;rintro _ ⟨I,a,j,rfl,⟨z,A⟩,K,w⟩)|(refine aN rfl (Kg _ k a z A aa) ?_;rintro _ ⟨D,P,rfl,R,d⟩)|(refine aN rfl (kF _ k P j R d K w Z J) ?_;rintro _ ⟨s,h,c,rfl,⟨Y,e⟩,n,o⟩)|exact nt rfl (cc TF Tj rfl rfl (ww _) rfl (dm.refl _)) ⟨_,h,c,rfl,⟨Y,e⟩,n,o⟩)
def Fh(b c:Bool)(k:Nat)(xs ds ys es:Lz)(U:xs.length<=k)(hx:Us xs)(r:ds.length<=k)(S:Us ds)(s:ys.length<=k)(hy:Us ys)(v:es.length<=k)(H:Us es)(Z:k<=90000)(J:2<=k):Tg 285 [lI b xs ds,lI c ys es] (EU (2 * k+1)):=by
 refine aS ?_;refine aC Tryz.func285 ?_
 repeat' ((conv=>whnf);first|refine And.intro ag ?_|(refine aN rfl (eP _ k xs ds U hx r S aa J) ?_;rintro _ ⟨I,a,j,rfl,⟨z,A⟩,K,w⟩)|(refine aN rfl (eP _ k ys es s hy v H aa J) ?_;rintro _ ⟨Q,l,y,rfl,⟨O,g⟩,G,L⟩)|(refine aN rfl (kH y) ?_;rintro _ rfl)|(refine aN rfl (kH j) ?_;rintro _ rfl)|(refine aN rfl (mj _ _ k a y z A G L aa) ?_;rintro _ ⟨D,P,rfl,R,d⟩)|(refine aN rfl (mj _ _ k l j O g K w aa) ?_;rintro _ ⟨B,h,rfl,Y,u6⟩)|(refine aN rfl (Ki _ _ (2 * k) P h R d Y u6 aa) ?_;rintro _ ⟨n,F,rfl,l7,u7⟩)|(refine aN rfl (mg j y w L aa aa) ?_;rintro _ ⟨x,rfl,⟨l8,u8,_⟩⟩)|(refine aN rfl (kF _ (2 * k+1) F x l7 u7 aa u8 aa aa) ?_;rintro _ ⟨N,M,e,rfl,⟨l9,u9⟩,l10,o⟩)|exact nt rfl (cc TF Tj rfl rfl (ww _) rfl (dm.refl _)) ⟨_,M,e,rfl,⟨l9,u9⟩,l10,o⟩)
def Rt(b c:Bool)(k:Nat)(xs ds ys es:Lz)(U:xs.length<=k)(hx:Us xs)(r:ds.length<=k)(S:Us ds)(s:ys.length<=k)(hy:Us ys)(v:es.length<=k)(H:Us es)(Z:k<=90000)(J:2<=k):Tg 260 [lI b xs ds,lI c ys es] (EU (2 * k+1)):=by
 refine aS ?_;refine aC Tryz.func260 ?_
 repeat' ((conv=>whnf);first|refine And.intro ag ?_|(refine aN rfl (Ru _ k ys es s hy v H aa J) ?_;rintro _ ⟨Q,l,y,rfl,⟨O,g⟩,G,L⟩)|(refine aN rfl (Fh _ _ k xs ds l y U hx r S O g G L Z J) ?_;rintro _ ⟨N,M,e,rfl,⟨n,Y⟩,B,o⟩)|exact nt rfl (cc TF Tj rfl rfl (ww _) rfl (dm.refl _)) ⟨_,M,e,rfl,⟨n,Y⟩,B,o⟩)
def Rw(b c:Bool)(k:Nat)(xs ds ys es:Lz)(U:xs.length<=k)(hx:Us xs)(r:ds.length<=k)(S:Us ds)(s:ys.length<=k)(hy:Us ys)(v:es.length<=k)(H:Us es)(Z:k<=90000)(J:2<=k):Tg 279 [lI b xs ds,lI c ys es] (EU (2 * k)):=by
 refine aS ?_;refine aC Tryz.func279 ?_
 repeat' ((conv=>whnf);first|refine And.intro ag ?_|(refine aN rfl (eP _ k xs ds U hx r S aa J) ?_;rintro _ ⟨I,a,j,rfl,⟨z,A⟩,K,w⟩)|(refine aN rfl (eP _ k ys es s hy v H aa J) ?_;rintro _ ⟨Q,l,y,rfl,⟨O,g⟩,G,L⟩)|(refine aN rfl (mj _ _ k a l z A O g aa) ?_;rintro _ ⟨D,P,rfl,R,d⟩)|(refine aN rfl (mg j y w L aa aa) ?_;rintro _ ⟨x,rfl,⟨h,u8,_⟩⟩)|(refine aN rfl (kF _ (2 * k) P x R d aa u8 aa aa) ?_;rintro _ ⟨N,M,e,rfl,⟨n,Y⟩,B,o⟩)|exact nt rfl (cc TF Tj rfl rfl (ww _) rfl (dm.refl _)) ⟨_,M,e,rfl,⟨n,Y⟩,B,o⟩)
def Rx(b c:Bool)(k:Nat)(xs ds ys es:Lz)(U:xs.length<=k)(hx:Us xs)(r:ds.length<=k)(S:Us ds)(s:ys.length<=k)(hy:Us ys)(v:es.length<=k)(H:Us es)(Z:k<=90000)(J:2<=k):Tg 255 [lI b xs ds,lI c ys es] (X8 (2 * k)):=by
 refine aS ?_;refine aC Tryz.func255 ?_
 repeat' ((conv=>whnf);first|refine aP (λh=>?_) (λh=>?_)|refine And.intro ag ?_|(refine aN rfl (eP _ k xs ds U hx r S aa J) ?_;rintro _ ⟨I,a,j,rfl,⟨z,A⟩,K,w⟩)|(refine aN rfl (eP _ k ys es s hy v H aa J) ?_;rintro _ ⟨Q,l,y,rfl,⟨O,g⟩,G,L⟩)|(refine aD rfl (Cs k l O g aa) ?_;rintro _ ⟨q,rfl⟩)|(refine aN rfl (mg a y A L aa aa) ?_;rintro _ ⟨F,rfl,⟨D,d,_⟩⟩)|(refine aN rfl (mg j l w g aa aa) ?_;rintro _ ⟨x,rfl,⟨P,u8,_⟩⟩)|(refine aN rfl (kF _ (2 * k) F x aa d aa u8 aa aa) ?_;rintro _ ⟨N,M,e,rfl,⟨n,Y⟩,B,o⟩)|exact eL rfl (cc TF Tj rfl rfl (ww _) rfl (dm.refl _)) (cv rfl) ⟨_,M,e,_,rfl,⟨n,Y⟩,B,o⟩|exact eL rfl (cc TF Tj rfl rfl (ww _) rfl (iW (gx (gx .nil)))) (cv rfl) ⟨_,[],[],_,rfl,⟨ak,Us.nil⟩,ak,Us.nil⟩)
def JH(b:Bool)(k:Nat)(xs ds:Lz)(U:xs.length<=k)(hx:Us xs)(r:ds.length<=k)(S:Us ds)(Z:k<=90000)(J:2<=k):Tg 284 [lI b xs ds] (GIn (k+2)):=by
 refine aS ?_;refine aC Tryz.func284 ?_
 repeat' ((conv=>whnf);first|refine And.intro ag ?_|(refine aD rfl (eP _ k xs ds U hx r S aa J) ?_;rintro _ ⟨I,a,j,rfl,⟨z,A⟩,K,w⟩)|(refine aD rfl (oC a a A A aa aa) ?_;rintro _ ⟨l,rfl,⟨O,g,_⟩⟩)|(refine aN rfl (oC l j g w aa aa) ?_;rintro _ ⟨P,rfl,⟨G,L,_⟩⟩)|(refine aN rfl (oC j j w w aa aa) ?_;rintro _ ⟨h,rfl,⟨R,d,_⟩⟩)|(refine aN rfl (kL (k+2) P h aa L aa d aa aa) ?_;rintro _ ⟨N,x,ok,rfl,⟨Y,e⟩,⟨n,o,_⟩,_⟩)|(refine aD rfl (kM _ (k+2) N Y e aa) ?_;rintro _ ⟨c,F,rfl,s,u8⟩)|exact nt rfl (cc aIn zIn rfl rfl (ww _) rfl (dm.refl _)) ⟨_,F,rfl,s,u8⟩)
def aPt:lc Tryz.prog 383=some true:=ag
def zPt:dc Tryz.prog 383=some 6:=ag
abbrev fh(k:Nat)(xs ds:Lz):Prop:=(xs.length<=k/\Us xs)/\ds.length<=k/\Us ds
def kI{k m:Nat}(h:fh k xs ds)(Z:k<=m):fh m xs ds:=⟨⟨by have:=h.1.1;omega,h.1.2⟩,by have:=h.2.1;omega,h.2.2⟩
abbrev S6(f:Nat)(us:Lw)(G:Lw->Prop):Prop:= ∃Z,Fn Tryz.prog f us [] (aR Z) []/\(aR Z).cR=true/\G Z
def aBr{k:Nat}{b c:Bool}(h:fh k xs ds)(g:fh k ys es)(Z:k<=90000)(J:2<=k):S6 285 [lI b xs ds,lI c ys es] (EU (2 * k+1)):=Fh b c k xs ds ys es h.1.1 h.1.2 h.2.1 h.2.2 g.1.1 g.1.2 g.2.1 g.2.2 Z J
def anZ{k:Nat}{b c:Bool}(h:fh k xs ds)(g:fh k ys es)(Z:k<=90000)(J:2<=k):S6 260 [lI b xs ds,lI c ys es] (EU (2 * k+1)):=Rt b c k xs ds ys es h.1.1 h.1.2 h.2.1 h.2.2 g.1.1 g.1.2 g.2.1 g.2.2 Z J
def abG{k:Nat}{b c:Bool}(h:fh k xs ds)(g:fh k ys es)(Z:k<=90000)(J:2<=k):S6 279 [lI b xs ds,lI c ys es] (EU (2 * k)):=Rw b c k xs ds ys es h.1.1 h.1.2 h.2.1 h.2.2 g.1.1 g.1.2 g.2.1 g.2.2 Z J
def aIc{k:Nat}{b c:Bool}(h:fh k xs ds)(g:fh k ys es)(Z:k<=90000)(J:2<=k):S6 255 [lI b xs ds,lI c ys es] (X8 (2 * k)):=Rx b c k xs ds ys es h.1.1 h.1.2 h.2.1 h.2.2 g.1.1 g.1.2 g.2.1 g.2.2 Z J
def aoA{k:Nat}{b:Bool}(h:fh k xs ds)(Z:k<=90000)(J:2<=k):S6 284 [lI b xs ds] (GIn (k+2)):=JH b k xs ds h.1.1 h.1.2 h.2.1 h.2.2 Z J
abbrev LH(b:Bool)(xs ds:Lz)(c:Bool)(ys es:Lz):W:= .agg [.t (tB b),.t (.aO 1 xs),.t (.aO 1 ds),.t (tB c),.t (.aO 1 ys),.t (.aO 1 es)]
def GPt(k:Nat)(ts:Lw):Prop:= ∃b o G c Y B,ts=[LH b o G c Y B]/\fh k o G/\fh k Y B
def aLJ(k:Nat)(ts:Lw):Prop:= ∃b o G c Y B n,ts=[LH b o G c Y B,oI n]/\fh k o G/\fh k Y B
def ajK(k:Nat):fh k [] []:=⟨⟨ak,Us.nil⟩,ak,Us.nil⟩
def UW(x y:Int):Tg 258 [oI x,oI y] (GPt 2):=by
 refine aS ?_;refine aC Tryz.func258 ?_
 repeat' ((conv=>whnf);first|(refine aD rfl (JI x 1) ?_;rintro _ ⟨b,o,G,q,rfl,O⟩)|(refine aD rfl (JI y 1) ?_;rintro _ ⟨c,L,B,q2,rfl,Y⟩)|exact nt rfl (cc aPt zPt rfl rfl (ww _) rfl (dm.refl _)) ⟨_,o,G,_,L,B,rfl,O,Y⟩)
def RB(k:Nat)(b:Bool)(xs ds:Lz)(c:Bool)(ys es:Lz)(K:Bool)(xs' s:Lz)(c':Bool)(d es':Lz)(O:fh k xs ds)(Y:fh k ys es)(B:fh k xs' s)(g:fh k d es')(Z:k<=90000)(J:2<=k):Tg 280 [LH b xs ds c ys es,LH K xs' s c' d es'] (GPt (2 * k+1)):=by
 refine aS ?_;refine aC Tryz.func280 ?_
 repeat' ((conv=>whnf);first|refine And.intro ag ?_|(refine aN rfl (aBr O B Z J) ?_;rintro _ ⟨n,F,w,rfl,U⟩)|(refine aN rfl (aBr Y g Z J) ?_;rintro _ ⟨L,x,j,rfl,R⟩)|exact nt rfl (cc aPt zPt rfl rfl (ww _) rfl (dm.refl _)) ⟨_,F,w,_,x,j,rfl,U,R⟩)
def pZ(k:Nat)(b:Bool)(xs ds:Lz)(c:Bool)(ys es:Lz)(K:Bool)(xs' s:Lz)(c':Bool)(d es':Lz)(O:fh k xs ds)(Y:fh k ys es)(B:fh k xs' s)(g:fh k d es')(Z:k<=90000)(J:2<=k):Tg 224 [LH b xs ds c ys es,LH K xs' s c' d es'] (GPt (2 * k+1)):=by
 refine aS ?_;refine aC Tryz.func224 ?_
 repeat' ((conv=>whnf);first|refine And.intro ag ?_|(refine aN rfl (anZ O B Z J) ?_;rintro _ ⟨n,F,w,rfl,U⟩)|(refine aN rfl (anZ Y g Z J) ?_;rintro _ ⟨L,x,j,rfl,R⟩)|exact nt rfl (cc aPt zPt rfl rfl (ww _) rfl (dm.refl _)) ⟨_,F,w,_,x,j,rfl,U,R⟩)
def JL(k:Nat)(b:Bool)(xs ds:Lz)(c:Bool)(ys es:Lz)(K:Bool)(xs' s:Lz)(O:fh k xs ds)(Y:fh k ys es)(B:fh k xs' s)(Z:k<=90000)(J:2<=k):Tg 281 [LH b xs ds c ys es,lI K xs' s] (GPt (2 * k)):=by
 refine aS ?_;refine aC Tryz.func281 ?_
 repeat' ((conv=>whnf);first|refine And.intro ag ?_|(refine aN rfl (abG O B Z J) ?_;rintro _ ⟨n,F,w,rfl,U⟩)|(refine aN rfl (abG Y B Z J) ?_;rintro _ ⟨L,x,j,rfl,R⟩)|exact nt rfl (cc aPt zPt rfl rfl (ww _) rfl (dm.refl _)) ⟨_,F,w,_,x,j,rfl,U,R⟩)
def Ab(k:Nat)(b:Bool)(xs ds:Lz)(c:Bool)(ys es:Lz)(K:Bool)(xs' s:Lz)(c':Bool)(d es':Lz)(O:fh k xs ds)(Y:fh k ys es)(B:fh k xs' s)(g:fh k d es')(Z:k<=40000)(J:2<=k):Tg 256 [LH b xs ds c ys es,LH K xs' s c' d es'] (EU (4 * k+1)):=by
 refine aS ?_;refine aC Tryz.func256 ?_
 repeat' ((conv=>whnf);first|refine And.intro ag ?_|(refine aN rfl (abG O g aa J) ?_;rintro _ ⟨n,F,w,rfl,U⟩)|(refine aN rfl (abG Y B aa J) ?_;rintro _ ⟨L,x,j,rfl,R⟩)|(refine aN rfl (anZ U R aa aa) ?_;rintro _ ⟨N,M,e,rfl,v⟩)|exact nt rfl (cc TF Tj rfl rfl (ww _) rfl (dm.refl _)) ⟨_,M,e,rfl,kI v aa⟩)
def UU(k:Nat)(b:Bool)(xs ds:Lz)(c:Bool)(ys es:Lz)(K:Bool)(xs' s:Lz)(c':Bool)(d es':Lz)(r:Bool)(D h:Lz)(O:fh k xs ds)(Y:fh k ys es)(B:fh k xs' s)(g:fh k d es')(U:fh k D h)(Z:k<=10000)(J:2<=k):Tg 257 [LH b xs ds c ys es,LH K xs' s c' d es',lI r D h] (GPt (8 * k+5)):=by
 refine aS ?_;refine aC Tryz.func257 ?_
 repeat' ((conv=>whnf);first|refine And.intro ag ?_|(refine aN rfl (pZ k _ _ _ _ _ _ _ _ _ _ _ _ B g O Y aa J) ?_;rintro _ ⟨n,F,w,H,S,v,rfl,g1,g2⟩)|(refine aN rfl (JL (2 * k+1) _ _ _ _ _ _ _ _ _ g1 g2 (kI U aa) aa aa) ?_;rintro _ ⟨L,x,j,G,I,l,rfl,z,o⟩)|(refine aN rfl (RB (4 * k+2) _ _ _ _ _ _ _ _ _ _ _ _ (kI O aa) (kI Y aa) (kI z aa) (kI o aa) aa aa) ?_;rintro _ ⟨N,M,e,P,Q,A,rfl,a,y⟩)|exact nt rfl (cc aPt zPt rfl rfl (ww _) rfl (dm.refl _)) ⟨_,M,e,_,Q,A,rfl,kI a aa,kI y aa⟩)
def Mv(I:Bool)(a j:Lz)(g:Bool)(A H:Lz)(Q:Bool)(l y:Lz)(K:Bool)(B o:Lz)(D:Bool)(P d3:Lz)(Y:Bool)(O G:Lz)(s:Bool)(b d4:Lz)(z:Bool)(N e:Lz)(c:fh 2 a j)(q1:fh 2 A H)(r:fh 2 l y)(q2:fh 2 B o)(Z:fh 2 P d3)(q3:fh 2 O G)(p4:fh 2 b d4)(q4:fh 2 N e):Tg 221 [LH I a j g A H,LH Q l y K B o,LH D P d3 Y O G,LH s b d4 z N e] (aLJ 341):=by
 refine aS ?_;refine aC Tryz.func221 ?_
 repeat' ((conv=>whnf);first|refine aP (λh=>?_) (λh=>?_)|refine And.intro ag ?_|(refine aD rfl (pZ 2 _ _ _ _ _ _ _ _ _ _ _ _ p4 q4 Z q3 aa aa) ?_;rintro _ ⟨n,F,w,c5,S,v,rfl,p5,q5⟩)|(refine aN rfl (pZ 2 _ _ _ _ _ _ _ _ _ _ _ _ Z q3 c q1 aa aa) ?_;rintro _ ⟨L,x,J,c6,y6,U,rfl,p6,q6⟩)|(refine aN rfl (pZ 2 _ _ _ _ _ _ _ _ _ _ _ _ r q2 c q1 aa aa) ?_;rintro _ ⟨d,M,R,c7,y7,e7,rfl,p7,q7⟩)|(refine aN rfl (Ab 5 _ _ _ _ _ _ _ _ _ _ _ _ p6 q6 p5 q5 aa aa) ?_;rintro _ ⟨b8,x8,d8,rfl,p8⟩)|(refine aN rfl (Ab 5 _ _ _ _ _ _ _ _ _ _ _ _ p7 q7 p5 q5 aa aa) ?_;rintro _ ⟨b9,x9,d9,rfl,p9⟩)|(refine aN rfl (aIc p8 p9 aa aa) ?_;rintro _ ⟨b10,x10,d10,ok,rfl,p10⟩)|(refine aD rfl (UU 42 _ _ _ _ _ _ _ _ _ _ _ _ _ _ _ (kI c aa) (kI q1 aa) (kI r aa) (kI q2 aa) p10 aa aa) ?_;rintro _ ⟨b11,x11,d11,c11,y11,e11,rfl,p11,q11⟩)|exact eL rfl (cc aPt zPt rfl rfl (ww _) rfl (dm.refl _)) (cv rfl) ⟨_,x11,d11,_,y11,e11,_,rfl,p11,q11⟩|exact eL rfl (cc aPt zPt rfl rfl (ww _) rfl (iW (gx (gx (iW (gx (gx .nil))))))) (cv rfl) ⟨_,[],[],_,[],[],_,rfl,ajK _,ajK _⟩)
def pY(k:Nat)(b:Bool)(xs ds:Lz)(O:fh k xs ds)(Z:k<=90000)(J:2<=k):Tg 259 [lI b xs ds] GIB:=by
 refine aS ?_;refine aC Tryz.func259 ?_
 repeat' ((conv=>whnf);first|refine bZz (λh=>?_) (λh=>?_)|(refine aD rfl (aoA O Z J) ?_;rintro _ ⟨c,Y,rfl,z,A⟩)|(refine aD rfl (Er _ (k+2) Y z A aa) ?_;rintro _ ⟨n,q,rfl⟩)|exact eL rfl (cv rfl) (cv rfl) ⟨_,_,rfl⟩)
def aEC(ts:Lw):Prop:= ∃s n,ts=[lH s,oI n]
def Mw(k:Nat)(b:Bool)(xs ds:Lz)(c:Bool)(ys es:Lz)(O:fh k xs ds)(Y:fh k ys es)(Z:k<=90000)(J:2<=k):Tg 223 [LH b xs ds c ys es] aEC:=by
 refine aS ?_;refine aC Tryz.func223 ?_
 repeat' ((conv=>whnf);first|refine aP (λh=>?_) (λh=>?_)|(refine aD rfl (pY k _ _ _ O Z J) ?_;rintro _ ⟨n,q,rfl⟩)|(refine aD rfl (pY k _ _ _ Y Z J) ?_;rintro _ ⟨n,q,rfl⟩)|exact eL rfl (cc aSp zSp rfl rfl (ww _) rfl (dm.refl _)) (cv rfl) ⟨(_,_),_,rfl⟩)
def NoE(xs:Lz)(e:Lt)(i:Nat):Prop:= ∀j,j < i->xs[j]? ≠some e
def NoE.succ{i:Nat}(h:NoE xs e i)(S:xs[i]? =some J)(P:J≠e):NoE xs e (i+1):=by
 intro j Q H
 by_cases v:j=i
 . subst v;rw[S]at H;exact P (aa5 H)
 . exact h j aa H
def NoE.all{i:Nat}(h:NoE xs e i)(I:xs.length<=i):e∉xs:=by
 intro H;obtain⟨j,Q,rfl⟩:=aa3 H;exact h j aa Fc
def Vb(h:(a==c&& (b==d&&true))=false):([tI c,tI d]:Lt)≠ [tI a,tI b]:=by
 intro H;simp only[aaz,T.val.injEq,Value.int.injEq,true_and,and_true]at H;simp[H.1,H.2]at h
def RNo(xs:Lz)(e:Lt)(m:Nat)(vs:List V):Prop:= ∃i:Nat,i<=xs.length/\NoE xs e i/\m=xs.length - i/\vs=[iV .i64 (i:Int)]
def RNo.next{i:Nat}(h:i < xs.length)(U:xs.length<=1000000)(w:NoE xs e i)(S:xs[((i:Int)).toNat]? =some J)(P:J≠e):RNo xs e (xs.length - (i+1)) [iV .i64 (IntKind.i64.wrap ((i:Int)+1))]:=
 ⟨i+1,h,w.succ aA P,rfl,by rw[aB aa aa];rfl⟩
def VG(xs:Lz)(a b:Int)(hx:cO xs)(U:xs.length<=1000000):Tg 234 [oL 2 xs,lH (a,b)] (oq (λn=> -1<=n/\(n < 0->[tI a,tI b]∉xs))):=by
 refine aC Tryz.func234 ?_
 repeat' ((conv=>whnf);first|refine bZz (λh=>?_) (λh=>?_)|(refine aG hx aj aq ?_;rintro _ ⟨c,d,rfl⟩ S)|refine And.intro ag ?_|(refine jX rfl rfl ⟨aa,λh=>?_⟩;first|(exfalso;omega)|exact w.all aa)|(apply aV [0,3,7,8] [] [8] (RNo xs [tI a,tI b]) (xs.length) [iV .i64 0];(iterate 3 exact ae);exact⟨0,aa,λj Q=>by omega,rfl,rfl⟩;rintro _ _ ⟨i,I,w,rfl,rfl⟩)|(refine aI [0,3,7,8] [] ?_;(conv=>whnf);exact⟨rfl,_,[_],RNo.next aa U w S (Vb h),rfl,rfl,rfl,aa⟩))
def K9(xs:Lz)(a b:Int)(hx:cO xs)(U:xs.length<=1000000):Tg 189 [oL 2 xs,lH (a,b)] (GBq ([tI a,tI b]∉xs)):=by
 refine aC Tryz.func189 ?_
 repeat' ((conv=>whnf);first|(refine aD rfl (VG xs _ _ hx U) ?_;rintro _ ⟨n,rfl,d,K⟩)|exact gBq rfl rfl (λh=>K bc))
def TI(xs:Lz)(n:Nat):Prop:= ∀j e,j < n->xs[j]? =some e->e∉xs.take j
def TI.succ{i:Nat}(h:TI xs i)(S:xs[i]? =some e)(K:e∉xs.take i):TI xs (i+1):=by
 intro j J Q H
 by_cases v:j=i
 . subst v;rw[S]at H;rw[<-aa5 H];exact K
 . exact h j J aa H
def ahX(xs:Lz)(m:Nat)(vs:List V):Prop:= ∃i:Nat,i<=xs.length/\TI xs i/\m=xs.length - i/\vs=[iV .i64 (i:Int)]
def ahX.next{i:Nat}(h:i < xs.length)(U:xs.length<=1000000)(w:TI xs i)(S:xs[((i:Int)).toNat]? =some e)(P:e∉ (xs.drop 0).take ((i:Int).toNat - 0)):ahX xs (xs.length - (i+1)) [iV .i64 (IntKind.i64.wrap ((i:Int)+1))]:=
 ⟨i+1,h,w.succ aA (by simpa using P),rfl,by rw[aB aa aa];rfl⟩
def GBt(p:Prop)(ts:Lw):Prop:= ∃b,ts=[.one (.t (.val (.bool b)))]/\(b=true->p)
def Wn{P:Program}{rs:List ResultVar}{tm:TS}{hp:HS}{t:Nat}{b:Bool}{p:Prop}(J:rs=[.tmp t])(h:find tm t=some (bV b))(hp2:b=true->p): ∃us ts,bg P hp tm rs=some us/\bB (bM hp) us=some ts/\GBt p ts:=g1 J h ⟨b,rfl,hp2⟩
def agJ{i:Nat}(h:TI xs i)(I:xs.length<=i):TI xs xs.length:=λj e Q H=>h j e aa H
def Mg(xs:Lz)(hx:cO xs)(U:xs.length<=1000000):Tg 142 [oL 2 xs] (GBt (TI xs xs.length)):=by
 refine aC Tryz.func142 ?_
 repeat' ((conv=>whnf);first|refine bZz (λh=>?_) (λh=>?_)|refine cT aa aa ?_|(refine aG hx aj aq ?_;rintro _ ⟨a,b,rfl⟩ S)|refine And.intro ag ?_|refine And.intro aa ?_|(refine aN rfl (K9 _ _ _ (dH hx _ _) (jt U _ _)) ?_;rintro _ ⟨g,rfl,D⟩)|(refine aN rfl (sI (_,_) (_,_) (_,_)) ?_;rintro _ ⟨b,rfl⟩)|(refine aN rfl (wX (_,_) (_,_) (_,_) (_,_)) ?_;rintro _ ⟨b,rfl⟩)|(refine Wn rfl rfl ?_;first|(intro _;exact agJ w aa)|(intro R;exact absurd R ak))|(apply aV [0,3,6,7,8,9,25,26,27] [] [9] (λm o=> ∃j:Nat,i+2<=j/\m=xs.length+2 - j/\j<=xs.length+2/\o=[iV .i64 j]) (xs.length - i) [iV .i64 (IntKind.i64.wrap ((i:Int)+2))];(iterate 3 exact ae);exact⟨i+2,aa,aa,aa,by rw[aB aa aa];rfl⟩;rintro _ _ ⟨j,Q,rfl,n,rfl⟩)|(refine aI [0,3,6,7,8,9,25,26,27] [] ?_;(conv=>whnf);exact⟨rfl,_,[_],⟨j+1,aa,rfl,aa,by rw[aB aa aa];rfl⟩,rfl,rfl,rfl,aa⟩)|(apply aV [0,3,25,26,27] [] [27] (RI xs.length) (xs.length) [iV .i64 0];(iterate 3 exact ae);exact RI.zero;rintro _ _ ⟨i,I,rfl,rfl⟩)|(refine aI [0,3,25,26,27] [] ?_;(conv=>whnf);exact⟨rfl,_,[_],RI.succ (N:=xs.length) (i:=i) aa bq,rfl,rfl,rfl,aa⟩)|(apply aV [0,3,12,13,14] [] [14] (ahX xs) (xs.length) [iV .i64 0];(iterate 3 exact ae);exact⟨0,aa,λj e Q=>by omega,rfl,rfl⟩;rintro _ _ ⟨i,I,w,rfl,rfl⟩)|(refine aI [0,3,12,13,14] [] ?_;(conv=>whnf);exact⟨rfl,_,[_],ahX.next aa U w S (D Vn),rfl,rfl,rfl,aa⟩))
def DN(xs:Lz):Prop:=X2 xs/\TI xs xs.length
def gv(xs:Lz)(hx:cO xs)(U:xs.length<=1000000):Tg 103 [oL 2 xs] (oq (λn=>n=0->DN xs)):=by
 refine aC Tryz.func103 ?_
 repeat' ((conv=>whnf);first|refine bZz (λh=>?_) (λh=>?_)|(refine aD rfl (fq _ akY Fu xs hx U) ?_;rintro _ ⟨c,rfl,D⟩)|(refine aD rfl (Mg xs hx U) ?_;rintro _ ⟨d,rfl,S⟩)|(refine jX rfl rfl (λz=>?_);first|(exfalso;omega)|exact⟨⟨aa,aa,D Vn⟩,S Vn⟩))
def AN(xs:Lz)(hx:cO xs)(G:40 < xs.length):Tg 216 [oL 2 xs] (oq (λn=>n=0->gX xs)):=by
 refine aC Tryz.func216 ?_
 repeat' ((conv=>whnf);first|refine aJ (λh=>?_) (λh=>?_)|(refine jX rfl rfl (λz=>?_);exfalso;omega)|(exfalso;omega))
def rC(xs:Lz)(hx:cO xs):S6 216 [oL 2 xs] (oq (λn=>n=0->gX xs)):=by
 by_cases h:xs.length<=1000000
 . exact Cw xs hx h
 . exact AN xs hx aa
def UB(x:Int):IntKind.i64.wrap (1000000 * x)<=9223372036854775806:=by
 simp only[IntKind.wrap,IntKind.bits,IntKind.signed,afm];split
 . rename_i h;simp at h⊢;omega
 . rename_i h;simp at h⊢;omega
def yT(p q:Sp):Tg 261 [lH p,lH q] GI:=by
 refine aC Tryz.func261 ?_
 repeat' ((conv=>whnf);first|refine And.intro ag ?_|(refine aD rfl (Ee _ (UB _)) ?_;rintro _ ⟨n,rfl⟩)|exact gI rfl rfl)
def GIE(p:Prop)(ts:Lw):Prop:= ∃n e,ts=[oI n,oI e]/\(e=0->p)
def HG{i:Nat}(R:gX xs)(h:(i:Int) < IntKind.i64.wrap ((xs.length:Int) - 1)):(i:Int) < (xs.length:Int)/\0<=IntKind.i64.wrap ((i:Int)+1)/\IntKind.i64.wrap ((i:Int)+1) < (xs.length:Int):=by
 have O:=R.1;have Y:=R.2.1;rw[bF (n:=(xs.length:Int) - 1) aa aa]at h;rw[bF (n:=(i:Int)+1) aa aa];omega
def ia(xs:Lz)(hx:cO xs):Tg 226 [oL 2 xs] (GIE (gX xs)):=by
 refine aS ?_;refine aC Tryz.func226 ?_
 repeat' ((conv=>whnf);first|refine bZz (λh=>?_) (λh=>?_)|(refine aG hx (n:=(i:Int)) aa (HG (H aa) h).1 ?_;rintro _ ⟨a,b,rfl⟩ S)|(refine aG hx (HG (H aa) h).2.1 (HG (H aa) h).2.2 ?_;rintro _ ⟨a,b,rfl⟩ S)|refine And.intro ag ?_|(refine aD rfl (rC xs hx) ?_;rintro _ ⟨e,rfl,H⟩)|(refine aN rfl (yT (_,_) (_,_)) ?_;rintro _ ⟨n,rfl⟩)|exact eL rfl (cv rfl) (cv rfl) ⟨_,_,rfl,λz=>H aa⟩|(apply aV [0,5,14,15] [] [5,15] (λm o=> ∃ (i:Nat) (s:Int),i<=(IntKind.i64.wrap ((xs.length:Int) - 1)).toNat/\m=(IntKind.i64.wrap ((xs.length:Int) - 1)).toNat - i/\o=[iV .i64 s,iV .i64 i]) ((IntKind.i64.wrap ((xs.length:Int) - 1)).toNat) [iV .i64 0,iV .i64 0];(iterate 3 exact ae);exact⟨0,0,aa,rfl,rfl⟩;rintro _ _ ⟨i,s,I,rfl,rfl⟩)|(refine aI [0,5,14,15] [] ?_;(conv=>whnf);exact⟨rfl,_,[_,_],⟨i+1,_,aa,rfl,by have:=zR ((xs.length:Int) - 1);rw[aB (n:=(i:Int)+1) aa aa];rfl⟩,rfl,rfl,rfl,aa⟩))
def auI(e:Lt):Prop:= ∃s o,e=[.val (.string s),.aO 2 o]/\s.size<=maxLen/\cO o/\o.length<=maxLen
abbrev kz(es:Lz):Prop:= ∀e,e∈es->auI e
abbrev oEx(s:ByteArray):W:= .agg [.t (tI 2),.t (tB false),.t dw,.t dw,.t (.val (.string s)),.t dw]
def zp(k:Int): ∃ts,Fn Tryz.prog 289 [oI k] [] (aR ts) []/\(aR ts).cR=true/\(λts=> ∃a b,ts=[oI a,oI b]) ts:=by
 refine aS ?_;refine aC Tryz.func289 ?_
 repeat' ((conv=>whnf);first|refine aJ (λh=>?_) (λh=>?_)|exact eL rfl (cv rfl) (cv rfl) ⟨_,_,rfl⟩)
def JJ:S6 249 [.agg [.t (tB false),.t dw,.t dw],.agg [.t (tB false),.t dw,.t dw]] GI:=
 PW (Ry false false 2 [] [] [] [] ak Us.nil ak Us.nil ak Us.nil ak Us.nil aa aa) (.cons (.agg (iW (gx (gx .nil)))) (.cons (.agg (iW (gx (gx .nil)))) .nil))
def Ez(s:ByteArray)(S:s.size<=maxLen):Tg 264 [oEx s] GB:=by
 refine aC Tryz.func264 ?_
 repeat' ((conv=>whnf);first|refine bZz (λh=>?_) (λh=>?_)|(refine aD rfl (zp _) ?_;rintro _ ⟨a,b,rfl⟩)|(refine aD rfl (Dc s S) ?_;rintro _ ⟨b,rfl⟩)|(refine aD rfl (JJ) ?_;rintro _ ⟨n,rfl⟩)|exact gB rfl rfl)
def EA(s:ByteArray)(S:s.size<=maxLen)(l:Int):Tg 229 [oEx s,oI l] GI:=by
 refine aC Tryz.func229 ?_
 repeat' ((conv=>whnf);first|refine bZz (λh=>?_) (λh=>?_)|(refine aD rfl (Ez s S) ?_;rintro _ ⟨b,rfl⟩)|exact gI rfl rfl|(apply aV [1,14,15,16] [] [16] (RI 0) (0) [iV .i64 0];(iterate 3 exact ae);exact RI.zero;rintro _ _ ⟨i,I,rfl,rfl⟩))
def pB(s:ByteArray)(S:s.size<=maxLen):Tg 181 [oEx s] GI:=by
 refine aC Tryz.func181 ?_
 repeat' ((conv=>whnf);first|(refine aD rfl (EA s S _) ?_;rintro _ ⟨b,rfl⟩)|exact gI rfl rfl)
def CD(s:ByteArray)(S:s.size<=maxLen):Tg 215 [oS s] GB:=by
 refine aC Tryz.func215 ?_
 repeat' ((conv=>whnf);first|(refine aD rfl (pB s S) ?_;rintro _ ⟨b,rfl⟩)|exact gB rfl rfl)
def wH(s:ByteArray)(S:s.size<=maxLen):Tg 157 [oS s] GB:=by
 refine aC Tryz.func157 ?_
 repeat' ((conv=>whnf);first|(refine aD rfl (pB s S) ?_;rintro _ ⟨b,rfl⟩)|exact gB rfl rfl)
def amQ{l h:Nat}{K:C->Prop}(O:l < h)(Y:h<=xs.length)(Z:∀y ys,(xs.drop l).take (h - l)=y::ys->K (.t (.aO sz (y::ys)))):(l<=h/\h<=xs.length)/\xS (.t (.aO sz xs)) l h K:=by
 refine cT aa Y ?_;have n:((xs.drop l).take (h - l)).length=h - l:=by simp;omega
 match hm:(xs.drop l).take (h - l)with
 | []=>rw[hm]at n;simp at n;omega
 |y::ys=>exact Z y ys hm
def ln(e:Lt):Nat:=
 match e with
 | [_,.aO _ o]=>o.length - 1|_=>0
def kX:Lz->Nat
 | []=>0|e::r=>ln e+kX r
def Fy:∀ (es:Lz) (e:Lt),kX (es++[e])=kX es+ln e
 | [],e=>by simp[kX]
 |x::r,e=>by simp only[ab8,kX,Fy r e];omega
def Fx{i:Nat}(h:es[i]? =some e):kX (es.take (i+1))=kX (es.take i)+ln e:=by
 rw[lD h,Fy]
def vt(e:Lt):Lz:=
 match e with
 | [_,.aO _ o]=>o.take (o.length - 1)|_=>[]
def jJ:Lz->Lz
 | []=>[]|e::r=>vt e++jJ r
def BX:∀ (es:Lz) (e:Lt),jJ (es++[e])=jJ es++vt e
 | [],e=>by simp[jJ]
 |x::r,e=>by simp only[ab8,jJ,BX r e,aaQ]
def L5{i:Nat}(h:es[i]? =some e):jJ (es.take (i+1))=jJ (es.take i)++vt e:=by
 rw[lD h,BX]
def LB(e:Lt):Prop:= ∃s o,e=[.val (.string s),.aO 2 o]/\gX o
def Vs:∀ {es:Lz},(∀e,e∈es->LB e)->kX es<=39 * es.length
 | [],_=>by simp[kX]
 |e::r,h=>by
  obtain⟨s,o,rfl,U⟩:=h e aa1;have O:=U.2.1;have:=Vs (es:=r) (λq d=>h q (aa2 _ d));simp only[kX,ln,aaa];omega
def gX.Ma(h:gX xs):cO xs:=λe H=>by
 obtain⟨a,b,rfl,_⟩:=h.2.2 e H;exact⟨a,b,rfl⟩
def RVt(es:Lz)(m:Nat)(F:List V)(w:List (Lz)):Prop:= ∃ (i:Nat) (M:Lz),i<=es.length/\m=es.length - i/\F=[bD 4 2 M.length,iV .i64 (i:Int)]/\w=[M]/\M.length=kX (es.take i)/\cO M/\M=jJ (es.take i)
def RVt.next{i k:Nat}{y:Lt}(I:(i:Int) < (es.length:Int))(H:es.length<=16)(S:es[((i:Int)).toNat]? =some [.val (.string s),.aO 2 xs])(U:gX xs)(A:zs.length=kX (es.take i))(B:cO zs)(z:zs=jJ (es.take i))
 (D:(xs.drop 0).take ((IntKind.i64.wrap ((xs.length:Int) - 1)).toNat - 0)=y::ys) (Z:k=zs.length+(ys.length+1)):RVt es (es.length - (i+1)) [bD 4 2 k,iV .i64 (IntKind.i64.wrap ((i:Int)+1))] [zs++y::ys]:=by
 have O:=U.1;have Y:=U.2.1
 have P:xs.take (xs.length - 1)=y::ys:=by
  rw[bF aa aa]at D;simpa using D
 have n:ys.length+1=xs.length - 1:=by
  have:=congrArg List.length P;simp at this;omega
 refine⟨i+1,_,aa,rfl,by rw[bF aa aa,Z];simp[ab3],rfl,?_,?_,?_⟩
 . rw[Fx aA];simp only[ln,XV,aaa];omega
 . intro e d;simp only[yl]at d;rcases d with d|d
   . exact B e d
   . rw[<-P]at d;exact U.Ma e (aah d)
 . rw[L5 aA,z];simp only[vt,P]
def za(h:∀e,e∈es->LB e)(i:Nat)(U:es.length<=16):kX (es.take i)<=640:=by
 have:=Vs (es:=es.take i) (λe H=>h e (aah H));have Y:(es.take i).length<=es.length:=by simp;omega
 omega
def atB{y:Lt}{i:Nat}(A:zs.length=kX (es.take i))(G:kX (es.take i)<=640)(D:(xs.drop 0).take ((IntKind.i64.wrap ((xs.length:Int) - 1)).toNat - 0)=y::ys)(R:gX xs):
 zs.length=(tr zs).length/\((tr zs).length+((ys.map λe=>e.map C.t).length+1)) * 16<=bh/\(tr zs).length+((ys.map λe=>e.map C.t).length+1)<=maxLen:=by
 have O:=R.2.1;have n:=congrArg List.length D;simp only[aab,aax,aaa]at n;have B:ys.length<=40:=aa
 clear n D;refine⟨by simp[tr],?_,?_⟩
 . simp only[tr,abo,bh];omega
 . simp only[tr,abo,maxLen];omega
def amT{i:Nat}(A:zs.length=kX (es.take i))(B:cO zs)(z:zs=jJ (es.take i))(I:es.length<=i):(zs.drop 0).take zs.length=jJ es/\((zs.drop 0).take zs.length).length=kX es/\cO ((zs.drop 0).take zs.length):=by
 rw[aac I]at A z;simp only[acg,ad0];exact⟨z,A,B⟩
def qa(es:Lz)(H:∀e,e∈es->LB e)(U:es.length<=16):Tg 217 [oL 2 es] (GL 2 (λvs=>vs=jJ es/\vs.length=kX es/\cO vs)):=by
 refine aS ?_;refine aC Tryz.func217 ?_
 repeat' ((conv=>whnf);first|refine aJ (λh=>?_) (λh=>?_)|(refine aG H aa aa ?_;rintro _ ⟨s,o,rfl,R⟩ S)|(refine amQ oh oh ?_;intro y Y g)|refine And.intro oh ?_|refine And.intro (atB A (za H i U) g R) ?_|exact nt rfl (df rfl rfl (xs:=M) rfl aa) ⟨_,rfl,amT A B z aa⟩|(apply cL [3,6,7,8] [] [3,8] [(4,2)] (RVt es) (es.length) [bD 4 2 0,iV .i64 0] (eo.dQ 3 2 rfl);(iterate 3 exact ae);exact .cons (aL.aM aL.nil _) .nil;exact⟨0,[],aa,rfl,rfl,rfl,by simp[kX],(λe H=>by simp at H),by simp[jJ]⟩;rintro _ _ _ ⟨i,M,I,rfl,rfl,rfl,A,B,z⟩)|(refine aI [3,6,7,8] [] ?_;(conv=>whnf);exact⟨rfl,_,[_,_],_,.cons (aL.aM (aL.ya (xs:=M) rfl (y::Y)) _) .nil,RVt.next aa U S R A B z g iC,rfl,rfl,aa⟩))
def yo(es:Lz):Prop:=(2<=es.length/\es.length<=16)/\(∀e,e∈es->LB e)/\DN (jJ es)/\(jJ es).length=kX es
def QO(es:Lz)(i:Nat):Prop:= ∀j e,j < i->es[j]? =some e->LB e
def QO.all{i:Nat}(h:QO es i)(I:es.length<=i):∀e,e∈es->LB e:=by
 intro e H;obtain⟨j,Q,rfl⟩:=aa3 H;exact h j _ aa Fc
def RLn(es:Lz)(m:Nat)(vs:List V):Prop:= ∃i:Nat,i<=es.length/\QO es i/\m=es.length - i/\vs=[iV .i64 (i:Int)]
def RLn.next{i:Nat}(I:(i:Int) < (es.length:Int))(U:es.length<=16)(h:QO es i)(S:es[((i:Int)).toNat]? =some [.val (.string s),.aO 2 xs])(R:gX xs):RLn es (es.length - (i+1)) [iV .i64 (IntKind.i64.wrap ((i:Int)+1))]:=by
 refine⟨i+1,aa,λj e Q H=>?_,rfl,by rw[bF aa aa];rfl⟩
 by_cases v:j=i
 . subst v;have x:es[j]? =some [.val (.string s),.aO 2 xs]:=aA
   rw[x]at H;exact⟨s,xs,(aa5 H).symm,R⟩
 . exact h j e aa H
def o9(es:Lz)(H:kz es)(l:es.length<=maxLen):Tg 165 [oL 2 es] (oq (λn=>n=0->yo es)):=by
 refine aC Tryz.func165 ?_
 repeat' ((conv=>whnf);first|refine bZz (λh=>?_) (λh=>?_)|refine cT (aa7 _) aa ?_|(refine aG (xs:=es) (n:=(i:Int)) H aa aa ?_;rintro _ ⟨s,o,rfl,L,R,G⟩ S)|(refine aG (dH H 0 _) (n:=(j:Int)) aa aa ?_;rintro _ ⟨w,P,rfl,v,aQp,aQe⟩ O)|(refine aG (xs:=es) (n:=(k:Int)) (F.all aa) aa aa ?_;rintro _ ⟨y,xs3,rfl,Y⟩ B)|(refine aG (xs:=es) (F.all aa) (dB hD) (di aa) ?_;rintro _ ⟨J,xs4,rfl,hL4⟩ g)|(refine aG (xs:=xs3) Y.Ma Ko Ko ?_;rintro _ ⟨a,b,rfl⟩ A)|(refine aG (xs:=xs4) hL4.Ma aa (by have:=hL4.1;omega) ?_;rintro _ ⟨a,b,rfl⟩ M)|refine And.intro ag ?_|refine And.intro aa ?_|(refine aD rfl (CD s L) ?_;rintro _ ⟨b,rfl⟩)|(refine aD rfl (rC o R) ?_;rintro _ ⟨c,rfl,D⟩)|(refine aD rfl (qa es (F.all aa) aa) ?_;rintro _ ⟨K,rfl,rfl,U,x⟩)|(refine aD rfl (gv (jJ es) x (by have:=Vs (F.all aa);omega)) ?_;rintro _ ⟨d,rfl,r⟩)|(refine jX rfl rfl (λz=>?_);first|(exfalso;omega)|exact⟨⟨aa,aa⟩,F.all aa,r aa,U⟩)|(apply aV [0,49,50,51] [] [51] (RI es.length) (es.length) [iV .i64 0];(iterate 3 exact ae);exact RI.zero;rintro _ _ ⟨k,Z,rfl,rfl⟩)|(refine aI [0,49,50,51] [] ?_;(conv=>whnf);exact⟨rfl,_,[_],RI.succ (N:=es.length) (i:=k) aa l,rfl,rfl,rfl,aa⟩)|(apply aV [0,4,17,18,19,30,31,32] [] [32] (RI ((es.drop 0).take ((i:Int).toNat - 0)).length) (((es.drop 0).take ((i:Int).toNat - 0)).length) [iV .i64 0];(iterate 3 exact ae);exact RI.zero;rintro _ _ ⟨j,Q,rfl,rfl⟩)|(refine aI [0,4,17,18,19,30,31,32] [] ?_;(conv=>whnf);exact⟨rfl,_,[_],RI.succ (N:=((es.drop 0).take ((i:Int).toNat - 0)).length) (i:=j) aa (jt l _ _),rfl,rfl,rfl,aa⟩)|(apply aV [0,17,18,19] [] [19] (RLn es) (es.length) [iV .i64 0];(iterate 3 exact ae);exact⟨0,aa,λj e Q=>by omega,rfl,rfl⟩;rintro _ _ ⟨i,I,F,rfl,rfl⟩)|(refine aI [0,17,18,19] [] ?_;(conv=>whnf);exact⟨rfl,_,[_],RLn.next aa aa F S (D aa),rfl,rfl,rfl,aa⟩))
def X9(sz:Nat)(p:Lz->Prop)(ts:Lw):Prop:= ∃o e,ts=[oL sz o,oI e]/\(e=0->p o)
def mB(es:Lz)(H:kz es)(r:es.length<=maxLen):Tg 169 [oL 2 es] (X9 2 (λvs=>vs=jJ es/\yo es)):=by
 refine aS ?_;refine aC Tryz.func169 ?_
 repeat' ((conv=>whnf);first|refine bG (λh=>?_) (λh=>?_)|(refine aD rfl (o9 es H r) ?_;rintro _ ⟨e,rfl,D⟩)|(refine aD rfl (qa es (D aa).2.1 (D aa).1.2) ?_;rintro _ ⟨vs,rfl,rfl,U,x⟩)|exact eL rfl (cv rfl) (cv rfl) ⟨_,_,rfl,λ_=>⟨rfl,D aa⟩⟩|exact eL rfl (dy 2 rfl) (cv rfl) ⟨_,_,rfl,λz=>absurd z aa⟩)
def aLx(e:Lt):Prop:= ∃s,e=[.val (.string s)]/\s.size<=maxLen
abbrev Sts(xs:Lz):Prop:= ∀e,e∈xs->aLx e
def sB(xs:Lz)(s:ByteArray)(hx:Sts xs)(U:xs.length<=maxLen):Tg 272 [oL 1 xs,oS s] GI:=by
 refine aC Tryz.func272 ?_
 repeat' ((conv=>whnf);first|refine bZz (λh=>?_) (λh=>?_)|(refine aG hx aj aq ?_;rintro _ ⟨w,rfl,O⟩ S)|exact gI rfl rfl|(apply aV [0,1,7,8] [] [8] (RI xs.length) (xs.length) [iV .i64 0];(iterate 3 exact ae);exact RI.zero;rintro _ _ ⟨i,I,rfl,rfl⟩)|(refine aI [0,1,7,8] [] ?_;(conv=>whnf);exact⟨rfl,_,[_],RI.succ (N:=xs.length) (i:=i) aa U,rfl,rfl,rfl,aa⟩))
def pS(xs:Lz)(s:ByteArray)(hx:Sts xs)(U:xs.length<=maxLen):Tg 250 [oL 1 xs,oS s] GB:=by
 refine aC Tryz.func250 ?_
 repeat' ((conv=>whnf);first|(refine aD rfl (sB xs s hx U) ?_;rintro _ ⟨n,rfl⟩)|exact gB rfl rfl)
abbrev oCh(v:Lz)(b:Int):W:= .agg [.t (.aO 1 v),.t (tI b),.t dw]
def EJ(v:Lz)(b k:Int):Tg 252 [oCh v b,oI k] GB:=by
 refine aC Tryz.func252 ?_
 repeat' ((conv=>whnf);first|refine aJ (λh=>?_) (λh=>?_)|exact gB rfl rfl)
def Lb(v:Lz)(b:Int)(hx:Sts v)(U:v.length<=maxLen):Tg 212 [oCh v b] GI:=by
 refine aC Tryz.func212 ?_
 repeat' ((conv=>whnf);first|refine bZz (λh=>?_) (λh=>?_)|refine cT (aa7 _) aa ?_|(refine aG hx aj aq ?_;rintro _ ⟨w,rfl,O⟩ S)|refine And.intro aa ?_|(refine aD rfl (Ip w O) ?_;rintro _ ⟨b,rfl⟩)|(refine aD rfl (pS _ w (dH hx _ _) (jt U _ _)) ?_;rintro _ ⟨b,rfl⟩)|(refine aD rfl (EJ v b _) ?_;rintro _ ⟨b,rfl⟩)|exact gI rfl rfl|(apply aV [1,82,83,84] [] [84] (RI 0) (0) [iV .i64 0];(iterate 3 exact ae);exact RI.zero;rintro _ _ ⟨i,I,rfl,rfl⟩)|(apply aV [1,67,68,69] [] [69] (RI v.length) (v.length) [iV .i64 0];(iterate 3 exact ae);exact RI.zero;rintro _ _ ⟨i,I,rfl,rfl⟩)|(refine aI [1,67,68,69] [] ?_;(conv=>whnf);exact⟨rfl,_,[_],RI.succ (N:=v.length) (i:=i) aa U,rfl,rfl,rfl,aa⟩)|(apply aV [1,37,38,39] [] [39] (RI 0) (0) [iV .i64 0];(iterate 3 exact ae);exact RI.zero;rintro _ _ ⟨i,I,rfl,rfl⟩)|(apply aV [1,26,27,28] [] [28] (RI v.length) (v.length) [iV .i64 0];(iterate 3 exact ae);exact RI.zero;rintro _ _ ⟨i,I,rfl,rfl⟩)|(refine aI [1,26,27,28] [] ?_;(conv=>whnf);exact⟨rfl,_,[_],RI.succ (N:=v.length) (i:=i) aa U,rfl,rfl,rfl,aa⟩))
def GJ(s:ByteArray)(S:s.size<=maxLen):Tg 158 [oS s] GB:=by
 refine aC Tryz.func158 ?_
 repeat' ((conv=>whnf);first|(refine iJ (rfl) (Lb [[.val (.string s)]] 0 (by intro e H;simp at H;exact⟨s,H,S⟩) (by simp[maxLen])) ?_ ?_;(rintro _ ⟨n,rfl⟩;rfl);rintro _ ⟨n,rfl⟩)|exact gB rfl rfl)
def ZI{n:Int}{B:Nat}{K:UInt8->Prop}(D:s.size=N)(g:(List.range N).all (λi=>match s[i]? with|some b=>Nat.blt i (2 ^ b.toNat)&&Nat.ble b.toNat B&& (Nat.beq i 0||Nat.ble (2 ^ (b.toNat - 1)) i&&Nat.ble 1 b.toNat)|none=>false)=true)(z:0<=n)(O:n < (N:Int))
 (Z:∀b:UInt8,b.toNat<=B->n.toNat < 2 ^ b.toNat->(n.toNat=0\/(2 ^ (b.toNat - 1)<=n.toNat/\1<=b.toNat))->K b):0<=n/\ ∃b,s[n.toNat]? =some b/\K b:=by
 have l:n.toNat < s.size:=aa
 have Y:=yt.1 g n.toNat gZ;have e:s[n.toNat]? =some s[n.toNat]:=agc
 rw[e]at Y;simp only[LD,ab6,ady,abv,adr]at Y;exact⟨z,_,e,Z _ Y.1.2 Y.1.1 Y.2⟩
def t8(x:Int):x.fdiv (2 ^ min (Int.toNat 8) IntKind.u64.bits)=x / 256:=yP x 8 aa
def t16(x:Int):x.fdiv (2 ^ min (Int.toNat 16) IntKind.u64.bits)=x / 65536:=yP x 16 aa
def t32(x:Int):x.fdiv (2 ^ min (Int.toNat 32) IntKind.u64.bits)=x / 4294967296:=yP x 32 aa
def J5{n:Int}{k:Nat}{b:UInt8}(l:(2:Int) ^ k=D)(s:0<=x)(Z:k<=56)(hy:y=x / D)(d:1<=y)(a:y < 256)(G:b.toNat<=8)(hq:(IntKind.u8.wrap y).toNat < 2 ^ b.toNat)(J:(IntKind.u8.wrap y).toNat=0\/(2 ^ (b.toNat - 1)<=(IntKind.u8.wrap y).toNat/\1<=b.toNat))(K:n=(k+b.toNat:Nat)):
 (1<=n/\n<=64)/\2 ^ (n.toNat - 1)<=x.toNat/\x.toNat < 2 ^ n.toNat:=by
 rw[u8_in aa a]at hq J
 obtain⟨g,v⟩:2 ^ (b.toNat - 1)<=y.toNat/\1<=b.toNat:=by
  rcases J with h|h
  . omega
  . exact h
 have j:D=((2 ^ k:Nat):Int):=by rw[<-l];simp
 have F:0 < 2 ^ k:=acT aa
 have c:y.toNat=x.toNat / 2 ^ k:=by
  obtain⟨z,rfl⟩: ∃z:Nat,x=(z:Int):=⟨x.toNat,aa⟩;rw[hy,j];have e:(z:Int) / ((2 ^ k:Nat):Int)=((z / 2 ^ k:Nat):Int):=rfl;rw[e,aa0,aa0]
 have H:n.toNat=k+b.toNat:=aa
 have o:n.toNat - 1=(b.toNat - 1)+k:=aa
 refine⟨⟨aa,aa⟩,?_,?_⟩
 . rw[o,ade];have O:2 ^ (b.toNat - 1) * 2 ^ k<=y.toNat * 2 ^ k:=YH _ g;have Y:y.toNat * 2 ^ k<=x.toNat:=by rw[c];exact Nat.div_mul_le_self _ _
   omega
 . rw[H,aek,ade];rw[c]at hq;exact(acj F).1 hq
def p8:(2:Int) ^ 8=256:=av
def p16:(2:Int) ^ 16=65536:=av
def p24:(2:Int) ^ 24=16777216:=av
def p32:(2:Int) ^ 32=4294967296:=av
def p40:(2:Int) ^ 40=1099511627776:=av
def p48:(2:Int) ^ 48=281474976710656:=av
def p56:(2:Int) ^ 56=72057594037927936:=av
def NW(x:Int)(z:0 < x)(O:x < 18446744073709551616):Tg 95 [oU x] (oq (λn=>(1<=n/\n<=64)/\2 ^ (n.toNat - 1)<=x.toNat/\x.toNat < 2 ^ n.toNat)):=by
 refine aC Tryz.func95 ?_
 repeat' ((conv=>whnf);first|refine aJ (λh=>?_) (λh=>?_)|(refine ZI (N:=256) (B:=8) ag ag (u8w _).1 (u8w _).2 ?_;intro a b d J)|refine And.intro aa ?_|(refine jX rfl rfl ?_;(try simp only[t8,t16,t32]at *);first|exact J5 (k:=0) (y:=x) (D:=1) av aa aa aa aa aa b d J eN|exact J5 p8 aa aa aa aa aa b d J eN|exact J5 p16 aa aa aa aa aa b d J eN|exact J5 p24 aa aa aa aa aa b d J eN|exact J5 p32 aa aa aa aa aa b d J eN|exact J5 p40 aa aa aa aa aa b d J eN|exact J5 p48 aa aa aa aa aa b d J eN|exact J5 p56 aa aa aa aa aa b d J eN))
def aB4{n:Int}(K:1<=n/\n<=64)(O:2 ^ (n.toNat - 1)<=x.toNat)(Y:x.toNat < 2 ^ n.toNat):(0<=64 - n/\64 - n<=63)/\9223372036854775808<=x.toNat * 2 ^ (64 - n).toNat/\x.toNat * 2 ^ (64 - n).toNat < 18446744073709551616:=by
 refine⟨aa,?_,?_⟩
 . have h:2 ^ (n.toNat - 1) * 2 ^ (64 - n).toNat<=x.toNat * 2 ^ (64 - n).toNat:=YH _ O;rw[<-ade,show n.toNat - 1+(64 - n).toNat=63 by omega]at h;exact h
 . have h:x.toNat * 2 ^ (64 - n).toNat < 2 ^ n.toNat * 2 ^ (64 - n).toNat:=abx Y (acT aa);rw[<-ade,show n.toNat+(64 - n).toNat=64 by omega]at h;exact h
def po(x:Int)(z:0 < x)(O:x < 18446744073709551616):Tg 288 [oU x] (oq (λn=>(0<=n/\n<=63)/\9223372036854775808<=x.toNat * 2 ^ n.toNat/\x.toNat * 2 ^ n.toNat < 18446744073709551616)):=by
 refine aC Tryz.func288 ?_
 repeat' ((conv=>whnf);first|(refine aD rfl (NW x z O) ?_;rintro _ ⟨n,rfl,K,b,c⟩)|(refine jX rfl rfl ?_;rw[aB aa aa];exact aB4 K b c))
def XJ(z:0<=x)(O:x < 18446744073709551616):IntKind.u64.wrap ((BitVec.ofInt IntKind.u64.bits x&&& BitVec.ofInt IntKind.u64.bits 4294967295).toNat:Int)=x % 4294967296:=by
 have e:∀x:Int,0<=x->x < 18446744073709551616->(BitVec.ofInt IntKind.u64.bits x).toNat=x.toNat:=by
  intro x z O;simp only[ad9,IntKind.bits];congr 1;omega
 rw[BitVec.toNat_and,e _ z O,e _ aa aa];have h:=Nat.and_two_pow_sub_one_eq_mod x.toNat 32;rw[show(4294967295:Int).toNat=2 ^ 32 - 1 by decide,h,u64_in aa aa];omega
def apC{J K h N:Int}(P:0<=x)(hx:x < 18446744073709551616)(w:0<=y)(hy:y < 18446744073709551616)
 (H:a=IntKind.u64.wrap ((BitVec.ofInt IntKind.u64.bits x&&& BitVec.ofInt IntKind.u64.bits 4294967295).toNat:Int)) (o:B=x.fdiv (2 ^ min (Int.toNat 32) IntKind.u64.bits)) (G:b=IntKind.u64.wrap ((BitVec.ofInt IntKind.u64.bits y&&& BitVec.ofInt IntKind.u64.bits 4294967295).toNat:Int)) (e:c=y.fdiv (2 ^ min (Int.toNat 32) IntKind.u64.bits))
 (v:J=IntKind.u64.wrap (a * b)) (l:d=IntKind.u64.wrap (IntKind.u64.wrap (B * b)+J.fdiv (2 ^ min (Int.toNat 32) IntKind.u64.bits))) (A:K=IntKind.u64.wrap ((BitVec.ofInt IntKind.u64.bits d&&& BitVec.ofInt IntKind.u64.bits 4294967295).toNat:Int)) (O:h=d.fdiv (2 ^ min (Int.toNat 32) IntKind.u64.bits))
 (F:N=IntKind.u64.wrap (K+IntKind.u64.wrap (a * c))) (r:D=IntKind.u64.wrap (IntKind.u64.wrap (IntKind.u64.wrap (B * c)+h)+N.fdiv (2 ^ min (Int.toNat 32) IntKind.u64.bits))):0<=D/\D * 18446744073709551616<=x * y:=by
 rw[XJ P hx]at H;rw[XJ w hy]at G;rw[t32]at o e l O r;obtain⟨M,L⟩:=CJ (q:=a) (y:=b) aa aa aa aa;obtain⟨z,I⟩:=CJ (q:=B) (y:=b) aa aa aa aa;obtain⟨Z,g⟩:=CJ (q:=a) (y:=c) aa aa aa aa;obtain⟨R,j⟩:=CJ (q:=B) (y:=c) aa aa aa aa
 have Q:x * y=B * c * 18446744073709551616+B * b * 4294967296+a * c * 4294967296+a * b:=by
  have s:x=B * 4294967296+a:=aa
  have S:y=c * 4294967296+b:=aa
  rw[s,S];grind
 rw[Q];clear Q H o G e;generalize a * b=p00 at *
 generalize B * b=p10 at *
 generalize a * c=p01 at *
 generalize B * c=p11 at *
 rw[u64_in M aa]at v;rw[u64_in z aa,u64_in aa aa]at l;rw[XJ aa aa]at A;rw[u64_in Z aa,u64_in aa aa]at F;rw[u64_in R aa,u64_in (n:=p11+h) aa aa,u64_in aa aa]at r;omega
def AS(x y:Int)(P:0<=x)(hx:x < 18446744073709551616)(w:0<=y)(hy:y < 18446744073709551616): ∃ts,Fn Tryz.prog 262 [oU x,oU y] [] (aR ts) []/\(aR ts).cR=true/\(λts=> ∃I lo,ts=[oU I,oU lo]/\(0<=I/\I * 18446744073709551616<=x * y)/\0<=lo/\lo < 18446744073709551616) ts:=by
 refine aS ?_;refine aC Tryz.func262 ?_
 repeat' ((conv=>whnf);first|refine And.intro aa ?_|exact eL rfl (cv rfl) (cv rfl) ⟨_,_,rfl,apC P hx w hy rfl rfl rfl rfl rfl rfl rfl rfl rfl rfl,nF _,qF _⟩)
def G1(H:0<=a)(w:a < 18446744073709551616)(N:0 < b)(G:b < 4294967296):0<=IntKind.u64.wrap (a - IntKind.u64.wrap (IntKind.u64.wrap (a.tdiv b) * b))/\IntKind.u64.wrap (a - IntKind.u64.wrap (IntKind.u64.wrap (a.tdiv b) * b)) < 4294967296:=by
 obtain⟨d,q1⟩:=US (n:=a) (x:=b) H aa;have e:=abH (b:=b) H;have O:a / b * b<=a:=Int.ediv_mul_le _ aa
 have Y:a - a / b * b < b:=by
  have:=aep a N;rw[Int.add_mul,Int.one_mul]at this;omega
 have B:0<=a / b * b:=aeL (aer H aa) aa;rw[e]at d q1⊢;rw[u64_in d aa,u64_in B aa,u64_in aa aa];omega
def aAS{s:Int}(w:0 < y)(S:0<=s/\s<=63)(O:9223372036854775808<=y.toNat * 2 ^ s.toNat)(Y:y.toNat * 2 ^ s.toNat < 18446744073709551616):
 0 < (IntKind.u64.wrap (y * 2 ^ (min (IntKind.u64.wrap s).toNat IntKind.u64.bits))).fdiv (2 ^ min (Int.toNat 32) IntKind.u64.bits)/\(IntKind.u64.wrap (y * 2 ^ (min (IntKind.u64.wrap s).toNat IntKind.u64.bits))).fdiv (2 ^ min (Int.toNat 32) IntKind.u64.bits) < 4294967296:=by
 rw[u64_in (n:=s) aa aa,t32];have e:min s.toNat IntKind.u64.bits=s.toNat:=by simp only[IntKind.bits];omega
 rw[e]
 have o:y * 2 ^ s.toNat=((y.toNat * 2 ^ s.toNat:Nat):Int):=by
  rw[adB,Int.natCast_pow];congr 1;omega
 rw[o];generalize y.toNat * 2 ^ s.toNat=z at *
 rw[u64_in aa aa];omega
def RDv(m:Nat)(vs:List V):Prop:= ∃q r:Int,0<=r/\r < 4294967296/\m=4294967296 - r.toNat/\vs=[iV .u64 q,iV .u64 r]
def RDv.next{q:Int}(z:0<=r)(O:r < 4294967296)(N:0 < b)(G:b < 4294967296)(h:¬IntKind.u64.wrap (r+b)≥4294967296):RDv (4294967296 - (r+b).toNat) [iV .u64 q,iV .u64 (IntKind.u64.wrap (r+b))]:=by
 rw[u64_in aa aa]at h⊢;exact⟨q,r+b,aa,aa,rfl,rfl⟩
def RDw(m:Nat)(vs:List V):Prop:= ∃r q:Int,0<=r/\r < 4294967296/\m=4294967296 - r.toNat/\vs=[iV .u64 r,iV .u64 q]
def RDw.next{q:Int}(z:0<=r)(O:r < 4294967296)(N:0 < b)(G:b < 4294967296)(h:¬IntKind.u64.wrap (r+b)≥4294967296):RDw (4294967296 - (r+b).toNat) [iV .u64 (IntKind.u64.wrap (r+b)),iV .u64 q]:=by
 rw[u64_in aa aa]at h⊢;exact⟨r+b,q,aa,aa,rfl,rfl⟩
def aLv(y:Int)(z:0 < y)(O:y < 18446744073709551616):S6 288 [oU y] (oq (λs=>(0 < (IntKind.u64.wrap (y * 2 ^ (min (IntKind.u64.wrap s).toNat IntKind.u64.bits))).fdiv (2 ^ min (Int.toNat 32) IntKind.u64.bits)/\(IntKind.u64.wrap (y * 2 ^ (min (IntKind.u64.wrap s).toNat IntKind.u64.bits))).fdiv (2 ^ min (Int.toNat 32) IntKind.u64.bits) < 4294967296))):=by
 obtain⟨Z,a,b,n,c,S,d,e⟩:=po y z O;exact⟨Z,a,b,n,c,aAS z S d e⟩
def AV(I lo y:Int)(e:0<=I)(d:I < y)(B:0<=lo)(U:lo < 18446744073709551616)(hy:y < 18446744073709551616): ∃ts,Fn Tryz.prog 263 [oU I,oU lo,oU y] [] (aR ts) []/\(aR ts).cR=true/\(λts=> ∃a b,ts=[oU a,oU b]) ts:=by
 refine aS ?_;refine aC Tryz.func263 ?_
 repeat' ((conv=>whnf);first|refine aJ (λh=>?_) (λh=>?_)|refine And.intro (nF _) ?_|refine And.intro (show(0:Int)<=32 by omega) ?_|refine And.intro (show y≠0 by omega) ?_|refine And.intro (Int.ne_of_gt N) ?_|refine And.intro ag ?_|(refine aD rfl (aLv y aa hy) ?_;rintro _ ⟨s,rfl,N,x⟩)|exact eL rfl (cv rfl) (cv rfl) ⟨_,_,rfl⟩|(apply aV [2,8,9,10,14,15,16,17,18] [] [16,18] (RDw) (_) [_,_];(iterate 3 exact ae);exact⟨_,_,(G1 (nF _) (qF _) N x).1,(G1 (nF _) (qF _) N x).2,rfl,rfl⟩;rintro _ _ ⟨r,q,w,D,c,rfl⟩)|(refine aI [2,8,9,10,14,15,16,17,18] [] ?_;(conv=>whnf);exact⟨rfl,_,[_,_],RDw.next w D N x h,rfl,rfl,rfl,aa⟩)|(apply aV [2,8,9,10,11,13,14,15,16] [] [15,16] (RDv) (_) [_,_];(iterate 3 exact ae);exact⟨_,_,(G1 (nF _) (qF _) N x).1,(G1 (nF _) (qF _) N x).2,rfl,rfl⟩;rintro _ _ ⟨q,r,w,D,c,rfl⟩)|(refine aI [2,8,9,10,11,13,14,15,16] [] ?_;(conv=>whnf);exact⟨rfl,_,[_,_],RDv.next w D N x h,rfl,rfl,rfl,aa⟩)|(exfalso;omega))
def aBF{f t I:Int}(R:1<=f)(H:0<=a)(w:a<=f)(c:0<=t)(Q:t<=1099511627776)(d:I * 18446744073709551616<=IntKind.u64.wrap a * IntKind.u64.wrap t)(s:f<=1099511627776):I < IntKind.u64.wrap f:=by
 rw[u64_in H aa,u64_in c aa]at d;rw[u64_in aa aa];have O:a * t<=f * t:=ac3 w c;have Y:f * t<=f * 1099511627776:=ac6 Q aa;omega
def GIX(ts:Lw):Prop:= ∃n e,ts=[oI n,oI e]
def qL(f t:Int)(x:Bool)(a:Int):Tg 227 [oI f,oI t,oB x,oI a] GIX:=by
 refine aS ?_;refine aC Tryz.func227 ?_
 repeat' ((conv=>whnf);first|refine bZz (λh=>?_) (λh=>?_)|(refine aD rfl (AS _ _ (nF _) (qF _) (nF _) (qF _)) ?_;rintro _ ⟨I,H,rfl,⟨e,d⟩,B,U⟩)|(refine aD rfl (AV I H _ e (aBF aa aa aa aa aa d aa) B U (qF _)) ?_;rintro _ ⟨q,r,rfl⟩)|exact eL rfl (cv rfl) (cv rfl) ⟨_,_,rfl⟩)
def aAY{f ty ctr t:Nat}{tm:TS}{hp:HS}{ts:Lt}{K:V->HS->Prop}(h:find tm t=some (.w (.agg (ts.map .t))))(Z:K (.w (.one (.Ix f true ts))) hp):
 ∃v hp',jA Tryz.prog n (.makeFunc (.func f) #[.tmp t] #[]) ty tm hp ctr v hp'/\K v hp':=by
 refine⟨_,_,?_,Z⟩;rintro⟨g,I,F,s,d,l⟩ rfl rfl;intro M A ρ a w J;have z:=J.tmps t _ h
 have c:(execOp a.eval ⟨g,.makeFunc (.func f) #[.tmp t] #[],F,s,d,l⟩).run Tryz.prog w= .ok (.value (.func (.func f) #[a.eval (.tmp t)] #[])) w:=by
  simp[execOp,Instr.makeFunc]
 refine⟨_,_,A,ρ,.inl c,J.sub (λid D=>by simp only[bJ]at D⊢;omega),⟨⟨_,rfl,?_⟩,rfl⟩,dA.refl _ _,dD.refl _,bY.refl _ _⟩;obtain⟨o,O,Y,B⟩:=z;refine⟨o,O,xT,λk x y N G=>?_⟩;have:=B k (.t x) y (by simp[N]) G;exact⟨this.1,this.2⟩
def aB9{hp:HS}{id len:Nat}(R:find hp id=some (.row sz rows))(M:aL rows xs)(U:len=xs.length):bB (bM hp) [.one (.own id sz 0 len)]=some [.one (.t (.aO sz xs))]:=by
 have:=kO (hp:=hp) (i:=0) R M (by omega:0+len<=xs.length);simp only[bB,this];simp[U]
def Vm{k s C:Int}(Z:0<=k)(S:k<=C)(O: -B<=s)(Y:s<=B)(x:0<=B): -(C * B)<=k * s/\k * s<=C * B:=by
 have L:k * s<=k * B:=ac6 Y Z;have N:k * B<=C * B:=ac3 S x;have y:k * (-B)<=k * s:=ac6 O Z;rw[Int.mul_neg]at y;omega
def RM{m s C:Int}(c: -C<=m)(v:m<=C)(O: -B<=s)(Y:s<=B)(x:0<=B): -(C * B)<=m * s/\m * s<=C * B:=by
 rcases Int.le_total 0 m with h|h
 . exact Vm h v O Y x
 . have:=Vm (k:= -m) (s:=s) (B:=B) (C:=C) aa aa O Y x;rw[Int.neg_mul]at this;omega
def Shf(B:Int)(e:Lt):Prop:= ∃a b,e=[tI a,tI b]/\(-B<=a/\a<=B)/\(-B<=b/\b<=B)
abbrev Wi(B:Int)(s:Sp):Prop:=(-B<=s.1/\s.1<=B)/\(-B<=s.2/\s.2<=B)
def H7(cs:Lz)(m i:Int)(D:∀e,e∈cs->Shf 1000 e)(U:0 < cs.length)(r:cs.length<=16)(I:0<=i)(c: -100<=m)(v:m<=100):Tg 166 [.agg [.t (.aO 2 cs),.t (tI m)],oI i] (GSp (Wi 100000)):=by
 refine aC Tryz.func166 ?_
 repeat' ((conv=>whnf);first|(refine aG D (dB I) (di aa) ?_;rintro _ ⟨a,b,rfl,⟨l,Y⟩,x,B⟩ S)|refine And.intro (show((cs.length:Nat):Int)≠0 by omega) ?_|refine And.intro ag ?_|(have H:=RM c v l Y aa;have o:=RM c v x B aa;exact gSp rfl rfl rfl ak rfl ⟨by simp only;rw[bF aa aa];omega,by simp only;rw[bF aa aa];omega⟩))
def ajU{k:Nat}(R:gX xs)(Z:(k:Int) < (xs.length:Int))(w: -100000<=a/\a<=100000)(G: -100000<=b/\b<=100000): -1000000000000000<=IntKind.i64.wrap (IntKind.i64.wrap (IntKind.i64.wrap (IntKind.i64.wrap ((xs.length:Int) - 1) - (k:Int)) * a)+IntKind.i64.wrap ((k:Int) * b)):=by
 have O:=R.1;have Y:=R.2.1;rw[bF (n:=(xs.length:Int) - 1) aa aa,bF (n:=(xs.length:Int) - 1 - (k:Int)) aa aa];have H:=Vm (k:=(xs.length:Int) - 1 - (k:Int)) (s:=a) (C:=40) aa aa w.1 w.2 aa;have o:=Vm (k:=(k:Int)) (s:=b) (C:=40) aa aa G.1 G.2 aa;rw[bF (n:=((xs.length:Int) - 1 - (k:Int)) * a) aa aa,bF (n:=(k:Int) * b) aa aa,bF aa aa];omega
def GW(R:gX xs):0 < IntKind.i64.wrap ((xs.length:Int) - 1)/\IntKind.i64.wrap ((xs.length:Int) - 1)<=1000000000000:=by
 have O:=R.1;have Y:=R.2.1;rw[bF aa aa];omega
def KB(xs:Lz)(a b:Sp)(R:gX xs)(w:Wi 100000 a)(G:Wi 100000 b):Tg 167 [oL 2 xs,lH a,lH b] (GL 2 (λys=>ys.length=xs.length/\cO ys)):=by
 have N:=R.Ma;have U:=R.2.1;refine aC Tryz.func167 ?_
 repeat' ((conv=>whnf);first|refine aJ (λh=>?_) (λh=>?_)|refine And.intro ⟨aa,aa,aa,aa⟩ ?_|refine And.intro ⟨aa,aa⟩ ?_|(refine aG N aj aq ?_;rintro _ ⟨c,d,rfl⟩ S)|refine And.intro ag ?_|(refine N3 D aa ?_;rintro _ ⟨c,d,rfl⟩ S)|(refine aN rfl (uU _ _ (ajU R aa w.1 G.1) (GW R).1 (GW R).2) ?_;rintro _ ⟨n,rfl⟩)|(refine aN rfl (uU _ _ (ajU R aa w.2 G.2) (GW R).1 (GW R).2) ?_;rintro _ ⟨n,rfl⟩)|exact gL rfl rfl rfl aa D (λys O Y=>⟨aa,Y⟩)|(apply gh [4,5,7,8,17,18,19] [] [19] (λm o s=> ∃ (i:Nat) (v:Lq),i<=xs.length/\m=xs.length - i/\o=[iV .i64 (i:Int)]/\s=[(4,.row 2 [[.t (tI a.1),.t (tI a.2)]]),(8,.row 2 [[.t (tI b.1),.t (tI b.2)]]),(12,.row 2 v)]/\v.length=xs.length/\pI aiL v) (xs.length) [iV .i64 0];(iterate 3 exact ae);exact⟨0,_,aa,rfl,rfl,rfl,ak,(pI.replicate (e:=[tI 0,tI 0]) ⟨0,0,rfl⟩).aM _⟩;rintro _ _ _ ⟨i,v,I,rfl,rfl,rfl,J,D⟩)|(refine aI [4,5,7,8,17,18,19] [] ?_;(conv=>whnf);exact⟨rfl,_,[_],⟨i+1,_,aa,rfl,by rw[aB (n:=(i:Int)+1) aa aa];rfl,rfl,by simp[J],(pI.set D (e:=[tI _,tI _]) ⟨_,_,rfl⟩).aM _⟩,rfl,rfl,aa⟩))
abbrev YO(nm:T)(es:Lz)(g:T)(j cs F:Lz)(d:T):W:= .agg [.t nm,.t (.aO 2 es),.t g,.t (.aO 2 j),.t (.aO 2 cs),.t (.aO 1 F),.t d]
def Of{n:Int}{b:Bool}(x:0<=B/\B<=1000000)(a:b=true↔(IntKind.i64.wrap (0 - B)<=n/\n<=B))(h:(!b)=false): -B<=n/\n<=B:=by
 have:b=true:=bc
 have:=a.1 this;rw[bF aa aa]at this;omega
def aiE(cs:Lz)(i:Nat):Prop:= ∀j e,j < i->cs[j]? =some e->Shf 1000 e
def aiE.all{i:Nat}(h:aiE cs i)(I:cs.length<=i):∀e,e∈cs->Shf 1000 e:=by
 intro e H;obtain⟨j,Q,rfl⟩:=aa3 H;exact h j _ aa Fc
def ahP(cs:Lz)(m:Nat)(vs:List V):Prop:= ∃i:Nat,i<=cs.length/\aiE cs i/\m=cs.length - i/\vs=[iV .i64 (i:Int)]
def ahP.next{i:Nat}(I:(i:Int) < (cs.length:Int))(U:cs.length<=maxLen)(h:aiE cs i)(S:cs[((i:Int)).toNat]? =some [tI a,tI b])(w: -1000<=a/\a<=1000)(G: -1000<=b/\b<=1000):ahP cs (cs.length - (i+1)) [iV .i64 (IntKind.i64.wrap ((i:Int)+1))]:=by
 refine⟨i+1,aa,λj e Q H=>?_,rfl,by simp only[maxLen]at U;rw[bF aa aa];rfl⟩
 by_cases v:j=i
 . subst v;have x:cs[j]? =some [tI a,tI b]:=aA
   rw[x]at H;exact⟨a,b,(aa5 H).symm,w,G⟩
 . exact h j e aa H
def PE(e:Lt):Prop:= ∃s o,e=[.val (.string s),.aO 2 o]/\s.size<=maxLen/\gX o
def aBD(H:kz es)(x:∀e,e∈es->LB e):∀e,e∈es->PE e:=by
 intro e h;obtain⟨s,o,O,Y,_⟩:=H e h;obtain⟨L,a,c,j⟩:=x e h;rw[O]at c;simp only[aaz,T.val.injEq,Value.string.injEq,T.aO.injEq,true_and,and_true]at c;obtain⟨rfl,rfl⟩:=c;exact⟨s,o,O,Y,j⟩
def RGr(es:Lz)(m:Nat)(F:List V)(w:List (Lz)):Prop:= ∃ (i:Nat) (M:Lz),i<=es.length/\m=es.length - i/\F=[bD 4 2 M.length,iV .i64 (i:Int)]/\w=[M]/\M.length=i/\kz M
def RGr.next{i k:Nat}(I:(i:Int) < (es.length:Int))(H:es.length<=16)(A:zs.length=i)(hE:kz zs)(S:s.size<=maxLen)(R:gX xs)(hy:ys.length=xs.length)(j:cO ys)(Z:k=zs.length+1):RGr es (es.length - (i+1)) [bD 4 2 k,iV .i64 (IntKind.i64.wrap ((i:Int)+1))] [zs++[[.val (.string s),.aO 2 ys]]]:=by
 refine⟨i+1,_,aa,rfl,by rw[bF aa aa,Z];simp,rfl,by simp[A],?_⟩;intro e d;simp only[yl,vv]at d;rcases d with d|rfl
 . exact hE e d
 . exact⟨s,ys,rfl,S,j,by have:=R.2.1;simp only[maxLen];omega⟩
def QD:(zs.drop 0).take zs.length=zs:=ak
def gP(nm:T)(es:Lz)(g:T)(d cs R:Lz)(n:T)(m:Int)(H:kz es)(r:es.length<=maxLen)(D:cO cs)(P:cs.length<=maxLen):Tg 124 [YO nm es g d cs R n,oI m] (X9 2 (λgs=>(yo gs/\kz gs/\gs.length=es.length)/\yo es)):=by
 refine aS ?_;refine aC Tryz.func124 ?_
 repeat' ((conv=>whnf);first|refine bZz (λh=>?_) (λh=>?_)|(refine aG D aa aa ?_;rintro _ ⟨a,b,rfl⟩ S)|(refine aG (aBD H (O aa).2.1) aa aa ?_;rintro _ ⟨s,o,rfl,L,K⟩ N)|refine And.intro ⟨by simp[tr],by have:=(O aa).1.2;simp[tr,bh];omega,by have:=(O aa).1.2;simp[tr,maxLen];omega⟩ ?_|refine And.intro ag ?_|(refine aD rfl (H6 _ _) ?_;rintro _ ⟨J,rfl,Z⟩)|(refine aD rfl (o9 es H r) ?_;rintro _ ⟨e,rfl,O⟩)|(refine aN rfl (H7 cs m _ (F.all aa) aa (by have:=(O aa).1.2;omega) (by first|omega|(have:=(O aa).1.2;rw[bF aa aa];omega)) (Of (B:=100) aa Z ai).1 (Of (B:=100) aa Z ai).2) ?_;rintro _ ⟨x,y,rfl,c⟩)|refine aAY (ts:=[.aO 2 cs,tI m]) rfl ?_|(refine aN rfl (KB o (_,_) (_,_) K ai ai) ?_;rintro _ ⟨Y,rfl,G,w⟩)|(refine iJ (aB9 (xs:=M) rfl rfl rfl) (o9 M hE (by have:=(O aa).1.2;simp only[maxLen];omega)) ?_ ?_;(rintro _ ⟨U,rfl,v⟩;rfl);rintro _ ⟨U,rfl,v⟩)|exact eL rfl (dy 2 rfl) (cv rfl) ⟨_,_,rfl,λz=>absurd z aa⟩|exact eL rfl (df rfl rfl (xs:=M) rfl aa) (cv rfl) ⟨_,_,rfl,λ_=>by rw[QD];exact⟨⟨v aa,hE,aa⟩,O aa⟩⟩|(apply cL [9,10,54,55,56] [] [10,56] [(4,2)] (RGr es) (es.length) [bD 4 2 0,iV .i64 0] (eo.dQ 10 2 rfl);(iterate 3 exact ae);exact .cons (aL.aM aL.nil _) .nil;exact⟨0,[],aa,rfl,rfl,rfl,rfl,λe H=>by simp at H⟩;rintro _ _ _ ⟨l,M,hi2,rfl,rfl,rfl,A,hE⟩)|(refine aI [9,10,54,55,56] [] ?_;(conv=>whnf);exact⟨rfl,_,[_,_],_,.cons (aL.aM (aL.snoc (xs:=M) rfl [.val (.string s),.aO 2 Y]) _) .nil,RGr.next aa (O aa).1.2 A hE L K G w iC,rfl,rfl,aa⟩)|(apply aV [1,2,25,26,27] [] [27] (ahP cs) (cs.length) [iV .i64 0];(iterate 3 exact ae);exact⟨0,aa,λj e Q=>by omega,rfl,rfl⟩;rintro _ _ ⟨i,I,F,rfl,rfl⟩)|(refine aI [1,2,25,26,27] [] ?_;(conv=>whnf);exact⟨rfl,_,[_],ahP.next aa P F S (Of aa ai ai) (Of aa ai ai),rfl,rfl,rfl,aa⟩))
abbrev Is(xs:Lz):Prop:= ∀e,e∈xs->IsI e
def Is.snoc(h:Is xs)(n:Int):Is (xs++[[tI n]]):=by
 intro e H;simp only[yl,vv]at H;rcases H with H|rfl
 . exact h e H
 . exact⟨n,rfl⟩
abbrev Tp(nm:T)(es:Lz)(g:T)(j cs F:Lz)(d:T):Lt:=[nm,.aO 2 es,g,.aO 2 j,.aO 2 cs,.aO 1 F,d]
def RPl(j:Lt)(N:Nat)(m:Nat)(F:List V)(w:List (Lz)):Prop:= ∃ (i:Nat) (M:Lz),i<=N/\m=N - i/\F=[bD 8 1 M.length,iV .i64 (i:Int)]/\w=[[j],M]/\M.length=i/\Is M
def RPl.next{j:Lt}{i k:Nat}{n:Int}(I:(i:Int) < (N:Int))(D:N<=100000)(A:zs.length=i)(v:Is zs)(Z:k=zs.length+1):RPl j N (N - (i+1)) [bD 8 1 k,iV .i64 (IntKind.i64.wrap ((i:Int)+1))] [[j],zs++[[tI n]]]:=
 ⟨i+1,_,aa,rfl,by rw[bF aa aa,Z];simp,rfl,by simp[A],v.snoc n⟩
def GPl(ts:Lw):Prop:= ∃o Y e,ts=[oL 1 o,oL 2 Y,oI e]
def Ht(nm:T)(es:Lz)(g:T)(j cs F:Lz)(d:T)(m:Int)(H:kz es)(r:es.length<=maxLen)(K:cO j)(D:cO cs)(y:cs.length<=maxLen):Tg 214 [YO nm es g j cs F d,oI m] GPl:=by
 refine aS ?_;refine aC Tryz.func214 ?_
 repeat' ((conv=>whnf);first|refine bZz (λh=>?_) (λh=>?_)|(refine aG K aa aa ?_;rintro _ ⟨a,b,rfl⟩ S)|(refine aG H aa aa ?_;rintro _ ⟨n,L,rfl,Z,Q,R⟩ Y)|(refine aG (J aa).1.2.1 aa VZ ?_;rintro _ ⟨w,P,rfl,x,B,s⟩ O)|refine And.intro ⟨by simp[tr],by simp[tr,bh];omega,by simp[tr,maxLen];omega⟩ ?_|(refine aD rfl (gP nm es g j cs F d m H r D y) ?_;rintro _ ⟨c,e,rfl,J⟩)|(refine aD rfl (ia L Q) ?_;rintro _ ⟨U,l,rfl,_⟩)|(refine aD rfl (ia P B) ?_;rintro _ ⟨N,o,rfl,_⟩)|(refine aD rfl (qL _ _ _ _) ?_;rintro _ ⟨z,G,rfl⟩)|exact H9 rfl (dy 1 rfl) (dy 2 rfl) (cv rfl) ⟨_,_,_,rfl⟩|exact H9 rfl (df rfl rfl (xs:=M) rfl aa) (cv rfl) (cv rfl) ⟨_,_,_,rfl⟩|(apply cL [2,7,9,30,31,32] [] [9,32] [(4,7),(8,1)] (RPl (Tp nm es g j cs F d) j.length) (j.length) [bD 8 1 0,iV .i64 0] (eo.dQ 9 1 rfl);(iterate 3 exact ae);exact .cons (aL.aM (xs:=[Tp nm es g j cs F d]) rfl _) (.cons (aL.aM aL.nil _) .nil);exact⟨0,[],aa,rfl,rfl,rfl,rfl,λe H=>by simp at H⟩;rintro _ _ _ ⟨i,M,I,rfl,rfl,rfl,A,v⟩)|(refine aI [2,7,9,30,31,32] [] ?_;(conv=>whnf);exact⟨rfl,_,[_,_],_,.cons (aL.aM (xs:=[Tp nm es g j cs F d]) rfl _) (.cons (aL.aM (aL.snoc (xs:=M) rfl [tI _]) _) .nil),RPl.next aa aa A v iC,rfl,rfl,aa⟩))
def Hu(nm:T)(es:Lz)(g:T)(j cs F:Lz)(d:T)(m:Int)(H:kz es)(r:es.length<=maxLen)(K:cO j)(D:cO cs)(y:cs.length<=maxLen): ∃ts,Fn Tryz.prog 160 [YO nm es g j cs F d,oI m] [] (aR ts) []/\(aR ts).cR=true/\(λts=> ∃xs e,ts=[oL 1 xs,oI e]) ts:=by
 refine aS ?_;refine aC Tryz.func160 ?_
 repeat' ((conv=>whnf);first|(refine aD rfl (Ht nm es g j cs F d m H r K D y) ?_;rintro _ ⟨xs,Y,e,rfl⟩)|exact eL rfl (cv rfl) (cv rfl) ⟨_,_,rfl⟩)
def Ta(e:Lt):Prop:= ∃nm B g j R F d,e=[.val (.string nm),.aO 2 B,tI g,.aO 2 j,.aO 2 R,.aO 1 F,tB d]/\nm.size<=maxLen/\(kz B/\B.length<=maxLen)/\(cO j/\j.length<=maxLen)/\(cO R/\R.length<=maxLen)/\Is F/\F.length<=maxLen
def pP(ps:Lz)(hp:∀e,e∈ps->Ta e)(R:ps.length<=maxLen)(nm:ByteArray)(es:Lz)(g:Int)(j cs F:Lz)(d:Bool)(A:nm.size<=maxLen)(H:kz es)(r:es.length<=maxLen)(K:cO j)(D:cO cs)(y:cs.length<=maxLen)(M:Is F)(O:F.length<=maxLen):Tg 120 [oL 7 ps,YO (.val (.string nm)) es (tI g) j cs F (tB d)] GI:=by
 refine aC Tryz.func120 ?_
 repeat' ((conv=>whnf);first|refine bZz (λh=>?_) (λh=>?_)|(refine aG hp aj aq ?_;rintro _ ⟨w,G,g2,l,n,s,v,rfl,B,_⟩ S)|(refine aG M aj aq ?_;rintro _ ⟨a,rfl⟩ S)|(refine aD rfl (wH nm A) ?_;rintro _ ⟨b,rfl⟩)|(refine aD rfl (gP (.val (.string nm)) es (tI g) j cs F (tB d) _ H r D y) ?_;rintro _ ⟨c,e,rfl,_⟩)|(refine aD rfl (Hu (.val (.string nm)) es (tI g) j cs F (tB d) _ H r K D y) ?_;rintro _ ⟨o,e,rfl⟩)|exact gI rfl rfl|(apply aV [66,67,68] [] [68] (RI F.length) (F.length) [iV .i64 0];(iterate 3 exact ae);exact RI.zero;rintro _ _ ⟨i,I,rfl,rfl⟩)|(refine aI [66,67,68] [] ?_;(conv=>whnf);exact⟨rfl,_,[_],RI.succ (N:=F.length) (i:=i) aa O,rfl,rfl,rfl,aa⟩)|(apply aV [3,30,31,32] [] [32] (RI ps.length) (ps.length) [iV .i64 0];(iterate 3 exact ae);exact RI.zero;rintro _ _ ⟨i,I,rfl,rfl⟩)|(refine aI [3,30,31,32] [] ?_;(conv=>whnf);exact⟨rfl,_,[_],RI.succ (N:=ps.length) (i:=i) aa R,rfl,rfl,rfl,aa⟩))
end Go.aW.Cd
namespace Go.aW.Cd
open Go Ieee
def AE(K:Nat)(w:Nat):Prop:=w < K * 4503599627370496
def asP(a:Toward)(neg:Bool)(n drop:Nat):Toward.cut a neg n drop<=n / (1 <<< min drop (n.log2+2))+1:=by
 unfold Toward.cut;simp only;have:∀b:Bool,b.toNat<=1:=λb=>by cases b<;>simp
 exact Nat.add_le_add_left (this _) _
def log2_lt{n k:Nat}(h:n < 2 ^ k)(Z:0 < k):n.log2 < k:=by
 by_cases z:n=0
 . subst z;simpa using Z
 . exact(Nat.log2_lt z).2 h
def BW{b:Nat}{a:Int}{L:Int}{K:Nat}(r:b < 2 ^ 60)(hp: -1000<=a)(R:a+b.log2 - 52<=L)(U:L<=900)(e: -1074<=L)(J:((L+1074).toNat+3)<=K):AE K (Ieee.double.write (.number false b a)):=by
 unfold AE Format.write Format.nearest;simp only;split
 . simp only[Format.word,aag,if_false];have:1 * 4503599627370496<=K * 4503599627370496:=YH _ aa;omega
 . rename_i z;have h:(Ieee.double.fractionBits:Int)=52:=rfl;have x:Ieee.double.leastPlace= -1074:=av
   have g:Ieee.double.binade=4503599627370496:=av
   simp only[Format.word,aag,if_false,h,x,g];generalize j:max (a+(b.log2:Int) - 52) (-1074)=last;have v:last<=L:=aa
   have s: -1074<=last:=aa
   have w:2 ^ b.log2<=b:=Nat.log2_self_le z;have o:b < 2 ^ (b.log2+1):=ae8
   have y:Toward.even.cut false (b <<< (a - last).toNat) (last - a).toNat<=9007199254740992:=by
    refine aal (asP _ _ _ _) ?_;rcases Int.le_total last a with I|I
    ·
     have M:(last - a).toNat=0:=aa
     rw[M,Nat.zero_min,adi,adi,aex,adv,Nat.div_one];have n:b.log2+(a - last).toNat<=52:=aa
     have O:b * 2 ^ (a - last).toNat < 2 ^ (b.log2+1) * 2 ^ (a - last).toNat:=abx o (acT aa);rw[<-ade]at O;have Y:2 ^ (b.log2+1+(a - last).toNat)<=2 ^ 53:=abi aa aa;have B:(2:Nat) ^ 53=9007199254740992:=av
     omega
    . have M:(a - last).toNat=0:=aa
      rw[M,adi,aex,adv,adi,adm];have A:(2:Nat) ^ 53=9007199254740992:=av
      have D:(last - a).toNat=b.log2 - 52\/last= -1074:=aa
      have F:b / 2 ^ min (last - a).toNat (b.log2+2) < 9007199254740992:=by
       rw[<-A];rw[acj (acT aa), <-ade];refine aar o (abi aa ?_);omega
      omega
   have c:min ((last - -1074).toNat * 4503599627370496+Toward.even.cut false (b <<< (a - last).toNat) (last - a).toNat) Ieee.double.infRung<=(last - -1074).toNat * 4503599627370496+9007199254740992:=aal (Nat.min_le_left _ _) (Nat.add_le_add_left y _);have l:(last - -1074).toNat+3<=K:=aa
   generalize (last - -1074).toNat=q at c l⊢;have d:q+3<=K:=l;refine aeb c (aar ?_ (YH 4503599627370496 d));rw[aaw];exact Nat.add_lt_add_left av _
def Fg{K w:Nat}(h:AE K w)(J:K<=1500): ∃m i,Ieee.double.read w= .number false m i/\m < 9007199254740992/\ -1074<=i/\i<=max ((K:Int) - 2 - 1074) (-1074):=by
 unfold AE at h;have c:Ieee.double.signWeight=9223372036854775808:=av
 have g:Ieee.double.binade=4503599627370496:=av
 have z:Ieee.double.infRung=9218868437227405312:=av
 have x:Ieee.double.leastPlace= -1074:=av
 have l:w < 1500 * 4503599627370496:=aar h (YH _ J);unfold Format.read;simp only[c,g,z,x];have H:w / 9223372036854775808 % 2=0:=aa
 have o:w % 9223372036854775808=w:=adT aa;rw[H,o];simp only[show((0:Nat)==1)=false by decide];split
 . exact⟨w, -1074,rfl,aa,aa,aa⟩
 . rename_i G;rw[if_pos (show w < 9218868437227405312 by omega)];refine⟨_,_,rfl,aa,aa,?_⟩
   have:w / 4503599627370496 < K:=by
    rw[acj aa];exact h
   omega
def sE{n:Nat}:∀ (b a:Nat),a * a<=n->Datum.rootFrom n b a * Datum.rootFrom n b a<=n
 |0,a,h=>h
 |b+1,a,h=>by
  simp only[Datum.rootFrom];split
  . rename_i U;exact sE b _ U
  . exact sE b _ h
def Q6{n:Nat}(K:n < 2 ^ 53): ∃r,Ieee.double.sqrt (Ieee.double.write (.number false n 0))=some r/\AE 1053 r:=by
 have w:n.log2 < 53:=log2_lt K aa
 have O:AE 1077 (Ieee.double.write (.number false n 0)):=BW (L:=0) (by
  have:(2:Nat) ^ 53<=2 ^ 60:=abi aa aa;omega) aa aa aa aa av
 obtain⟨m,i,e,s,hi1,hi2⟩:=Fg O aa;unfold Format.sqrt;rw[e];unfold Datum.root;simp only;have h:Ieee.double.fractionBits+2=54:=rfl;simp only[h]
 by_cases c:m=0
 . subst c;simp only[if_true,wv];refine⟨_,rfl,?_⟩;unfold AE Format.write Format.nearest;simp[Format.word]
 . simp only[c,if_false,aag,wv];refine⟨_,rfl,?_⟩;have R:m.log2 < 53:=log2_lt K1 aa;have v:m < 2 ^ (m.log2+1):=ae8;have o:((i - ((2 * 54 - m.log2:Nat):Int)) % 2).toNat<=1:=aa
   generalize j:2 * 54 - m.log2+((i - ((2 * 54 - m.log2:Nat):Int)) % 2).toNat=more;have l:56<=more:=aa
   have y:more+m.log2<=109:=aa
   generalize D:m <<< more=N
   have z:N < 2 ^ 110:=by
    rw[<-D,adi];have:m * 2 ^ more < 2 ^ (m.log2+1) * 2 ^ more:=abx v (acT aa);rw[<-ade]at this;exact aar this (abi aa aa)
   have g:=sE (n:=N) (N.log2 / 2+1) 0 ak;generalize Datum.rootFrom N (N.log2 / 2+1) 0=whole at g
   have a:whole < 2 ^ 55:=by
    apply Nat.lt_of_not_le;intro J;have Y:2 ^ 55 * 2 ^ 55<=whole * whole:=adS J J;rw[<-ade]at Y;omega
   have G:∀b:Bool,b.toNat<=1:=λb=>by cases b<;>simp
   have x:=G (whole * whole !=N);generalize (whole * whole !=N).toNat=bb at x;have A:(2:Nat) ^ 55=36028797018963968:=av
   have B:(2:Nat) ^ 60=1152921504606846976:=av
   have d:(2 * whole+bb).log2 < 57:=log2_lt (by rw[show(2:Nat) ^ 57=144115188075855872 by decide];omega) aa;exact BW (L:= -24) aa aa aa aa aa av
def VF{w:Nat}(h:AE 1053 w): ∃r:Int,(Ieee.double.read w).toInt .zero=some r/\0<=r/\r<=1073741824:=by
 obtain⟨m,i,e,s,hi1,hi2⟩:=Fg h aa;rw[e];unfold Datum.toInt Datum.integral;simp only;have M:i.toNat=0:=aa
 rw[M,adi,aex,adv];refine⟨_,rfl,?_,?_⟩
 . simp only[signed,aag,if_false];exact ab4 _
 . simp only[signed,aag,if_false,Toward.cut,Bool.toNat_false,ace,adi,aex,adv,adm]
   by_cases c:m=0
   . subst c;simp
   . have R:m.log2 < 53:=log2_lt K1 aa;have v:m < 2 ^ (m.log2+1):=ae8
     have d:m / 2 ^ min (-i).toNat (m.log2+2) < 1073741824:=by
      rw[show(1073741824:Nat)=2 ^ 30 by decide,acj (acT aa), <-ade];exact aar v (abi aa aa)
     generalize m / 2 ^ min (-i).toNat (m.log2+2)=q at d;omega
end Go.aW.Cd
namespace Go.aW.Cd
open Go Go.Proofs
variable{n ctr x j N L:Nat}{ty:TypeId}{r w a b c d:Int}{xs zs es F vs ps:Lz}{e:Lt}
def run_pure{op:Op}{tm:TS}{hp:HS}{v:V}(h:∀o:Oper,o.op=op->o.type=ty->bS Tryz.prog (St.get ⟨n,tm,hp⟩) o=some v):jA Tryz.prog n op ty tm hp ctr v hp:=by
 intro o O Y M A ρ a w J;exact kQ (st:=⟨n,tm,hp⟩) (h o O Y) J (λid D=>by simp only[bJ]at *;omega)
def uI:Tryz.prog.underlying 3=some (.int .i64):=ag
def uF:Tryz.prog.underlying 411=some (.float .f64):=ag
abbrev oF(x:Nat):W:= .one (.t (.val (.float .f64 x)))
def aAU{t:Nat}{k:Int}{tm:TS}{hp:HS}{K:V->HS->Prop}(h:find tm t=some (iV .i64 k))(Z:K (.w (oF (FloatKind.f64.nearest k))) hp):
 ∃v hp',jA Tryz.prog n (.convert 3 411 (.tmp t)) ty tm hp ctr v hp'/\K v hp':=by
 refine⟨_,_,run_pure ?_,Z⟩;rintro⟨g,y,B,O,Y,l⟩ rfl rfl;have D:St.get ⟨n,tm,hp⟩ (.tmp t)=iV .i64 k:=afz
 simp[bS,jL,Op.operands,D,V.val?,W.val?,C.val?,execOp,convert,aY,bi uI,bi uF,Conv.intToFloat,aU,V.ofValue]
def aAV{t:Nat}{tm:TS}{hp:HS}{K:V->HS->Prop}(h:find tm t=some (.w (oF x)))(J:(FloatKind.f64.decode x).toInt .zero=some r)(z:0<=r)(O:r<=4294967296)(Z:K (iV .i64 r) hp):
 ∃v hp',jA Tryz.prog n (.convert 411 3 (.tmp t)) ty tm hp ctr v hp'/\K v hp':=by
 refine⟨_,_,run_pure ?_,Z⟩;rintro⟨g,y,B,s,Y,l⟩ rfl rfl;have D:St.get ⟨n,tm,hp⟩ (.tmp t)= .w (oF x):=afz
 have c:IntKind.i64.min<=r/\r<=IntKind.i64.max:=by
  have H:IntKind.i64.min= -9223372036854775808:=av
  have o:IntKind.i64.max=9223372036854775807:=av
  omega
 have I:r<=9223372036854775807:=aa
 simp[bS,jL,Op.operands,D,V.val?,W.val?,C.val?,execOp,convert,aY,bi uI,bi uF,Conv.floatToInt,J,c,if_pos I,aU,V.ofValue]
def Np:Extern.findNext Tryz.f275=none/\(Tryz.f275.name== "runtime.NumGoroutine")=false/\Tryz.f275.body.isNone=true:=⟨ag,ag,ag⟩
def aeM:Extern.find Tryz.f275=some Go.Extern.MathSqrt.sqrt:=ag
def abM{r:Nat}(J:FloatKind.f64.format.sqrt x=some r):aX Tryz.prog (callFunc 275 #[.float .f64 x])=some (.value (.float .f64 r)):=by
 have O:Tryz.prog.funcs[275]? =some Tryz.f275:=Tryz.func275
 have S:Go.Extern.MathSqrt.sqrt #[.float .f64 x]=pure (.float .f64 r):=by
  change (match FloatKind.f64.format.sqrt x with
   |some r=>(pure (.float .f64 r):Sem Value)
   |none=>do pure (.float .f64 (<-choose (.nanBits .f64 x x))))=_
  rw[J]
 have K:¬Tryz.f275.name= "runtime.NumGoroutine" :=by simpa using Np.2.1
 have G:Tryz.f275.body=none:=by simpa using Np.2.2
 simp[callFunc,aY,program,aX,O,Np.1,aeM,S,aU,K,G,eO,mark]
def amL{t r:Nat}{tm:TS}{hp:HS}{K:V->HS->Prop}(h:find tm t=some (.w (oF x)))(J:FloatKind.f64.format.sqrt x=some r)(Z:K (.w (oF r)) hp):
 ∃v hp',jA Tryz.prog n (.call ⟨.value (.func 275), #[.tmp t], #[411]⟩) ty tm hp ctr v hp'/\K v hp':=by
 refine⟨_,_,run_pure ?_,Z⟩;rintro⟨g,y,B,O,Y,l⟩ rfl rfl;have D:St.get ⟨n,tm,hp⟩ (.tmp t)= .w (oF x):=afz
 have R:St.get ⟨n,tm,hp⟩ (.func 275)= .w (.one (.t (.val (.func (.func 275) #[] #[])))):=rfl;have b:=abM J;simp[bS,jL,Op.operands,Call.operands,D,R,V.val?,W.val?,C.val?,execOp,resolve,invoke,Deferred.ofValue,aY,aU,b,V.ofValue]
def RR(x r:Nat)(J:FloatKind.f64.format.sqrt x=some r): ∃ts,Fn Tryz.prog 254 [oF x] [] (aR ts) []/\(aR ts).cR=true/\(λts=>ts=[oF r]) ts:=by
 refine aS ?_;refine aC Tryz.func254 ?_
 repeat' ((conv=>whnf);first|refine amL rfl J ?_|exact nt rfl (cv rfl) rfl)
def Mo{n:Int}(z:0<=r)(O:r<=4294967296)(K:0<=n)(h:IntKind.i64.wrap (r * r) > n):1<=r:=by
 rcases aff 0 r with J|J
 . omega
 . have:r=0:=aa
   subst this;rw[bF aa aa]at h;omega
def Mn{n:Int}(z:0<=r)(O:r<=1073741824)(K:n<=1125899906842624)(h:IntKind.i64.wrap (IntKind.i64.wrap (r+1) * IntKind.i64.wrap (r+1))<=n):r+1<=33554432:=by
 rw[bF (n:=r+1) aa aa]at h;have G:=Vm (k:=r+1) (s:=r+1) (B:=1073741825) (C:=1073741825) aa aa aa aa aa;rw[bF aa aa]at h;apply Int.not_lt.1;intro l;have D:(33554433:Int) * 33554433<=(r+1) * (r+1):=afj aa aa aa aa;omega
def UL{n:Int}(z:0<=r)(K:1<=n)(h:¬IntKind.i64.wrap (IntKind.i64.wrap (r+1) * IntKind.i64.wrap (r+1))<=n):1<=r:=by
 rcases aff 0 r with J|J
 . omega
 . have:r=0:=aa
   subst this;exfalso;apply h;have e:IntKind.i64.wrap (IntKind.i64.wrap (0+1) * IntKind.i64.wrap (0+1))=1:=av
   rw[e];exact K
def DF(n:Int)(z:0<=n)(O:n<=1125899906842624):Tg 219 [oI n] (oq (λr=>(0<=r/\r<=1073741824)/\(1<=n->1<=r))):=by
 obtain⟨d,g,j⟩:=Q6 (n:=n.natAbs) (by rw[show(2:Nat) ^ 53=9007199254740992 by decide];omega);obtain⟨a,J,w,D⟩:=VF j;have c:decide (n < 0)=false:=by simp;omega
 have l:FloatKind.f64.format.sqrt (FloatKind.f64.nearest n)=some d:=by(unfold FloatKind.nearest;rw[c];exact g)
 refine aC Tryz.func219 ?_
 repeat' ((conv=>whnf);first|refine aJ (λh=>?_) (λh=>?_)|refine aAU rfl ?_|(have e:=Mo b aa z h;clear h)|(have S:=Mn A F O h;clear h)|(refine aD rfl (RR _ d l) ?_;rintro _ rfl)|refine aAV rfl J w aa ?_|exact jX rfl rfl ⟨⟨A,F⟩,λK=>UL A K h⟩|(apply aV [0,3] [] [3] (λm o=> ∃r:Int,0<=r/\r<=1073741824/\m=(1073741824 - r).toNat/\o=[iV .i64 r]) ((1073741824 - r).toNat) [iV .i64 r];(iterate 3 exact ae);exact⟨r,b,s,rfl,rfl⟩;rintro _ _ ⟨B,A,F,rfl,rfl⟩)|(refine aI [0,3] [] ?_;(conv=>whnf);exact⟨rfl,_,[_],⟨B+1,aa,aa,rfl,by rw[bF aa aa]⟩,rfl,rfl,rfl,aa⟩)|(apply aV [0,3] [] [3] (λm o=> ∃r:Int,0<=r/\r<=1073741824/\m=r.toNat/\o=[iV .i64 r]) (a.toNat) [iV .i64 a];(iterate 3 exact ae);exact⟨a,w,D,rfl,rfl⟩;rintro _ _ ⟨r,b,s,rfl,rfl⟩)|(refine aI [0,3] [] ?_;(conv=>whnf);exact⟨rfl,_,[_],⟨r - 1,aa,aa,rfl,by rw[bF aa aa]⟩,rfl,rfl,rfl,aa⟩))
def Wd(e:Lt):Prop:= ∃w,e=[tI w]/\0<=w/\w<=500
abbrev Wds(xs:Lz):Prop:= ∀e,e∈xs->Wd e
def Wds.snoc(h:Wds xs)(z:0<=w)(O:w<=500):Wds (xs++[[tI w]]):=by
 intro e H;simp only[yl,vv]at H;rcases H with H|rfl
 . exact h e H
 . exact⟨w,rfl,z,O⟩
def RSw(es:Lz)(m:Nat)(F:List V)(w:List (Lz)):Prop:= ∃ (i:Nat) (M:Lz),i<=es.length/\m=es.length - i/\F=[bD 4 1 M.length,iV .i64 (i:Int)]/\w=[M]/\M.length=kX (es.take i)/\Wds M
def RSi(N L:Nat)(m:Nat)(F:List V)(w:List (Lz)):Prop:= ∃ (j:Nat) (M:Lz),j<=L/\m=L - j/\F=[bD 4 1 M.length,iV .i64 (j:Int)]/\w=[M]/\M.length=N+j/\Wds M
def aBe(R:gX xs)(Q:(j:Int) < IntKind.i64.wrap ((xs.length:Int) - 1)):j < xs.length - 1:=by
 have a:=R.1;have b:=R.2.1;rw[bF aa aa]at Q;omega
def RSi.next{k:Nat}(R:gX xs)(U:L=xs.length - 1)(Q:j < xs.length - 1)(A:zs.length=N+j)(B:Wds zs)(z:0<=w)(O:w<=500)(Z:k=zs.length+1):RSi N L (L - (j+1)) [bD 4 1 k,iV .i64 (IntKind.i64.wrap ((j:Int)+1))] [zs++[[tI w]]]:=by
 have a:=R.1;have b:=R.2.1;exact⟨j+1,_,aa,rfl,by rw[bF aa aa,Z];simp,rfl,by simp;omega,B.snoc z O⟩
def RSw.next{i:Nat}{s:ByteArray}(I:(i:Int) < (es.length:Int))(H:es.length<=16)(S:es[((i:Int)).toNat]? =some [.val (.string s),.aO 2 xs])(R:gX xs)(A:zs.length=kX (es.take i)+j)(B:Wds zs)(Q:j<=xs.length - 1)(hx:¬ (j:Int) < IntKind.i64.wrap ((xs.length:Int) - 1)):RSw es (es.length - (i+1)) [bD 4 1 zs.length,iV .i64 (IntKind.i64.wrap ((i:Int)+1))] [zs]:=by
 have a:=R.1;have b:=R.2.1;rw[bF (n:=(xs.length:Int) - 1) aa aa]at hx;refine⟨i+1,zs,aa,rfl,by rw[bF aa aa];rfl,rfl,?_,B⟩;rw[Fx aA];simp only[ln];omega
def ku(es F:Lz)(H:∀e,e∈es->LB e)(U:es.length<=16)(a:Wds F)(O:F.length=es.length):Tg 170 [oL 2 es,oL 1 F] (GL 1 (λzs=>zs.length=kX es/\Wds zs)):=by
 refine aS ?_;refine aC Tryz.func170 ?_
 repeat' ((conv=>whnf);first|refine aJ (λh=>?_) (λh=>?_)|(refine aG H aa aa ?_;rintro _ ⟨s,o,rfl,R⟩ S)|(have b:=aBe R h;clear h)|(refine aG a aa aa ?_;rintro _ ⟨w,rfl,v,N⟩ c)|refine And.intro ⟨by simp[tr],by have:=za H i U;have:=R.2.1;simp[tr,bh];omega,by have:=za H i U;have:=R.2.1;simp[tr,maxLen];omega⟩ ?_|exact nt rfl (df rfl rfl (xs:=zs) rfl aa) ⟨_,rfl,by rw[QD];exact⟨by rw[aac aa]at A;exact A,B⟩⟩|(apply bp [1,5,6,8,9,10,18,19] [] [5,19] [(4,1)] (RSi (kX (es.take i)) (o.length - 1)) (o.length - 1) [bD 4 1 zs.length,iV .i64 0];(iterate 3 exact ae);exact .cons (aL.aM (xs:=zs) rfl _) .nil;exact⟨0,zs,aa,rfl,rfl,rfl,aa,B⟩;rintro _ _ _ ⟨j,r,Q,rfl,rfl,rfl,x,d⟩)|(refine aI [1,5,6,8,9,10,18,19] [] ?_;(conv=>whnf);exact⟨rfl,_,[_,_],_,.cons (aL.aM (aL.snoc (xs:=r) rfl [tI _]) _) .nil,RSi.next R rfl b x d v N iC,rfl,rfl,aa⟩)|(apply cL [1,5,8,9,10] [] [5,10] [(4,1)] (RSw es) (es.length) [bD 4 1 0,iV .i64 0] (eo.dQ 5 1 rfl);(iterate 3 exact ae);exact .cons (aL.aM aL.nil _) .nil;exact⟨0,[],aa,rfl,rfl,rfl,by simp[kX],(λe H=>by simp at H)⟩;rintro _ _ _ ⟨i,zs,I,rfl,rfl,rfl,A,B⟩)|(refine aI [1,5,8,9,10] [] ?_;(conv=>whnf);exact⟨rfl,_,[_,_],_,.cons (aL.aM (xs:=r) rfl _) .nil,RSw.next aa U S R x d Q h,rfl,rfl,aa⟩))
def YE(a b:Int):Tg 32 [oI a,oI b] (oq (λn=> -1<=n/\n<=1)):=by
 refine aC Tryz.func32 ?_
 repeat' ((conv=>whnf);first|refine bZz (λh=>?_) (λh=>?_)|(refine aD rfl (VC _) ?_;rintro _ ⟨c,rfl,D⟩)|(refine jX rfl rfl ?_;omega))
def iz(xs:Lz)(hx:cO xs)(U:xs.length<=1000000):Tg 174 [oL 2 xs] (oq (λn=> -1<=n/\n<=1)):=by
 refine aC Tryz.func174 ?_
 repeat' ((conv=>whnf);first|(refine aD rfl (uK xs hx U) ?_;rintro _ ⟨n,rfl⟩)|(refine aD rfl (YE _ _) ?_;rintro _ ⟨c,rfl,D⟩)|exact jX rfl rfl D)
def Bt(s:Sp):Tg 222 [lH s] (GPt 2):=by
 refine aS ?_;refine aC Tryz.func222 ?_
 repeat' ((conv=>whnf);first|(refine aD rfl (UW _ _) ?_;rintro _ ⟨b,o,G,c,L,B,rfl,O,Y⟩)|exact nt rfl (cc aPt zPt rfl rfl (ww _) rfl (dm.refl _)) ⟨_,o,G,_,L,B,rfl,O,Y⟩)
def aiC(F:Lz)(i:Nat):Prop:= ∀j e,j < i->F[j]? =some e->Wd e
def aiC.all{i:Nat}(h:aiC F i)(I:F.length<=i):∀e,e∈F->Wd e:=by
 intro e H;obtain⟨j,Q,rfl⟩:=aa3 H;exact h j _ aa Fc
def RWd(F:Lz)(m:Nat)(vs:List V):Prop:= ∃i:Nat,i<=F.length/\aiC F i/\m=F.length - i/\vs=[iV .i64 (i:Int)]
def RWd.next{i:Nat}(I:(i:Int) < (F.length:Int))(U:F.length<=maxLen)(h:aiC F i)(S:F[((i:Int)).toNat]? =some [tI w])(z:0<=w)(O:w<=500):RWd F (F.length - (i+1)) [iV .i64 (IntKind.i64.wrap ((i:Int)+1))]:=by
 refine⟨i+1,aa,λj e Q H=>?_,rfl,by simp only[maxLen]at U;rw[bF aa aa];rfl⟩
 by_cases v:j=i
 . subst v;have x:F[j]? =some [tI w]:=aA
   rw[x]at H;exact⟨w,(aa5 H).symm,z,O⟩
 . exact h j e aa H
def ph(h:vs=jJ es/\yo es):cO vs/\(3<=vs.length/\vs.length<=40)/\TI vs vs.length/\(∀e,e∈vs->InE e)/\vs.length=kX es:=by
 obtain⟨rfl,O,Y,⟨⟨B,g,U⟩,R⟩,v⟩:=h;exact⟨λe H=>by obtain⟨a,b,r,_⟩:=U e H;exact⟨a,b,r⟩,⟨B,g⟩,R,U,v⟩
def J0{i:Nat}(I:xs[i]? =some e)(A:i < j):e∈xs.take j:=
 oo (i:=i) (by rw[aa4,if_pos A];exact I)
def asN(h:TI xs xs.length){i:Nat}{J:Lt}(I:xs[i]? =some e)(Q:xs[j]? =some J)(A:i≠j):e≠J:=by
 rintro rfl;have b:=(jl.1 I).1;have a:=(jl.1 Q).1;rcases adj A with l|l
 . exact h j e a Q (J0 I l)
 . exact h i e b I (J0 Q l)
def aBQ{i:Nat}(I:(i:Int) < (N:Int))(D:2<=N)(G:N<=1000000):((i:Int)).toNat≠ ((IntKind.i64.wrap ((i:Int)+1)).tmod (N:Int)).toNat:=by
 rw[bF aa aa]
 by_cases h:(i:Int)+1 < (N:Int)
 . rw[Int.tmod_eq_of_lt aa h];omega
 . have e:(i:Int)+1=(N:Int):=aa
   rw[e,Int.tmod_self];omega
def ajM{i:Nat}(h:TI vs vs.length)(I:(i:Int) < (vs.length:Int))(D:3<=vs.length/\vs.length<=40)(O:vs[((i:Int)).toNat]? =some [tI a,tI b])(Y:vs[((IntKind.i64.wrap ((i:Int)+1)).tmod (vs.length:Int)).toNat]? =some [tI c,tI d]):a≠c\/b≠d:=by
 have:=asN h O Y (aBQ I aa aa)
 by_cases e:a=c
 . by_cases j:b=d
   . subst e;subst j;exact absurd rfl this
   . exact .inr j
 . exact .inl e
def sqr{x:Int}(O: -2097152<=x)(Y:x<=2097152):0<=x * x/\x * x<=4398046511104/\(x≠0->1<=x * x):=by
 have:=RM (m:=x) (s:=x) (B:=2097152) (C:=2097152) O Y O Y aa;have e:((x.natAbs * x.natAbs:Nat):Int)=x * x:=Int.natAbs_mul_self;refine⟨aa,aa,λN=>?_⟩;have:0 < x.natAbs * x.natAbs:=afk aa aa;omega
def Ou(O:Td (a,b))(Y:Td (c,d)):0<=IntKind.i64.wrap (IntKind.i64.wrap (IntKind.i64.wrap (c - a) * IntKind.i64.wrap (c - a))+IntKind.i64.wrap (IntKind.i64.wrap (d - b) * IntKind.i64.wrap (d - b)))/\
 IntKind.i64.wrap (IntKind.i64.wrap (IntKind.i64.wrap (c - a) * IntKind.i64.wrap (c - a))+IntKind.i64.wrap (IntKind.i64.wrap (d - b) * IntKind.i64.wrap (d - b)))<=1125899906842624/\
 (a≠c\/b≠d->1<=IntKind.i64.wrap (IntKind.i64.wrap (IntKind.i64.wrap (c - a) * IntKind.i64.wrap (c - a))+IntKind.i64.wrap (IntKind.i64.wrap (d - b) * IntKind.i64.wrap (d - b)))):=by
 obtain⟨⟨L,N⟩,I,Q⟩:=O;obtain⟨⟨g,K⟩,j,y⟩:=Y;simp only at L N I Q g K j y;rw[bF (n:=c - a) aa aa,bF (n:=d - b) aa aa];have H:=sqr (x:=c - a) aa aa;have o:=sqr (x:=d - b) aa aa;rw[bF (n:=(c - a) * (c - a)) aa aa,bF (n:=(d - b) * (d - b)) aa aa,bF aa aa];refine⟨aa,aa,λh=>?_⟩;rcases h with h|h
 . have:=H.2.2 aa;omega
 . have:=o.2.2 aa;omega
def ajA{s:Int}(S: -1<=s/\s<=1)(v:0<=w)(l:w<=500)(O:Td (a,b))(Y:Td (c,d)): -1000000000000000<=IntKind.i64.wrap (IntKind.i64.wrap (s * w) * IntKind.i64.wrap (d - b))/\
 -1000000000000000<=IntKind.i64.wrap (IntKind.i64.wrap (0 - IntKind.i64.wrap (s * w)) * IntKind.i64.wrap (c - a)):=by
 obtain⟨⟨L,N⟩,I,Q⟩:=O;obtain⟨⟨g,K⟩,j,y⟩:=Y;simp only at L N I Q g K j y;have e:=RM (m:=s) (s:=w) (B:=500) (C:=1) S.1 S.2 aa l aa;rw[bF (n:=c - a) aa aa,bF (n:=d - b) aa aa,bF (n:=s * w) aa aa,bF (n:=0 - s * w) aa aa];have H:=RM (m:=s * w) (s:=d - b) (B:=2097152) (C:=500) aa aa aa aa aa;have o:=RM (m:=0 - s * w) (s:=c - a) (B:=2097152) (C:=500) aa aa aa aa aa;rw[bF aa aa,bF aa aa];omega
def cO.set{xs:Lz}(h:cO xs)(j:Nat)(a b:Int):cO (xs.set j [tI a,tI b]):=by
 intro e H;rcases aao H with H|rfl
 . exact h e H
 . exact⟨a,b,rfl⟩
def cO.Tn(n:Nat):cO (List.replicate n [tI 0,tI 0]):=by
 intro e H;obtain⟨_,rfl⟩:=acv.1 H;exact⟨0,0,rfl⟩
def cO.snoc(h:cO xs)(a b:Int):cO (xs++[[tI a,tI b]]):=by
 intro e H;simp only[yl,vv]at H;rcases H with H|rfl
 . exact h e H
 . exact⟨a,b,rfl⟩
def cD(h:n=zs.length):(zs.drop 0).take n=zs:=by subst h;simp
def RSf(N:Nat)(m:Nat)(vs:List V)(w:List (Lz)):Prop:= ∃ (i:Nat) (M:Lz),i<=N/\m=N - i/\vs=[iV .i64 (i:Int)]/\w=[M]/\M.length=N/\cO M
def RSf.next{i:Nat}(h:(i:Int) < (N:Int))(D:N<=1000000)(U:zs.length=N)(B:cO zs):RSf N (N - (i+1)) [iV .i64 (IntKind.i64.wrap ((i:Int)+1))] [zs.set j [tI a,tI b]]:=
 ⟨i+1,_,aa,rfl,by rw[bF aa aa];rfl,rfl,by simp[U],B.set j a b⟩
def zL(es R:Lz)(H:kz es)(s:es.length<=maxLen)(Z:Is R)(G:R.length<=maxLen):Tg 168 [oL 2 es,oL 1 R] (X9 2 (λv=>(cO v/\v.length=kX es)/\yo es/\(∀e,e∈R->Wd e)/\R.length=es.length)):=by
 refine aS ?_;refine aC Tryz.func168 ?_
 repeat' ((conv=>whnf);first|refine bZz (λh=>?_) (λh=>?_)|(refine aG (xs:=o) (n:=(i:Int)) (ph (K aa)).2.2.2.1 aa aa ?_;rintro _ ⟨a,b,rfl,hI1⟩ l)|(refine aG (xs:=o) (ph (K aa)).2.2.2.1 (dB (by have:=(ph (K aa)).2.1;rw[bF aa aa];omega)) (di Og) ?_;rintro _ ⟨c,d,rfl,hI2⟩ O)|(refine aG (xs:=R) Z aa aa ?_;rintro _ ⟨w,rfl⟩ S)|(refine aG (xs:=Y) hyW aa (by have:=(ph (K aa)).2.2.2.2;omega) ?_;rintro _ ⟨L,rfl,YU,N⟩ U)|refine And.intro ⟨aa,aa,by have:=(ph (K aa)).2.1;omega,by have:=(ph (K aa)).2.1;omega⟩ ?_|refine And.intro (show((o.length:Nat):Int)≠0 by have:=(ph (K aa)).2.1;omega) ?_|refine And.intro ⟨aa,aa⟩ ?_|refine And.intro ag ?_|(refine aD rfl (mB es H s) ?_;rintro _ ⟨o,e,rfl,K⟩)|(refine aD rfl (iz o (ph (K aa)).1 Og) ?_;rintro _ ⟨sg,rfl,hsg⟩)|(refine aD rfl (ku es R (K aa).2.2.1 (K aa).2.1.2 (F.all aa) aa) ?_;rintro _ ⟨Y,rfl,P,hyW⟩)|(refine cu (xs:=M) rfl B aa ?_;rintro _ ⟨x,y,rfl⟩ g)|(refine aD rfl (DF _ (Ou hI1 hI2).1 (Ou hI1 hI2).2.1) ?_;rintro _ ⟨r,rfl,J,D⟩)|(refine aD rfl (oR _ _ (ajA hsg YU N hI1 hI2).1 jO aa) ?_;rintro _ ⟨n,rfl⟩)|(refine aD rfl (oR _ _ (ajA hsg YU N hI1 hI2).2 jO aa) ?_;rintro _ ⟨n,rfl⟩)|exact eL rfl (dy 2 rfl) (cv rfl) ⟨_,_,rfl,λz=>absurd z aa⟩|exact eL rfl (df rfl rfl (xs:=M) rfl aa) (cv rfl) ⟨_,_,rfl,λ_=>by rw[cD aa];exact⟨⟨B,by have:=(ph (K aa)).2.2.2.2;omega⟩,(K aa).2,F.all aa,aa⟩⟩|(apply bp [6,10,11,12,54,55,56] [] [56] [(4,2)] (RSf o.length) (o.length) [iV .i64 0];(iterate 3 exact ae);exact .cons (aL.aM (aL.replicate _ [tI 0,tI 0]) _) .nil;exact⟨0,_,aa,rfl,rfl,rfl,ak,cO.Tn _⟩;rintro _ _ _ ⟨i,M,I,rfl,rfl,rfl,A,B⟩)|(refine aI [6,10,11,12,54,55,56] [] ?_;(conv=>whnf);exact⟨rfl,_,[_],_,.cons (aL.aM (aL.set (xs:=M) rfl _ [tI _,tI _]) _) .nil,RSf.next aa Og A B,rfl,rfl,aa⟩)|(apply aV [0,1,6,33,34,35] [] [35] (RWd R) (R.length) [iV .i64 0];(iterate 3 exact ae);exact⟨0,aa,λj e Q=>by omega,rfl,rfl⟩;rintro _ _ ⟨i,I,F,rfl,rfl⟩)|(refine aI [0,1,6,33,34,35] [] ?_;(conv=>whnf);exact⟨rfl,_,[_],RWd.next aa G F S aa aa,rfl,rfl,rfl,aa⟩))
abbrev aBO(a b:Sp)(w:Int):W:= .agg [.t (tI a.1),.t (tI a.2),.t (tI b.1),.t (tI b.2),.t (tI w)]
def aH4(a b:Int):cO ((([[tI a,tI b]]:Lz).drop 0).take 1):=by
 intro e H;simp at H;exact⟨a,b,H⟩
def aH3(a b c d:Int):cO ((([[tI a,tI b],[tI c,tI d]]:Lz).drop 0).take 2):=by
 intro e H;simp at H;rcases H with H|H
 . exact⟨a,b,H⟩
 . exact⟨c,d,H⟩
def zK(v F N I Q:Sp)(a J:Int):Tg 172 [lH v,aBO F N a,aBO I Q J] (GL 2 (λps=>cO ps/\ps.length<=2)):=by
 refine aS ?_;refine aC Tryz.func172 ?_
 repeat' ((conv=>whnf);first|refine bZz (λh=>?_) (λh=>?_)|refine And.intro ag ?_|(refine aN rfl (Bt (_,_)) ?_;rintro _ ⟨b,o,G,c,L,B,rfl,O,Y⟩)|(refine aN rfl (Mv _ _ _ _ _ _ _ _ _ _ _ _ _ _ _ _ _ _ _ _ _ _ _ _ ai ai ai ai ai ai ai ai) ?_;rintro _ ⟨b,o,G,c,L,B,n,rfl,O,Y⟩)|(refine aN rfl (pZ 341 _ _ _ _ _ _ _ _ _ _ _ _ ai ai (kI (k:=2) ai aa) (kI (k:=2) ai aa) aa aa) ?_;rintro _ ⟨b,o,G,c,L,B,rfl,O,Y⟩)|(refine aN rfl (Mw 683 _ _ _ _ _ _ ai ai aa aa) ?_;rintro _ ⟨⟨x,y⟩,n,rfl⟩)|(refine aD rfl (qz (_,_) _) ?_;rintro _ ⟨q,rfl⟩)|(refine aD rfl (vc (_,_) (_,_)) ?_;rintro _ ⟨x,y,rfl,_⟩)|exact nt rfl (df rfl rfl (xs:=[[tI _,tI _]]) rfl ak) ⟨_,rfl,aH4 _ _,ak⟩|exact nt rfl (df rfl rfl (xs:=[[tI _,tI _],[tI _,tI _]]) rfl ak) ⟨_,rfl,aH3 _ _ _ _,ak⟩)
def Sg(e:Lt):Prop:= ∃a b c d w,e=[tI a,tI b,tI c,tI d,tI w]
abbrev Sgs(xs:Lz):Prop:= ∀e,e∈xs->Sg e
def Sgs.set{xs:Lz}(h:Sgs xs)(j:Nat)(a b c d w:Int):Sgs (xs.set j [tI a,tI b,tI c,tI d,tI w]):=by
 intro e H;rcases aao H with H|rfl
 . exact h e H
 . exact⟨a,b,c,d,w,rfl⟩
def Sgs.Tn(n:Nat):Sgs (List.replicate n [tI 0,tI 0,tI 0,tI 0,tI 0]):=by
 intro e H;obtain⟨_,rfl⟩:=acv.1 H;exact⟨0,0,0,0,0,rfl⟩
def RSg(N:Nat)(m:Nat)(vs:List V)(w:List (Lz)):Prop:= ∃ (i:Nat) (M:Lz),i<=N/\m=N - i/\vs=[iV .i64 (i:Int)]/\w=[M]/\M.length=N/\Sgs M
def RSg.next{i:Nat}(h:(i:Int) < (N:Int))(D:N<=1000000)(U:zs.length=N)(B:Sgs zs):RSg N (N - (i+1)) [iV .i64 (IntKind.i64.wrap ((i:Int)+1))] [zs.set j [tI a,tI b,tI c,tI d,tI w]]:=
 ⟨i+1,_,aa,rfl,by rw[bF aa aa];rfl,rfl,by simp[U],B.set j a b c d w⟩
def RPo(zs:Lz)(N:Nat)(m:Nat)(F:List V)(w:List (Lz)):Prop:= ∃ (i:Nat) (g:Lz),i<=N/\m=N - i/\F=[bD 8 2 g.length,iV .i64 (i:Int)]/\w=[zs,g]/\g.length<=2 * i/\cO g
def RPo.next{i:Nat}(h:(i:Int) < (N:Int))(D:N<=1000000)(hp:ps.length<=2 * (i+1))(l:cO ps):RPo zs N (N - (i+1)) [bD 8 2 ps.length,iV .i64 (IntKind.i64.wrap ((i:Int)+1))] [zs,ps]:=
 ⟨i+1,_,aa,rfl,by rw[bF aa aa];rfl,rfl,hp,l⟩
def RPi(zs:Lz)(b L:Nat)(m:Nat)(F:List V)(w:List (Lz)):Prop:= ∃ (j:Nat) (g:Lz),j<=L/\m=L - j/\F=[bD 8 2 g.length,iV .i64 (j:Int)]/\w=[zs,g]/\g.length<=b+j/\cO g
def RPi.same{b:Nat}(h:(j:Int) < (L:Int))(R:L<=2)(hp:ps.length<=b+j)(l:cO ps):RPi zs b L (L - (j+1)) [bD 8 2 ps.length,iV .i64 (IntKind.i64.wrap ((j:Int)+1))] [zs,ps]:=
 ⟨j+1,_,aa,rfl,by rw[bF aa aa];rfl,rfl,aa,l⟩
def RPi.ya{b k:Nat}{x y:Int}(h:(j:Int) < (L:Int))(R:L<=2)(hp:ps.length<=b+j)(l:cO ps)(Z:k=ps.length+1):RPi zs b L (L - (j+1)) [bD 8 2 k,iV .i64 (IntKind.i64.wrap ((j:Int)+1))] [zs,ps++[[tI x,tI y]]]:=
 ⟨j+1,_,aa,rfl,by rw[bF aa aa,Z];simp,rfl,by simp;omega,l.snoc x y⟩
def RTr(ps:Lz)(m:Nat)(vs:List V)(w:List (Lz)):Prop:= ∃k:Nat,k<=ps.length/\m=k/\vs=[bD 4 2 k]/\w=[ps]
def RTr.next{k:Nat}(Z:k<=ps.length)(Y:(k:Int)≥2)(G:ps.length<=1000):RTr ps (k - 1) [bD 4 2 ((IntKind.i64.wrap ((k:Int) - 1)).toNat - 0)] [ps]:=by
 have e:(IntKind.i64.wrap ((k:Int) - 1)).toNat - 0=k - 1:=by rw[bF aa aa];omega
 rw[e];exact⟨k - 1,aa,rfl,rfl,rfl⟩
def RPk(ps:Lz)(k:Nat)(m:Nat)(vs:List V)(w:List (Lz)):Prop:= ∃i:Nat,i<=k/\m=k - i/\vs=[iV .i64 (i:Int)]/\w=[ps]
def RPk.next{i k:Nat}(h:(i:Int) < (k:Int))(Z:k<=1000):RPk ps k (k - (i+1)) [iV .i64 (IntKind.i64.wrap ((i:Int)+1))] [ps]:=
 ⟨i+1,aa,rfl,by rw[bF aa aa];rfl,rfl⟩
def ajW{hp:HS}{id sz len:Nat}{rows:Lq}(R:find hp id=some (.row sz rows))(M:aL rows xs)(U:len<=xs.length):bB (bM hp) [.one (.own id sz 0 len)]=some [.one (.t (.aO sz (xs.take len)))]:=by
 have:=kO (hp:=hp) (i:=0) R M (by omega:0+len<=xs.length);simp only[bB,this];simp
def cO.take{xs:Lz}(h:cO xs)(n:Nat):cO (xs.take n):=λe H=>h e (aah H)
def Om{B:Nat}(h:xs.length<=B):(xs.take n).length<=B:=by simp;omega
def amU{i:Nat}(D:1<=N)(G:N<=1000000)(I:i < N):0<=(IntKind.i64.wrap (IntKind.i64.wrap ((i:Int)+(N:Int)) - 1)).tmod (N:Int)/\(IntKind.i64.wrap (IntKind.i64.wrap ((i:Int)+(N:Int)) - 1)).tmod (N:Int) < (N:Int):=
 ⟨dB (by rw[bF (n:=(i:Int)+(N:Int)) aa aa,bF aa aa];omega),di aa⟩
def yx(h:vs=jJ es/\yo es):(3<=vs.length/\vs.length<=40)/\vs.length=kX es:=⟨(ph h).2.1,(ph h).2.2.2.2⟩
def rR(es F:Lz)(H:kz es)(r:es.length<=maxLen)(J:Is F)(ni:F.length<=maxLen):Tg 125 [oL 2 es,oL 1 F] (X9 2 DN):=by
 refine aS ?_;refine aC Tryz.func125 ?_
 repeat' ((conv=>whnf);first|refine bZz (λh=>?_) (λh=>?_)|(refine aG (xs:=v) (P aa).1.1 aa aa ?_;rintro _ ⟨x0,y0,rfl⟩ hs0;have hi2:(i:Int) < (o.length:Int):=by(have:=(P aa).1.2;have:=(yx (K aa)).2;omega))|(refine aG (xs:=o) (n:=(i:Int)) (ph (K aa)).1 aa (by first|omega|(have:=(P aa).1.2;have:=(yx (K aa)).2;omega)) ?_;rintro _ ⟨a,b,rfl⟩ L)|(refine aG (xs:=o) (ph (K aa)).1 (dB D2) (di e6) ?_;rintro _ ⟨c,d,rfl⟩ O)|(refine aG (xs:=Y) hyW aa (by have:=(yx (K aa)).2;have:=(P aa).1.2;omega) ?_;rintro _ ⟨w2,rfl,YU,I6⟩ hsw)|(refine aG (xs:=R) hcs aa aa ?_;rintro _ ⟨cx,cy,rfl⟩ hsc)|refine And.intro ⟨aa,aa,by have:=(yx (K aa)).1;omega,by have:=(yx (K aa)).1;omega⟩ ?_|refine And.intro (show((o.length:Nat):Int)≠0 by have:=(yx (K aa)).1;omega) ?_|refine And.intro ⟨by simp[tr],by have:=(yx (K aa)).1;simp[tr,bh];omega,by have:=(yx (K aa)).1;simp[tr,maxLen];omega⟩ ?_|refine oZ (aa7 _) D2 (.inr rfl) ?_|refine And.intro (show(0:Int)<=IntKind.i64.wrap ((k:Int) - 1) by rw[bF aa e6];omega) ?_|refine And.intro ⟨dB (by have:=(yx (K aa)).1;rw[bF (n:=(i:Int)+(o.length:Int)) aa aa,bF aa aa];omega),di e6⟩ ?_|refine And.intro ⟨aa,aa⟩ ?_|refine And.intro ⟨by have:=(yx (K aa)).1;rw[bF aa aa];omega,by have:=(yx (K aa)).1;rw[bF aa aa];omega⟩ ?_|refine And.intro ag ?_|(refine aD rfl (zL es F H r J ni) ?_;rintro _ ⟨v,l,rfl,P⟩)|(refine aD rfl (mB es H r) ?_;rintro _ ⟨o,e,rfl,K⟩)|(refine aD rfl (ku es F (K aa).2.2.1 (K aa).2.1.2 (P aa).2.2.1 (P aa).2.2.2) ?_;rintro _ ⟨Y,rfl,w,hyW⟩)|(refine cu (xs:=M) rfl B (by first|omega|(have:=amU (i:=i) (N:=o.length) e6 e6 aa;omega)) ?_;rintro _ ⟨s1,s2,s3,s4,s5,rfl⟩ uS)|(refine cu (xs:=ps2) rfl adC sq ?_;rintro _ ⟨x,y,rfl⟩ uS)|(refine cu (xs:=g) rfl hps sq ?_;rintro _ ⟨x,y,rfl⟩ uS)|(refine aN rfl (vc (_,_) (_,_)) ?_;rintro _ ⟨x,y,rfl,_⟩)|(refine aN rfl (zK (_,_) (_,_) (_,_) (_,_) (_,_) _ _) ?_;rintro _ ⟨R,rfl,hcs,U⟩)|(refine aD rfl (qz (_,_) _) ?_;rintro _ ⟨q,rfl⟩)|(refine iJ (ajW (xs:=g) rfl rfl aa) (gv _ (hps.take _) (Om e6)) ?_ ?_;(rintro _ ⟨d,rfl,S⟩;rfl);rintro _ ⟨d,rfl,S⟩)|(refine iJ (ajW (xs:=g) rfl rfl aa) (iz _ (hps.take _) (Om e6)) ?_ ?_;(rintro _ ⟨o1,rfl,_⟩;rfl);rintro _ ⟨o1,rfl,_⟩)|(refine aD rfl (iz o (ph (K aa)).1 e6) ?_;rintro _ ⟨D,rfl,_⟩)|exact eL rfl (dy 2 rfl) (cv rfl) ⟨_,_,rfl,λz=>absurd z aa⟩|exact eL rfl (df rfl rfl (xs:=g) rfl aa) (cv rfl) ⟨_,_,rfl,λ_=>by simpa using S aa⟩|(apply bp [8,14,143,144,145] [] [145] [(4,2)] (RPk g k) (k) [iV .i64 0];(iterate 3 exact ae);exact .cons (aL.aM (xs:=g) rfl _) .nil;exact⟨0,aa,rfl,rfl,rfl⟩;rintro _ _ _ ⟨q,s,rfl,rfl,rfl⟩)|(refine aI [8,14,143,144,145] [] ?_;(conv=>whnf);exact⟨rfl,_,[_],_,.cons (aL.aM (xs:=g) rfl _) .nil,RPk.next aa e6,rfl,rfl,aa⟩)|(apply bp [8,10,11,14,77,78,79,98,99,100] [] [14,100] [(4,5),(8,2)] (RPi M (2 * i) R.length) (R.length) [bD 8 2 g.length,iV .i64 0];(iterate 3 exact ae);exact .cons (aL.aM (xs:=M) rfl _) (.cons (aL.aM (xs:=g) rfl _) .nil);exact⟨0,g,aa,rfl,rfl,rfl,aa,hps⟩;rintro _ _ _ ⟨j,ps2,Q,rfl,rfl,rfl,aqD,adC⟩)|(refine aI [8,10,11,14,77,78,79,98,99,100] [] ?_;(conv=>whnf);first|exact⟨rfl,_,[_,_],_,.cons (aL.aM (xs:=M) rfl _) (.cons (aL.aM (xs:=ps2) rfl _) .nil),RPi.same aa U aqD adC,rfl,rfl,aa⟩|exact⟨rfl,_,[_,_],_,.cons (aL.aM (xs:=M) rfl _) (.cons (aL.aM (aL.snoc (xs:=ps2) rfl [tI _,tI _]) _) .nil),RPi.ya aa U aqD adC iC,rfl,rfl,aa⟩)|(apply bp [8,14] [] [14] [(4,2)] (RTr g) (g.length) [bD 4 2 g.length];(iterate 3 exact ae);exact .cons (aL.aM (xs:=g) rfl _) .nil;exact⟨g.length,aa,rfl,rfl,rfl⟩;rintro _ _ _ ⟨k,Z,hmk,rfl,rfl⟩)|(refine aI [8,14] [] ?_;(conv=>whnf);exact⟨rfl,_,[_],_,.cons (aL.aM (xs:=g) rfl _) .nil,RTr.next Z aa e6,rfl,rfl,aa⟩)|(apply cL [8,10,11,14,77,78,79] [] [14,79] [(4,5),(8,2)] (RPo M o.length) (o.length) [bD 8 2 0,iV .i64 0] (eo.dQ 14 2 rfl);(iterate 3 exact ae);exact .cons (aL.aM (xs:=M) rfl _) (.cons (aL.aM aL.nil _) .nil);exact⟨0,[],aa,rfl,rfl,rfl,ak,λe H=>by simp at H⟩;rintro _ _ _ ⟨i,g,I,rfl,rfl,rfl,G,hps⟩)|(refine aI [8,10,11,14,77,78,79] [] ?_;(conv=>whnf);exact⟨rfl,_,[_,_],_,.cons (aL.aM (xs:=M) rfl _) (.cons (aL.aM (xs:=ps2) rfl _) .nil),RPo.next aa e6 aa adC,rfl,rfl,aa⟩)|(apply bp [8,9,10,11,46,47,48] [] [48] [(4,5)] (RSg o.length) (o.length) [iV .i64 0];(iterate 3 exact ae);exact .cons (aL.aM (aL.replicate _ [tI 0,tI 0,tI 0,tI 0,tI 0]) _) .nil;exact⟨0,_,aa,rfl,rfl,rfl,ak,Sgs.Tn _⟩;rintro _ _ _ ⟨i,M,I,rfl,rfl,rfl,A,B⟩)|(refine aI [8,9,10,11,46,47,48] [] ?_;(conv=>whnf);exact⟨rfl,_,[_],_,.cons (aL.aM (aL.set (xs:=M) rfl _ [tI _,tI _,tI _,tI _,tI _]) _) .nil,RSg.next (by have:=(P aa).1.2;have:=(yx (K aa)).2;omega) e6 A B,rfl,rfl,aa⟩))
end Go.aW.Cd
namespace Go.aW
open Go
variable{P:Program}{M A:agt}{ρ:Env}{F:agt}{st:St}{a:Act}{w:World}
abbrev cF:=List (Value×C×Nat)
structure eK(P:Program)(kt:TypeId)(Kd:Value->Prop):Prop where
 at_:∀ (es:cF) (kv:Value) (empty:Bool),(∀p,p∈es->Kd p.1)->Kd kv->
  (iY P empty kt kv es=some none/\ ∀p,p∈es->p.1≠kv)\/ ∃i p,iY P empty kt kv es=some (some i)/\es[i]? =some p/\p.1=kv
 same:∀kv,Kd kv->Instr.sameBits 10000 kv kv=true
def Dg{d:TypeDesc}{j:Value->Prop}{U:Value}(S:∀b,j b-> ∃q,Instr.sameNow d U b=some q/\(q=true↔b=U)):∀ (es:cF) (n:Nat),(∀p,p∈es->j p.1)->
 (Instr.findNow d U (dY es) n=some none/\ ∀p,p∈es->p.1≠U)\/ ∃i p v,Instr.findNow d U (dY es) n=some (some (n+i,v))/\es[i]? =some p/\p.1=U
 | [],n,_=> .inl ⟨rfl,λp F=>by simp at F⟩
 |e::es,n,h=>by
  obtain⟨q,O,Y⟩:=S e.1 (h e aa1);have c:Instr.sameNow d U (⟨e.1,.bool false,0⟩:MapEntry).key=some q:=O
  show((match Instr.sameNow d U (⟨e.1,.bool false,0⟩:MapEntry).key with
   |some true=>some (some (n,(⟨e.1,.bool false,0⟩:MapEntry).val))|some false=>Instr.findNow d U (dY es) (n+1)
   |none=>none)=some none/\_)\/ ∃i p v,(match Instr.sameNow d U (⟨e.1,.bool false,0⟩:MapEntry).key with
   |some true=>some (some (n,(⟨e.1,.bool false,0⟩:MapEntry).val))|some false=>Instr.findNow d U (dY es) (n+1)
   |none=>none)=some (some (n+i,v))/\_
  rw[c]
  cases q with
  |true=>exact .inr ⟨0,e,_,rfl,rfl,Y.1 rfl⟩
  |false=>
   have P:e.1≠U:=λH=>by have:=Y.2 H;simp at this
   rcases Dg S es (n+1) (λp F=>h p (aa2 _ F))with⟨h3,h4⟩|⟨i,p,v,h3,h4,h5⟩
   . refine .inl ⟨h3,λp F=>?_⟩;rcases aak.1 F with rfl|F
     . exact P
     . exact h4 p F
   . exact .inr ⟨i+1,p,v,by rw[show n+(i+1)=n+1+i by omega];exact h3,by simpa using h4,h5⟩
def uW{kt:TypeId}{j:Value->Prop}{U:Value}(S:∀b,j b-> ∃q,aX P (Op.equal kt U b)=some q/\(q=true↔b=U)):∀ (es:cF) (n:Nat),(∀p,p∈es->j p.1)->
 (aX P (Instr.findAsking kt U (dY es) n)=some none/\ ∀p,p∈es->p.1≠U)\/ ∃i p v,aX P (Instr.findAsking kt U (dY es) n)=some (some (n+i,v))/\es[i]? =some p/\p.1=U
 | [],n,_=> .inl ⟨rfl,λp F=>by simp at F⟩
 |e::es,n,h=>by
  obtain⟨q,O,Y⟩:=S e.1 (h e aa1);have r:dY (e::es)=⟨e.1,.bool false,0⟩::dY es:=rfl;simp only[r,Instr.findAsking,aY,O,Tf]
  cases q with
  |true=>exact .inr ⟨0,e,_,rfl,rfl,Y.1 rfl⟩
  |false=>
   have g:e.1≠U:=λH=>by have:=Y.2 H;simp at this
   simp only[aag,if_false];rcases uW S es (n+1) (λp F=>h p (aa2 _ F))with⟨h3,h4⟩|⟨i,p,v,h3,h4,h5⟩
   . refine .inl ⟨h3,λp F=>?_⟩;rcases aak.1 F with rfl|F
     . exact g
     . exact h4 p F
   . exact .inr ⟨i+1,p,v,by rw[show n+(i+1)=n+1+i by omega];exact h3,by simpa using h4,h5⟩
variable{kt ty S:TypeId}{j:Value->Prop}{es:cF}{n ctr id clock born:Nat}{K:V->HS->Prop}{U z l:Value}{c:C}{x:Operand}
def FC{d:TypeDesc}(L:P.underlying kt=some d)(I:∀e U,j U-> ∃u,aX P (Instr.checkKey e 10000 kt U)=some u)
 (S:∀a b,j a->j b-> ∃q,Instr.sameNow d a b=some q/\(q=true↔b=a)) (g:∀U,j U->Instr.sameBits 10000 U U=true):eK P kt j:=by
 refine⟨λB U o H Z=>?_,g⟩;obtain⟨u,O⟩:=I o U Z;rcases Dg (λb G=>S U b Z G) B 0 H with⟨h3,h4⟩|⟨i,p,v,h3,h4,h5⟩
 . refine .inl ⟨?_,h4⟩;have:aX P (Instr.findKey kt U (dY B))=some none:=by simp only[Instr.findKey,aY,bi L,Tf,h3,aU]
   simp only[iY,O,this]
 . refine .inr ⟨i,p,?_,h4,h5⟩;have:aX P (Instr.findKey kt U (dY B))=some (some (i,v)):=by simp only[Instr.findKey,aY,bi L,Tf,h3,aU,aas]
   simp only[iY,O,this]
def FD{d:TypeDesc}(L:P.underlying kt=some d)(I:∀e U,j U-> ∃u,aX P (Instr.checkKey e 10000 kt U)=some u)
 (K:∀a b,j a->j b->Instr.sameNow d a b=none) (S:∀a b,j a->j b-> ∃q,aX P (Op.equal kt a b)=some q/\(q=true↔b=a)) (g:∀U,j U->Instr.sameBits 10000 U U=true):eK P kt j:=by
 refine⟨λB U o H Z=>?_,g⟩;obtain⟨u,O⟩:=I o U Z
 cases B with
 |nil=>
  refine .inl ⟨?_,λp F=>by simp at F⟩;have:aX P (Instr.findKey kt U (dY []))=some none:=by simp only[Instr.findKey,aY,bi L,Tf,dY,abh,Instr.findNow,aU]
  simp only[iY,O,this]
 |cons e B=>
  have c:Instr.findNow d U (dY (e::B)) 0=none:=by
   show(match Instr.sameNow d U (⟨e.1,.bool false,0⟩:MapEntry).key with
    |some true=>some (some (0,(⟨e.1,.bool false,0⟩:MapEntry).val))|some false=>Instr.findNow d U (dY B) (0+1)
    |none=>none)=none
   have:=K U e.1 Z (H e aa1);rw[show(⟨e.1,.bool false,0⟩:MapEntry).key=e.1 from rfl,this]
  rcases uW (P:=P) (kt:=kt) (λb G=>S U b Z G) (e::B) 0 H with⟨h3,h4⟩|⟨i,p,v,h3,h4,h5⟩
  . refine .inl ⟨?_,h4⟩;have:aX P (Instr.findKey kt U (dY (e::B)))=some none:=by simp only[Instr.findKey,aY,bi L,Tf,c,h3]
    simp only[iY,O,this]
  . refine .inr ⟨i,p,?_,h4,h5⟩;have:aX P (Instr.findKey kt U (dY (e::B)))=some (some (i,v)):=by simp only[Instr.findKey,aY,bi L,Tf,c,h3,aas]
    simp only[iY,O,this]
def bytes_beq(a b:ByteArray):(a==b)=true↔a=b:=by
 cases a;cases b;show ByteArray.beq _ _=true↔_;rw[ByteArray.beq.eq_def];simp
def asT{j:IntKind}(L:P.underlying kt=some (.int j))(k:Nat)(e:Bool)(m:Int):aX P (Instr.checkKey e (k+1) kt (.int .i64 m))=some ():=by
 simp only[Instr.checkKey,aY,bi L,Tf,aU]
def asS(L:P.underlying kt=some .string)(k:Nat)(e:Bool)(m:ByteArray):aX P (Instr.checkKey e (k+1) kt (.string m))=some ():=by
 simp only[Instr.checkKey,aY,bi L,Tf,aU]
def mz(v:Value):Prop:= ∃n,v= .int .i64 n
def auF(v:Value):Prop:= ∃s,v= .string s
def iu{j:IntKind}(L:P.underlying kt=some (.int j)):eK P kt mz:=by
 refine FC L ?_ ?_ ?_
 . rintro e _ ⟨n,rfl⟩;exact⟨(),asT L 9999 e n⟩
 . rintro _ _ ⟨n,rfl⟩ ⟨m,rfl⟩;refine⟨n==m,by simp[Instr.sameNow],?_⟩;simp only[beq_iff_eq,Value.int.injEq,true_and];exact⟨λh=>h.symm,λh=>h.symm⟩
 . rintro _ ⟨n,rfl⟩;simp[Instr.sameBits]
def RS(L:P.underlying kt=some .string):eK P kt auF:=by
 refine FC L ?_ ?_ ?_
 . rintro e _ ⟨n,rfl⟩;exact⟨(),asS L 9999 e n⟩
 . rintro _ _ ⟨n,rfl⟩ ⟨m,rfl⟩;refine⟨n==m,by simp[Instr.sameNow],?_⟩;rw[bytes_beq,Value.string.injEq];exact⟨λh=>h.symm,λh=>h.symm⟩
 . rintro _ ⟨n,rfl⟩;show(n==n)=true;rw[bytes_beq]
def pH(j:Value->Prop)(a:C->Prop)(es:cF):Prop:= ∀p,p∈es->j p.1/\a p.2.1
def pH.nil{a:C->Prop}:pH j a []:=λp F=>by simp at F
def pH.keys{a:C->Prop}(h:pH j a es):∀p,p∈es->j p.1:=λp F=>(h p F).1
abbrev Gt(n:Nat)(tm:TS)(x:Operand):V:=St.get ⟨n,tm,[]⟩ x
def mN{tm:TS}{hp:HS}(x:Operand):St.get ⟨n,tm,hp⟩ x=Gt n tm x:=by cases x<;>rfl
def jq{t:TypeId}{tm:TS}{hp:HS}(Z:K (.w (.one (.map ctr))) ((ctr,.mp [] 0)::hp)):
 ∃v hp',jA P n (.makeMap t none) ty tm hp ctr v hp'/\K v hp':=by
 refine⟨_,_,?_,Z⟩;rintro⟨g,N,F,O,Y,l⟩ rfl rfl;intro M A ρ a w J;obtain⟨y,B⟩:=Rel.Va (st:=⟨n,tm,hp⟩) J (ww ctr);refine⟨.map (some w.heap.size),w.alloc (.map #[] 0),_,_,.inl ?_,y.sub kD,⟨⟨w.heap.size,by simp[dr],rfl⟩,rfl⟩,dA.alloc M w _,B,bY.new A w⟩;simp[execOp,Instr.makeMap]
def J1{t:TypeId}{m k:Operand}{ok:Bool}{tm:TS}{hp:HS}{i:Nat}{k0:Value}(r:Gt n tm m= .w (.one (.map id)))(Z:(Gt n tm k).val? =some U)(L:P.underlying t=some (.map kt S))(R:find hp id=some (.mp es clock))
 (D:iY P es.isEmpty kt U es=some (some i)) (Ak:es[i]? =some (k0,c,born)):jA P n (.lookup t m k ok) ty tm hp ctr (if ok=true then .fB [cw c,bT true]else .w (cw c)) hp:=by
 rintro⟨l,op',B,O,N,s⟩ rfl rfl;intro M A ρ a w J;have h:=J.get m;rw[mN,r]at h;have x:=V.bR Z l5;obtain⟨b,d,q1,q2,q3,q4,q5⟩:=iT J R h;obtain⟨g,I,K,Q,z⟩:=dJ D (gi (id:=id) (clock:=clock) q4 q5) w
 cases I with
 |none=>simp at Q
 |some p=>
  obtain⟨j,v⟩:=p;simp only[wv,ii]at Q;subst Q;obtain⟨F,H,o,G,e,e5⟩:=q5 j k0 c born Ak;obtain⟨y,g1,rfl⟩:=z j v rfl;rw[H]at g1;simp only[ii]at g1;subst g1
  have Y:(execOp a.eval ⟨l,.lookup t m k ok,B,O,N,s⟩).run P w= .ok (.value (if ok then .tuple #[F.val,.bool true]else F.val)) w:=by
   simp only[execOp,Instr.lookup,Sem.run_bind,run_underlying L,Result.andThen_ok,q2,pX q3,Sem.run_pure,x,fQ q4,g,K]
  refine⟨_,w,A,ρ,.inl Y,J.sub cW,?_,dA.refl _ _,dD.refl _,bY.refl _ _⟩
  cases ok with
  |true=>exact Q3 (e5.rw e)
  |false=>exact e5.rw e
def FA{t:TypeId}{m k:Operand}{ok:Bool}{tm:TS}{hp:HS}(r:Gt n tm m= .w (.one (.map id)))(Z:(Gt n tm k).val? =some U)(L:P.underlying t=some (.map kt S))(R:find hp id=some (.mp es clock))
 (D:iY P es.isEmpty kt U es=some none) (N:ny P S=some z):jA P n (.lookup t m k ok) ty tm hp ctr (if ok=true then .fB [.one (.t (.val z)),bT false]else .w (.one (.t (.val z)))) hp:=by
 rintro⟨l,F,B,O,Y,y⟩ rfl rfl;intro M A ρ a w J;have h:=J.get m;rw[mN,r]at h;have j:=V.bR Z l5;obtain⟨b,d,q1,q2,q3,q4,q5⟩:=iT J R h;obtain⟨g,I,K,Q,e⟩:=dJ D (gi (id:=id) (clock:=clock) q4 q5) w
 cases I with
 |some p=>simp at Q
 |none=>
  obtain⟨o,x⟩:=yD N w
  have c:(execOp a.eval ⟨l,.lookup t m k ok,B,O,Y,y⟩).run P w= .ok (.value (if ok then .tuple #[z,.bool false]else z)) w:=by
   simp only[execOp,Instr.lookup,Sem.run_bind,run_underlying L,Result.andThen_ok,q2,pX q3,Sem.run_pure,j,fQ q4,g,K,o]
  refine⟨_,w,A,ρ,.inl c,J.sub cW,?_,dA.refl _ _,dD.refl _,bY.refl _ _⟩
  cases ok with
  |true=>exact Q3 (u0:= .one (.t (.val z))) ⟨RT.val x,x⟩
  |false=>exact⟨RT.val x,x⟩
def Gr{t:TypeId}{m k:Operand}{tm:TS}{hp:HS}(r:Gt n tm m= .w (.one (.map id)))(R:find hp id=some (.mp es clock))(Z:(Gt n tm k).val? =some l)(L:P.underlying t=some (.map kt S))
 (A:ny P S=some z) (J:eK P kt j) (b:j l) (w:∀p,p∈es->j p.1) (O:∀ (i:Nat) (p:Value×C×Nat),es[i]? =some p->p.1=l->K (.w (cw p.2.1)) hp) (Y:(∀p,p∈es->p.1≠l)->K (.w (.one (.t (.val z)))) hp):
 ∃v hp',jA P n (.lookup t m k false) ty tm hp ctr v hp'/\K v hp':=by
 rcases J.at_ es l es.isEmpty w b with⟨B,g⟩|⟨i,⟨N,c,D⟩,B,g,U⟩
 . exact⟨_,_,FA r Z L R B A,by simpa using Y g⟩
 . exact⟨_,_,J1 r Z L R B g,by simpa using O i _ g U⟩
def N8{t:TypeId}{m k:Operand}{tm:TS}{hp:HS}(r:Gt n tm m= .w (.one (.map id)))(R:find hp id=some (.mp es clock))(Z:(Gt n tm k).val? =some l)(L:P.underlying t=some (.map kt S))
 (A:ny P S=some z) (J:eK P kt j) (b:j l) (w:∀p,p∈es->j p.1) (O:∀ (i:Nat) (p:Value×C×Nat),es[i]? =some p->p.1=l->K (.fB [cw p.2.1,bT true]) hp) (Y:(∀p,p∈es->p.1≠l)->K (.fB [.one (.t (.val z)),bT false]) hp):
 ∃v hp',jA P n (.lookup t m k true) ty tm hp ctr v hp'/\K v hp':=by
 rcases J.at_ es l es.isEmpty w b with⟨B,g⟩|⟨i,⟨N,c,D⟩,B,g,U⟩
 . exact⟨_,_,FA r Z L R B A,by simpa using Y g⟩
 . exact⟨_,_,J1 r Z L R B g,by simpa using O i _ g U⟩
def N6{t:TypeId}{m k:Operand}{tm:TS}{hp:HS}{a:C->Prop}(r:Gt n tm m= .w (.one (.map id)))(R:find hp id=some (.mp es clock))(Z:(Gt n tm k).val? =some U)(L:P.underlying t=some (.map kt S))
 (A:ny P S=some z) (J:eK P kt j) (b:j U) (w:pH j a es) (d:a (.t (.val z))) (h:∀c,a c->K (.w (cw c)) hp):
 ∃v hp',jA P n (.lookup t m k false) ty tm hp ctr v hp'/\K v hp':=
 Gr r R Z L A J b w.keys (λi p hp _=>h _ (w p (oo hp)).2) (λ_=>h _ d)
def Lx(v:V)(c:C):Prop:=v= .w (.one c)\/ ∃Z,v= .w (.agg (Z.map .t))/\c= .pk Z
def Lx.spec{v:V}{x:Value}(h:Lx v c)(J:RV w A ρ v x):RC w A ρ c x/\DW c x:=by
 rcases h with rfl|⟨Z,rfl,rfl⟩
 . exact⟨J.1,.inl J.2⟩
 . exact DW.pk J
def abL{t:TypeId}{m k:Operand}{tm:TS}{hp:HS}{i:Nat}{c0:C}(r:Gt n tm m= .w (.one (.map id)))(Z:(Gt n tm k).val? =some U)(hx:Lx (Gt n tm x) c)(L:P.underlying t=some (.map kt S))(R:find hp id=some (.mp es clock))
 (rH:iY P false kt U es=some (some i)) (Ak:es[i]? =some (U,c0,born)) (Tv:Instr.sameBits 10000 U U=true):jA P n (.mapUpdate t m k x) ty tm hp ctr .undef (jB hp id (.mp (es.set i (U,c,born)) clock)):=by
 rintro⟨l,op',ty',pos',after',guard'⟩ rfl rfl;intro M A ρ a w J;have h:=J.get m;rw[mN,r]at h;have vk:=V.bR Z l5;have vx:=hx.spec FG;obtain⟨b,d,q1,q2,q3,q4,q5⟩:=iT J R h;obtain⟨g,D,K,Q,c4⟩:=dJ rH (gi (id:=id) (clock:=clock) q4 q5) w
 cases D with
 |none=>simp at Q
 |some p=>
  obtain⟨j,v⟩:=p;simp only[wv,ii]at Q;subst Q;obtain⟨N,H,o,G,_⟩:=q5 j U c0 born Ak;have I:j < d.size:=(aat.1 H).1
  obtain⟨y,B⟩:=Rel.sC (st:=⟨n,tm,hp⟩) (clock':=clock) (es':=es.set j (U,c,born)) (en':=d.modify j λe=>{e with key:=U,val:=a.eval x}) J R q1 q3 agq (λi s F Y O=>by
   by_cases hij:j=i
   . subst hij;rw[aaj (by rw[<-q4];exact I)]at O;simp only[ii,uu]at O;obtain⟨rfl,rfl,rfl⟩:=O;refine⟨{N with key:=U,val:=a.eval x},by simp[ab5,H],rfl,G,vx.1,vx.2⟩
   . rw[aam hij]at O;obtain⟨e,g1,g2,z,g4,g5⟩:=q5 i s F Y O;exact⟨e,by simp[ab5,hij,g1],g2,z,g4,g5⟩)
  refine⟨undef,_,A,ρ,.inr ⟨?_,rfl⟩,y.sub cW,trivial,B,dD.refl _,bY.refl _ _⟩
  have hks:(Instr.keyThatStays (((d[j]?).map (·.key)).getD U) U).run P w= .ok U w:=by
   simp[Instr.keyThatStays,H,o,Tv]
  simp only[execOp,Instr.mapUpdate,Sem.run_bind,run_underlying L,Result.andThen_ok,q2,pX q3,vk,g,K,hks,Ec _ q3,Sem.run_pure]
def UT{t:TypeId}{m k:Operand}{tm:TS}{hp:HS}(r:Gt n tm m= .w (.one (.map id)))(Z:(Gt n tm k).val? =some U)(hx:Lx (Gt n tm x) c)(L:P.underlying t=some (.map kt S))(R:find hp id=some (.mp es clock))
 (D:iY P false kt U es=some none):jA P n (.mapUpdate t m k x) ty tm hp ctr .undef (jB hp id (.mp (es++[(U,c,clock)]) (clock+1))):=by
 rintro⟨Y,op',j,o,H,G⟩ rfl rfl;intro M A ρ a w J;have h:=J.get m;rw[mN,r]at h;have vk:=V.bR Z l5;have vx:=hx.spec FG;obtain⟨b,d,q1,q2,q3,q4,q5⟩:=iT J R h;obtain⟨g,I,K,Q,c4⟩:=dJ D (gi (id:=id) (clock:=clock) q4 q5) w
 cases I with
 |some p=>simp at Q
 |none=>
  obtain⟨y,B⟩:=Rel.sC (st:=⟨n,tm,hp⟩) (clock':=clock+1) (es':=es++[(U,c,clock)]) (en':=d.push {key:=U,val:=a.eval x,born:=clock}) J R q1 q3 agq (λi s F v O=>by
   by_cases l:i < es.length
   . rw[aaf l]at O;obtain⟨e,g1,g2,z,g4,g5⟩:=q5 i s F v O;exact⟨e,by rw[adb,if_neg aa];exact g1,g2,z,g4,g5⟩
   . rw[aai aa]at O
     have N:i - es.length=0:=by
      have:=(jl.1 O).1;simp at this;omega
     rw[N]at O;simp only[yq,ii,uu]at O;obtain⟨rfl,rfl,rfl⟩:=O;exact⟨⟨U,a.eval x,clock⟩,by rw[adb,if_pos aa],rfl,rfl,vx.1,vx.2⟩)
  refine⟨undef,_,A,ρ,.inr ⟨?_,rfl⟩,y.sub cW,trivial,B,dD.refl _,bY.refl _ _⟩;simp only[execOp,Instr.mapUpdate,Sem.run_bind,run_underlying L,Result.andThen_ok,q2,pX q3,vk,g,K,Ec _ q3,Sem.run_pure]
def DM(es:cF)(clock:Nat)(U:Value)(c:C)(es':cF)(clock':Nat):Prop:=
 (∃i p,es[i]? =some p/\p.1=U/\es'=es.set i (U,c,p.2.2)/\clock'=clock)\/((∀p,p∈es->p.1≠U)/\es'=es++[(U,c,clock)]/\clock'=clock+1)
def TL{t:TypeId}{m k:Operand}{tm:TS}{hp:HS}(r:Gt n tm m= .w (.one (.map id)))(R:find hp id=some (.mp es clock))(Z:(Gt n tm k).val? =some l)(hx:Lx (Gt n tm x) c)(L:P.underlying t=some (.map kt S))
 (J:eK P kt j) (b:j l) (w:∀p,p∈es->j p.1) (h:∀es' clock',DM es clock l c es' clock'->K .undef (jB hp id (.mp es' clock'))):
 ∃v hp',jA P n (.mapUpdate t m k x) ty tm hp ctr v hp'/\K v hp':=by
 rcases J.at_ es l false w b with⟨B,g⟩|⟨i,⟨N,F,D⟩,B,g,U⟩
 . exact⟨_,_,UT r Z hx L R B,h _ _ (.inr ⟨g,rfl,rfl⟩)⟩
 . simp only at U;subst U;exact⟨_,_,abL r Z hx L R B g (J.same _ b),h _ _ (.inl ⟨i,_,g,rfl,rfl,rfl⟩)⟩
def Jd{t:TypeId}{m k:Operand}{tm:TS}{hp:HS}(r:Gt n tm m= .w (.one (.map id)))(R:find hp id=some (.mp es clock))(Z:(Gt n tm k).val? =some U)(hx:Gt n tm x= .w (.one c))(L:P.underlying t=some (.map kt S))
 (J:eK P kt j) (b:j U) (w:∀p,p∈es->j p.1) (h:∀es' clock',DM es clock U c es' clock'->K .undef (jB hp id (.mp es' clock'))):
 ∃v hp',jA P n (.mapUpdate t m k x) ty tm hp ctr v hp'/\K v hp':=TL r R Z (.inl hx) L J b w h
def DM.all{es':cF}{clock':Nat}{a:C->Prop}(h:DM es clock U c es' clock')(w:pH j a es)(Z:j U)(D:a c):pH j a es':=by
 rcases h with⟨i,p,_,_,rfl,_⟩|⟨_,rfl,_⟩
 . intro p F;rcases aao F with F|rfl
   . exact w p F
   . exact⟨Z,D⟩
 . intro p F;simp only[yl,vv]at F;rcases F with F|rfl
   . exact w p F
   . exact⟨Z,D⟩
def LU{t:TypeId}{m k:Operand}{tm:TS}{hp:HS}{a:C->Prop}(r:Gt n tm m= .w (.one (.map id)))(R:find hp id=some (.mp es clock))(Z:(Gt n tm k).val? =some U)(hx:Gt n tm x= .w (.one c))(L:P.underlying t=some (.map kt S))
 (J:eK P kt j) (b:j U) (w:pH j a es) (D:a c) (h:∀es' clock',pH j a es'->K .undef (jB hp id (.mp es' clock'))):
 ∃v hp',jA P n (.mapUpdate t m k x) ty tm hp ctr v hp'/\K v hp':=
 Jd r R Z hx L J b w.keys (λes' clock' hp=>h es' clock' (hp.all w b D))
def pH.aM{a:C->Prop}(h:pH j a es){f:C->C}(R:∀c,a c->a (f c)):pH j a (es.map λp=>(p.1,f p.2.1,p.2.2)):=by
 intro p F;simp only[aad]at F;obtain⟨q,d,rfl⟩:=F;exact⟨(h q d).1,R _ (h q d).2⟩
def DO(c:C):Prop:= ∃b,c= .t (.val (.bool b))
end Go.aW
namespace Go.aW.Cd
open Go Go.Proofs
def uSB:Tryz.prog.underlying 310=some (.map 9 4):=ag
def zBo:ny Tryz.prog 4=some (.bool false):=ag
def kSt:eK Tryz.prog 9 auF:=RS ag
def DO.aM{c:C}(h:DO c)(f:Nat->Option Nat):DO (c.aM f):=by
 obtain⟨b,rfl⟩:=h;exact⟨b,rfl⟩
def wN(xs:Lz)(a:Int)(hx:Is xs)(U:xs.length<=maxLen):Tg 213 [oL 1 xs,oI a] GI:=by
 refine aC Tryz.func213 ?_
 repeat' ((conv=>whnf);first|refine aJ (λh=>?_) (λh=>?_)|(refine aG hx aj aq ?_;rintro _ ⟨b,rfl⟩ S)|exact gI rfl rfl|(apply aV [0,1,7,8] [] [8] (RI xs.length) (xs.length) [iV .i64 0];(iterate 3 exact ae);exact RI.zero;rintro _ _ ⟨i,I,rfl,rfl⟩)|(refine aI [0,1,7,8] [] ?_;(conv=>whnf);exact⟨rfl,_,[_],RI.succ (N:=xs.length) (i:=i) aa U,rfl,rfl,rfl,aa⟩))
def me(xs:Lz)(a:Int)(hx:Is xs)(U:xs.length<=maxLen):Tg 159 [oL 1 xs,oI a] GB:=by
 refine aC Tryz.func159 ?_
 repeat' ((conv=>whnf);first|(refine aD rfl (wN xs _ hx U) ?_;rintro _ ⟨n,rfl⟩)|exact gB rfl rfl)
def aEw(e:Lt):Prop:= ∃a b c,e=[tI a,tI b,tB c]
def aiM(e:Lt):Prop:= ∃a b c d q f,e=[tI a,tI b,tI c,tI d,tB q,tI f]
def ES(e:Lt):Prop:= ∃nm m t Y A,e=[.val (.string nm),tI m,tI t,.aO 1 Y,.aO 1 A]/\nm.size<=maxLen/\(Is Y/\Y.length<=maxLen)/\Is A/\A.length<=maxLen
abbrev dV(s:ByteArray)(w L ps us v J:Lz):W:= .agg [.t (.val (.string s)),.t (.aO 1 w),.t (.aO 1 L),.t (.aO 7 ps),.t (.aO 3 us),.t (.aO 6 v),.t (.aO 5 J)]
structure eu(sn:ByteArray)(bk ms ps us ss os:Lz):Prop where
 VP:sn.size<=maxLen
 HL:Sts bk
 aJf:bk.length<=maxLen
 Sf:Is ms
 hml:ms.length<=maxLen
 hps:∀e,e∈ps->Ta e
 eX:ps.length<=maxLen
 iG:∀e,e∈us->aEw e
 Km:us.length<=maxLen
 hss:∀e,e∈ss->aiM e
 Sb:ss.length<=maxLen
 hos:∀e,e∈os->ES e
 PF:os.length<=maxLen
def RMs(row:Lc)(N:Nat)(m:Nat)(vs:List V)(hq:HS):Prop:= ∃ (i:Nat) (B:cF) (c:Nat),i<=N/\pH auF DO B/\m=N - i/\vs=[iV .i64 (i:Int)]/\hq=[(4,.row 7 [row]),(8,.mp B c)]
abbrev aEk(w L ps us v J:Lz):Prop:=(L.length=w.length/\1<=w.length)/\(w.length<=12/\ps.length<=12/\us.length<=12)/\v.length<=24/\J.length<=16
def pO(M:ByteArray)(w L ps us v J:Lz)(l:eu M w L ps us v J):Tg 119 [dV M w L ps us v J] (oq (λn=>n=0->aEk w L ps us v J)):=by
 have Z:=l.aJf;have x:=l.hml;refine aC Tryz.func119 ?_
 repeat' ((conv=>whnf);first|refine bZz (λh=>?_) (λh=>?_)|(refine aG (xs:=w) l.HL aa aa ?_;rintro _ ⟨s,rfl,o⟩ S)|(refine aG (xs:=L) l.Sf aa aa ?_;rintro _ ⟨a,rfl⟩ S)|(refine aD rfl (wH M l.VP) ?_;rintro _ ⟨b,rfl⟩)|(refine aD rfl (GJ s o) ?_;rintro _ ⟨b,rfl⟩)|(refine aD rfl (me L _ l.Sf x) ?_;rintro _ ⟨b,rfl⟩)|refine jq ?_|(refine N6 rfl rfl rfl uSB zBo kSt ⟨_,rfl⟩ j ⟨false,rfl⟩ ?_;rintro _ ⟨b,rfl⟩)|(refine LU rfl rfl rfl rfl uSB kSt ⟨_,rfl⟩ j ⟨true,rfl⟩ ?_;rintro G K d)|(refine jX rfl rfl (λz=>?_);first|(exfalso;omega)|omega|exact⟨⟨aa,aa⟩,⟨aa,aa,aa⟩,aa,aa⟩)|(apply aV [85,86,87] [] [87] (RI L.length) (L.length) [iV .i64 0];(iterate 3 exact ae);exact RI.zero;rintro _ _ ⟨i,I,rfl,rfl⟩)|(refine aI [85,86,87] [] ?_;(conv=>whnf);exact⟨rfl,_,[_],RI.succ (N:=L.length) (i:=i) aa x,rfl,rfl,rfl,aa⟩)|(apply gh [1,5,46,47,48] [] [48] (RMs [.t (.val (.string M)),.t (.aO 1 w),.t (.aO 1 L),.t (.aO 7 ps),.t (.aO 3 us),.t (.aO 6 v),.t (.aO 5 J)] w.length) (w.length) [iV .i64 0];(iterate 3 exact ae);exact⟨0,_,_,aa,pH.nil,rfl,rfl,rfl⟩;rintro _ _ _ ⟨i,B,c,I,j,rfl,rfl,rfl⟩)|(refine aI [1,5,46,47,48] [] ?_;(conv=>whnf);exact⟨rfl,_,[_],⟨i+1,_,_,aa,d.aM (λc D=>DO.aM D _),rfl,by simp only[maxLen]at Z;rw[bF aa aa];rfl,rfl⟩,rfl,rfl,aa⟩)|(apply aV [1,21,22,23] [] [23] (RI w.length) (w.length) [iV .i64 0];(iterate 3 exact ae);exact RI.zero;rintro _ _ ⟨i,I,rfl,rfl⟩)|(refine aI [1,21,22,23] [] ?_;(conv=>whnf);exact⟨rfl,_,[_],RI.succ (N:=w.length) (i:=i) aa Z,rfl,rfl,rfl,aa⟩))
def UOk(N:Nat)(e:Lt):Prop:= ∃a b c,e=[tI a,tI b,tB c]/\(0<=a/\a < (N:Int))/\1<=b/\b<=4
def aiD(us:Lz)(N i:Nat):Prop:= ∀j e,j < i->us[j]? =some e->UOk N e
variable{us zs:Lz}{N:Nat}
def aiD.all{i:Nat}(h:aiD us N i)(I:us.length<=i):∀e,e∈us->UOk N e:=by
 intro e H;obtain⟨j,Q,rfl⟩:=aa3 H;exact h j _ aa Fc
def RUs(us:Lz)(N:Nat)(m:Nat)(vs:List V):Prop:= ∃i:Nat,i<=us.length/\aiD us N i/\m=us.length - i/\vs=[iV .i64 (i:Int)]
def RUs.next{i:Nat}{a b:Int}{c:Bool}(I:(i:Int) < (us.length:Int))(U:us.length<=maxLen)(h:aiD us N i)(S:us[((i:Int)).toNat]? =some [tI a,tI b,tB c])(w:0<=a)(Y:a < (N:Int))(G:1<=b)(o:b<=4):RUs us N (us.length - (i+1)) [iV .i64 (IntKind.i64.wrap ((i:Int)+1))]:=by
 refine⟨i+1,aa,λj e Q H=>?_,rfl,by simp only[maxLen]at U;rw[bF aa aa];rfl⟩
 by_cases v:j=i
 . subst v;have x:us[j]? =some [tI a,tI b,tB c]:=aA
   rw[x]at H;exact⟨a,b,c,(aa5 H).symm,⟨w,Y⟩,G,o⟩
 . exact h j e aa H
def GK(s:ByteArray)(w L ps us v J:Lz)(hp:∀e,e∈ps->Ta e)(a b:Int):Tg 121 [dV s w L ps us v J,oI a,oI b] GB:=by
 refine aC Tryz.func121 ?_
 repeat' ((conv=>whnf);first|refine aJ (λh=>?_) (λh=>?_)|(refine aG (xs:=ps) hp aa aa ?_;rintro _ ⟨nm,B,g,j,R,F,d,rfl,A,⟨H,r⟩,⟨K,_⟩,⟨D,y⟩,M,O⟩ S)|exact gB rfl rfl)
abbrev N1(w L ps us v J:Lz):Prop:=aEk w L ps us v J/\ ∀e,e∈us->UOk ps.length e
def mc(s:ByteArray)(w L ps us v J:Lz)(l:eu s w L ps us v J):Tg 74 [dV s w L ps us v J] (oq (λn=>n=0->N1 w L ps us v J)):=by
 have Z:=l.eX;have o:=l.Km;have G:=l.Sb;refine aC Tryz.func74 ?_
 repeat' ((conv=>whnf);first|refine bZz (λh=>?_) (λh=>?_)|refine cT (aa7 _) aa ?_|(refine aG (xs:=ps) l.hps aa aa ?_;rintro _ ⟨nm,B,g,x,U,R,P,rfl,A,⟨H,r⟩,⟨K,_⟩,⟨D,y⟩,M,O⟩ S)|(refine aG (xs:=us) l.iG aa aa ?_;rintro _ ⟨a,b,c,rfl⟩ S)|(refine aG (xs:=v) l.hss aa aa ?_;rintro _ ⟨a,b,c,d,q,f,rfl⟩ S)|refine And.intro ag ?_|refine And.intro aa ?_|(refine aD rfl (pO s w L ps us v J l) ?_;rintro _ ⟨e,rfl,Y⟩)|(refine aN rfl (pP _ (dH l.hps _ _) (jt Z _ _) nm B g x U R P A H r K D y M O) ?_;rintro _ ⟨e,rfl⟩)|(refine aD rfl (GK s w L ps us v J l.hps _ _) ?_;rintro _ ⟨b,rfl⟩)|(refine jX rfl rfl (λz=>?_);first|(exfalso;omega)|exact⟨Y aa,F.all aa⟩)|(apply aV [1,64,65,66] [] [66] (RI v.length) (v.length) [iV .i64 0];(iterate 3 exact ae);exact RI.zero;rintro _ _ ⟨i,I,rfl,rfl⟩)|(refine aI [1,64,65,66] [] ?_;(conv=>whnf);exact⟨rfl,_,[_],RI.succ (N:=v.length) (i:=i) aa G,rfl,rfl,rfl,aa⟩)|(apply aV [1,35,36,37] [] [37] (RUs us ps.length) (us.length) [iV .i64 0];(iterate 3 exact ae);exact⟨0,aa,λj e Q=>by omega,rfl,rfl⟩;rintro _ _ ⟨i,I,F,rfl,rfl⟩)|(refine aI [1,35,36,37] [] ?_;(conv=>whnf);exact⟨rfl,_,[_],RUs.next aa o F S aa aa aa aa,rfl,rfl,rfl,aa⟩)|(apply aV [1,17,18,19] [] [19] (RI ps.length) (ps.length) [iV .i64 0];(iterate 3 exact ae);exact RI.zero;rintro _ _ ⟨i,I,rfl,rfl⟩)|(refine aI [1,17,18,19] [] ?_;(conv=>whnf);exact⟨rfl,_,[_],RI.succ (N:=ps.length) (i:=i) aa Z,rfl,rfl,rfl,aa⟩))
def aPc:lc Tryz.prog 164=some true:=ag
def zPc:dc Tryz.prog 164=some 7:=ag
abbrev aEl(us:Lz)(N:Nat)(I:Int):Prop:=(0<=I/\I < (us.length:Int))/\ ∀e,e∈us->UOk N e
def GOl(us:Lz)(N:Nat)(I:Int)(ts:Lw):Prop:= ∃c nm B g j R F d e,ts=[oL 2 c,YO nm B g j R F d,oI e]/\(e=0->(yo c/\kz c/\c.length<=maxLen)/\(Is F/\F.length<=maxLen)/\aEl us N I)
def rA(s:ByteArray)(w L ps us v J:Lz)(l:eu s w L ps us v J)(size I:Int):Tg 230 [dV s w L ps us v J,oI size,oI I] (GOl us ps.length I):=by
 refine aS ?_;refine aC Tryz.func230 ?_
 repeat' ((conv=>whnf);first|refine bZz (λh=>?_) (λh=>?_)|(refine aG (xs:=us) (U aa).2 aa aa ?_;rintro _ ⟨a,b,c,rfl,⟨Q,Y⟩,G⟩ S)|(refine aG (xs:=ps) l.hps Q Y ?_;rintro _ ⟨nm,B,g,j,R,F,d,rfl,P,⟨H,r⟩,⟨K,_⟩,⟨D,y⟩,M,A⟩ O)|(refine aG (xs:=L) l.Sf aa (by have:=(U aa).1.1.1;omega) ?_;rintro _ ⟨m,rfl⟩ x)|refine And.intro ag ?_|(refine aD rfl (mc s w L ps us v J l) ?_;rintro _ ⟨e,rfl,U⟩)|(refine aN rfl (gP (.val (.string nm)) B (tI g) j R F (tB d) _ H r D y) ?_;rintro _ ⟨N,o,rfl,n⟩)|exact H9 rfl (dy 2 rfl) (cc aPc zPc rfl rfl (ww _) rfl (iW (.cons (.nil 2) (iW (.cons (.nil 2) (.cons (.nil 2) (.cons (.nil 1) (iW .nil)))))))) (cv rfl) ⟨_,_,_,_,_,_,_,_,_,rfl,λz=>absurd z aa⟩|exact H9 rfl (cv rfl) (cc aPc zPc rfl rfl (ww _) rfl (dm.refl _)) (cv rfl) ⟨N,_,B,_,j,R,F,_,_,rfl,λz=>⟨⟨(n z).1.1,(n z).1.2.1,by have:=(n z).1.2.2;omega⟩,⟨M,A⟩,⟨aa,aa⟩,(U aa).2⟩⟩)
def E9(s:ByteArray)(w L ps us v J:Lz)(l:eu s w L ps us v J)(size I:Int):Tg 183 [dV s w L ps us v J,oI size,oI I] (X9 2 (λxs=>DN xs/\aEl us ps.length I)):=by
 refine aS ?_;refine aC Tryz.func183 ?_
 repeat' ((conv=>whnf);first|refine bG (λh=>?_) (λh=>?_)|(refine aD rfl (rA s w L ps us v J l size I) ?_;rintro _ ⟨c,nm,B,g,j,R,F,d,e,rfl,x⟩)|(refine aD rfl (rR c F (x aa).1.2.1 (x aa).1.2.2 (x aa).2.1.1 (x aa).2.1.2) ?_;rintro _ ⟨xs,o,rfl,a⟩)|exact eL rfl (dy 2 rfl) (cv rfl) ⟨_,_,rfl,λz=>absurd z aa⟩|exact eL rfl (cv rfl) (cv rfl) ⟨xs,o,rfl,λz=>⟨a z,(x aa).2.2⟩⟩)
def wJ(M:ByteArray)(w L ps us v J:Lz)(l:eu M w L ps us v J)(size I:Int):Tg 184 [dV M w L ps us v J,oI size,oI I] aEC:=by
 refine aS ?_;refine aC Tryz.func184 ?_
 repeat' ((conv=>whnf);first|refine bG (λh=>?_) (λh=>?_)|(refine aG (xs:=c) (x aa).1.1.2.1 aa (by have:=(x aa).1.1.1;omega) ?_;rintro _ ⟨s,o,rfl,R⟩ S)|(refine aG (xs:=o) R.Ma aa (by have:=R.1;omega) ?_;rintro _ ⟨a,b,rfl⟩ S)|(refine aD rfl (rA M w L ps us v J l size I) ?_;rintro _ ⟨c,nm,B,g,j,U,F,d,e,rfl,x⟩)|exact eL rfl (cc aSp zSp rfl rfl (ww _) rfl (dm.refl _)) (cv rfl) ⟨(_,_),_,rfl⟩)
def aLQ(N:Nat)(e:Lt):Prop:= ∃g u k f q x y,e=[tI g,tI u,tI k,tB f,tI q,tI x,tI y]/\0<=u/\u < (N:Int)
abbrev QX(N:Nat)(xs:Lz):Prop:= ∀e,e∈xs->aLQ N e
def QX.snoc{xs:Lz}(h:QX N xs)(g u k q x y:Int)(f:Bool)(z:0<=u)(O:u < (N:Int)):QX N (xs++[[tI g,tI u,tI k,tB f,tI q,tI x,tI y]]):=by
 intro e H;simp only[yl,vv]at H;rcases H with H|rfl
 . exact h e H
 . exact⟨g,u,k,f,q,x,y,rfl,z,O⟩
def RCo(N:Nat)(m:Nat)(F:List V)(w:List (Lz)):Prop:= ∃ (i:Nat) (M:Lz),i<=N/\m=N - i/\F=[bD 4 7 M.length,iV .i64 (i:Int)]/\w=[M]/\M.length<=4 * i/\QX N M
def RCo.next{i:Nat}(h:(i:Int) < (N:Int))(D:N<=12)(hp:zs.length<=4 * (i+1))(l:QX N zs):RCo N (N - (i+1)) [bD 4 7 zs.length,iV .i64 (IntKind.i64.wrap ((i:Int)+1))] [zs]:=
 ⟨i+1,_,aa,rfl,by rw[bF aa aa];rfl,rfl,hp,l⟩
def RCi(N:Nat)(row:Lt)(b L:Nat)(m:Nat)(F:List V)(w:List (Lz)):Prop:= ∃ (j:Nat) (M:Lz),j<=L/\m=L - j/\F=[bD 4 7 M.length,iV .i64 (j:Int)]/\w=[M,[row]]/\M.length<=b+j/\QX N M
def RCi.next{b L j k:Nat}{row:Lt}{u:Int}{g q x y:Int}{f:Bool}(h:j < L)(R:L<=4)(hp:zs.length<=b+j)(l:QX N zs)(z:0<=u)(O:u < (N:Int))(Z:k=zs.length+1):RCi N row b L (L - (j+1)) [bD 4 7 k,iV .i64 (IntKind.i64.wrap ((j:Int)+1))] [zs++[[tI g,tI u,tI (j:Int),tB f,tI q,tI x,tI y]],[row]]:=
 ⟨j+1,_,aa,rfl,by rw[bF aa aa,Z];simp,rfl,by simp;omega,l.snoc g u _ q x y f z O⟩
def wI(s:ByteArray)(w L ps us v J:Lz)(l:eu s w L ps us v J):Tg 136 [dV s w L ps us v J] (GL 7 (λzs=>QX us.length zs/\zs.length<=48)):=by
 refine aS ?_;refine aC Tryz.func136 ?_
 repeat' ((conv=>whnf);first|refine bZz (λh=>?_) (λh=>?_)|(refine aG (xs:=us) (U aa).2 aa aa ?_;rintro _ ⟨a,b,c,rfl,⟨g,Y⟩,G,o⟩ S)|refine And.intro ⟨by simp[tr],by have:=(U aa).1.2.1;simp[tr,bh];omega,by have:=(U aa).1.2.1;simp[tr,maxLen];omega⟩ ?_|refine And.intro aa ?_|(refine aD rfl (mc s w L ps us v J l) ?_;rintro _ ⟨e,rfl,U⟩)|exact nt rfl (dy 7 rfl) ⟨[],rfl,λe H=>by simp at H,ak⟩|exact nt rfl (df rfl rfl (xs:=zs) rfl aa) ⟨_,rfl,by rw[cD rfl];exact⟨A,by have:=(U aa).1.2.1;omega⟩⟩|(apply bp [3,4,5,12,13,14,20,21] [] [3,21] [(4,7),(8,3)] (RCi us.length [tI a,tI b,tB c] (4 * i) b.toNat) (b.toNat) [bD 4 7 zs.length,iV .i64 0];(iterate 3 exact ae);exact .cons (aL.aM (xs:=zs) rfl _) (.cons (aL.aM (xs:=[[tI a,tI b,tB c]]) rfl _) .nil);exact⟨0,zs,aa,rfl,rfl,rfl,aa,A⟩;rintro _ _ _ ⟨j,F,Q,rfl,rfl,rfl,d,x⟩)|(refine aI [3,4,5,12,13,14,20,21] [] ?_;(conv=>whnf);exact⟨rfl,_,[_,_],_,.cons (aL.aM (aL.snoc (xs:=F) rfl [tI _,tI _,tI _,tB _,tI _,tI _,tI _]) _) (.cons (aL.aM (xs:=[[tI a,tI b,tB c]]) rfl _) .nil),RCi.next aa aa d x aa aa iC,rfl,rfl,aa⟩)|(apply cL [3,12,13,14] [] [3,14] [(4,7)] (RCo us.length) (us.length) [bD 4 7 0,iV .i64 0] (eo.dQ 3 7 rfl);(iterate 3 exact ae);exact .cons (aL.aM aL.nil _) .nil;exact⟨0,[],aa,rfl,rfl,rfl,ak,λe H=>by simp at H⟩;rintro _ _ _ ⟨i,zs,I,rfl,rfl,rfl,N,A⟩)|(refine aI [3,12,13,14] [] ?_;(conv=>whnf);exact⟨rfl,_,[_,_],_,.cons (aL.aM (xs:=F) rfl _) .nil,RCo.next aa (by have:=(U aa).1.2.1;omega) aa x,rfl,rfl,aa⟩))
end Go.aW.Cd
namespace Go.aW
open Go
variable{P:Program}
variable{ctr:Nat}
def Wo{ids:List Nat}(l:∀id,id∈ids->id < ctr)(d:ids.Nodup):∀i j k,ic ids ctr i=some k->ic ids ctr j=some k->i=j:=by
 intro i j k I Q;unfold ic at I Q;split at I
 . split at Q
   . simp only[ii]at I Q
     cases h1:ids[i]? with
     |none=>
      rw[h1]at I;simp only[adh]at I
      cases h2:ids[j]? with
      |none=>
       rw[h2]at Q;simp only[adh]at Q;omega
      |some b=>
       rw[h2]at Q;simp only[YJ]at Q;have:=l b (oo h2);omega
     |some a=>
      rw[h1]at I;simp only[YJ]at I
      cases h2:ids[j]? with
      |none=>
       rw[h2]at Q;simp only[adh]at Q;have:=l a (oo h1);omega
      |some b=>
       rw[h2]at Q;simp only[YJ]at Q;obtain⟨c,H⟩:=jl.1 h1;obtain⟨r,o⟩:=jl.1 h2;exact(adx d).1 (by rw[H,o,I,Q])
   . simp at Q
 . simp at I
def nY{ids:List Nat}{k:Nat}(K:bI ids k=none):∀ (hp:HS),find (gR ids hp) k=find hp k
 | []=>rfl
 |(q,c)::r=>by
  simp only[gR];split
  . rename_i j Q;rw[aF,if_neg,nY K r];intro e;subst e;rw[K]at Q;simp at Q
  . rw[aF,aF,nY K r]
def vR{g:Nat->Option Nat}:∀ {N:HS} {k:Nat} {b:bE},find (fT g N) k=some b-> ∃j K,find N j=some K/\g j=some k
 | [],k,b,h=>by simp[fT,find]at h
 |(q,c)::r,k,b,h=>by
  simp only[fT]at h;split at h
  . rename_i P a;rw[aF]at h;split at h
    . rename_i e;subst e;exact⟨q,c,by rw[aF,if_pos rfl],a⟩
    . obtain⟨j,K,O,Y⟩:=vR h
      by_cases e:q=j
      . subst e;exact⟨q,c,by rw[aF,if_pos rfl],Y⟩
      . exact⟨j,K,by rw[aF,if_neg e];exact O,Y⟩
  . obtain⟨j,K,O,Y⟩:=vR h
    by_cases e:q=j
    . subst e;exact⟨q,c,by rw[aF,if_pos rfl],Y⟩
    . exact⟨j,K,by rw[aF,if_neg e];exact O,Y⟩
def Aj{g:Nat->Option Nat}{k:Nat}:∀ {N:HS} {j:Nat} {b:bE},find N j=some b->g j=some k-> ∃K,find (fT g N) k=some K
 | [],j,b,h,_=>by simp[find]at h
 |(q,c)::r,j,b,h,D=>by
  rw[aF]at h;split at h
  . rename_i e;subst e;simp only[fT,D];exact⟨_,by rw[aF,if_pos rfl]⟩
  . obtain⟨K,B⟩:=Aj h D;simp only[fT];split
    . rw[aF];split
      . exact⟨_,rfl⟩
      . exact⟨K,B⟩
    . exact⟨K,B⟩
def CZ{f:Nat->Option Nat}{hp:HS}:∀ {ids:List Nat} {j i id:Nat} {b:bE},ids[i]? =some id->(∀ (c S:Nat),ids[c]? =some S-> ∃K,find hp S=some K)->find hp id=some b->find (cG f hp j ids) (j+i)=some (b.aM f)
 | [],j,i,id,b,h,_,_=>agb
 |x::r,j,i,id,b,h,n,G=>by
  simp only[cG];obtain⟨d,a⟩:=n 0 x rfl;rw[a]
  cases i with
  |zero=>
   simp only[yq,ii]at h;subst h;rw[G]at a;simp only[ii]at a;subst a;simp[find]
  |succ i=>
   have:find (cG f hp (j+1) r) (j+1+i)=some (b.aM f):=CZ bc (λc S N=>n (c+1) S iL) G;rw[show j+(i+1)=j+1+i by omega,aF,if_neg aa];exact this
def Ir{f:FuncId}{us args:Lw}{hp z:HS}{res:V}(ids:List Nat)(I:uQ ids ctr=true)(hfn:Fn P f args z res z)
 (F:us.map (W.aM (bI ids))=args) (d:cG (bI ids) hp 0 ids=z) (KA:∀id,id∈ids-> ∃b,find hp id=some b/\(b.aM (bI ids)).aM (ic ids ctr)=b):
 dI P f us hp ctr (res.aM (ic ids ctr)) hp (ctr+4):=by
 have A4:=I;simp only[uQ,LD,decide_eq_true_eq,yt]at A4;obtain⟨⟨r,R⟩,hnd⟩:=A4;have hinj:=Wo (ids:=ids) (ctr:=ctr) R hnd;intro M A ρ a w n L o J N;refine(Ay ids I hfn F d M A ρ a w n L o J N).mono ?_;rintro e s ⟨x,l,Z,rfl,y,S,r3,r4,r5⟩;refine⟨x,l,Z,rfl,y.forget rfl (λ_ _ h=>h) (λk b G=>?_),S,r3,r4,r5⟩;simp only at G⊢
 cases hk:bI ids k with
 |none=>
  have hnone:find (fT (ic ids ctr) z) k=none:=by
   cases hq:find (fT (ic ids ctr) z) k with
   |none=>rfl
   |some b2=>
    obtain⟨j,K,O,Y⟩:=vR hq;rw[<-d]at O;obtain⟨i,id,b3,rfl,B,g,_⟩:=cH O;have hi4:0+i < 4:=by have:=(jl.1 B).1;omega
    have aJ3:i < 4:=aa
    simp only[ic,aas,B,YJ,if_pos aJ3,ii]at Y;subst Y;exact absurd B (lJ hk i)
  rw[dO,hnone,Option.none_or,nY hk];exact G
 |some j=>
  have Q:=fJ hk;have hj4:j < 4:=by have:=(jl.1 Q).1;omega
  have D:ic ids ctr j=some k:=by simp only[ic,if_pos hj4,Q,YJ]
  have aDj:find z j=some (b.aM (bI ids)):=by
   rw[<-d]
   have:=CZ (f:=bI ids) (hp:=hp) (j:=0) Q (λv H c=>by
    obtain⟨K,O,_⟩:=KA H (oo c);exact⟨K,O⟩) G
   simpa using this
  obtain⟨b2,nj⟩:=Aj aDj D;obtain⟨j',K,g1,g2,g3⟩:=mr hinj nj;have:=hinj _ _ _ g1 D;subst this;rw[aDj]at g2;simp only[ii]at g2;subst g2;obtain⟨b4,g,U⟩:=KA k (oo Q);rw[G]at g;simp only[ii]at g;subst g;rw[dO,nj,Option.some_or,g3,U]
end Go.aW
namespace Go.aW
open Go
variable{P:Program}{M A:agt}{ρ:Env}{F:agt}{st:St}{a:Act}{w:World}
def eo.cut{tm:TS}{hp:HS}{ctr sz:Nat}{rows:Lq}(id k:Nat)(R:find hp id=some (.row sz rows)):eo tm hp ctr tm (jB hp id (.row sz (rows.take k))) ctr:=by
 intro M A ρ n a w J;refine⟨A,ρ,⟨J.size,J.defers,J.tmps,λq L G=>?_,λh o x P b O Y y B=>?_,J.fresh,J.bound,J.may,J.dR⟩,jm.refl _,fZ.refl M A w⟩
 . simp only[bO]at G;split at G
   . rename_i e;subst e;rw[R]at G;simp only[wv,ii]at G;subst G;obtain⟨O,Y⟩:=J.heap q _ R;refine⟨λe H=>O e (aah H),?_⟩;rcases Y with⟨b,c,e,s,v,z,S,l,F⟩|⟨s,v⟩
     . refine .inl ⟨b,c,e,s,v,z,S,?_,λi r j Z I Q=>F i r j Z (Jn I) Q⟩;refine aal (YH _ ?_) l;simp only[aab];omega
     . exact .inr ⟨s,by rw[v];simp⟩
   . exact J.heap q L G
 . have N:∀ {q:Nat} {D:bE},find (jB hp id (.row sz (rows.take k))) q=some D-> ∃U,find hp q=some U:=by
    intro q D d;simp only[bO]at d;split at d
    . rename_i e;subst e;exact⟨_,R⟩
    . exact⟨_,d⟩
   obtain⟨g,g1⟩:=N O;obtain⟨K,g2⟩:=N Y;exact J.inj h o g K b g1 g2 y B
end Go.aW
namespace Go.aW
open Go
variable{P:Program}{M A:agt}{ρ:Env}{F:agt}{st:St}{a:Act}{w:World}
variable{ctr:Nat}
def nA{n:Nat}{op:Op}{ty:TypeId}{tm:TS}{hp:HS}{v:V}{K:V->HS->Prop}(h:bS P (St.get ⟨n,tm,[]⟩) ⟨none,op,ty, "", #[],none⟩=some v)(Z:K v hp):
 ∃v hp',jA P n op ty tm hp ctr v hp'/\K v hp':=by
 refine⟨_,_,?_,Z⟩;rintro⟨g,y,B,O,Y,l⟩ rfl rfl;intro M A ρ a w J
 have D:St.get ⟨n,tm,hp⟩=St.get ⟨n,tm,[]⟩:=by
  funext x;exact mN x
 refine kQ (st:=⟨n,tm,hp⟩) ?_ J cW;rw[D];exact h
def LZ{n m size bytes:Nat}{t t' ty e:TypeId}{ik:IntKind}{s x:Operand}{tm:TS}{hp:HS}{z:Lc}{N:Int}{K:V->HS->Prop}(S:Gt n tm s= .w (.one (.t dw)))(hx:(Gt n tm x).jv =some (.i64,N))(hN:N=((m+1:Nat):Int))
 (L:P.underlying t=some (.slice e)) (Ev:P.underlying t'=some (.int ik)) (O:qy P e=some (size,bytes)) (d:j9 P e=some z) (hsz:z.length=size) (G:(m+1) * bytes<=70368744177664) (r:m+1<=70368744177664)
 (Z:K (.w (.one (.own ctr size 0 (m+1)))) ((ctr,.row size (List.replicate (m+1) z))::hp)):
 ∃v hp',jA P n (.call ⟨.builtin .append, #[s,x], #[t,t']⟩) ty tm hp ctr v hp'/\K v hp':=by
 refine⟨_,_,?_,Z⟩;rintro⟨dst',op',ty',pos',after',guard'⟩ rfl rfl;intro M A ρ a w J;have D:=J.get s;rw[mN,S]at D;have vx:=V.lK hx FG;have hsv:a.eval s= .slice none 0 0:=V.bR (v:= .slice none 0 0) rfl D;obtain⟨inf,zv,z1,z2,z3,z4,z5,z6⟩:=qZ O;obtain⟨aIP,zv',y1,y2,y3,y4,y5⟩:=gJ d w A ρ;rw[z1]at y1;simp only[ii]at y1;subst y1;rw[z2]at y2;simp only[ii]at y2;subst y2;have h:=pU (P:=P) (ty:=ty') L Ev z1 z2 (m+1) aa aa r (by rw[z4];exact G) w;have hge:=grownCap_ge w (m+1) 0 e;obtain⟨H,o,Y⟩:=pL y5 (m+1);have c:(List.replicate (m+1) z).length=m+1:=ak
 obtain⟨l,R,g,U,r3,r4,r5⟩:=nV (st:=⟨n,tm,hp⟩) (e:=e) (z:=zv.cells) (cap:=grownCap w (m+1) 0 e) (zs:=List.replicate (m+1) z) (vs:=(Builtin.zeroCells zv.cells (m+1)).toList) (size:=size) J (ww ctr) z5
  (λb hel=>by rw[ack hel];exact hsz)
  (by rw[abZ,size_zeroCells,z5,c]) (by rw[c];exact hge)
  (λi b j k I Q=>by
    obtain⟨y,B,zi,AX⟩:=Y i b j k I Q;refine⟨y,?_,zi,AX⟩;rw[aaN, <-hsz]
    have ez:Builtin.zeroCells zv.cells (m+1)=(Array.range ((m+1) * z.length)).map λk=>zv.cells[k % zv.cells.size]! :=by
     unfold Builtin.zeroCells;have:zv.cells.size=z.length:=by rw[y3,y4]
     rw[this]
    rw[ez];exact B)
 rw[c]at g U r3;simp only[aan]at g U r3;refine⟨_,_,l,R,.inl ?_,g.sub kD,U,r3,r4,r5⟩;have hvx:a.eval x= .int .i64 ((m+1:Nat):Int):=by rw[vx,hN]
 have TB:(execOp a.eval ⟨dst',Op.call ⟨.builtin .append, #[s,x], #[t,t']⟩,ty',pos',after',guard'⟩).run P w=((Builtin.append_ #[t,t'] ty' #[a.eval s,a.eval x]).run P w).andThen λv F=> .ok (.value v) F:=by
  simp[execOp,resolve,invoke,builtin]
 rw[TB,hsv,hvx,h];rfl
def vh{f:FuncId}{us ts:Lw}{hp:HS}{sz:Nat}{K:V->HS->Prop}{p:Lz->Prop}(U:iU hp us=some ts)(x:∀xs,p xs->(bE.row sz (tr xs)).flat=true)(h: ∃rs N,yw P f ts (aR rs) N/\GN sz p rs N)
 (Z:∀xs,p xs->K (.w (.one (.own (0+ctr) sz 0 xs.length))) ((0+ctr,.row sz (tr xs))::hp)): ∃v hp',gY P hp ctr f us v hp'/\K v hp':=by
 obtain⟨rs,N,O,xs,rfl,rfl,Y⟩:=h
 have l:gY P hp ctr f us ((aR [.one (.own 0 sz 0 xs.length)]).up ctr) (gK ctr [(0,.row sz (tr xs))]++hp):=
  .inl ⟨_,_,ts,O,rfl,rfl,.inr ⟨U,rfl,λid L R=>by
   simp only[find]at R;split at R
   . simp only[ii]at R;subst R;exact x xs Y
   . simp at R⟩⟩
 refine⟨_,_,l,?_⟩;have:=Z xs Y;simp only[aR,V.up,W.up,C.up,gK,bE.up,ae7,if_true,T5]at this⊢;exact this
end Go.aW
namespace Go.aW
open Go
variable{P:Program}{M A:agt}{ρ:Env}{F:agt}{st:St}{a:Act}{w:World}
variable{sz ctr id:Nat}{rows:Lq}{xs:Lz}
def Rel.cut{hp:HS}{n:Nat}{tm:TS}(J:Rel M A ρ F ⟨n,tm,hp⟩ a w)(id k:Nat)(R:find hp id=some (.row sz rows)):Rel M A ρ F ⟨n,tm,jB hp id (.row sz (rows.take k))⟩ a w:=by
 refine⟨J.size,J.defers,J.tmps,λq L G=>?_,λid1 h x P b O Y y B=>?_,J.fresh,J.bound,J.may,J.dR⟩
 . simp only[bO]at G;split at G
   . rename_i e;subst e;rw[R]at G;simp only[wv,ii]at G;subst G;obtain⟨O,Y⟩:=J.heap q _ R;refine⟨λe H=>O e (aah H),?_⟩;rcases Y with⟨b,c,e,s,v,z,S,l,o⟩|⟨s,v⟩
     . refine .inl ⟨b,c,e,s,v,z,S,?_,λi r j Z I Q=>o i r j Z (Jn I) Q⟩;refine aal (YH _ ?_) l;simp only[aab];omega
     . exact .inr ⟨s,by rw[v];simp⟩
   . exact J.heap q L G
 . have N:∀ {q:Nat} {D:bE},find (jB hp id (.row sz (rows.take k))) q=some D-> ∃U,find hp q=some U:=by
    intro q D d;simp only[bO]at d;split at d
    . rename_i e;subst e;exact⟨_,R⟩
    . exact⟨_,d⟩
   obtain⟨g,g1⟩:=N O;obtain⟨K,g2⟩:=N Y;exact J.inj id1 h g K b g1 g2 y B
def yw.cut{f:FuncId}{args:Lw}{v:V}{sz:Nat}{rows:Lq}(k:Nat)(h:yw P f args v [(0,.row sz rows)]):yw P f args v [(0,.row sz (rows.take k))]:=by
 intro w A o F N;refine(h w A o F N).mono ?_;rintro e j ⟨x,l,s,c,O,Y,B,g,U⟩;refine⟨x,l,s,c,O,Y,?_,g,U⟩;have:=Rel.cut (sz:=sz) (rows:=rows) B 0 k agn;exact this
def G6(v:V):List Nat->TS->TS
 | [],d=>d|t::Z,d=>(t,v)::G6 v Z d
def Ao{v u:V}{tm:TS}{k:Nat}:∀ {ts:List Nat},find (G6 v ts tm) k=some u->(k∈ts/\u=v)\/find tm k=some u
 | [],h=> .inr h
 |t::ts,h=>by
  simp only[G6,aF]at h;split at h
  . rename_i e;subst e;simp only[ii]at h;exact .inl ⟨aa1,h.symm⟩
  . rcases Ao h with⟨O,Y⟩|h
    . exact .inl ⟨aa2 _ O,Y⟩
    . exact .inr h
def eo.arQ{tm:TS}{hp:HS}{len:Nat}(ts:List Nat)(id:Nat)(h:∀t,t∈ts->find tm t=some (.w (.one (.own id sz 0 len))))(R:find hp id=some (.row sz rows))(N:aL rows xs)(U:len<=xs.length):
 eo tm hp ctr (G6 (.w (.one (.t (.aO sz (xs.take len))))) ts tm) (del hp id) ctr:=by
 intro M A ρ n a w J
 have z:=Rel.forget J (st':=⟨n,tm,[(id,.row sz rows)]⟩) rfl (λ_ _ h=>h) (λk b G=>by
  simp only[aF]at G;split at G
  . rename_i e;subst e;rw[<-G];exact R
  . simp[find]at G)
 let B:Nat->Prop:=λb=>A b/\ρ id≠some (.gD b)
 have c:bM [(id,bE.row sz rows)] (.one (.own id sz 0 len))=some (.one (.t (.aO sz ((xs.drop 0).take len)))):=kO (hp:=[(id,bE.row sz rows)]) agn N aa
 have s:∀t,t∈ts->RW w B ρ (.one (.t (.aO sz ((xs.drop 0).take len)))) (a.tmps.getD t undef):=λt Q=>
  ja z (B:=B) (λb G=>G.1) (λk L b Z H x=>by
   simp only[aF]at Z;split at Z
   . rename_i e;subst e;exact x.2 H
   . simp[find]at Z) c (J.tmps t _ (h t Q)) ρ
 have S:Rel M B ρ (bJ ctr) ⟨n,tm,del hp id⟩ a w:=Rel.shrink (hp:=del hp id) J (λb G=>G.1) (λk b Z=>by
  rw[dG]at Z;split at Z
  . simp at Z
  . exact Z) (λk L b Z H=>by
  rw[dG]at Z;split at Z
  . simp at Z
  . rename_i P;refine⟨(HX (J.heap k L Z) H).1,λY=>?_⟩;exact P (J.inj k id L _ b Z R H Y))
 refine⟨B,ρ,⟨S.size,S.defers,λu v l=>?_,S.heap,S.inj,S.fresh,S.bound,S.may,S.dR⟩,jm.refl _,λb r j=>⟨r,λY=>j ((J.heap id _ R).lt Y).2.1⟩,λb _ G=>G.1⟩;rcases Ao l with⟨O,rfl⟩|l
 . have e:(xs.drop 0).take len=xs.take len:=ak
   have:=s u O;rw[e]at this;exact this
 . exact S.tmps u v l
def apH{p:agt}{a b:Nat}(w:p a)(G:p b):∀t,t∈ [a,b]->p t:=by
 intro t Q;simp only[aak,aa6,or_false]at Q;rcases Q with rfl|rfl
 . exact w
 . exact G
def aIH{p:agt}{a:Nat}(w:p a):∀t,t∈ [a]->p t:=by
 intro t Q;simp only[vv]at Q;subst Q;exact w
def GNc(sz:Nat)(ts:Lw)(N:HS):Prop:= ∃v,ts=[.one (.own 0 sz 0 0)]/\N=[(0,.row sz v)]
def gNc{hp:HS}{tm:TS}{rs:List ResultVar}{t:Nat}(J:rs=[.tmp t])(h:find tm t=some (.w (.one (.own id sz 0 0))))(R:find hp id=some (.row sz rows)):
 ∃us ids,bg P hp tm rs=some us/\(ids.length<=4/\ids.Nodup)/\GNc sz (us.map (W.aM (bI ids))) (cG (bI ids) hp 0 ids):=by
 subst J;refine⟨[.one (.own id sz 0 0)],[id],by simp only[bg,de,h],⟨ak,ak⟩,rows.map λe=>e.map (C.aM (bI [id])),?_,?_⟩
 . simp[W.aM,C.aM,bI]
 . simp only[cG,R,bE.aM]
def GNc.new{f:FuncId}{args:Lw}(h: ∃ts N,yw P f args (aR ts) N/\GNc sz ts N): ∃ts N,yw P f args (aR ts) N/\GN sz (λxs=>xs=[]) ts N:=by
 obtain⟨ts,N,O,v,rfl,rfl⟩:=h;have:=O.cut 0;rw[afi]at this;exact⟨_,_,this,[],rfl,rfl,rfl⟩
def sV{hp:HS}(R:find hp id=some (.row sz rows))(M:aL rows xs):cG (bI [id]) hp 0 [id]=[(0,.row sz (tr xs))]:=by
 simp only[cG,R,bE.aM];rw[M,gk]
def N9{f:FuncId}{us ts:Lw}{hp:HS}{K:V->HS->Prop}{Good:Lw->Prop}(U:iU hp us=some ts)(h: ∃rs,Fn P f ts [] (aR rs) []/\(aR rs).cR=true/\Good rs)(R:∀rs,Good rs->(aR rs).flat=true)(Z:∀rs,Good rs->K (aR rs) hp): ∃v hp',gY P hp ctr f us v hp'/\K v hp':=by
 obtain⟨rs,O,Y,B⟩:=h;refine⟨aR rs,hp,.inl ⟨aR rs,[],ts,O.toF,(V.vw Y).symm,rfl,.inr ⟨U,R rs B,λid L h=>by simp[find]at h⟩⟩,Z rs B⟩
end Go.aW
namespace Go.aW.Cd
open Go Go.Proofs
def RRv(n:Nat)(m:Nat)(F:List V)(w:List (Lz)):Prop:= ∃ (i q:Int) (M:Lz),(0<=i/\i<=(n:Int)/\q < (n:Int)/\ -1<=q)/\m=(q+1 - i).toNat/\F=[iV .i64 i,iV .i64 q]/\w=[M]/\M.length=n/\cO M
variable{n N:Nat}{zs es ys a A B:Lz}{y:Lt}
def RRv.next{i q:Int}(G:0<=i/\i<=(n:Int)/\q < (n:Int)/\ -1<=q)(h:i < q)(K:n<=1000000)(A:zs.length=n)(l:cO zs)(M L:Nat)(a b c d:Int):
 RRv n (q - 1+1 - (i+1)).toNat [iV .i64 (IntKind.i64.wrap (i+1)),iV .i64 (IntKind.i64.wrap (q - 1))] [(zs.set M [tI a,tI b]).set L [tI c,tI d]]:=
 ⟨i+1,q - 1,_,aa,rfl,by rw[bF aa aa,bF aa aa],rfl,by simp[A],(l.set M a b).set L c d⟩
def GRv(n:Nat)(ts:Lw)(N:HS):Prop:=ts=[]/\ ∃Y,N=[(0,.row 2 (tr Y))]/\Y.length=n/\cO Y
def sA(xs:Lz)(hx:cO xs)(U:xs.length<=1000000): ∃ts N,Fn Tryz.prog 242 [.one (.own 0 2 0 xs.length)] [(0,.row 2 (tr xs))] (aR ts) N/\GRv xs.length ts N:=by
 refine ij Tryz.func242 ?_
 repeat' ((conv=>whnf);first|refine aJ (λh=>?_) (λh=>?_)|refine And.intro ⟨aa,aa⟩ ?_|refine And.intro ag ?_|(refine cu (xs:=M) rfl B aa ?_;rintro _ ⟨a,b,rfl⟩ S)|(refine cu (xs:=M.set _ [tI _,tI _]) (aL.set (xs:=M) rfl _ [tI _,tI _]) (B.set _ _ _) gZ ?_;rintro _ ⟨a,b,rfl⟩ S)|exact⟨[],[],_,rfl,rfl,j0 rfl (xs:=xs) (ys:=M) rfl,rfl,M,rfl,A,B⟩|(apply bp [0,2,3] [] [2,3] [(0,2)] (RRv xs.length) (xs.length) [iV .i64 0,iV .i64 (IntKind.i64.wrap ((xs.length:Int) - 1))];(iterate 3 exact ae);exact .cons (aL.aM (xs:=xs) rfl _) .nil;exact⟨0,(xs.length:Int) - 1,xs,aa,aa,by rw[bF aa aa],rfl,rfl,hx⟩;rintro _ _ _ ⟨i,q,M,G,rfl,rfl,rfl,A,B⟩)|(refine aI [0,2,3] [] ?_;(conv=>whnf);exact⟨rfl,_,[_,_],_,.cons (aL.aM (aL.set (aL.set (xs:=M) rfl _ [tI _,tI _]) _ [tI _,tI _]) _) .nil,RRv.next G aa U A B _ _ _ _ _ _,rfl,rfl,aa⟩))
def IT(ts:Lw):Prop:=ts=[.one (.t dw)]
def aDN(_u:Unit):Tg 267 [.one (.t dw),oI 0] IT:=by
 refine aC Tryz.func267 ?_
 repeat' ((conv=>whnf);first|refine nA (op:= .call ⟨.builtin .cap, #[.tmp _], #[110]⟩) (v:=iV .i64 0) ag ?_|exact g1 rfl rfl rfl)
def uSl:Tryz.prog.underlying 110=some (.slice 175):=ag
def uIn:Tryz.prog.underlying 3=some (.int .i64):=ag
def aKW:qy Tryz.prog 175=some (2,16):=ag
def aGO:j9 Tryz.prog 175=some [.t (tI 0),.t (tI 0)]:=ag
def HY(K:n<=1000000):IntKind.i64.wrap ((n:Int) - IntKind.i64.wrap (0 - ((0:Nat):Int)))=(n:Int):=by
 rw[bF (n:=0 - ((0:Nat):Int)) aa aa,bF aa aa];omega
def Nc(O:1<=n)(K:n<=1000000):IntKind.i64.wrap ((n:Int) - IntKind.i64.wrap (0 - ((0:Nat):Int)))=((n - 1+1:Nat):Int):=by
 rw[HY K];omega
def aDM(n:Nat)(O:1<=n)(K:n<=1000000): ∃ts N,yw Tryz.prog 267 [.one (.t dw),oI n] (aR ts) N/\GNc 2 ts N:=by
 refine jc Tryz.func267 ?_
 repeat' ((conv=>whnf);first|refine aJ (λh=>?_) (λh=>?_)|refine oZ (aa7 _) aa (.inr rfl) ?_|refine And.intro aa ?_|refine nA (op:= .call ⟨.builtin .cap, #[.tmp _], #[110]⟩) (v:=iV .i64 0) ag ?_|refine nA (op:= .slice 110 (.tmp 17) none (some (.tmp 19)) none) (v:=CH) ag ?_|refine LZ (m:=n - 1) rfl rfl (Nc O K) uSl uIn aKW aGO rfl aa aa ?_|exact gNc rfl rfl rfl|(exfalso;rw[HY K]at h;omega))
def arJ(n:Nat)(h:n=0):S6 267 [.one (.t dw),oI n] IT:=by subst h;exact aDN ()
def tl(e:Lt):Nat:=
 match e with
 | [.aO _ o]=>o.length|_=>0
def jY:Lz->Nat
 | []=>0|e::r=>tl e+jY r
def E3:∀ (es:Lz) (e:Lt),jY (es++[e])=jY es+tl e
 | [],e=>by simp[jY]
 |x::r,e=>by simp only[ab8,jY,E3 r e];omega
def yL{i:Nat}{e:Lt}(h:es[i]? =some e):jY (es.take (i+1))=jY (es.take i)+tl e:=by
 rw[lD h,E3]
def NX(e:Lt):Prop:= ∃Y,e=[.aO 2 Y]/\cO Y/\Y.length<=100000
def Oi:∀ {es:Lz},(∀e,e∈es->NX e)->jY es<=100000 * es.length
 | [],_=>by simp[jY]
 |e::r,h=>by
  obtain⟨Y,rfl,_,U⟩:=h e aa1;have:=Oi (es:=r) (λq d=>h q (aa2 _ d));simp only[jY,tl,aaa];omega
def tb(h:∀e,e∈es->NX e)(U:es.length<=4)(i:Nat):jY (es.take i)<=400000:=by
 have:=Oi (es:=es.take i) (λe H=>h e (aah H));have Y:(es.take i).length<=es.length:=by simp;omega
 omega
def aaA{i:Nat}(z:jY es=0)(S:es[i]? =some [.aO 2 (y::ys)]):False:=by
 have O:∀ (l:Lz),[T.aO 2 (y::ys)]∈l->1<=jY l:=by
  intro l
  induction l with
  |nil=>intro h;simp at h
  |cons a r c=>
   intro h;rcases aak.1 h with rfl|h
   . simp only[jY,tl,aaa];omega
   . have:=c h;simp only[jY];omega
 have:=O es (oo S);omega
def RCc(a:Lz)(m:Nat)(vs:List V):Prop:= ∃i:Nat,i<=a.length/\m=a.length - i/\vs=[iV .i64 (jY (a.take i):Int),iV .i64 (i:Int)]
def RCc.next{i:Nat}{n:Int}(b:∀e,e∈a->NX e)(U:a.length<=4)(I:(i:Int) < (a.length:Int))(S:a[((i:Int)).toNat]? =some [.aO 2 ys])(K:n=(ys.length:Int)):RCc a (a.length - (i+1)) [iV .i64 (IntKind.i64.wrap ((jY (a.take i):Int)+n)),iV .i64 (IntKind.i64.wrap ((i:Int)+1))]:=by
 have O:=yL (es:=a) (i:=i) aA;have Y:=tb b U (i+1);simp only[tl]at O;refine⟨i+1,aa,rfl,?_⟩;rw[K,bF aa aa,bF aa aa,O];simp
def alG{i:Nat}(b:∀e,e∈a->NX e)(U:a.length<=4)(K:n<=100000)(h:IntKind.i64.wrap ((jY (a.take i):Int)+(n:Int)) < 0):False:=by
 have:=tb b U i;rw[bF aa aa]at h;omega
def RCd(a:Lz)(m:Nat)(F:List V)(w:List (Lz)):Prop:= ∃ (i:Nat) (M:Lz),i<=a.length/\m=a.length - i/\F=[bD 4 2 M.length,iV .i64 (i:Int)]/\w=[M]/\M.length=jY (a.take i)/\cO M
def RCd.same{i:Nat}(U:a.length<=4)(I:(i:Int) < (a.length:Int))(S:a[((i:Int)).toNat]? =some [.aO 2 []])(A:zs.length=jY (a.take i))(l:cO zs):RCd a (a.length - (i+1)) [bD 4 2 zs.length,iV .i64 (IntKind.i64.wrap ((i:Int)+1))] [zs]:=by
 have O:=yL (es:=a) (i:=i) aA;simp only[tl,ac0,ace]at O;exact⟨i+1,zs,aa,rfl,by rw[bF aa aa];rfl,rfl,aa,l⟩
def RCd.ya{i k:Nat}(U:a.length<=4)(I:(i:Int) < (a.length:Int))(S:a[((i:Int)).toNat]? =some [.aO 2 (y::ys)])(hy:cO (y::ys))(A:zs.length=jY (a.take i))(l:cO zs)(Z:k=zs.length+(ys.length+1)):RCd a (a.length - (i+1)) [bD 4 2 k,iV .i64 (IntKind.i64.wrap ((i:Int)+1))] [zs++y::ys]:=by
 have O:=yL (es:=a) (i:=i) aA;simp only[tl,aaa]at O;refine⟨i+1,_,aa,rfl,by rw[bF aa aa,Z];simp,rfl,by simp;omega,?_⟩;intro e H;simp only[yl]at H;rcases H with H|H
 . exact l e H
 . exact hy e H
def aK7(O:zs.length<=400000)(Y:ys.length<=100000):zs.length=(tr zs).length/\((tr zs).length+((ys.map λe=>e.map C.t).length+1)) * 16<=bh/\(tr zs).length+((ys.map λe=>e.map C.t).length+1)<=maxLen:=by
 refine⟨by simp[tr],?_,?_⟩
 . simp only[tr,abo,bh];omega
 . simp only[tr,abo,maxLen];omega
def agP(a:Lz)(b:∀e,e∈a->NX e)(U:a.length<=4)(O:1<=jY a): ∃ts N,yw Tryz.prog 243 [oL 1 a] (aR ts) N/\GN 2 (λzs=>zs.length=jY a/\cO zs) ts N:=by
 refine jc Tryz.func243 ?_
 repeat' ((conv=>whnf);first|refine aJ (λh=>?_) (λh=>?_)|(refine aG (xs:=a) (n:=(i:Int)) b aa aa ?_;rintro _ ⟨Y,rfl,j,P⟩ S)|(refine aG (xs:=a) (n:=(q:Int)) b aa aa ?_;rintro _ ⟨_|⟨y,Y⟩,rfl,j,P⟩ S)|(exfalso;exact alG b U P h)|refine And.intro (aK7 (by have:=tb b U q;omega) (by simp at P;omega)) ?_|(refine N4 rfl (GNc.new (aDM (jY (a.take i)) afq (by have:=tb b U i;omega))) ?_;rintro _ rfl)|exact gN rfl rfl rfl (xs:=zs) rfl rfl ⟨by rw[aac aa]at A;exact A,l⟩|(apply bp [6,25,26,27] [] [6,27] [(4,2)] (RCd a) (a.length) [bD 4 2 0,iV .i64 0];(iterate 3 exact ae);exact .cons (aL.aM (xs:=[]) rfl _) .nil;exact⟨0,[],aa,rfl,rfl,rfl,by simp[jY],λe H=>by simp at H⟩;rintro _ _ _ ⟨q,zs,d,rfl,rfl,rfl,A,l⟩)|(refine aI [6,25,26,27] [] ?_;(conv=>whnf);first|exact⟨rfl,_,[_,_],_,.cons (aL.aM (xs:=zs) rfl _) .nil,RCd.same U aa S A l,rfl,rfl,aa⟩|exact⟨rfl,_,[_,_],_,.cons (aL.aM (aL.ya (xs:=zs) rfl (y::Y)) _) .nil,RCd.ya U aa S j A l iC,rfl,rfl,aa⟩)|(apply aV [0,3,9,10,11] [] [3,11] (RCc a) (a.length) [iV .i64 0,iV .i64 0];(iterate 3 exact ae);exact⟨0,aa,rfl,by simp[jY]⟩;rintro _ _ ⟨i,I,rfl,rfl⟩)|(refine aI [0,3,9,10,11] [] ?_;(conv=>whnf);exact⟨rfl,_,[_,_],RCc.next b U aa S ak,rfl,rfl,rfl,aa⟩))
def RCn(a:Lz)(m:Nat)(vs:List V):Prop:= ∃i:Nat,i<=a.length/\m=a.length - i/\vs=[CH,iV .i64 (i:Int)]
def RCn.next{i:Nat}(U:a.length<=4)(I:(i:Int) < (a.length:Int)):RCn a (a.length - (i+1)) [CH,iV .i64 (IntKind.i64.wrap ((i:Int)+1))]:=
 ⟨i+1,aa,rfl,by rw[bF aa aa];rfl⟩
def agQ(a:Lz)(b:∀e,e∈a->NX e)(U:a.length<=4)(z:jY a=0):Tg 243 [oL 1 a] IT:=by
 refine aC Tryz.func243 ?_
 repeat' ((conv=>whnf);first|refine aJ (λh=>?_) (λh=>?_)|(refine aG (xs:=a) (n:=(i:Int)) b aa aa ?_;rintro _ ⟨Y,rfl,j,P⟩ S)|(refine aG (xs:=a) (n:=(q:Int)) b aa aa ?_;rintro _ ⟨_|⟨y,Y⟩,rfl,j,P⟩ S)|(exfalso;exact alG b U P h)|(exfalso;exact aaA z S)|(refine aD rfl (arJ (jY (a.take i)) (by rw[aac aa];exact z)) ?_;rintro _ rfl)|exact g1 rfl rfl rfl|(apply aV [6,25,26,27] [] [6,27] (RCn a) (a.length) [CH,iV .i64 0];(iterate 3 exact ae);exact⟨0,aa,rfl,rfl⟩;rintro _ _ ⟨q,d,rfl,rfl⟩)|(refine aI [6,25,26,27] [] ?_;(conv=>whnf);exact⟨rfl,_,[_,_],RCn.next U aa,rfl,rfl,rfl,aa⟩)|(apply aV [0,3,9,10,11] [] [3,11] (RCc a) (a.length) [iV .i64 0,iV .i64 0];(iterate 3 exact ae);exact⟨0,aa,rfl,by simp[jY]⟩;rintro _ _ ⟨i,I,rfl,rfl⟩)|(refine aI [0,3,9,10,11] [] ?_;(conv=>whnf);exact⟨rfl,_,[_,_],RCc.next b U aa S ak,rfl,rfl,rfl,aa⟩))
def T2(a:cO A)(x:cO B)(h:A.length+B.length<=100000):∀e,e∈ ([[.aO 2 A],[.aO 2 B]]:Lz)->NX e:=by
 intro e H;simp only[aak,aa6,or_false]at H;rcases H with rfl|rfl
 . exact⟨A,rfl,a,aa⟩
 . exact⟨B,rfl,x,aa⟩
def Gz(A B:Lz):jY [[.aO 2 A],[.aO 2 B]]=A.length+B.length:=by simp[jY,tl]
def Qu(a:cO A)(x:cO B)(O:1<=A.length+B.length)(h:A.length+B.length<=100000): ∃ts N,yw Tryz.prog 243 [oL 1 [[.aO 2 A],[.aO 2 B]]] (aR ts) N/\GN 2 (λzs=>zs.length=A.length+B.length/\cO zs) ts N:=by
 have:=agP [[.aO 2 A],[.aO 2 B]] (T2 a x h) ak (by rw[Gz];exact O);rw[Gz]at this;exact this
def P9(a:cO A)(x:cO B)(h:A.length+B.length=0):S6 243 [oL 1 [[.aO 2 A],[.aO 2 B]]] IT:=
 agQ [[.aO 2 A],[.aO 2 B]] (T2 a x aa) ak (by rw[Gz];exact h)
def flN:∀xs:Lz,xs.length=n/\cO xs->(bE.row 2 (tr xs)).flat=true:=by
 rintro xs ⟨_,h⟩;simp only[bE.flat,tr,yt,aad];rintro r ⟨e,H,rfl⟩;obtain⟨a,b,rfl⟩:=h e H;intro c D;simp only[aaq,abh,aak,aa6,or_false]at D;rcases D with rfl|rfl<;>rfl
def RNm(N:Nat)(m:Nat)(F:List V)(w:List (Lz)):Prop:= ∃ (i:Nat) (M:Lz),i<=N/\m=N - i/\F=[bD 4 2 M.length,iV .i64 (i:Int)]/\w=[M]/\M.length<=i/\cO M
def RNm.same{i:Nat}(h:(i:Int) < (N:Int))(D:N<=1000000)(A:zs.length<=i)(l:cO zs):RNm N (N - (i+1)) [bD 4 2 zs.length,iV .i64 (IntKind.i64.wrap ((i:Int)+1))] [zs]:=
 ⟨i+1,zs,aa,rfl,by rw[bF aa aa];rfl,rfl,aa,l⟩
def RNm.ya{i k:Nat}{x y:Int}(h:(i:Int) < (N:Int))(D:N<=1000000)(A:zs.length<=i)(l:cO zs)(Z:k=zs.length+1):RNm N (N - (i+1)) [bD 4 2 k,iV .i64 (IntKind.i64.wrap ((i:Int)+1))] [zs++[[tI x,tI y]]]:=
 ⟨i+1,_,aa,rfl,by rw[bF aa aa,Z];simp,rfl,by simp;omega,l.snoc x y⟩
def RNf(N:Nat)(m:Nat)(F:List V)(w:List (Lz)):Prop:= ∃ (i f:Nat),i<=N/\(f < N\/N=0/\f=0)/\m=N - i/\F=[iV .i64 (f:Int),iV .i64 (i:Int)]/\w=[]
def RNf.zero:RNf N N [iV .i64 0,iV .i64 0] []:=⟨0,0,aa,aa,rfl,rfl,rfl⟩
def RNf.keep{i f:Nat}(h:(i:Int) < (N:Int))(D:N<=1000000)(R:f < N):RNf N (N - (i+1)) [iV .i64 (f:Int),iV .i64 (IntKind.i64.wrap ((i:Int)+1))] []:=
 ⟨i+1,f,aa,.inl R,rfl,by rw[bF aa aa];rfl,rfl⟩
def Cz(xs:Lz)(hx:cO xs)(U:xs.length<=1000000):Tg 200 [oL 2 xs] (X9 2 (λzs=>cO zs/\zs.length<=40)):=by
 refine aS ?_;refine aC Tryz.func200 ?_
 repeat' ((conv=>whnf);first|refine bZz (λh=>?_) (λh=>?_)|(refine aG (xs:=xs) hx aa aa ?_;rintro _ ⟨a,b,rfl⟩ S)|(refine aG (xs:=zs.take zs.length) (A.take _) aa gZ ?_;rintro _ ⟨a,b,rfl⟩ S)|(refine aG (xs:=Y.take zs.length) (j.take _) aa gZ ?_;rintro _ ⟨a,b,rfl⟩ S)|refine And.intro ⟨by simp[tr],by simp[tr,bh];omega,by simp[tr,maxLen];omega⟩ ?_|refine cT (aa7 _) gZ ?_|refine cT gZ ak ?_|refine cT aa aa ?_|refine And.intro ag ?_|refine And.intro aa ?_|(refine aD rfl (gv xs hx U) ?_;rintro _ ⟨e,rfl,K⟩)|(refine aD rfl (G8 xs i hx U aa) ?_;rintro _ ⟨n,rfl⟩)|(refine aD rfl (wY xs hx U) ?_;rintro _ ⟨n,rfl⟩)|(refine mK [4] rfl (sA zs A aa) rfl (sV rfl rfl) ?_;rintro _ _ ⟨rfl,Y,rfl,P,j⟩)|(refine vh rfl flN (Qu (dH (A.take _) _ _) (dH (A.take _) _ _) gZ afu) ?_;rintro F ⟨O,L⟩)|(refine vh rfl flN (Qu (dH (j.take _) _ _) (dH (j.take _) _ _) gZ afu) ?_;rintro F ⟨O,L⟩)|(refine N9 rfl (P9 (dH (A.take _) _ _) (dH (A.take _) _ _) (by simp only[aab,aax];omega)) (λx h=>by subst h;rfl) ?_;rintro _ rfl)|(refine N9 rfl (P9 (dH (j.take _) _ _) (dH (j.take _) _ _) (by simp only[aab,aax];omega)) (λx h=>by subst h;rfl) ?_;rintro _ rfl)|exact eL rfl (dy 2 rfl) (cv rfl) ⟨_,_,rfl,λz=>absurd z aa⟩|exact eL rfl (df rfl rfl (xs:=F) rfl aa) (cv rfl) ⟨_,_,rfl,λ_=>by rw[cD rfl];exact⟨L,by have:=(K aa).1.2.1;simp at O;omega⟩⟩|exact eL rfl (dy 2 rfl) (cv rfl) ⟨_,_,rfl,λ_=>⟨λe H=>by simp at H,ak⟩⟩|(apply cL [5,8,38,39,40] [] [8,40] [] (RNf zs.length) (zs.length) [iV .i64 0,iV .i64 0] (eo.arQ (xs:=Y) [5,38] 4 (apH rfl rfl) rfl (aL.aM rfl _) aa);(iterate 3 exact ae);exact .nil;exact RNf.zero;rintro _ _ _ ⟨q,f,d,(R|⟨D,rfl⟩),rfl,rfl,rfl⟩)|(refine aI [5,8,38,39,40] [] ?_;(conv=>whnf);exact⟨rfl,_,[_,_],_,.nil,RNf.keep aa aa aa,rfl,rfl,aa⟩)|(apply cL [5,8,38,39,40] [] [8,40] [] (RNf zs.length) (zs.length) [iV .i64 0,iV .i64 0] (eo.arQ (xs:=zs) [5,38] 4 (apH rfl rfl) rfl rfl (ww _));(iterate 3 exact ae);exact .nil;exact RNf.zero;rintro _ _ _ ⟨q,f,d,(R|⟨D,rfl⟩),rfl,rfl,rfl⟩)|(apply cL [0,5,17,18,19] [] [5,19] [(4,2)] (RNm xs.length) (xs.length) [bD 4 2 0,iV .i64 0] (eo.dQ 5 2 rfl);(iterate 3 exact ae);exact .cons (aL.aM aL.nil _) .nil;exact⟨0,[],aa,rfl,rfl,rfl,ak,λe H=>by simp at H⟩;rintro _ _ _ ⟨i,zs,I,rfl,rfl,rfl,N,A⟩)|(refine aI [0,5,17,18,19] [] ?_;(conv=>whnf);first|exact⟨rfl,_,[_,_],_,.cons (aL.aM (xs:=zs) rfl _) .nil,RNm.same aa U N A,rfl,rfl,aa⟩|exact⟨rfl,_,[_,_],_,.cons (aL.aM (aL.snoc (xs:=zs) rfl [tI _,tI _]) _) .nil,RNm.ya aa U N A iC,rfl,rfl,aa⟩))
end Go.aW.Cd
namespace Go.aW
open Go
variable{P:Program}{M A:agt}{ρ:Env}{F:agt}{st:St}{a:Act}{w:World}
def Fi(j:IntKind)(x y:Int): ∃n,aX P (Builtin.min2 (.int j x) (.int j y))=some (.int j n):=by
 unfold Builtin.min2;simp[aU]
def RA(l:Array TypeId)(ty:TypeId)(j:IntKind)(x y z:Int): ∃n,aX P (Builtin.min_ l ty #[.int j x,.int j y,.int j z])=some (.int j n):=by
 obtain⟨a,w⟩:=Fi (P:=P) j x y;obtain⟨b,G⟩:=Fi (P:=P) j a z;refine⟨b,?_⟩;unfold Builtin.min_;simp[aY,w,G]
variable{ctr id sz:Nat}{rows:Lq}{xs:Lz}
def ZQ{a b c:Nat}{ty:TypeId}{l:Array TypeId}{tm:TS}{hp:HS}{x y z:Int}{K:V->HS->Prop}(w:find tm a=some (iV .i64 x))(G:find tm b=some (iV .i64 y))(D:find tm c=some (iV .i64 z))(Z:∀m,K (iV .i64 m) hp):
 ∃v hp',YB P (.call ⟨.builtin .min, #[.tmp a,.tmp b,.tmp c],l⟩) ty tm hp ctr v hp'/\K v hp':=by
 obtain⟨m,r⟩:=RA (P:=P) l ty .i64 x y z;refine⟨iV .i64 m,hp,⟨λd=>rfl,?_⟩,Z m⟩;rintro n ⟨g,N,B,O,Y,Q⟩ rfl rfl
 have e:bS P (St.get ⟨n,tm,hp⟩) ⟨g,.call ⟨.builtin .min, #[.tmp a,.tmp b,.tmp c],l⟩,B,O,Y,Q⟩=some (iV .i64 m):=by
  unfold bS
  have U:(jL (Op.call ⟨.builtin .min, #[.tmp a,.tmp b,.tmp c],l⟩)&& (Op.call ⟨.builtin .min, #[.tmp a,.tmp b,.tmp c],l⟩).operands.toList.all λx=>(St.get ⟨n,tm,hp⟩ x).val?.isSome)=true:=by
   have h:(Op.call ⟨.builtin .min, #[.tmp a,.tmp b,.tmp c],l⟩).operands.toList=[.tmp a,.tmp b,.tmp c]:=rfl;rw[h];simp[jL,St.get,w,G,D,V.val?,W.val?,C.val?]
  rw[if_pos U]
  have:aX P (execOp (λx=>((St.get ⟨n,tm,hp⟩ x).val?).getD undef) ⟨g,.call ⟨.builtin .min, #[.tmp a,.tmp b,.tmp c],l⟩,B,O,Y,Q⟩)=some (.value (.int .i64 m)):=by
   simp[execOp,resolve,invoke,builtin,eO,St.get,w,G,D,V.val?,W.val?,C.val?,r]
  rw[this];rfl
 simp only[aK,e,wv]
def SV{hp:HS}{i len:Nat}(R:find hp id=some (.row sz rows))(M:aL rows xs)(U:i+len<=xs.length):elems hp (.own id sz i len)=some (sz,tr ((xs.drop i).take len)):=by
 have I:i+len<=rows.length:=by rw[M.len];exact U
 simp only[elems,R,true_and,I,if_true];rw[M,o5]
def Ob{d s t1 t2 ty e i len:Nat}{tm:TS}{hp:HS}{c:C}{ys:Lz}{K:V->HS->Prop}
 (F:find tm d=some (.w (.one (.own id sz i len)))) (S:find tm s=some (.w (.one c))) (o:isNil c=false) (H:elems hp c=some (sz,tr ys))
 (Q:P.underlying t1=some (.slice e)) (A:dc P e=some sz) (R:find hp id=some (.row sz rows)) (M:aL rows xs) (U:i+len<=xs.length)
 (z:∀n,K (iV .i64 n) hp) (Z:∀n,K (iV .i64 n) (jB hp id (.row sz (tr (bt xs i (ys.take len)))))):
 ∃v hp',YB P (.call ⟨.builtin .copy, #[.tmp d,.tmp s], #[t1,t2]⟩) ty tm hp ctr v hp'/\K v hp':=by
 have h:rows=tr xs:=M;subst h
 by_cases D:(ys.take len).length=0
 . refine⟨_,hp,⟨λw=>rfl,?_⟩,z 0⟩;rintro n ⟨g,y,B,O,Y,l⟩ rfl rfl;simp only[aK,St.get,F,S,YJ,iq,Q,A,o,H,aag,if_false,Bz,vA,D,if_true];rfl
 . refine⟨_,_,⟨λw=>rfl,?_⟩,Z ((ys.take len).length:Nat)⟩;rintro n ⟨g,y,B,O,Y,l⟩ rfl rfl;have I:True/\True/\True/\i+len<=xs.length:=⟨trivial,trivial,trivial,U⟩;simp only[aK,St.get,F,S,YJ,iq,Q,A,o,H,R,aag,if_false,Bz,vA,D,yN];rw[if_pos I];rfl
def Cf{α:Type}{xs ys:List α}{i:Nat}(h:i+ys.length<=xs.length):(bt xs i ys).length=xs.length:=by
 unfold bt;simp only[XV,aab,aax];omega
def Mb{α:Type}{xs ys:List α}{i:Nat}{e:α}(h:e∈bt xs i ys):e∈xs\/e∈ys:=by
 unfold bt at h;simp only[yl]at h;rcases h with(h|h)|h
 . exact .inl (aah h)
 . exact .inr h
 . exact .inl (abc h)
def pM{n:Nat}{b:Rc}{Q:Exit->TS->HS->Nat->Prop}{tm j:TS}{hp w:HS}{Z:Nat}(N:List Nat)(a:List (Nat×Nat))(ks:List Nat)(R:Nat->List V->HS->Prop)(A:Nat)(v:List V){D:TS}{d:HS}{y:Nat}
 (B:eo tm hp ctr j w Z)
 (x:qW (Bo N a j w) λS=>jx (S.tm j) λt=>mq (S.hp w) λq=>S.ok=true/\t=D/\q=d/\S.ctr=y)
 (F:D.length=N.length) (z:D=fF ks v D) (h:R A v d)
 (s:∀m vs hq,R m vs hq->jx (fF ks vs D) λr=>X P n b (dP (bA λtm' hp' c'=> ∃m' e,R m' e hp'/\tm'=fF ks e D/\c'=y/\m' < m) Q) r hq y):
 ∃I:Nat->TS->HS->Nat->Prop,bA (λtm hp c=> ∃m,I m tm hp c) tm hp ctr/\
  ∀m tm hp c,I m tm hp c->X P n b (dP (bA λtm hp c=> ∃m',m' < m/\I m' tm hp c) Q) tm hp c:=by
 rw[kP,dX,fL]at x;obtain⟨l,H,o,G⟩:=x;refine⟨λm tm' hp' c'=> ∃e,R m e hp'/\tm'=fF ks e D/\c'=y,.sem B (bA.mk' ⟨Bo N a j w,l,A,v,by rw[o];exact h,H.trans z,G⟩),?_⟩;rintro m tm' hq c' ⟨vs,M,rfl,rfl⟩;have:=s m vs hq M;rw[dX]at this;refine(congrArg (λJ=>X P n b (dP (bA J) Q) _ _ _) ?_).mp this;funext tm' hp' c'';exact propext ⟨λ⟨m',e,O,Y,g,U⟩=>⟨m',U,e,O,Y,g⟩,λ⟨m',U,e,O,Y,g⟩=>⟨m',e,O,Y,g,U⟩⟩
def si{f:FuncId}{us args:Lw}{hp z:HS}{K:V->HS->Nat->Prop}{Good:Lw->Prop}(ids:List Nat)(I:uQ ids ctr=true)(G:∀id,id∈ids-> ∃b,find hp id=some b/\(b.aM (bI ids)).aM (ic ids ctr)=b)
 (w:us.map (W.aM (bI ids))=args) (d:cG (bI ids) hp 0 ids=z) (h: ∃ts N,Fn P f args z (aR ts) N/\N=z/\Good ts) (Z:∀ts,Good ts->K ((aR ts).aM (ic ids ctr)) hp (ctr+4)): ∃v hp' c',dI P f us hp ctr v hp' c'/\K v hp' c':=by
 obtain⟨ts,N,O,rfl,Y⟩:=h;exact⟨_,_,_,Ir ids I O w d G,Z ts Y⟩
def anY{hp:HS}{tm:TS}{t eV sl lid len k:Nat}{rs zs:Lz}{v:Lq}(h:find tm t=some (.w (.one (.own id 1 0 len))))(R:find hp id=some (.row 1 rows))(x:rows=tr rs++[[.own lid eV 0 k]])(U:len=rs.length+1)
 (s:find hp lid=some (.row eV v)) (r:aL v zs) (Z:k<=zs.length) (_:sl=eV):Rs P hp tm (.tmp t) (.one (.t (.aO 1 (rs++[[.aO eV (zs.take k)]])))):=by
 subst x;subst U;have a:0+k<=v.length:=by rw[r.len];omega
 have j:cA 5 hp (.own lid eV 0 k)=some (.aO eV (zs.take k)):=by
  simp only[cA,s,true_and,a,if_true];rw[r,o5,mF];simp
 have z:∀ (o:Lz),bB (bB (cA 5 hp)) (tr o++[[.own lid eV 0 k]])=some (o++[[.aO eV (zs.take k)]]):=by
  intro o
  induction o with
  |nil=>simp only[tr,abh,ac1,bB,j]
  |cons e o c=>
   have b:=mF (hp:=hp) (d:=5) [e]
   have H:bB (cA 5 hp) (e.map .t)=some e:=by
    simp only[tr,aaq,abh,bB]at b;split at b
    . rename_i y l G U;simp only[ii]at U;subst U;simp only[ii,aaz,and_true]at b;subst b;exact G
    . simp at b
   have w:=c;simp only[tr]at w⊢;simp only[aaq,ab8,bB,H,w]
 have n:0+(rs.length+1)<=(tr rs++[[C.own lid eV 0 k]]).length:=iC
 have g:((tr rs++[[C.own lid eV 0 k]]).drop 0).take (rs.length+1)=tr rs++[[C.own lid eV 0 k]]:=by
  rw[acg];exact aac iC
 refine⟨.one (.own id 1 0 (rs.length+1)),.one (.t (.aO 1 (rs++[[.aO eV (zs.take k)]]))),by simp only[de,h],?_,Ja.refl _⟩
 have:cA 6 hp (.own id 1 0 (rs.length+1))=some (.aO 1 (rs++[[.aO eV (zs.take k)]])):=by
  simp only[cA,R,true_and,n,if_true];rw[g,z];rfl
 simp only[bM,this,wv]
end Go.aW
namespace Go.aW.Cd
open Go Go.Proofs
def B7(xs:Lz)(q:Sp)(hx:cO xs):Tg 205 [oL 2 xs,lH q] GI:=by
 refine aC Tryz.func205 ?_
 repeat' ((conv=>whnf);first|refine bZz (λh=>?_) (λh=>?_)|(refine aG hx aj aq ?_;rintro _ ⟨a,b,rfl⟩ S)|refine And.intro ag ?_|(refine aD rfl (yM (_,_)) ?_;rintro _ ⟨b,rfl⟩)|(refine aD rfl (kC (_,_) (_,_) (_,_)) ?_;rintro _ ⟨n,rfl⟩)|(refine aN rfl (kC (_,_) (_,_) (_,_)) ?_;rintro _ ⟨n,rfl⟩)|(refine ZQ rfl rfl rfl ?_;intro c)|exact gI rfl rfl)
abbrev hS1(k:Nat)(zs:Lz):HS:=[(0,.row 1 [[.own 1 2 0 k]]),(1,.row 2 (tr zs))]
abbrev V8(k:Nat)(zs:Lz):HS:=[(0,.row 1 [[.own 1 2 0 k]]),(1,.row 2 (tr zs)),(2,.row 1 [[.oO 201 [(0,1,0,0)]]])]
def UK{z:HS}(xs:Lz)(sz:Nat):QL z (.row sz (tr xs)):=by
 intro e H c D;simp only[tr,aad]at H;obtain⟨J,_,rfl⟩:=H;simp only[aad]at D;obtain⟨F,_,rfl⟩:=D;rfl
variable{zs d rs xs Z:Lz}{rows:Lq}{a l ctr b N:Nat}{n:Int}{row:Lt}
def acS{hp:HS}{k:Nat}(z:find hp 0=some (.row 1 [[.own 1 2 0 k]]))(O:find hp 1=some (.row 2 rows))(M:aL rows zs):od (hS1 k zs) hp (hS1 k zs):=by
 have h:rows=tr zs:=M;subst h;refine⟨λq b d=>?_,λq L d=>?_⟩
 . simp only[find]at d;split at d
   . rename_i e;subst e;exact⟨aa,_,z⟩
   . split at d
     . rename_i e;subst e;exact⟨aa,_,O⟩
     . simp at d
 . simp only[find]at d;split at d
   . rename_i e;subst e;simp only[ii]at d;subst d;refine⟨z,rfl,λe H c D=>?_⟩;simp only[vv]at H;subst H;simp only[vv]at D;subst D;rfl
   . split at d
     . rename_i e;subst e;simp only[ii]at d;subst d;exact⟨O,rfl,UK _ _⟩
     . simp at d
def xq{hp:HS}{k:Nat}(z:find hp 0=some (.row 1 [[.own 1 2 0 k]]))(O:find hp 1=some (.row 2 rows))(Y:find hp 2=some (.row 1 [[.oO 201 [(0,1,0,0)]]]))(M:aL rows zs):od (V8 k zs) hp (V8 k zs):=by
 have h:rows=tr zs:=M;subst h;refine⟨λq b d=>?_,λq L d=>?_⟩
 . simp only[find]at d;split at d
   . rename_i e;subst e;exact⟨aa,_,z⟩
   . split at d
     . rename_i e;subst e;exact⟨aa,_,O⟩
     . split at d
       . rename_i e;subst e;exact⟨aa,_,Y⟩
       . simp at d
 . simp only[find]at d;split at d
   . rename_i e;subst e;simp only[ii]at d;subst d;refine⟨z,rfl,λe H c D=>?_⟩;simp only[vv]at H;subst H;simp only[vv]at D;subst D;rfl
   . split at d
     . rename_i e;subst e;simp only[ii]at d;subst d;exact⟨O,rfl,UK _ _⟩
     . split at d
       . rename_i e;subst e;simp only[ii]at d;subst d;refine⟨Y,rfl,λe H c D=>?_⟩;simp only[vv]at H;subst H;simp only[vv]at D;subst D;rfl
       . simp at d
def hi1{hp:HS}{k:Nat}(z:find hp a=some (.row 1 [[.own l 2 0 k]]))(O:find hp l=some (.row 2 rows))(M:aL rows zs)(U:bI [a,l] l=some 1):cG (bI [a,l]) hp 0 [a,l]=hS1 k zs:=by
 have h:rows=tr zs:=M;subst h;simp only[cG,z,O,bE.aM,aaq,abh,C.aM,U,gk]
def bk1{hp:HS}{k:Nat}(z:find hp a=some (.row 1 [[.own l 2 0 k]]))(O:find hp l=some (.row 2 rows))(M:aL rows zs)(U:bI [a,l] l=some 1)(R:ic [a,l] ctr 1=some l):∀id,id∈ [a,l]-> ∃b,find hp id=some b/\(b.aM (bI [a,l])).aM (ic [a,l] ctr)=b:=by
 have h:rows=tr zs:=M;subst h;refine apH ⟨_,z,?_⟩ ⟨_,O,?_⟩
 . simp only[bE.aM,aaq,abh,C.aM,U,R]
 . simp only[bE.aM,gk]
def hi2{hp:HS}{k:Nat}(z:find hp a=some (.row 1 [[.own l 2 0 k]]))(O:find hp l=some (.row 2 rows))(Y:find hp b=some (.row 1 [[.oO 201 [(a,1,0,0)]]]))(M:aL rows zs)(U:bI [a,l,b] l=some 1)(w:bI [a,l,b] a=some 0):cG (bI [a,l,b]) hp 0 [a,l,b]=V8 k zs:=by
 have h:rows=tr zs:=M;subst h;simp only[cG,z,O,Y,bE.aM,aaq,abh,C.aM,U,w,gk,adw,List.all_nil,ad7,Bool.and_self,if_true,YJ]
def bk2{hp:HS}{k:Nat}(z:find hp a=some (.row 1 [[.own l 2 0 k]]))(O:find hp l=some (.row 2 rows))(Y:find hp b=some (.row 1 [[.oO 201 [(a,1,0,0)]]]))(M:aL rows zs)(U:bI [a,l,b] l=some 1)(w:bI [a,l,b] a=some 0)(R:ic [a,l,b] ctr 1=some l)(hg:ic [a,l,b] ctr 0=some a):∀id,id∈ [a,l,b]-> ∃D,find hp id=some D/\(D.aM (bI [a,l,b])).aM (ic [a,l,b] ctr)=D:=by
 have h:rows=tr zs:=M;subst h;intro id hid;simp only[aak,aa6,or_false]at hid;rcases hid with rfl|rfl|rfl
 . exact⟨_,z,by simp only[bE.aM,aaq,abh,C.aM,U,R]⟩
 . exact⟨_,O,by simp only[bE.aM,gk]⟩
 . exact⟨_,Y,by simp only[bE.aM,aaq,abh,C.aM,w,hg,adw,List.all_nil,ad7,Bool.and_self,if_true,YJ]⟩
def asI:enters Tryz.prog 201=true:=ag
def aKV:enters Tryz.prog 202=true:=ag
def aKU:enters Tryz.prog 204=true:=ag
def aLG(ts:Lw):Prop:= ∃a b c d e f:Int,ts=[lH (a,b),lH (c,d),lH (e,f)]
def anG(k:Nat)(zs:Lz)(A:cO zs)(Z:k<=zs.length)(K:zs.length<=1000000)(i:Int)(r:0<=i)(I:i < (k:Int)): ∃ts N,Fn Tryz.prog 201 [oI i,.one (.ptr 0 1 0 0)] (hS1 k zs) (aR ts) N/\(λts N=>N=hS1 k zs/\aLG ts) ts N:=by
 refine ij Tryz.func201 ?_
 repeat' ((conv=>whnf);first|refine And.intro ⟨aa,aa⟩ ?_|refine And.intro ⟨dB (by rw[bF (n:=i+(k:Int)) aa aa,bF aa aa];omega),di aa⟩ ?_|refine And.intro ⟨dB hD,di aa⟩ ?_|refine And.intro (show((k:Nat):Int)≠0 by omega) ?_|refine And.intro ag ?_|(refine cu (xs:=zs) rfl A (by first|omega|(have O:=di (a:=IntKind.i64.wrap (IntKind.i64.wrap (i+(k:Int)) - 1)) (b:=(k:Int)) aa;have Y:=di (a:=IntKind.i64.wrap (i+1)) (b:=(k:Int)) aa;omega)) ?_;rintro _ ⟨x,y,rfl⟩ S)|exact⟨_,_,_,rfl,rfl,acS rfl rfl rfl,rfl,_,_,_,_,_,_,rfl⟩)
def aH6(k:Nat)(zs:Lz)(A:cO zs)(Z:k<=zs.length)(K:zs.length<=1000000)(i:Int)(r:0<=i)(I:i < (k:Int)): ∃ts N,Fn Tryz.prog 202 [oI i,.one (.ptr 2 1 0 0)] (V8 k zs) (aR ts) N/\(λts N=>N=V8 k zs/\GB ts) ts N:=by
 refine ij Tryz.func202 ?_
 repeat' ((conv=>whnf);first|refine And.intro asI ?_|(refine si [0,1] rfl (bk1 rfl rfl rfl rfl rfl) rfl (hi1 rfl rfl rfl rfl) (anG k zs A Z K i r I) ?_;rintro _ ⟨a,b,c,d,e,f,rfl⟩)|(refine aD rfl (kC (_,_) (_,_) (_,_)) ?_;rintro _ ⟨n,rfl⟩)|exact⟨_,_,_,rfl,rfl,xq rfl rfl rfl rfl,rfl,_,rfl⟩)
def aaI(a b c d e f:Int):cO ([[tI a,tI b],[tI c,tI d],[tI e,tI f]]:Lz):=by
 intro q s;simp at s;rcases s with s|s|s
 . exact⟨a,b,s⟩
 . exact⟨c,d,s⟩
 . exact⟨e,f,s⟩
def TW{n ty w g L:Nat}{a b c d e f:Int}{tm:TS}{hp:HS}{K:V->HS->Prop}(O:find tm w=some (.w (.agg [.t (tI a),.t (tI b)])))(Y:find tm g=some (.w (.agg [.t (tI c),.t (tI d)])))(B:find tm L=some (.w (.agg [.t (tI e),.t (tI f)])))
 (Z:K (.w (.one (.t (.aO 2 [[tI a,tI b],[tI c,tI d],[tI e,tI f]])))) hp): ∃v hp',jA Tryz.prog n (.buildSlice 110 3 #[(0,.tmp w),(1,.tmp g),(2,.tmp L)]) ty tm hp ctr v hp'/\K v hp':=by
 refine⟨_,_,aaZ (sz:=2) (l:=[(0,.agg [.t (tI a),.t (tI b)]),(1,.agg [.t (tI c),.t (tI d)]),(2,.agg [.t (tI e),.t (tI f)])]) (xs:=[[tI a,tI b],[tI c,tI d],[tI e,tI f]]) ?_ ?_ rfl,Z⟩
 . simp only[jZ,St.get,O,Y,B,YJ]
 . kernel_rfl
def RS3(k:Nat)(zs:Lz)(a b c d e f:Int)(m:Nat)(vs:List V)(hq:HS):Prop:= ∃ (i:Nat) (v:Lq),i<=k/\m=k - i/\vs=[iV .i64 (i:Int)]/\aL v zs/\
 hq=[(0,.row 1 [[.own 1 2 0 k]]),(1,.row 2 v),(2,.row 1 [[.oO 201 [(0,1,0,0)]]]),(4,.row 2 [[.t (tI a),.t (tI b)]]),(8,.row 2 [[.t (tI c),.t (tI d)]]),(12,.row 2 [[.t (tI e),.t (tI f)]])]
def aH5(k:Nat)(zs:Lz)(A:cO zs)(Z:k<=zs.length)(K:zs.length<=1000000)(i:Int)(r:0<=i)(I:i < (k:Int)): ∃ts N,Fn Tryz.prog 204 [oI i,.one (.ptr 2 1 0 0),.one (.ptr 0 1 0 0)] (V8 k zs) (aR ts) N/\(λts N=>N=V8 k zs/\GB ts) ts N:=by
 refine ij Tryz.func204 ?_
 repeat' ((conv=>whnf);first|refine bZz (λh=>?_) (λh=>?_)|refine And.intro asI ?_|refine And.intro ⟨aa,aa⟩ ?_|(refine si [0,1] rfl (bk1 rfl rfl rfl rfl rfl) rfl (hi1 rfl rfl rfl rfl) (anG k zs A Z K i r I) ?_;rintro _ ⟨a,b,c,d,e,f,rfl⟩)|(refine cu (xs:=zs) M A aa ?_;rintro _ ⟨x,y,rfl⟩ S)|refine TW rfl rfl rfl ?_|(refine aD rfl (kC (_,_) (_,_) (_,_)) ?_;rintro _ ⟨n,rfl⟩)|(refine aD rfl (B7 _ (_,_) (aaI _ _ _ _ _ _)) ?_;rintro _ ⟨n,rfl⟩)|exact⟨_,_,_,rfl,rfl,xq rfl rfl rfl rfl,rfl,_,rfl⟩|exact⟨_,_,_,rfl,rfl,xq rfl rfl rfl M,rfl,_,rfl⟩|(apply gh [5,6,7,22,23,24] [] [24] (RS3 k zs a b c d e f) (k) [iV .i64 0];(iterate 3 exact ae);exact⟨0,_,aa,rfl,rfl,aL.aM (xs:=zs) rfl _,rfl⟩;rintro _ _ _ ⟨j,v,Q,rfl,rfl,M,rfl⟩)|(refine aI [5,6,7,22,23,24] [] ?_;(conv=>whnf);exact⟨rfl,_,[_],⟨j+1,_,aa,rfl,by rw[bF aa aa];rfl,M.aM _,rfl⟩,rfl,rfl,aa⟩))
def GIr(k:Nat)(ts:Lw):Prop:= ∃r:Int,ts=[oI r]/\ -1<=r/\r < (k:Int)
def RF(k:Nat)(zs:Lz)(m:Nat)(vs:List V)(hq:HS):Prop:= ∃ (i:Nat) (v:Lq),i<=k/\m=k - i/\vs=[iV .i64 (i:Int)]/\aL v zs/\
 hq=[(0,.row 1 [[.own 1 2 0 k]]),(1,.row 2 v),(2,.row 1 [[.oO 201 [(0,1,0,0)]]])]
def arY(k:Nat)(zs:Lz)(A:cO zs)(Z:k<=zs.length)(K:zs.length<=1000000): ∃ts N,Fn Tryz.prog 206 [oI k,.one (.oO 202 [(2,1,0,0)])] (V8 k zs) (aR ts) N/\(λts N=>N=V8 k zs/\GIr k ts) ts N:=by
 refine ij Tryz.func206 ?_
 repeat' ((conv=>whnf);first|refine bZz (λh=>?_) (λh=>?_)|refine And.intro aKV ?_|(refine si [0,1,2] rfl (bk2 rfl rfl rfl M rfl rfl rfl rfl) rfl (hi2 rfl rfl rfl M rfl rfl) (aH6 k zs A Z K (j:Int) aa aa) ?_;rintro _ ⟨b,rfl⟩)|exact⟨_,_,_,rfl,rfl,xq rfl rfl rfl M,rfl,_,rfl,aa,aa⟩|(apply gh [1,6,7] [] [7] (RF k zs) (k) [iV .i64 0];(iterate 3 exact ae);exact⟨0,_,aa,rfl,rfl,aL.aM (xs:=zs) rfl _,rfl⟩;rintro _ _ _ ⟨j,v,Q,rfl,rfl,M,rfl⟩)|(refine aI [1,6,7] [] ?_;(conv=>whnf);exact⟨rfl,_,[_],⟨j+1,_,aa,rfl,by rw[bF aa aa];rfl,M.aM _,rfl⟩,rfl,rfl,aa⟩))
def arX(k:Nat)(zs:Lz)(A:cO zs)(Z:k<=zs.length)(K:zs.length<=1000000): ∃ts N,Fn Tryz.prog 206 [oI k,.one (.oO 204 [(2,1,0,0),(0,1,0,0)])] (V8 k zs) (aR ts) N/\(λts N=>N=V8 k zs/\GIr k ts) ts N:=by
 refine ij Tryz.func206 ?_
 repeat' ((conv=>whnf);first|refine bZz (λh=>?_) (λh=>?_)|refine And.intro aKU ?_|(refine si [0,1,2] rfl (bk2 rfl rfl rfl M rfl rfl rfl rfl) rfl (hi2 rfl rfl rfl M rfl rfl) (aH5 k zs A Z K (j:Int) aa aa) ?_;rintro _ ⟨b,rfl⟩)|exact⟨_,_,_,rfl,rfl,xq rfl rfl rfl M,rfl,_,rfl,aa,aa⟩|(apply gh [1,6,7] [] [7] (RF k zs) (k) [iV .i64 0];(iterate 3 exact ae);exact⟨0,_,aa,rfl,rfl,aL.aM (xs:=zs) rfl _,rfl⟩;rintro _ _ _ ⟨j,v,Q,rfl,rfl,M,rfl⟩)|(refine aI [1,6,7] [] ?_;(conv=>whnf);exact⟨rfl,_,[_],⟨j+1,_,aa,rfl,by rw[bF aa aa];rfl,M.aM _,rfl⟩,rfl,rfl,aa⟩))
def aEx(e:Lt):Prop:= ∃a,e=[.aO 2 a]/\cO a/\a.length<=1000000
abbrev S5(rs:Lz):Prop:= ∀e,e∈rs->aEx e
def S5.snoc(h:S5 rs){a:Lz}(Q:cO a)(U:a.length<=1000000):S5 (rs++[[.aO 2 a]]):=by
 intro e H;simp only[yl,vv]at H;rcases H with H|rfl
 . exact h e H
 . exact⟨a,rfl,Q,U⟩
def ZZ{id sz i len h:Nat}{K:C->Prop}(O:l<=h)(Y:h<=len)(Z:h≠l->K (.own id sz (i+l) (h - l)))(S:h=l->l≠0->K (.t (.aO sz [])))(z:h=l->l=0->False):(l<=h/\h<=len)/\xS (.own id sz i len) l h K:=by
 refine⟨⟨O,Y⟩,?_⟩
 by_cases e:h=l
 . by_cases M:l=0
   . exact(z e M).elim
   . simp only[xS,Im,if_pos (⟨e,M⟩:h=l/\l≠0)];exact S e M
 . have J:¬ (h=l/\l≠0):=λq=>e q.1;simp only[xS,Im,if_neg J,if_pos (⟨O,Y⟩:l<=h/\h<=len)];exact Z e
def zSz:dc Tryz.prog 175=some 2:=zSp
def cO.bt{xs ys:Lz}(h:cO xs)(g:cO ys)(i:Nat):cO (bt xs i ys):=by
 intro e H;rcases Mb H with H|H
 . exact h e H
 . exact g e H
def RSp(m:Nat)(vs:List V)(hq:HS):Prop:= ∃ (k:Nat) (M x:Lz) (j v:Lq),m=k/\(k<=M.length/\M.length<=40)/\cO M/\x.length+k<=40/\S5 x/\aL v x/\aL j M/\vs=[bD 12 1 x.length]/\
 hq=[(4,.row 1 [[.own 16 2 0 k]]),(8,.row 1 [[.oO 201 [(4,1,0,0)]]]),(12,.row 1 v),(16,.row 2 j)]
def RSp.next{k q:Nat}{j v:Lq}(g:(k:Int) > 3)(Z:k<=zs.length/\zs.length<=40)(A:cO zs)(K:rs.length+(k - 1)<=40)(Q:S5 rs)(O:aL v rs)(Y:aL j zs)(hq:q=rs.length):
 RSp (k - 1) [bD 12 1 q] [(4,.row 1 [[.own 16 2 0 ((IntKind.i64.wrap ((k:Int) - 1)).toNat - 0)]]),(8,.row 1 [[.oO 201 [(4,1,0,0)]]]),(12,.row 1 v),(16,.row 2 j)]:=by
 have e:(IntKind.i64.wrap ((k:Int) - 1)).toNat - 0=k - 1:=by rw[bF aa aa];omega
 rw[e,hq];exact⟨k - 1,zs,rs,j,v,rfl,aa,A,K,Q,O,Y,rfl,rfl⟩
def alE{s:Lz}(h:s.length<=40):(bt (List.replicate ((s.length:Nat):Int).toNat [tI 0,tI 0]) 0 (s.take ((s.length:Nat):Int).toNat)).length=s.length:=by
 have e:((s.length:Nat):Int).toNat=s.length:=aa
 rw[e,Cf ak];simp
def Ow{ys:Lz}{i k n:Nat}(Z:k<=zs.length/\zs.length<=40)(I:i+n<=k):k<=(bt zs i (ys.take n)).length/\(bt zs i (ys.take n)).length<=40:=by
 rw[Cf]
 . exact Z
 . simp only[aab];omega
def nG(xs:Lz)(hx:cO xs)(U:xs.length<=1000000):Tg 150 [oL 2 xs] (X9 1 (λrs=>S5 rs/\rs.length<=41)):=by
 refine aS ?_;refine aC Tryz.func150 ?_
 repeat' ((conv=>whnf);first|refine bZz (λh=>?_) (λh=>?_)|refine And.intro ⟨aa,aa,by have:=(o aa).2;omega,by have:=(o aa).2;omega⟩ ?_|refine And.intro asI ?_|refine And.intro ⟨O.len.symm,by rw[O.len];simp[bh];omega,by rw[O.len];simp[maxLen];omega⟩ ?_|refine And.intro (show(0:Int)<=IntKind.i64.wrap (r+1) by rw[bF aa aa];omega) ?_|refine And.intro (show(0:Int)<=IntKind.i64.wrap ((k:Int) - 1) by rw[bF aa aa];omega) ?_|refine And.intro (show(0:Int)<=r by omega) ?_|refine oZ (l:=r.toNat) aa (ww _) (.inl aa) ?_|refine oZ (l:=0) (aa7 _) hD (.inr rfl) ?_|refine ZZ hD (ww _) (λP=>?_) (λg B=>?_) (λg B=>by omega)|refine And.intro ag ?_|(refine aD rfl (Cz xs hx U) ?_;rintro _ ⟨s,e,rfl,o⟩)|refine TV (ys:=s) rfl rfl rfl rfl uSl zSz rfl (aL.replicate _ [tI 0,tI 0]) ak ?_|(refine si [4,16,8] rfl (bk2 rfl rfl rfl Y rfl rfl rfl rfl) rfl (hi2 rfl rfl rfl Y rfl rfl) (arY k M A Z.1 aa) ?_;rintro _ ⟨r,rfl,w,D⟩)|(refine si [4,16,8] rfl (bk2 rfl rfl rfl Y rfl rfl rfl rfl) rfl (hi2 rfl rfl rfl Y rfl rfl) (arX k M A Z.1 aa) ?_;rintro _ ⟨r,rfl,w,D⟩)|(refine si [4,16] rfl (bk1 rfl rfl Y rfl rfl) rfl (hi1 rfl rfl Y rfl) (anG k M A Z.1 aa r aa aa) ?_;rintro _ ⟨a,b,c,d,e,f,rfl⟩)|refine TW rfl rfl rfl ?_|refine Ob rfl rfl rfl (SV rfl Y hD) uSl zSz rfl Y aa (λn=>?_) (λn=>?_)|refine Ob (ys:=[]) rfl rfl rfl rfl uSl zSz rfl Y aa (λn=>?_) (λn=>?_)|exact eL rfl (dy 1 rfl) (cv rfl) ⟨_,_,rfl,λz=>absurd z aa⟩|exact eL rfl (anY rfl rfl (rs:=rs) (zs:=M) (by rw[show v=tr rs from O];rfl) (by rw[O.len];rfl) rfl Y Z.1 rfl) (cv rfl) ⟨_,_,rfl,λ_=>⟨Q.snoc (A.take _) gZ,by simp;omega⟩⟩|(apply pM [6,7,8,9,10] [(6,0)] [10] (RSp) (s.length) [bD 12 1 0] (eo.dQ 10 1 rfl);(iterate 3 exact ae);exact⟨((s.length:Nat):Int).toNat,_,[],_,_,aa,⟨by rw[alE (o aa).2];omega,by rw[alE (o aa).2];exact(o aa).2⟩,(cO.Tn _).bt ((o aa).1.take _) _,by have:=(o aa).2;simp;omega,λe H=>by simp at H,aL.aM aL.nil _,aL.aM (xs:=bt (List.replicate _ [tI 0,tI 0]) 0 _) rfl _,rfl,rfl⟩;rintro _ _ _ ⟨k,M,rs,j,v,x,Z,A,K,Q,O,Y,rfl,rfl⟩)|(refine aI [6,7,8,9,10] [(6,0)] ?_;(conv=>whnf);first|exact⟨rfl,_,[_],RSp.next aa Z A aa Q (O.aM _) (Y.aM _) rfl,rfl,rfl,aa⟩|exact⟨rfl,_,[_],RSp.next aa Z A gZ (Q.snoc (aaI _ _ _ _ _ _) ak) ((aL.snoc O [.aO 2 [[tI _,tI _],[tI _,tI _],[tI _,tI _]]]).aM _) (Y.aM _) af2,rfl,rfl,aa⟩|exact⟨rfl,_,[_],RSp.next aa (Ow Z aa) (A.bt (cO.take (dH A _ _) _) _) aa Q (O.aM _) (aL.aM (xs:=bt M _ _) rfl _) rfl,rfl,rfl,aa⟩|exact⟨rfl,_,[_],RSp.next aa (Ow Z aa) (A.bt (cO.take (dH A _ _) _) _) gZ (Q.snoc (aaI _ _ _ _ _ _) ak) ((aL.snoc O [.aO 2 [[tI _,tI _],[tI _,tI _],[tI _,tI _]]]).aM _) (aL.aM (xs:=bt M _ _) rfl _) af2,rfl,rfl,aa⟩|exact⟨rfl,_,[_],RSp.next aa (Ow Z aa) (A.bt (λe H=>by simp at H) _) aa Q (O.aM _) (aL.aM (xs:=bt M _ _) rfl _) rfl,rfl,rfl,aa⟩|exact⟨rfl,_,[_],RSp.next aa (Ow Z aa) (A.bt (λe H=>by simp at H) _) gZ (Q.snoc (aaI _ _ _ _ _ _) ak) ((aL.snoc O [.aO 2 [[tI _,tI _],[tI _,tI _],[tI _,tI _]]]).aM _) (aL.aM (xs:=bt M _ _) rfl _) af2,rfl,rfl,aa⟩))
def RCl(N:Nat)(m:Nat)(vs:List V):Prop:= ∃ (i:Nat) (n:Int),i<=N/\m=N - i/\vs=[iV .i64 n,iV .i64 (i:Int)]
def RCl.next{i:Nat}(h:(i:Int) < (N:Int))(D:N<=1000000):RCl N (N - (i+1)) [iV .i64 n,iV .i64 (IntKind.i64.wrap ((i:Int)+1))]:=⟨i+1,n,aa,rfl,by rw[bF aa aa];rfl⟩
def GII(ts:Lw):Prop:= ∃n e,ts=[oI n,oI e]
def yW(xs ys:Lz)(hx:cO xs)(hy:cO ys)(U:xs.length<=1000000)(r:ys.length<=1000000):Tg 233 [oL 2 xs,oL 2 ys] GII:=by
 refine aS ?_;refine aC Tryz.func233 ?_
 repeat' ((conv=>whnf);first|refine bZz (λh=>?_) (λh=>?_)|(refine aG (xs:=Z) (L aa).1 aa aa ?_;rintro _ ⟨w,rfl,d,R⟩ S)|(refine aG (xs:=A) (B aa).1 aa aa ?_;rintro _ ⟨g,rfl,a,s⟩ S)|(refine aD rfl (nG xs hx U) ?_;rintro _ ⟨Z,e,rfl,L⟩)|(refine aD rfl (nG ys hy r) ?_;rintro _ ⟨A,o,rfl,B⟩)|(refine aD rfl (rD w g d a R s) ?_;rintro _ ⟨c,rfl⟩)|exact eL rfl (cv rfl) (cv rfl) ⟨_,_,rfl⟩|(apply aV [8,9,11,30,31,32,36,37,38] [] [9,38] (RCl A.length) (A.length) [iV .i64 n,iV .i64 0];(iterate 3 exact ae);exact⟨0,n,aa,rfl,rfl⟩;rintro _ _ ⟨j,l,Q,rfl,rfl⟩)|(refine aI [8,9,11,30,31,32,36,37,38] [] ?_;(conv=>whnf);exact⟨rfl,_,[_,_],RCl.next aa (by have:=(B aa).2;omega),rfl,rfl,rfl,aa⟩)|(apply aV [8,9,30,31,32] [] [9,32] (RCl Z.length) (Z.length) [iV .i64 (-1),iV .i64 0];(iterate 3 exact ae);exact⟨0, -1,aa,rfl,rfl⟩;rintro _ _ ⟨i,n,I,rfl,rfl⟩)|(refine aI [8,9,30,31,32] [] ?_;(conv=>whnf);exact⟨rfl,_,[_,_],RCl.next aa (by have:=(L aa).2;omega),rfl,rfl,rfl,aa⟩))
def GBI(ts:Lw):Prop:= ∃b e,ts=[oB b,oI e]
def AO(xs ys:Lz)(hx:cO xs)(hy:cO ys)(U:xs.length<=1000000)(r:ys.length<=1000000):Tg 187 [oL 2 xs,oL 2 ys] GBI:=by
 refine aS ?_;refine aC Tryz.func187 ?_
 repeat' ((conv=>whnf);first|refine aJ (λh=>?_) (λh=>?_)|(refine aD rfl (yW xs ys hx hy U r) ?_;rintro _ ⟨n,e,rfl⟩)|exact eL rfl (cv rfl) (cv rfl) ⟨_,_,rfl⟩)
def aLm(e:Lt):Prop:= ∃n g m x y,e=[.aO 2 n,tI g,tB m,tI x,tI y]/\cO n/\n.length<=1000000
def aLs(e:Lt):Prop:= ∃Q f q x y,e=[tI Q,tB f,tI q,tI x,tI y]
abbrev aoY(Q:Int)(f:Bool)(q x y:Int):W:= .agg [.t (tI Q),.t (tB f),.t (tI q),.t (tI x),.t (tI y)]
abbrev QK(xs:Lz):Prop:= ∀e,e∈xs->aLm e
abbrev Pts(xs:Lz):Prop:= ∀e,e∈xs->aLs e
def vI(Z:Lz)(S:QK Z)(Q:Int)(f:Bool)(q x y:Int):Tg 65 [oL 5 Z,aoY Q f q x y] (X9 2 (λps=>(cO ps/\ps.length<=1000000)/\0<=Q/\Q < (Z.length:Int))):=by
 refine aS ?_;refine aC Tryz.func65 ?_
 repeat' ((conv=>whnf);first|refine bZz (λh=>?_) (λh=>?_)|(refine aG (xs:=Z) S aa aa ?_;rintro _ ⟨n,g,m,A,H,rfl,F,R⟩ K)|refine And.intro ag ?_|(refine aD rfl (wZ (_,_)) ?_;rintro _ ⟨b,rfl,_⟩)|(refine aD rfl (gv n F R) ?_;rintro _ ⟨d,rfl,_⟩)|(refine aN rfl (yK _ _ n F R) ?_;rintro _ ⟨Y,rfl,P,j⟩)|(refine aN rfl (G9 Y (_,_) j aa) ?_;rintro _ ⟨M,rfl,N,D⟩)|(refine aD rfl (gv M D aa) ?_;rintro _ ⟨G,rfl,_⟩)|exact eL rfl (dy 2 rfl) (cv rfl) ⟨_,_,rfl,λz=>absurd z aa⟩|exact eL rfl (cv rfl) (cv rfl) ⟨M,_,rfl,λ_=>⟨⟨D,aa⟩,aa,aa⟩⟩)
def Eh(r a:Sp)(Q:Int)(f:Bool)(q x y:Int):Tg 186 [lH r,lH a,aoY Q f q x y] GB:=by
 refine aC Tryz.func186 ?_
 repeat' ((conv=>whnf);first|refine aP (λh=>?_) (λh=>?_)|(refine aD rfl (wZ (_,_)) ?_;rintro _ ⟨b,rfl,_⟩)|(refine aD rfl (qH _ _ (_,_)) ?_;rintro _ ⟨u,v,rfl,_⟩)|(refine aD rfl (Jp (_,_) (_,_) (_,_)) ?_;rintro _ ⟨b,rfl⟩)|exact gB rfl rfl)
abbrev aBP(l w U c:Int):W:= .agg [.t (tI l),.t (tI w),.t (tI U),.t (tI c)]
def MA(D r s v:Int)(Z j:Lz)(S:QK Z)(hp:Pts j)(R:j.length<=maxLen)(Q:Int)(f:Bool)(q x y:Int):Tg 139 [aBP D r s v,oL 5 Z,oL 5 j,aoY Q f q x y] GI:=by
 refine aC Tryz.func139 ?_
 repeat' ((conv=>whnf);first|refine bZz (λh=>?_) (λh=>?_)|(refine aG (xs:=Z) S (K aa).2.1 (K aa).2.2 ?_;rintro _ ⟨n,g,m,A,H,rfl,_,_⟩ Y)|(refine aG (xs:=w) (K aa).1.1 aa aa ?_;rintro _ ⟨a,b,rfl⟩ O)|(refine aG (xs:=j) hp aa aa ?_;rintro _ ⟨F,d,q2,l,B,rfl⟩ z)|(refine aD rfl (vI Z S Q f q x y) ?_;rintro _ ⟨w,e,rfl,K⟩)|(refine aD rfl (GA _ _ _ _) ?_;rintro _ ⟨b,rfl⟩)|(refine aD rfl (Eh (_,_) (_,_) _ _ _ _ _) ?_;rintro _ ⟨b,rfl⟩)|(refine aD rfl (vI Z S F d q2 l B) ?_;rintro _ ⟨c,o,rfl,J⟩)|(refine aD rfl (AO c w (J aa).1.1 (K aa).1.1 (J aa).1.2 (K aa).1.2) ?_;rintro _ ⟨b,G,rfl⟩)|exact gI rfl rfl|(apply aV [1,9,97,98,99] [] [99] (RI j.length) (j.length) [iV .i64 0];(iterate 3 exact ae);exact RI.zero;rintro _ _ ⟨i,I,rfl,rfl⟩)|(refine aI [1,9,97,98,99] [] ?_;(conv=>whnf);exact⟨rfl,_,[_],RI.succ (N:=j.length) (i:=i) aa R,rfl,rfl,rfl,aa⟩)|(apply aV [1,2,4,7,9,11,57,58,59] [] [59] (RI w.length) (w.length) [iV .i64 0];(iterate 3 exact ae);exact RI.zero;rintro _ _ ⟨i,I,rfl,rfl⟩)|(refine aI [1,2,4,7,9,11,57,58,59] [] ?_;(conv=>whnf);exact⟨rfl,_,[_],RI.succ (N:=w.length) (i:=i) aa (by have:=(K aa).1.2;simp only[maxLen];omega),rfl,rfl,rfl,aa⟩))
def Ac(D r s v:Int)(Z j:Lz)(S:QK Z)(hp:Pts j)(R:j.length<=maxLen):Tg 101 [aBP D r s v,oL 5 Z,oL 5 j] GI:=by
 refine aC Tryz.func101 ?_
 repeat' ((conv=>whnf);first|refine bZz (λh=>?_) (λh=>?_)|refine cT (aa7 _) aa ?_|(refine aG (xs:=j) hp aa aa ?_;rintro _ ⟨Q,f,q,x,y,rfl⟩ z)|refine And.intro ag ?_|refine And.intro aa ?_|(refine aN rfl (MA D r s v Z _ S (dH hp _ _) (jt R _ _) Q f q x y) ?_;rintro _ ⟨n,rfl⟩)|exact gI rfl rfl|(apply aV [1,2,3,13,14,15] [] [15] (RI j.length) (j.length) [iV .i64 0];(iterate 3 exact ae);exact RI.zero;rintro _ _ ⟨i,I,rfl,rfl⟩)|(refine aI [1,2,3,13,14,15] [] ?_;(conv=>whnf);exact⟨rfl,_,[_],RI.succ (N:=j.length) (i:=i) aa R,rfl,rfl,rfl,aa⟩))
def aSh:lc Tryz.prog 244=some true:=ag
def zSh:dc Tryz.prog 244=some 5:=ag
def aKy:lc Tryz.prog 236=some true:=ag
def zKy:dc Tryz.prog 236=some 3:=ag
abbrev oPl(g u k:Int)(f:Bool)(q x y:Int):W:= .agg [.t (tI g),.t (tI u),.t (tI k),.t (tB f),.t (tI q),.t (tI x),.t (tI y)]
def CK(g u k:Int)(f:Bool)(q x y:Int): ∃ts,Fn Tryz.prog 99 [oPl g u k f q x y] [] (aR ts) []/\(aR ts).cR=true/\(λts=>ts=[.agg [.t (tI g),.t (tI u),.t (tI k)]]) ts:=by
 refine aS ?_;refine aC Tryz.func99 ?_
 repeat' ((conv=>whnf);first|refine bZz (λh=>?_) (λh=>?_)|(refine jF aa aa ?_;intro a)|refine cT aa aa ?_|refine And.intro ag ?_|refine And.intro aa ?_|exact nt rfl (cc aKy zKy rfl rfl (ww _) rfl (dm.refl _)) rfl|(exfalso;omega))
abbrev aIz(n:Lz)(g:Int)(m:Bool)(x y:Int):W:= .agg [.t (.aO 2 n),.t (tI g),.t (tB m),.t (tI x),.t (tI y)]
def aLI(ts:Lw):Prop:= ∃n g m x y e,ts=[aIz n g m x y,oI e]/\(e=0->cO n/\n.length<=1000000)
def DN.Ma(h:DN xs):cO xs/\xs.length<=40:=⟨λe H=>by obtain⟨a,b,r,_⟩:=h.1.2.2 e H;exact⟨a,b,r⟩,h.1.2.1⟩
def sL(s:ByteArray)(w L ps us v J:Lz)(l:eu s w L ps us v J)(size:Int)(g u k:Int)(f:Bool)(q x y:Int):Tg 137 [dV s w L ps us v J,oI size,oPl g u k f q x y] aLI:=by
 refine aS ?_;refine aC Tryz.func137 ?_
 repeat' ((conv=>whnf);first|refine bZz (λh=>?_) (λh=>?_)|(refine aG (xs:=us) (U ai).2.2 (U ai).2.1.1 (U ai).2.1.2 ?_;rintro _ ⟨a,b,c,rfl,⟨Q,ha2⟩,G⟩ S)|(refine aG (xs:=ps) l.hps Q ha2 ?_;rintro _ ⟨nm,B,gr,j,R,F,d,rfl,I,⟨H,r⟩,⟨K,_⟩,⟨D,P⟩,M,Z⟩ O)|(refine jF aa aa ?_;intro bb)|refine cT aa aa ?_|refine And.intro ag ?_|refine And.intro aa ?_|(refine aD rfl (E9 s w L ps us v J l size u) ?_;rintro _ ⟨n,e,rfl,U⟩)|(refine aN rfl (E9 s w L ps us v J l size u) ?_;rintro _ ⟨n,e,rfl,U⟩)|(refine aD rfl (wJ s w L ps us v J l size u) ?_;rintro _ ⟨⟨ax,ay⟩,o,rfl⟩)|(refine aN rfl (wJ s w L ps us v J l size u) ?_;rintro _ ⟨⟨ax,ay⟩,o,rfl⟩)|(refine aD rfl (yK _ _ n (U ai).1.Ma.1 aft) ?_;rintro _ ⟨Y,rfl,N,A⟩)|(refine aN rfl (yK _ _ n (U ai).1.Ma.1 aft) ?_;rintro _ ⟨Y,rfl,N,A⟩)|(refine aD rfl (qH _ _ (_,_)) ?_;rintro _ ⟨bx,b_y,rfl,_⟩)|(refine aN rfl (qH _ _ (_,_)) ?_;rintro _ ⟨bx,b_y,rfl,_⟩)|exact eL rfl (cc aSh zSh rfl rfl (ww _) rfl (.cons (.nil 2) (dm.refl _))) (cv rfl) ⟨_,_,_,_,_,_,rfl,λz=>absurd z ai⟩|exact eL rfl (cc aSh zSh rfl rfl (ww _) rfl (dm.refl _)) (cv rfl) ⟨n,_,_,_,_,_,rfl,λ_=>⟨(U ai).1.Ma.1,by have:=(U ai).1.Ma.2;omega⟩⟩|exact eL rfl (cc aSh zSh rfl rfl (ww _) rfl (dm.refl _)) (cv rfl) ⟨Y,_,_,_,_,_,rfl,λ_=>⟨A,by have:=(U ai).1.Ma.2;omega⟩⟩|(exfalso;omega))
abbrev vD(s:ByteArray)(w L ps us v J:Lz):Lt:=[.val (.string s),.aO 1 w,.aO 1 L,.aO 7 ps,.aO 3 us,.aO 6 v,.aO 5 J]
def QK.snoc(h:QK xs){n:Lz}(hp:cO n)(U:n.length<=1000000)(g:Int)(m:Bool)(x y:Int):QK (xs++[[.aO 2 n,tI g,tB m,tI x,tI y]]):=by
 intro e H;simp only[yl,vv]at H;rcases H with H|rfl
 . exact h e H
 . exact⟨n,g,m,x,y,rfl,hp,U⟩
def nI(k:Nat)(e:Lt):Int:=
 match e[k]? with
 |some (.val (.int .i64 n))=>n|_=>0
def nB(k:Nat)(e:Lt):Bool:=
 match e[k]? with
 |some (.val (.bool b))=>b|_=>false
def nL(k:Nat)(e:Lt):Lz:=
 match e[k]? with
 |some (.aO _ o)=>o|_=>[]
def Pre(Q:Lt->Prop)(xs:Lz)(i:Nat):Prop:= ∀j e,j < i->xs[j]? =some e->Q e
def Pre.zero{Q:Lt->Prop}:Pre Q xs 0:=λj e K=>aa
def Pre.succ{Q:Lt->Prop}{i:Nat}{e:Lt}(h:Pre Q xs i)(S:xs[i]? =some e)(hq:Q e):Pre Q xs (i+1):=by
 intro j J K H
 by_cases v:j=i
 . subst v;rw[S]at H;cases H;exact hq
 . exact h j J aa H
def Pre.all{Q:Lt->Prop}{i:Nat}(h:Pre Q xs i)(I:xs.length<=i):∀e,e∈xs->Q e:=by
 intro e H;obtain⟨j,K,rfl⟩:=aa3 H;exact h j _ aa (by simp[K])
def X5(n:Int)(e:Lt):Prop:= ∃a,e=[tI a]/\0<=a/\a < n
def aiF(xs:Lz)(n:Int)(i:Nat):Prop:= ∀j e,j < i->xs[j]? =some e->X5 n e
def aiF.all{i:Nat}(h:aiF xs n i)(I:xs.length<=i):∀e,e∈xs->X5 n e:=by
 intro e H;obtain⟨j,Q,rfl⟩:=aa3 H;exact h j _ aa Fc
def RIx(xs:Lz)(n:Int)(m:Nat)(vs:List V):Prop:= ∃i:Nat,i<=xs.length/\aiF xs n i/\m=xs.length - i/\vs=[iV .i64 (i:Int)]
def RIx.next{a:Int}{i:Nat}(I:(i:Int) < (xs.length:Int))(U:xs.length<=maxLen)(h:aiF xs n i)(S:xs[((i:Int)).toNat]? =some [tI a])(z:0<=a)(O:a < n):RIx xs n (xs.length - (i+1)) [iV .i64 (IntKind.i64.wrap ((i:Int)+1))]:=by
 refine⟨i+1,aa,λj e Q H=>?_,rfl,by simp only[maxLen]at U;rw[bF aa aa];rfl⟩
 by_cases v:j=i
 . subst v;have x:xs[j]? =some [tI a]:=aA
   rw[x]at H;exact⟨a,(aa5 H).symm,z,O⟩
 . exact h j e aa H
def GaI(N:Nat)(e:Lt):Prop:= ∃g r,e=tI g::r/\0<=g/\g < (N:Int)
abbrev QT(N:Nat)(xs:Lz):Prop:= ∀e,e∈xs->GaI N e
def QT.snoc(h:QT N xs){g:Int}(r:Lt)(z:0<=g)(O:g < (N:Int)):QT N (xs++[tI g::r]):=by
 intro e H;simp only[yl,vv]at H;rcases H with H|rfl
 . exact h e H
 . exact⟨g,r,rfl,z,O⟩
def ahR(row:Lt)(U N:Nat)(m:Nat)(F:List V)(w:List (Lz)):Prop:= ∃ (i:Nat) (Z d:Lz),i<=N/\m=N - i/\F=[bD 8 5 Z.length,bD 12 7 d.length,iV .i64 (i:Int)]/\w=[[row],Z,d]/\d.length=Z.length/\Z.length<=48 * i/\QK Z/\QX U d/\QT N d
def ahR.next{U i:Nat}(h:(i:Int) < (N:Int))(D:N<=6)(R:d.length=Z.length)(G:Z.length<=48 * (i+1))(O:QK Z)(Y:QX U d)(B:QT N d):ahR row U N (N - (i+1)) [bD 8 5 Z.length,bD 12 7 d.length,iV .i64 (IntKind.i64.wrap ((i:Int)+1))] [[row],Z,d]:=
 ⟨i+1,Z,d,aa,rfl,by rw[bF aa aa];rfl,rfl,R,G,O,Y,B⟩
def ahQ(row:Lt)(U N b L:Nat)(m:Nat)(F:List V)(w:List (Lz)):Prop:= ∃ (j:Nat) (Z d:Lz),j<=L/\m=L - j/\F=[bD 8 5 Z.length,bD 12 7 d.length,iV .i64 (j:Int)]/\w=[[row],Z,d]/\d.length=Z.length/\Z.length<=b+j/\QK Z/\QX U d/\QT N d
def ahQ.next{U L j s v:Nat}{n:Lz}{g x y e u k z a l:Int}{m f:Bool}(h:(j:Int) < (L:Int))(c:L<=48)(R:d.length=Z.length)(G:Z.length<=b+j)(O:QK Z)(Y:QX U d)(hp:cO n/\n.length<=1000000)(K:0<=u/\u < (U:Int))(B:QT N d)(hg:0<=e/\e < (N:Int))(H:s=Z.length+1)(o:v=d.length+1):
 ahQ row U N b L (L - (j+1)) [bD 8 5 s,bD 12 7 v,iV .i64 (IntKind.i64.wrap ((j:Int)+1))] [[row],Z++[[.aO 2 n,tI g,tB m,tI x,tI y]],d++[[tI e,tI u,tI k,tB f,tI z,tI a,tI l]]]:=
 ⟨j+1,_,_,aa,rfl,by rw[bF aa aa,H,o];simp,rfl,by simp[R],by simp;omega,O.snoc hp.1 hp.2 g m x y,Y.snoc e u k z a l f K.1 K.2,B.snoc _ hg.1 hg.2⟩
def aLH(U N M:Nat)(sizes:Lz)(ts:Lw):Prop:= ∃Z d e,ts=[oL 5 Z,oL 7 d,oI e]/\(e=0->QK Z/\QX U d/\d.length=Z.length/\Z.length<=336/\QT N d/\(∀e,e∈sizes->X5 M e)/\sizes.length<=6)
def uN(s:ByteArray)(w L ps us v J:Lz)(l:eu s w L ps us v J)(sizes:Lz)(A:Is sizes)(N:sizes.length<=maxLen):Tg 98 [dV s w L ps us v J,oL 1 sizes] (aLH us.length sizes.length w.length sizes):=by
 refine aS ?_;refine aC Tryz.func98 ?_
 repeat' ((conv=>whnf);first|refine bZz (λh=>?_) (λh=>?_)|(refine aG (xs:=sizes) A aa aa ?_;rintro _ ⟨a,rfl⟩ S)|(refine aG (xs:=R) K aa aa ?_;rintro _ ⟨g,u,k,f,q,x,y,rfl,B,r⟩ S)|refine And.intro ⟨by simp[tr],by simp[tr,bh];omega,by simp[tr,maxLen];omega⟩ ?_|(refine jF aa aa ?_;intro bb)|refine cT aa aa ?_|refine And.intro ag ?_|refine And.intro aa ?_|(refine aD rfl (mc s w L ps us v J l) ?_;rintro _ ⟨e,rfl,U⟩)|(refine aN rfl (mc s w L ps us v J l) ?_;rintro _ ⟨e,rfl,U⟩)|(refine aD rfl (wI s w L ps us v J l) ?_;rintro _ ⟨R,rfl,K,P⟩)|(refine aN rfl (wI s w L ps us v J l) ?_;rintro _ ⟨R,rfl,K,P⟩)|(refine aD rfl (sL s w L ps us v J l _ _ _ _ _ _ _ _) ?_;rintro _ ⟨n,pg,pm,px,py,G,rfl,F⟩)|(refine aN rfl (sL s w L ps us v J l _ _ _ _ _ _ _ _) ?_;rintro _ ⟨n,pg,pm,px,py,G,rfl,F⟩)|exact H9 rfl (dy 5 rfl) (dy 7 rfl) (cv rfl) ⟨_,_,_,rfl,λz=>absurd z aa⟩|exact H9 rfl (df rfl rfl (xs:=Z) rfl aa) (df rfl rfl (xs:=d) rfl aa) (cv rfl) ⟨_,_,_,rfl,λ_=>by rw[cD rfl,cD rfl];exact⟨Y,Sl,hl1,aa,hg1,b.all aa,aa⟩⟩|(apply bp [2,10,11,12,13,14,56,57,58,63,64,65] [] [11,12,65] [(4,7),(8,5),(12,7)] (ahQ (vD s w L ps us v J) us.length sizes.length (48 * i) R.length) (R.length) [bD 8 5 Z.length,bD 12 7 d.length,iV .i64 0];(iterate 3 exact ae);exact .cons (aL.aM (xs:=[vD s w L ps us v J]) rfl _) (.cons (aL.aM (xs:=Z) rfl _) (.cons (aL.aM (xs:=d) rfl _) .nil));exact⟨0,Z,d,aa,rfl,rfl,rfl,hl1,aa,Y,Sl,hg1⟩;rintro _ _ _ ⟨j,aBg,aD5,Q,rfl,rfl,rfl,M,o,O,M4,D⟩)|(refine aI [2,10,11,12,13,14,56,57,58,63,64,65] [] ?_;(conv=>whnf);exact⟨rfl,_,[_,_,_],_,.cons (aL.aM (xs:=[vD s w L ps us v J]) rfl _) (.cons (aL.aM (aL.snoc (xs:=aBg) rfl [.aO 2 _,tI _,tB _,tI _,tI _]) _) (.cons (aL.aM (aL.snoc (xs:=aD5) rfl [tI _,tI _,tI _,tB _,tI _,tI _,tI _]) _) .nil)),ahQ.next aa P M o O M4 (F aa) ⟨B,r⟩ D ⟨aa,aa⟩ iC iC,rfl,rfl,aa⟩)|(apply cL [2,10,11,12,56,57,58] [] [11,12,58] [(4,7),(8,5),(12,7)] (ahR (vD s w L ps us v J) us.length sizes.length) (sizes.length) [bD 8 5 0,bD 12 7 0,iV .i64 0] (eo.trans (eo.dQ 11 5 rfl) (eo.dQ 12 7 rfl));(iterate 3 exact ae);exact .cons (aL.aM (xs:=[vD s w L ps us v J]) rfl _) (.cons (aL.aM aL.nil _) (.cons (aL.aM aL.nil _) .nil));exact⟨0,[],[],aa,rfl,rfl,rfl,rfl,ak,λe H=>by simp at H,λe H=>by simp at H,λe H=>by simp at H⟩;rintro _ _ _ ⟨i,Z,d,I,rfl,rfl,rfl,hl1,c,Y,Sl,hg1⟩)|(refine aI [2,10,11,12,56,57,58] [] ?_;(conv=>whnf);exact⟨rfl,_,[_,_,_],_,.cons (aL.aM (xs:=[vD s w L ps us v J]) rfl _) (.cons (aL.aM (xs:=aBg) rfl _) (.cons (aL.aM (xs:=aD5) rfl _) .nil)),ahR.next aa aa M aa O M4 D,rfl,rfl,aa⟩)|(apply aV [1,2,32,33,34] [] [34] (RIx sizes w.length) (sizes.length) [iV .i64 0];(iterate 3 exact ae);exact⟨0,aa,λj e Q=>by omega,rfl,rfl⟩;rintro _ _ ⟨i,I,b,rfl,rfl⟩)|(refine aI [1,2,32,33,34] [] ?_;(conv=>whnf);exact⟨rfl,_,[_],RIx.next aa N b S aa aa,rfl,rfl,rfl,aa⟩)|(exfalso;omega))
end Go.aW.Cd
