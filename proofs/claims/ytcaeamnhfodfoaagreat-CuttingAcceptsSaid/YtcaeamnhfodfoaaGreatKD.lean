import Derived.Test.YtcaeamnhfodfoaaGreatKC
import Derived.Shelf.SlSortCmp.NoneTotal
import Derived.Shelf.SlicesG.Cmp
import Derived.Test.YtcaeamnhfodfoaaGreatProg
import Derived.Maps.RangeRun
set_option linter.all false
section
namespace Go.aS.Cd
open Go Go.Proofs
set_option maxRecDepth 100000
set_option maxHeartbeats 1000000
theorem EM (x r:Nat) (hr:FloatKind.f64.format.sqrt x=some r): ∃ts,Fn Tryz.prog 209 [oF x] [] (aQ ts) []∧(aQ ts).bY=true∧(fun ts=>ts=[oF r]) ts:=by
 refine aK ?_
 refine ae Tryz.func209 ?_
 repeat' (conv=>whnf
          first
  |(refine L7 rfl hr ?_)
  |exact mh rfl (bX rfl) rfl)
 all_goals (conv=>whnf)
theorem Cb {r n:Int} (h0:0≤r) (h1:r≤4294967296) (hn:0≤n) (h:IntKind.i64.wrap (r * r) > n):1≤r:=by
 rcases Int.lt_or_le 0 r with hr|hr
 · omega
 · have:r=0:=by omega
   subst this
   rw[bj (by omega) (by omega)]at h
   omega
theorem Ca {r n:Int} (h0:0≤r) (h1:r≤1073741824) (hn:n≤1125899906842624) (h:IntKind.i64.wrap (IntKind.i64.wrap (r+1) * IntKind.i64.wrap (r+1))≤n):r+1≤33554432:=by
 rw[bj (n:=r+1) (by omega) (by omega)]at h
 have hb:=GM (k:=r+1) (s:=r+1) (B:=1073741825) (C:=1073741825) (by omega) (by omega) (by omega) (by omega) (by omega)
 rw[bj (by omega) (by omega)]at h
 apply Int.not_lt.1
 intro hlt
 have h3:(33554433:Int) * 33554433≤(r+1) * (r+1):=Int.mul_le_mul (by omega) (by omega) (by omega) (by omega)
 omega
theorem Gl {r n:Int} (h0:0≤r) (hn:1≤n) (h:¬IntKind.i64.wrap (IntKind.i64.wrap (r+1) * IntKind.i64.wrap (r+1))≤n):1≤r:=by
 rcases Int.lt_or_le 0 r with hr|hr
 · omega
 · have:r=0:=by omega
   subst this
   exfalso
   apply h
   have e:IntKind.i64.wrap (IntKind.i64.wrap (0+1) * IntKind.i64.wrap (0+1))=1:=by decide
   rw[e];exact hn
theorem vS (n:Int) (h0:0≤n) (h1:n≤1125899906842624):Tg 187 [oI n] (nP (fun r=>(0≤r∧r≤1073741824)∧(1≤n→1≤r))):=by
 obtain⟨sq,XN,S3⟩:=El (n:=n.natAbs) (by rw[show(2:Nat) ^ 53=9007199254740992 by decide];omega)
 obtain⟨r0,hr,uU,rT⟩:=GZ S3
 have hneg:decide (n < 0)=false:=by simp;omega
 have XM:FloatKind.f64.format.sqrt (FloatKind.f64.nearest n)=some sq:=by(unfold FloatKind.nearest;rw[hneg];exact XN)
 refine ae Tryz.func187 ?_
 repeat' (conv=>whnf
          first
  |(refine aA (fun h=>?_) (fun h=>?_))
  |(refine Rj rfl ?_)
  |(have fC:=Cb UO (by omega) h0 h;clear h)
  |(have Hl:=Ca hrc hrd h1 h;clear h)
  |(refine ag rfl (EM _ sq XM) ?_;rintro _ rfl)
  |(refine Rk rfl hr uU (by omega) ?_)
  |exact iK rfl rfl ⟨⟨hrc,hrd⟩,fun hn=>Gl hrc hn h⟩
  |(apply aL [0,3] [] [3] (fun m vs=> ∃r:Int,0≤r∧r≤1073741824∧m=(1073741824 - r).toNat∧vs=[iV .i64 r]) ((1073741824 - r).toNat) [iV .i64 r];(conv=>whnf);exact⟨rfl,rfl,rfl,rfl⟩;exact rfl;exact rfl;exact⟨r,UO,hrb,rfl,rfl⟩;rintro _ _ ⟨r2,hrc,hrd,rfl,rfl⟩)
  |(refine aj [0,3] [] ?_;(conv=>whnf);exact⟨rfl,_,[_],⟨r2+1,by omega,by omega,rfl,by rw[bj (by omega) (by omega)]⟩,rfl,rfl,rfl,by omega⟩)
  |(apply aL [0,3] [] [3] (fun m vs=> ∃r:Int,0≤r∧r≤1073741824∧m=r.toNat∧vs=[iV .i64 r]) (r0.toNat) [iV .i64 r0];(conv=>whnf);exact⟨rfl,rfl,rfl,rfl⟩;exact rfl;exact rfl;exact⟨r0,uU,rT,rfl,rfl⟩;rintro _ _ ⟨r,UO,hrb,rfl,rfl⟩)
  |(refine aj [0,3] [] ?_;(conv=>whnf);exact⟨rfl,_,[_],⟨r - 1,by omega,by omega,rfl,by rw[bj (by omega) (by omega)]⟩,rfl,rfl,rfl,by omega⟩))
 all_goals (conv=>whnf)
end Go.aS.Cd
end
section
namespace Go.aS.Cd
open Go Go.Proofs
set_option maxRecDepth 100000
set_option maxHeartbeats 1000000
def Wd (e:List T):Prop:= ∃w,e=[tI w]∧0≤w∧w≤500
abbrev Kr (xs:Lz):Prop:= ∀e,e∈xs→Wd e
theorem Kr.snoc {xs:Lz} (h:Kr xs) {w:Int} (h0:0≤w) (h1:w≤500):Kr (xs++[[tI w]]):=by
 intro e he
 simp only[List.mem_append,List.mem_singleton]at he
 rcases he with he|rfl
 · exact h e he
 · exact⟨w,rfl,h0,h1⟩
def Vv (es:Lz) (m:Nat) (ws:List V) (xss:List (Lz)):Prop:= ∃ (i:Nat) (zs:Lz),i≤es.length∧m=es.length - i∧ws=[bG 4 1 zs.length,iV .i64 (i:Int)]∧xss=[zs]∧zs.length=gP (es.take i)∧Kr zs
def Vw (N L:Nat) (m:Nat) (ws:List V) (xss:List (Lz)):Prop:= ∃ (j:Nat) (zs:Lz),j≤L∧m=L - j∧ws=[bG 4 1 zs.length,iV .i64 (j:Int)]∧xss=[zs]∧zs.length=N+j∧Kr zs
theorem RA {xs:Lz} {j:Nat} (hL:ep xs) (hj:(j:Int) < IntKind.i64.wrap ((xs.length:Int) - 1)):j < xs.length - 1:=by
 have a:=hL.1
 have b:=hL.2.1
 rw[bj (by omega) (by omega)]at hj
 omega
theorem Vw.next {N L j k:Nat} {zs:Lz} {w:Int} {xs:Lz} (hL:ep xs) (hl:L=xs.length - 1) (hj:j < xs.length - 1) (hz:zs.length=N+j) (hW:Kr zs) (h0:0≤w) (h1:w≤500) (hk:k=zs.length+1):Vw N L (L - (j+1)) [bG 4 1 k,iV .i64 (IntKind.i64.wrap ((j:Int)+1))] [zs++[[tI w]]]:=by
 have a:=hL.1
 have b:=hL.2.1
 exact⟨j+1,_,by omega,rfl,by rw[bj (by omega) (by omega),hk];simp,rfl,by simp;omega,hW.snoc h0 h1⟩
theorem Vv.next {es zs xs:Lz} {i j:Nat} {s:ByteArray} (hi:(i:Int) < (es.length:Int)) (he:es.length≤16) (hs:es[((i:Int)).toNat]? =some [.val (.string s), .av 2 xs]) (hL:ep xs) (hz:zs.length=gP (es.take i)+j) (hW:Kr zs) (hj:j≤xs.length - 1) (hx:¬ (j:Int) < IntKind.i64.wrap ((xs.length:Int) - 1)):Vv es (es.length - (i+1)) [bG 4 1 zs.length,iV .i64 (IntKind.i64.wrap ((i:Int)+1))] [zs]:=by
 have a:=hL.1
 have b:=hL.2.1
 rw[bj (n:=(xs.length:Int) - 1) (by omega) (by omega)]at hx
 refine⟨i+1,zs,by omega,rfl,by rw[bj (by omega) (by omega)];rfl,rfl,?_,hW⟩
 rw[xF (by simpa using hs)]
 simp only[ln]
 omega
theorem gl (es ws:Lz) (he: ∀e,e∈es→BN e) (hl:es.length≤16) (hw:Kr ws) (z7:ws.length=es.length):Tg 166 [oL 2 es,oL 1 ws] (GL 1 (fun zs=>zs.length=gP es∧Kr zs)):=by
 refine aK ?_
 refine ae Tryz.func166 ?_
 repeat' (conv=>whnf
          first
  |(refine aA (fun h=>?_) (fun h=>?_))
  |(refine au he (by omega) (by omega) ?_;rintro _ ⟨s,xs,rfl,hL⟩ hs)
  |(have UW:=RA hL h;clear h)
  |(refine au hw (by omega) (by omega) ?_;rintro _ ⟨w,rfl,ID,EY⟩ hsw)
  |(refine And.intro ⟨by simp[tr],by have:=qI he i hl;have:=hL.2.1;simp[tr,aU];omega,by have:=qI he i hl;have:=hL.2.1;simp[tr,maxLen];omega⟩ ?_)
  |exact mh rfl (eR rfl rfl (xs:=zs) rfl (by omega)) ⟨_,rfl,by rw[D3];exact⟨by rw[List.take_of_length_le (by omega)]at hz;exact hz,hW⟩⟩
  |(apply bH [1,5,6,8,9,10,18,19] [] [5,19] [(4,1)] (Vw (gP (es.take i)) (xs.length - 1)) (xs.length - 1) [bG 4 1 zs.length,iV .i64 0];(conv=>whnf);exact⟨rfl,rfl,rfl,rfl⟩;exact rfl;exact rfl;exact .cons (az.ak (xs:=zs) rfl _) .nil;exact⟨0,zs,by omega,rfl,rfl,rfl,by omega,hW⟩;rintro _ _ _ ⟨j,KW,hj,rfl,rfl,rfl,Cr,hW2⟩)
  |(refine aj [1,5,6,8,9,10,18,19] [] ?_;(conv=>whnf);exact⟨rfl,_,[_,_],_, .cons (az.ak (az.snoc (xs:=KW) rfl [tI _]) _) .nil,Vw.next hL rfl UW Cr hW2 ID EY (by simp[tr]),rfl,rfl,by omega⟩)
  |(apply eP [1,5,8,9,10] [] [5,10] [(4,1)] (Vv es) (es.length) [bG 4 1 0,iV .i64 0] (dP.iU 5 1 rfl);(conv=>whnf);exact⟨rfl,rfl,rfl,rfl⟩;exact rfl;exact rfl;exact .cons (az.ak az.nil _) .nil;exact⟨0,[],by omega,rfl,rfl,rfl,by simp[gP],(fun e he=>by simp at he)⟩;rintro _ _ _ ⟨i,zs,hi,rfl,rfl,rfl,hz,hW⟩)
  |(refine aj [1,5,8,9,10] [] ?_;(conv=>whnf);exact⟨rfl,_,[_,_],_, .cons (az.ak (xs:=KW) rfl _) .nil,Vv.next (by omega) hl hs hL Cr hW2 hj h,rfl,rfl,by omega⟩))
 all_goals (conv=>whnf)
theorem Iw (a b:Int):Tg 65 [oI a,oI b] (nP (fun n=> -1≤n∧n≤1)):=by
 refine ae Tryz.func65 ?_
 repeat' (conv=>whnf
          first
  |(refine aA (fun h=>?_) (fun h=>?_))
  |(refine aG (fun h=>?_) (fun h=>?_))
  |(refine ag rfl (GY _) ?_;rintro _ ⟨c,rfl,hc⟩)
  |(refine iK rfl rfl ?_;omega))
 all_goals (conv=>whnf)
theorem eO (xs:Lz) (hx:bZ xs) (hl:xs.length≤1000000):Tg 170 [oL 2 xs] (nP (fun n=> -1≤n∧n≤1)):=by
 refine ae Tryz.func170 ?_
 repeat' (conv=>whnf
          first
  |(refine ag rfl (wz xs hx hl) ?_;rintro _ ⟨n,rfl⟩)
  |(refine ag rfl (Iw _ _) ?_;rintro _ ⟨c,rfl,hc⟩)
  |exact iK rfl rfl hc)
 all_goals (conv=>whnf)
theorem tg (s:Sp):Tg 190 [ij s] (PG 2):=by
 refine aK ?_
 refine ae Tryz.func190 ?_
 repeat' (conv=>whnf
          first
  |(refine ag rfl (Gv _ _) ?_;rintro _ ⟨b,xs,ds,c,ys,es,rfl,h1,h2⟩)
  |exact mh rfl (bF LQ KX rfl rfl (Nat.le_refl _) rfl (cQ.refl _)) ⟨_,xs,ds,_,ys,es,rfl,h1,h2⟩)
 all_goals (conv=>whnf)
end Go.aS.Cd
end
section
namespace Go.aS.Cd
open Go Go.Proofs
set_option maxRecDepth 100000
set_option maxHeartbeats 1000000
def KF (ws:Lz) (i:Nat):Prop:= ∀j e,j < i→ws[j]? =some e→Wd e
theorem KF.all {ws:Lz} {i:Nat} (h:KF ws i) (hi:ws.length≤i): ∀e,e∈ws→Wd e:=by
 intro e he
 obtain⟨j,hj,rfl⟩:=List.getElem_of_mem he
 exact h j _ (by omega) (by simp[hj])
def Vq (ws:Lz) (m:Nat) (vs:List V):Prop:= ∃i:Nat,i≤ws.length∧KF ws i∧m=ws.length - i∧vs=[iV .i64 (i:Int)]
theorem Vq.next {ws:Lz} {i:Nat} {w:Int} (hi:(i:Int) < (ws.length:Int)) (hl:ws.length≤maxLen) (h:KF ws i) (hs:ws[((i:Int)).toNat]? =some [tI w]) (h0:0≤w) (h1:w≤500):Vq ws (ws.length - (i+1)) [iV .i64 (IntKind.i64.wrap ((i:Int)+1))]:=by
 refine⟨i+1,by omega,fun j e hj he=>?_,rfl,by simp only[maxLen]at hl;rw[bj (by omega) (by omega)];rfl⟩
 by_cases eF:j=i
 · subst eF
   have hs':ws[j]? =some [tI w]:=by simpa using hs
   rw[hs']at he
   exact⟨w,(Option.some.inj he).symm,h0,h1⟩
 · exact h j e (by omega) he
theorem j9 {es vs:Lz} (h:vs=gp es∧sD es):bZ vs∧(3≤vs.length∧vs.length≤40)∧FN vs vs.length∧(∀e,e∈vs→KN e)∧vs.length=gP es:=by
 obtain⟨rfl,h1,h2,⟨⟨h3,h4,h5⟩,h6⟩,h7⟩:=h
 exact⟨fun e he=>by obtain⟨a,b,r,_⟩:=h5 e he;exact⟨a,b,r⟩,⟨h3,h4⟩,h6,h5,h7⟩
theorem AF {xs:Lz} {i j:Nat} {e:List T} (hi:xs[i]? =some e) (hij:i < j):e∈xs.take j:=
 List.mem_of_getElem? (i:=i) (by rw[List.getElem?_take,if_pos hij];exact hi)
theorem NX {xs:Lz} (h:FN xs xs.length) {i j:Nat} {e e':List T} (hi:xs[i]? =some e) (hj:xs[j]? =some e') (hij:i≠j):e≠e':=by
 rintro rfl
 have BR:=(List.getElem?_eq_some_iff.1 hi).1
 have BQ:=(List.getElem?_eq_some_iff.1 hj).1
 rcases Nat.lt_or_gt_of_ne hij with hlt|hlt
 · exact h j e BQ hj (AF hi hlt)
 · exact h i e BR hi (AF hj hlt)
theorem R9 {i N:Nat} (hi:(i:Int) < (N:Int)) (hN:2≤N) (hb:N≤1000000):((i:Int)).toNat≠ ((IntKind.i64.wrap ((i:Int)+1)).tmod (N:Int)).toNat:=by
 rw[bj (by omega) (by omega)]
 by_cases h:(i:Int)+1 < (N:Int)
 · rw[Int.tmod_eq_of_lt (by omega) h];omega
 · have e:(i:Int)+1=(N:Int):=by omega
   rw[e,Int.tmod_self];omega
theorem K9 {vs:Lz} {i:Nat} {a b c d:Int} (h:FN vs vs.length) (hi:(i:Int) < (vs.length:Int)) (hN:3≤vs.length∧vs.length≤40) (h1:vs[((i:Int)).toNat]? =some [tI a,tI b]) (h2:vs[((IntKind.i64.wrap ((i:Int)+1)).tmod (vs.length:Int)).toNat]? =some [tI c,tI d]):a≠c∨b≠d:=by
 have:=NX h h1 h2 (R9 hi (by omega) (by omega))
 by_cases hac:a=c
 · by_cases hbd:b=d
   · subst hac;subst hbd;exact absurd rfl this
   · exact .inr hbd
 · exact .inl hac
theorem sqr {x:Int} (h1: -2097152≤x) (h2:x≤2097152):0≤x * x∧x * x≤4398046511104∧(x≠0→1≤x * x):=by
 have:=EL (m:=x) (s:=x) (B:=2097152) (C:=2097152) h1 h2 h1 h2 (by omega)
 have e:((x.natAbs * x.natAbs:Nat):Int)=x * x:=Int.natAbs_mul_self
 refine⟨by omega,by omega,fun hx=>?_⟩
 have:0 < x.natAbs * x.natAbs:=Nat.mul_pos (by omega) (by omega)
 omega
theorem Dp {a b c d:Int} (h1:FD (a,b)) (h2:FD (c,d)):0≤IntKind.i64.wrap (IntKind.i64.wrap (IntKind.i64.wrap (c - a) * IntKind.i64.wrap (c - a))+IntKind.i64.wrap (IntKind.i64.wrap (d - b) * IntKind.i64.wrap (d - b)))∧
 IntKind.i64.wrap (IntKind.i64.wrap (IntKind.i64.wrap (c - a) * IntKind.i64.wrap (c - a))+IntKind.i64.wrap (IntKind.i64.wrap (d - b) * IntKind.i64.wrap (d - b)))≤1125899906842624∧
 (a≠c∨b≠d→1≤IntKind.i64.wrap (IntKind.i64.wrap (IntKind.i64.wrap (c - a) * IntKind.i64.wrap (c - a))+IntKind.i64.wrap (IntKind.i64.wrap (d - b) * IntKind.i64.wrap (d - b)))):=by
 obtain⟨⟨a1,a2⟩,b1,b2⟩:=h1
 obtain⟨⟨c1,c2⟩,d1,d2⟩:=h2
 simp only at a1 a2 b1 b2 c1 c2 d1 d2
 rw[bj (n:=c - a) (by omega) (by omega),bj (n:=d - b) (by omega) (by omega)]
 have e1:=sqr (x:=c - a) (by omega) (by omega)
 have e2:=sqr (x:=d - b) (by omega) (by omega)
 rw[bj (n:=(c - a) * (c - a)) (by omega) (by omega),bj (n:=(d - b) * (d - b)) (by omega) (by omega),bj (by omega) (by omega)]
 refine⟨by omega,by omega,fun h=>?_⟩
 rcases h with h|h
 · have:=e1.2.2 (by omega);omega
 · have:=e2.2.2 (by omega);omega
theorem KZ {a b c d s w:Int} (hs: -1≤s∧s≤1) (ID:0≤w) (EY:w≤500) (h1:FD (a,b)) (h2:FD (c,d)): -1000000000000000≤IntKind.i64.wrap (IntKind.i64.wrap (s * w) * IntKind.i64.wrap (d - b))∧
 -1000000000000000≤IntKind.i64.wrap (IntKind.i64.wrap (0 - IntKind.i64.wrap (s * w)) * IntKind.i64.wrap (c - a)):=by
 obtain⟨⟨a1,a2⟩,b1,b2⟩:=h1
 obtain⟨⟨c1,c2⟩,d1,d2⟩:=h2
 simp only at a1 a2 b1 b2 c1 c2 d1 d2
 have e:=EL (m:=s) (s:=w) (B:=500) (C:=1) hs.1 hs.2 (by omega) EY (by omega)
 rw[bj (n:=c - a) (by omega) (by omega),bj (n:=d - b) (by omega) (by omega),bj (n:=s * w) (by omega) (by omega),bj (n:=0 - s * w) (by omega) (by omega)]
 have e1:=EL (m:=s * w) (s:=d - b) (B:=2097152) (C:=500) (by omega) (by omega) (by omega) (by omega) (by omega)
 have e2:=EL (m:=0 - s * w) (s:=c - a) (B:=2097152) (C:=500) (by omega) (by omega) (by omega) (by omega) (by omega)
 rw[bj (by omega) (by omega),bj (by omega) (by omega)]
 omega
theorem bZ.set {xs:Lz} (h:bZ xs) (j:Nat) (a b:Int):bZ (xs.set j [tI a,tI b]):=by
 intro e he
 rcases List.mem_or_eq_of_mem_set he with he|rfl
 · exact h e he
 · exact⟨a,b,rfl⟩
theorem bZ.Mu (n:Nat):bZ (List.replicate n [tI 0,tI 0]):=by
 intro e he
 obtain⟨_,rfl⟩:=List.mem_replicate.1 he
 exact⟨0,0,rfl⟩
theorem bZ.snoc {xs:Lz} (h:bZ xs) (a b:Int):bZ (xs++[[tI a,tI b]]):=by
 intro e he
 simp only[List.mem_append,List.mem_singleton]at he
 rcases he with he|rfl
 · exact h e he
 · exact⟨a,b,rfl⟩
theorem fE {zs:Lz} {n:Nat} (h:n=zs.length):(zs.drop 0).take n=zs:=by subst h;simp
def Vy (N:Nat) (m:Nat) (vs:List V) (xss:List (Lz)):Prop:= ∃ (i:Nat) (zs:Lz),i≤N∧m=N - i∧vs=[iV .i64 (i:Int)]∧xss=[zs]∧zs.length=N∧bZ zs
theorem Vy.next {N i j:Nat} {zs:Lz} {a b:Int} (h:(i:Int) < (N:Int)) (hN:N≤1000000) (hl:zs.length=N) (hU:bZ zs):Vy N (N - (i+1)) [iV .i64 (IntKind.i64.wrap ((i:Int)+1))] [zs.set j [tI a,tI b]]:=
 ⟨i+1,_,by omega,rfl,by rw[bj (by omega) (by omega)];rfl,rfl,by simp[hl],hU.set j a b⟩
theorem rq (es ws:Lz) (he:jD es) (hm:es.length≤maxLen) (hw:Is ws) (z7:ws.length≤maxLen):Tg 164 [oL 2 es,oL 1 ws] (KP 2 (fun ss=>(bZ ss∧ss.length=gP es)∧sD es∧(∀e,e∈ws→Wd e)∧ws.length=es.length)):=by
 refine aK ?_
 refine ae Tryz.func164 ?_
 repeat' (conv=>whnf
          first
  |(refine aA (fun h=>?_) (fun h=>?_))
  |(refine bR (fun h=>?_) (fun h=>?_))
  |(refine au (xs:=vs) (n:=(i:Int)) (j9 (hP (by omega))).2.2.2.1 (by omega) (by omega) ?_;rintro _ ⟨a,b,rfl,O3⟩ hs1)
  |(refine au (xs:=vs) (j9 (hP (by omega))).2.2.2.1 (cC (by have:=(j9 (hP (by omega))).2.1;rw[bj (by omega) (by omega)];omega)) (cr (by have:=(j9 (hP (by omega))).2.1;omega)) ?_;rintro _ ⟨c,d,rfl,O2⟩ bO)
  |(refine au (xs:=ws) hw (by omega) (by omega) ?_;rintro _ ⟨w,rfl⟩ hs)
  |(refine au (xs:=ys) Xw (by omega) (by have:=(j9 (hP (by omega))).2.2.2.2;omega) ?_;rintro _ ⟨w2,rfl,ID,EY⟩ hsw)
  |(refine And.intro ⟨by omega,by omega,by have:=(j9 (hP (by omega))).2.1;omega,by have:=(j9 (hP (by omega))).2.1;omega⟩ ?_)
  |(refine And.intro (show((vs.length:Nat):Int)≠0 by have:=(j9 (hP (by omega))).2.1;omega) ?_)
  |(refine And.intro ⟨by omega,by omega⟩ ?_)
  |(refine And.intro (by kernel_rfl) ?_)
  |(refine ag rfl (lT es he hm) ?_;rintro _ ⟨vs,e,rfl,hP⟩)
  |(refine ag rfl (eO vs (j9 (hP (by omega))).1 (by have:=(j9 (hP (by omega))).2.1;omega)) ?_;rintro _ ⟨sg,rfl,SS⟩)
  |(refine ag rfl (gl es ws (hP (by omega)).2.2.1 (hP (by omega)).2.1.2 (hp.all (by omega)) (by omega)) ?_;rintro _ ⟨ys,rfl,kT,Xw⟩)
  |(refine cv (xs:=zs) rfl hU (by omega) ?_;rintro _ ⟨x,y,rfl⟩ IF)
  |(refine ag rfl (vS _ (Dp O3 O2).1 (Dp O3 O2).2.1) ?_;rintro _ ⟨r,rfl,hr,rT⟩)
  |(refine ag rfl (j0 _ _ (KZ SS ID EY O3 O2).1 (by have:=rT ((Dp O3 O2).2.2 (K9 (j9 (hP (by omega))).2.2.1 (by omega) (j9 (hP (by omega))).2.1 hs1 bO));omega) (by omega)) ?_;rintro _ ⟨n,rfl⟩)
  |(refine ag rfl (j0 _ _ (KZ SS ID EY O3 O2).2 (by have:=rT ((Dp O3 O2).2.2 (K9 (j9 (hP (by omega))).2.2.1 (by omega) (j9 (hP (by omega))).2.1 hs1 bO));omega) (by omega)) ?_;rintro _ ⟨n,rfl⟩)
  |exact dA rfl (bP 2 rfl) (bX rfl) ⟨_,_,rfl,fun h0=>absurd h0 (by omega)⟩
  |exact dA rfl (eR rfl rfl (xs:=zs) rfl (by omega)) (bX rfl) ⟨_,_,rfl,fun _=>by rw[fE (by omega)];exact⟨⟨hU,by have:=(j9 (hP (by omega))).2.2.2.2;omega⟩,(hP (by omega)).2,hp.all (by omega),by omega⟩⟩
  |(apply bH [6,10,11,12,54,55,56] [] [56] [(4,2)] (Vy vs.length) (vs.length) [iV .i64 0];(conv=>whnf);exact⟨rfl,rfl,rfl,rfl⟩;exact rfl;exact rfl;exact .cons (az.ak (az.replicate _ [tI 0,tI 0]) _) .nil;exact⟨0,_,by omega,rfl,rfl,rfl,by simp,bZ.Mu _⟩;rintro _ _ _ ⟨i,zs,hi,rfl,rfl,rfl,hz,hU⟩)
  |(refine aj [6,10,11,12,54,55,56] [] ?_;(conv=>whnf);exact⟨rfl,_,[_],_, .cons (az.ak (az.set (xs:=zs) rfl _ [tI _,tI _]) _) .nil,Vy.next (by omega) (by have:=(j9 (hP (by omega))).2.1;omega) hz hU,rfl,rfl,by omega⟩)
  |(apply aL [0,1,6,33,34,35] [] [35] (Vq ws) (ws.length) [iV .i64 0];(conv=>whnf);exact⟨rfl,rfl,rfl,rfl⟩;exact rfl;exact rfl;exact⟨0,by omega,fun j e hj=>by omega,rfl,rfl⟩;rintro _ _ ⟨i,hi,hp,rfl,rfl⟩)
  |(refine aj [0,1,6,33,34,35] [] ?_;(conv=>whnf);exact⟨rfl,_,[_],Vq.next (by omega) z7 hp hs (by omega) (by omega),rfl,rfl,rfl,by omega⟩))
 all_goals (conv=>whnf)
abbrev R6 (a b:Sp) (w:Int):W:= .agg [.t (tI a.1), .t (tI a.2), .t (tI b.1), .t (tI b.2), .t (tI w)]
theorem WJ (a b:Int):bZ ((([[tI a,tI b]]:Lz).drop 0).take 1):=by
 intro e he
 simp at he
 exact⟨a,b,he⟩
theorem WI (a b c d:Int):bZ ((([[tI a,tI b],[tI c,tI d]]:Lz).drop 0).take 2):=by
 intro e he
 simp at he
 rcases he with he|he
 · exact⟨a,b,he⟩
 · exact⟨c,d,he⟩
theorem rm (v a1 a2 b1 b2:Sp) (wa wb:Int):Tg 168 [ij v,R6 a1 a2 wa,R6 b1 b2 wb] (GL 2 (fun ps=>bZ ps∧ps.length≤2)):=by
 refine aK ?_
 refine ae Tryz.func168 ?_
 repeat' (conv=>whnf
          first
  |(refine aA (fun h=>?_) (fun h=>?_))
  |(refine aG (fun h=>?_) (fun h=>?_))
  |(refine And.intro (by kernel_rfl) ?_)
  |(refine aB rfl (tg (_,_)) ?_;rintro _ ⟨b,xs,ds,c,ys,es,rfl,h1,h2⟩)
  |(refine aB rfl (Ce _ _ _ _ _ _ _ _ _ _ _ _ _ _ _ _ _ _ _ _ _ _ _ _ (by assumption) (by assumption) (by assumption) (by assumption) (by assumption) (by assumption) (by assumption) (by assumption)) ?_;rintro _ ⟨b,xs,ds,c,ys,es,n,rfl,h1,h2⟩)
  |(refine aB rfl (kD 341 _ _ _ _ _ _ _ _ _ _ _ _ (by assumption) (by assumption) (gA (k:=2) (by assumption) (by omega)) (gA (k:=2) (by assumption) (by omega)) (by omega) (by omega)) ?_;rintro _ ⟨b,xs,ds,c,ys,es,rfl,h1,h2⟩)
  |(refine aB rfl (Cf 683 _ _ _ _ _ _ (by assumption) (by assumption) (by omega) (by omega)) ?_;rintro _ ⟨⟨x,y⟩,n,rfl⟩)
  |(refine ag rfl (kR (_,_) _) ?_;rintro _ ⟨q,rfl⟩)
  |(refine ag rfl (oe (_,_) (_,_)) ?_;rintro _ ⟨x,y,rfl,_⟩)
  |exact mh rfl (eR rfl rfl (xs:=[[tI _,tI _]]) rfl (by simp)) ⟨_,rfl,WJ _ _,by simp⟩
  |exact mh rfl (eR rfl rfl (xs:=[[tI _,tI _],[tI _,tI _]]) rfl (by simp)) ⟨_,rfl,WI _ _ _ _,by simp⟩)
 all_goals (conv=>whnf)
end Go.aS.Cd
end
section
namespace Go.aS.Cd
open Go Go.Proofs
set_option maxRecDepth 100000
set_option maxHeartbeats 2000000
def Sg (e:List T):Prop:= ∃a b c d w,e=[tI a,tI b,tI c,tI d,tI w]
abbrev LU (xs:Lz):Prop:= ∀e,e∈xs→Sg e
theorem LU.set {xs:Lz} (h:LU xs) (j:Nat) (a b c d w:Int):LU (xs.set j [tI a,tI b,tI c,tI d,tI w]):=by
 intro e he
 rcases List.mem_or_eq_of_mem_set he with he|rfl
 · exact h e he
 · exact⟨a,b,c,d,w,rfl⟩
theorem LU.Mu (n:Nat):LU (List.replicate n [tI 0,tI 0,tI 0,tI 0,tI 0]):=by
 intro e he
 obtain⟨_,rfl⟩:=List.mem_replicate.1 he
 exact⟨0,0,0,0,0,rfl⟩
def Vx (N:Nat) (m:Nat) (vs:List V) (xss:List (Lz)):Prop:= ∃ (i:Nat) (zs:Lz),i≤N∧m=N - i∧vs=[iV .i64 (i:Int)]∧xss=[zs]∧zs.length=N∧LU zs
theorem Vx.next {N i j:Nat} {zs:Lz} {a b c d w:Int} (h:(i:Int) < (N:Int)) (hN:N≤1000000) (hl:zs.length=N) (hU:LU zs):Vx N (N - (i+1)) [iV .i64 (IntKind.i64.wrap ((i:Int)+1))] [zs.set j [tI a,tI b,tI c,tI d,tI w]]:=
 ⟨i+1,_,by omega,rfl,by rw[bj (by omega) (by omega)];rfl,rfl,by simp[hl],hU.set j a b c d w⟩
def VB (zs:Lz) (N:Nat) (m:Nat) (ws:List V) (xss:List (Lz)):Prop:= ∃ (i:Nat) (ps:Lz),i≤N∧m=N - i∧ws=[bG 8 2 ps.length,iV .i64 (i:Int)]∧xss=[zs,ps]∧ps.length≤2 * i∧bZ ps
theorem VB.next {N i:Nat} {zs ps:Lz} (h:(i:Int) < (N:Int)) (hN:N≤1000000) (hp:ps.length≤2 * (i+1)) (hS:bZ ps):VB zs N (N - (i+1)) [bG 8 2 ps.length,iV .i64 (IntKind.i64.wrap ((i:Int)+1))] [zs,ps]:=
 ⟨i+1,_,by omega,rfl,by rw[bj (by omega) (by omega)];rfl,rfl,hp,hS⟩
def Oi (zs:Lz) (b L:Nat) (m:Nat) (ws:List V) (xss:List (Lz)):Prop:= ∃ (j:Nat) (ps:Lz),j≤L∧m=L - j∧ws=[bG 8 2 ps.length,iV .i64 (j:Int)]∧xss=[zs,ps]∧ps.length≤b+j∧bZ ps
theorem Oi.same {b L j:Nat} {zs ps:Lz} (h:(j:Int) < (L:Int)) (hL:L≤2) (hp:ps.length≤b+j) (hS:bZ ps):Oi zs b L (L - (j+1)) [bG 8 2 ps.length,iV .i64 (IntKind.i64.wrap ((j:Int)+1))] [zs,ps]:=
 ⟨j+1,_,by omega,rfl,by rw[bj (by omega) (by omega)];rfl,rfl,by omega,hS⟩
theorem Oi.IP {b L j k:Nat} {zs ps:Lz} {x y:Int} (h:(j:Int) < (L:Int)) (hL:L≤2) (hp:ps.length≤b+j) (hS:bZ ps) (hk:k=ps.length+1):Oi zs b L (L - (j+1)) [bG 8 2 k,iV .i64 (IntKind.i64.wrap ((j:Int)+1))] [zs,ps++[[tI x,tI y]]]:=
 ⟨j+1,_,by omega,rfl,by rw[bj (by omega) (by omega),hk];simp,rfl,by simp;omega,hS.snoc x y⟩
def Vt (ps:Lz) (m:Nat) (vs:List V) (xss:List (Lz)):Prop:= ∃k:Nat,k≤ps.length∧m=k∧vs=[bG 4 2 k]∧xss=[ps]
theorem Vt.next {ps:Lz} {k:Nat} (hk:k≤ps.length) (h2:(k:Int)≥2) (hb:ps.length≤1000):Vt ps (k - 1) [bG 4 2 ((IntKind.i64.wrap ((k:Int) - 1)).toNat - 0)] [ps]:=by
 have e:(IntKind.i64.wrap ((k:Int) - 1)).toNat - 0=k - 1:=by rw[bj (by omega) (by omega)];omega
 rw[e]
 exact⟨k - 1,by omega,rfl,rfl,rfl⟩
def VD (ps:Lz) (k:Nat) (m:Nat) (vs:List V) (xss:List (Lz)):Prop:= ∃i:Nat,i≤k∧m=k - i∧vs=[iV .i64 (i:Int)]∧xss=[ps]
theorem VD.next {ps:Lz} {i k:Nat} (h:(i:Int) < (k:Int)) (hk:k≤1000):VD ps k (k - (i+1)) [iV .i64 (IntKind.i64.wrap ((i:Int)+1))] [ps]:=
 ⟨i+1,by omega,rfl,by rw[bj (by omega) (by omega)];rfl,rfl⟩
theorem Li {hp:HS} {id sz len:Nat} {rows:List (List C)} {xs:Lz} (hf:find hp id=some (.row sz rows)) (hR:az rows xs) (hl:len≤xs.length):bu (bB hp) [.one (.own id sz 0 len)]=some [.one (.t (.av sz (xs.take len)))]:=by
 have:=lF (hp:=hp) (i:=0) hf hR (by omega:0+len≤xs.length)
 simp only[bu,this]
 simp
theorem bZ.take {xs:Lz} (h:bZ xs) (n:Nat):bZ (xs.take n):=fun e he=>h e (List.mem_of_mem_take he)
theorem Dj {xs:Lz} {n B:Nat} (h:xs.length≤B):(xs.take n).length≤B:=by simp;omega
theorem Me {i N:Nat} (hN:1≤N) (hb:N≤1000000) (hi:i < N):0≤(IntKind.i64.wrap (IntKind.i64.wrap ((i:Int)+(N:Int)) - 1)).tmod (N:Int)∧(IntKind.i64.wrap (IntKind.i64.wrap ((i:Int)+(N:Int)) - 1)).tmod (N:Int) < (N:Int):=
 ⟨cC (by rw[bj (n:=(i:Int)+(N:Int)) (by omega) (by omega),bj (by omega) (by omega)];omega),cr (by omega)⟩
theorem qj {es vs:Lz} (h:vs=gp es∧sD es):(3≤vs.length∧vs.length≤40)∧vs.length=gP es:=⟨(j9 h).2.1,(j9 h).2.2.2.2⟩
theorem th (es ws:Lz) (he:jD es) (hm:es.length≤maxLen) (hw:Is ws) (z7:ws.length≤maxLen):Tg 135 [oL 2 es,oL 1 ws] (KP 2 vX):=by
 refine aK ?_
 refine ae Tryz.func135 ?_
 repeat' (conv=>whnf
          first
  |(refine aA (fun h=>?_) (fun h=>?_))
  |(refine bR (fun h=>?_) (fun h=>?_))
  |(refine aG (fun h=>?_) (fun h=>?_))
  |(refine au (xs:=ss) (hS (by omega)).1.1 (by omega) (by omega) ?_;rintro _ ⟨x0,y0,rfl⟩ hs0;have hi2:(i:Int) < (vs.length:Int):=by(have:=(hS (by omega)).1.2;have:=(qj (hP (by omega))).2;omega))
  |(refine au (xs:=vs) (n:=(i:Int)) (j9 (hP (by omega))).1 (by omega) (by first|omega|(have:=(hS (by omega)).1.2;have:=(qj (hP (by omega))).2;omega)) ?_;rintro _ ⟨a,b,rfl⟩ hs1)
  |(refine au (xs:=vs) (j9 (hP (by omega))).1 (cC (by have:=(qj (hP (by omega))).1;rw[bj (by omega) (by omega)];omega)) (cr (by have:=(qj (hP (by omega))).1;omega)) ?_;rintro _ ⟨c,d,rfl⟩ bO)
  |(refine au (xs:=ys) Xw (by omega) (by have:=(qj (hP (by omega))).2;have:=(hS (by omega)).1.2;omega) ?_;rintro _ ⟨w2,rfl,ID,EY⟩ hsw)
  |(refine au (xs:=cs) hcs (by omega) (by omega) ?_;rintro _ ⟨cx,cy,rfl⟩ hsc)
  |(refine And.intro ⟨by omega,by omega,by have:=(qj (hP (by omega))).1;omega,by have:=(qj (hP (by omega))).1;omega⟩ ?_)
  |(refine And.intro (show((vs.length:Nat):Int)≠0 by have:=(qj (hP (by omega))).1;omega) ?_)
  |(refine And.intro ⟨by simp[tr],by have:=(qj (hP (by omega))).1;simp[tr,aU];omega,by have:=(qj (hP (by omega))).1;simp[tr,maxLen];omega⟩ ?_)
  |(refine mo (Nat.zero_le _) (by have:=(qj (hP (by omega))).1;rw[bj (by omega) (by omega)];omega) (.inr rfl) ?_)
  |(refine And.intro (show(0:Int)≤IntKind.i64.wrap ((k:Int) - 1) by rw[bj (by omega) (by have:=(qj (hP (by omega))).1;omega)];omega) ?_)
  |(refine And.intro ⟨cC (by have:=(qj (hP (by omega))).1;rw[bj (n:=(i:Int)+(vs.length:Int)) (by omega) (by omega),bj (by omega) (by omega)];omega),cr (by have:=(qj (hP (by omega))).1;omega)⟩ ?_)
  |(refine And.intro ⟨by omega,by omega⟩ ?_)
  |(refine And.intro ⟨by have:=(qj (hP (by omega))).1;rw[bj (by omega) (by omega)];omega,by have:=(qj (hP (by omega))).1;rw[bj (by omega) (by omega)];omega⟩ ?_)
  |(refine And.intro (by kernel_rfl) ?_)
  |(refine ag rfl (rq es ws he hm hw z7) ?_;rintro _ ⟨ss,e1,rfl,hS⟩)
  |(refine ag rfl (lT es he hm) ?_;rintro _ ⟨vs,e,rfl,hP⟩)
  |(refine ag rfl (gl es ws (hP (by omega)).2.2.1 (hP (by omega)).2.1.2 (hS (by omega)).2.2.1 (hS (by omega)).2.2.2) ?_;rintro _ ⟨ys,rfl,kT,Xw⟩)
  |(refine cv (xs:=zs) rfl hU (by first|omega|(have:=Me (i:=i) (N:=vs.length) (by have:=(qj (hP (by omega))).1;omega) (by have:=(qj (hP (by omega))).1;omega) (by omega);omega)) ?_;rintro _ ⟨s1,s2,s3,s4,s5,rfl⟩ IF)
  |(refine cv (xs:=OJ) rfl JO (by first|omega|(have:=(qj (hP (by omega))).1;rw[bj (by omega) (by omega)];omega)) ?_;rintro _ ⟨x,y,rfl⟩ IF)
  |(refine cv (xs:=ps) rfl hps (by first|omega|(have:=(qj (hP (by omega))).1;rw[bj (by omega) (by omega)];omega)) ?_;rintro _ ⟨x,y,rfl⟩ IF)
  |(refine aB rfl (oe (_,_) (_,_)) ?_;rintro _ ⟨x,y,rfl,_⟩)
  |(refine aB rfl (rm (_,_) (_,_) (_,_) (_,_) (_,_) _ _) ?_;rintro _ ⟨cs,rfl,hcs,ew⟩)
  |(refine ag rfl (kR (_,_) _) ?_;rintro _ ⟨q,rfl⟩)
  |(refine jk (Li (xs:=ps) rfl rfl (by omega)) (dS _ (hps.take _) (Dj (by have:=(qj (hP (by omega))).1;omega))) ?_ ?_;(rintro _ ⟨d,rfl,hd⟩;rfl);rintro _ ⟨d,rfl,hd⟩)
  |(refine jk (Li (xs:=ps) rfl rfl (by omega)) (eO _ (hps.take _) (Dj (by have:=(qj (hP (by omega))).1;omega))) ?_ ?_;(rintro _ ⟨o1,rfl,_⟩;rfl);rintro _ ⟨o1,rfl,_⟩)
  |(refine ag rfl (eO vs (j9 (hP (by omega))).1 (by have:=(qj (hP (by omega))).1;omega)) ?_;rintro _ ⟨o2,rfl,_⟩)
  |exact dA rfl (bP 2 rfl) (bX rfl) ⟨_,_,rfl,fun h0=>absurd h0 (by omega)⟩
  |exact dA rfl (eR rfl rfl (xs:=ps) rfl (by omega)) (bX rfl) ⟨_,_,rfl,fun _=>by simpa using hd (by omega)⟩
  |(apply bH [8,14,143,144,145] [] [145] [(4,2)] (VD ps k) (k) [iV .i64 0];(conv=>whnf);exact⟨rfl,rfl,rfl,rfl⟩;exact rfl;exact rfl;exact .cons (az.ak (xs:=ps) rfl _) .nil;exact⟨0,by omega,rfl,rfl,rfl⟩;rintro _ _ _ ⟨q,hq,rfl,rfl,rfl⟩)
  |(refine aj [8,14,143,144,145] [] ?_;(conv=>whnf);exact⟨rfl,_,[_],_, .cons (az.ak (xs:=ps) rfl _) .nil,VD.next (by omega) (by have:=(qj (hP (by omega))).1;omega),rfl,rfl,by omega⟩)
  |(apply bH [8,10,11,14,77,78,79,98,99,100] [] [14,100] [(4,5),(8,2)] (Oi zs (2 * i) cs.length) (cs.length) [bG 8 2 ps.length,iV .i64 0];(conv=>whnf);exact⟨rfl,rfl,rfl,rfl⟩;exact rfl;exact rfl;exact .cons (az.ak (xs:=zs) rfl _) (.cons (az.ak (xs:=ps) rfl _) .nil);exact⟨0,ps,by omega,rfl,rfl,rfl,by omega,hps⟩;rintro _ _ _ ⟨j,OJ,hj,rfl,rfl,rfl,SZ,JO⟩)
  |(refine aj [8,10,11,14,77,78,79,98,99,100] [] ?_;(conv=>whnf);first|exact⟨rfl,_,[_,_],_, .cons (az.ak (xs:=zs) rfl _) (.cons (az.ak (xs:=OJ) rfl _) .nil),Oi.same (by omega) ew SZ JO,rfl,rfl,by omega⟩|exact⟨rfl,_,[_,_],_, .cons (az.ak (xs:=zs) rfl _) (.cons (az.ak (az.snoc (xs:=OJ) rfl [tI _,tI _]) _) .nil),Oi.IP (by omega) ew SZ JO (by simp[tr]),rfl,rfl,by omega⟩)
  |(apply bH [8,14] [] [14] [(4,2)] (Vt ps) (ps.length) [bG 4 2 ps.length];(conv=>whnf);exact⟨rfl,rfl,rfl,rfl⟩;exact rfl;exact rfl;exact .cons (az.ak (xs:=ps) rfl _) .nil;exact⟨ps.length,by omega,rfl,rfl,rfl⟩;rintro _ _ _ ⟨k,hk,hmk,rfl,rfl⟩)
  |(refine aj [8,14] [] ?_;(conv=>whnf);exact⟨rfl,_,[_],_, .cons (az.ak (xs:=ps) rfl _) .nil,Vt.next hk (by omega) (by have:=(qj (hP (by omega))).1;omega),rfl,rfl,by omega⟩)
  |(apply eP [8,10,11,14,77,78,79] [] [14,79] [(4,5),(8,2)] (VB zs vs.length) (vs.length) [bG 8 2 0,iV .i64 0] (dP.iU 14 2 rfl);(conv=>whnf);exact⟨rfl,rfl,rfl,rfl⟩;exact rfl;exact rfl;exact .cons (az.ak (xs:=zs) rfl _) (.cons (az.ak az.nil _) .nil);exact⟨0,[],by omega,rfl,rfl,rfl,by simp,fun e he=>by simp at he⟩;rintro _ _ _ ⟨i,ps,hi,rfl,rfl,rfl,jv,hps⟩)
  |(refine aj [8,10,11,14,77,78,79] [] ?_;(conv=>whnf);exact⟨rfl,_,[_,_],_, .cons (az.ak (xs:=zs) rfl _) (.cons (az.ak (xs:=OJ) rfl _) .nil),VB.next (by omega) (by have:=(qj (hP (by omega))).1;omega) (by omega) JO,rfl,rfl,by omega⟩)
  |(apply bH [8,9,10,11,46,47,48] [] [48] [(4,5)] (Vx vs.length) (vs.length) [iV .i64 0];(conv=>whnf);exact⟨rfl,rfl,rfl,rfl⟩;exact rfl;exact rfl;exact .cons (az.ak (az.replicate _ [tI 0,tI 0,tI 0,tI 0,tI 0]) _) .nil;exact⟨0,_,by omega,rfl,rfl,rfl,by simp,LU.Mu _⟩;rintro _ _ _ ⟨i,zs,hi,rfl,rfl,rfl,hz,hU⟩)
  |(refine aj [8,9,10,11,46,47,48] [] ?_;(conv=>whnf);exact⟨rfl,_,[_],_, .cons (az.ak (az.set (xs:=zs) rfl _ [tI _,tI _,tI _,tI _,tI _]) _) .nil,Vx.next (by have:=(hS (by omega)).1.2;have:=(qj (hP (by omega))).2;omega) (by have:=(qj (hP (by omega))).1;omega) hz hU,rfl,rfl,by omega⟩))
 all_goals (conv=>whnf)
end Go.aS.Cd
end
section
namespace Go.aS
open Go
variable {P:Program} {M A:Nat→Prop} {ρ:Env} {F:Nat→Prop} {st:St} {a:Act} {w:World}
abbrev cz:=List (Value×C×Nat)
structure gZ (P:Program) (kt:TypeId) (Kd:Value→Prop):Prop where
 at_: ∀ (es:cz) (kv:Value) (empty:Bool),(∀p,p∈es→Kd p.1)→Kd kv→
  (gX P empty kt kv es=some none∧ ∀p,p∈es→p.1≠kv)∨ ∃i p,gX P empty kt kv es=some (some i)∧es[i]? =some p∧p.1=kv
 same: ∀kv,Kd kv→Instr.sameBits 10000 kv kv=true
theorem vv {d:TypeDesc} {Kd:Value→Prop} {kv:Value} (hs: ∀b,Kd b→ ∃q,Instr.sameNow d kv b=some q∧(q=true↔b=kv)): ∀ (es:cz) (i0:Nat),(∀p,p∈es→Kd p.1)→
 (Instr.findNow d kv (cT es) i0=some none∧ ∀p,p∈es→p.1≠kv)∨ ∃i p v,Instr.findNow d kv (cT es) i0=some (some (i0+i,v))∧es[i]? =some p∧p.1=kv
 | [],i0,_=> .inl ⟨rfl,fun p hp=>by simp at hp⟩
 |e::es,i0,h=>by
  obtain⟨q,h1,h2⟩:=hs e.1 (h e List.mem_cons_self)
  have IN:Instr.sameNow d kv (⟨e.1, .bool false,0⟩:MapEntry).key=some q:=h1
  show((match Instr.sameNow d kv (⟨e.1, .bool false,0⟩:MapEntry).key with
   |some true=>some (some (i0,(⟨e.1, .bool false,0⟩:MapEntry).val))
   |some false=>Instr.findNow d kv (cT es) (i0+1)
   |none=>none)=some none∧_)∨ ∃i p v,(match Instr.sameNow d kv (⟨e.1, .bool false,0⟩:MapEntry).key with
   |some true=>some (some (i0,(⟨e.1, .bool false,0⟩:MapEntry).val))
   |some false=>Instr.findNow d kv (cT es) (i0+1)
   |none=>none)=some (some (i0+i,v))∧_
  rw[IN]
  cases q with
  |true=>exact .inr ⟨0,e,_,rfl,rfl,h2.1 rfl⟩
  |false=>
   have hne:e.1≠kv:=fun he=>by have:=h2.2 he;simp at this
   rcases vv hs es (i0+1) (fun p hp=>h p (List.mem_cons_of_mem _ hp))with⟨h3,h4⟩|⟨i,p,v,h3,h4,h5⟩
   · refine .inl ⟨h3,fun p hp=>?_⟩
     rcases List.mem_cons.1 hp with rfl|hp
     · exact hne
     · exact h4 p hp
   · exact .inr ⟨i+1,p,v,by rw[show i0+(i+1)=i0+1+i by omega];exact h3,by simpa using h4,h5⟩
theorem ob {kt:TypeId} {Kd:Value→Prop} {kv:Value} (hs: ∀b,Kd b→ ∃q,aH P (Op.equal kt kv b)=some q∧(q=true↔b=kv)): ∀ (es:cz) (i0:Nat),(∀p,p∈es→Kd p.1)→
 (aH P (Instr.findAsking kt kv (cT es) i0)=some none∧ ∀p,p∈es→p.1≠kv)∨ ∃i p v,aH P (Instr.findAsking kt kv (cT es) i0)=some (some (i0+i,v))∧es[i]? =some p∧p.1=kv
 | [],i0,_=> .inl ⟨rfl,fun p hp=>by simp at hp⟩
 |e::es,i0,h=>by
  obtain⟨q,h1,h2⟩:=hs e.1 (h e List.mem_cons_self)
  have hd:cT (e::es)=⟨e.1, .bool false,0⟩::cT es:=rfl
  simp only[hd,Instr.findAsking,aJ,h1,Option.bind_some]
  cases q with
  |true=>exact .inr ⟨0,e,_,rfl,rfl,h2.1 rfl⟩
  |false=>
   have hne:e.1≠kv:=fun he=>by have:=h2.2 he;simp at this
   simp only[Bool.false_eq_true,if_false]
   rcases ob hs es (i0+1) (fun p hp=>h p (List.mem_cons_of_mem _ hp))with⟨h3,h4⟩|⟨i,p,v,h3,h4,h5⟩
   · refine .inl ⟨h3,fun p hp=>?_⟩
     rcases List.mem_cons.1 hp with rfl|hp
     · exact hne
     · exact h4 p hp
   · exact .inr ⟨i+1,p,v,by rw[show i0+(i+1)=i0+1+i by omega];exact h3,by simpa using h4,h5⟩
theorem ES {kt:TypeId} {d:TypeDesc} {Kd:Value→Prop} (hu:P.underlying kt=some d) (YD: ∀e kv,Kd kv→ ∃u,aH P (Instr.checkKey e 10000 kt kv)=some u)
 (hs: ∀a b,Kd a→Kd b→ ∃q,Instr.sameNow d a b=some q∧(q=true↔b=a)) (kU: ∀kv,Kd kv→Instr.sameBits 10000 kv kv=true):gZ P kt Kd:=by
 refine⟨fun es kv empty he hk=>?_,kU⟩
 obtain⟨u,rS⟩:=YD empty kv hk
 rcases vv (fun b hb=>hs kv b hk hb) es 0 he with⟨h3,h4⟩|⟨i,p,v,h3,h4,h5⟩
 · refine .inl ⟨?_,h4⟩
   have:aH P (Instr.findKey kt kv (cT es))=some none:=by simp only[Instr.findKey,aJ,aN hu,Option.bind_some,h3,aD]
   simp only[gX,rS,this]
 · refine .inr ⟨i,p,?_,h4,h5⟩
   have:aH P (Instr.findKey kt kv (cT es))=some (some (i,v)):=by simp only[Instr.findKey,aJ,aN hu,Option.bind_some,h3,aD,Nat.zero_add]
   simp only[gX,rS,this]
theorem xJ {kt:TypeId} {d:TypeDesc} {Kd:Value→Prop} (hu:P.underlying kt=some d) (YD: ∀e kv,Kd kv→ ∃u,aH P (Instr.checkKey e 10000 kt kv)=some u)
 (hn: ∀a b,Kd a→Kd b→Instr.sameNow d a b=none) (hs: ∀a b,Kd a→Kd b→ ∃q,aH P (Op.equal kt a b)=some q∧(q=true↔b=a)) (kU: ∀kv,Kd kv→Instr.sameBits 10000 kv kv=true):gZ P kt Kd:=by
 refine⟨fun es kv empty he hk=>?_,kU⟩
 obtain⟨u,rS⟩:=YD empty kv hk
 cases es with
 |nil=>
  refine .inl ⟨?_,fun p hp=>by simp at hp⟩
  have:aH P (Instr.findKey kt kv (cT []))=some none:=by simp only[Instr.findKey,aJ,aN hu,Option.bind_some,cT,List.map_nil,Instr.findNow,aD]
  simp only[gX,rS,this]
 |cons e es=>
  have hfn:Instr.findNow d kv (cT (e::es)) 0=none:=by
   show(match Instr.sameNow d kv (⟨e.1, .bool false,0⟩:MapEntry).key with
    |some true=>some (some (0,(⟨e.1, .bool false,0⟩:MapEntry).val))
    |some false=>Instr.findNow d kv (cT es) (0+1)
    |none=>none)=none
   have:=hn kv e.1 hk (he e List.mem_cons_self)
   rw[show(⟨e.1, .bool false,0⟩:MapEntry).key=e.1 from rfl,this]
  rcases ob (P:=P) (kt:=kt) (fun b hb=>hs kv b hk hb) (e::es) 0 he with⟨h3,h4⟩|⟨i,p,v,h3,h4,h5⟩
  · refine .inl ⟨?_,h4⟩
    have:aH P (Instr.findKey kt kv (cT (e::es)))=some none:=by simp only[Instr.findKey,aJ,aN hu,Option.bind_some,hfn,h3]
    simp only[gX,rS,this]
  · refine .inr ⟨i,p,?_,h4,h5⟩
    have:aH P (Instr.findKey kt kv (cT (e::es)))=some (some (i,v)):=by simp only[Instr.findKey,aJ,aN hu,Option.bind_some,hfn,h3,Nat.zero_add]
    simp only[gX,rS,this]
theorem bytes_beq (a b:ByteArray):(a==b)=true↔a=b:=by
 cases a;cases b
 show ByteArray.beq _ _=true↔_
 rw[ByteArray.beq.eq_def]
 simp
theorem N3 {kt:TypeId} (hu:P.underlying kt=some .string) (k:Nat) (e:Bool) (m:ByteArray):aH P (Instr.checkKey e (k+1) kt (.string m))=some ():=by
 simp only[Instr.checkKey,aJ,aN hu,Option.bind_some,aD]
def T9 (v:Value):Prop:= ∃n,v= .int .i64 n
def Ot (v:Value):Prop:= ∃s,v= .string s
theorem EQ {kt:TypeId} (hu:P.underlying kt=some .string):gZ P kt Ot:=by
 refine ES hu ?_ ?_ ?_
 · rintro e _ ⟨n,rfl⟩
   exact⟨(),N3 hu 9999 e n⟩
 · rintro _ _ ⟨n,rfl⟩ ⟨m,rfl⟩
   refine⟨n==m,by simp[Instr.sameNow],?_⟩
   rw[bytes_beq,Value.string.injEq]
   exact⟨fun h=>h.symm,fun h=>h.symm⟩
 · rintro _ ⟨n,rfl⟩
   show(n==n)=true
   rw[bytes_beq]
def lO (Kd:Value→Prop) (Pc:C→Prop) (es:cz):Prop:= ∀p,p∈es→Kd p.1∧Pc p.2.1
theorem lO.nil {Kd:Value→Prop} {Pc:C→Prop}:lO Kd Pc []:=fun p hp=>by simp at hp
theorem lO.keys {Kd:Value→Prop} {Pc:C→Prop} {es:cz} (h:lO Kd Pc es): ∀p,p∈es→Kd p.1:=fun p hp=>(h p hp).1
abbrev Gt (n:Nat) (tm:TS) (x:Operand):V:=St.get ⟨n,tm,[]⟩ x
theorem jx {n:Nat} {tm:TS} {hp:HS} (x:Operand):St.get ⟨n,tm,hp⟩ x=Gt n tm x:=by cases x<;>rfl
theorem qp {n ctr:Nat} {t ty:TypeId} {tm:TS} {hp:HS} {K:V→HS→Prop} (hk:K (.w (.one (.map ctr))) ((ctr, .mp [] 0)::hp)):
 ∃v aF,gR P n (.makeMap t none) ty tm hp ctr v aF∧K v aF:=by
 refine⟨_,_,?_,hk⟩
 rintro⟨dst',op',ty',pos',after',guard'⟩ rfl rfl
 intro M A ρ a w hr
 obtain⟨r1,r2⟩:=Rel.GH (st:=⟨n,tm,hp⟩) hr (Nat.le_refl ctr)
 refine⟨.map (some w.heap.size),w.alloc (.map #[] 0),_,_, .inl ?_,r1.sub gv,⟨⟨w.heap.size,by simp[dg],rfl⟩,rfl⟩,df.alloc M w _,r2,bE.new A w⟩
 simp[execOp,Instr.makeMap]
theorem uL {n ctr:Nat} {t ty kt et:TypeId} {m k:Operand} {ok:Bool} {tm:TS} {hp:HS} {id clock i:Nat} {es:cz} {kv k0:Value} {c:C} {born:Nat} (hm:Gt n tm m= .w (.one (.map id))) (hk:(Gt n tm k).val? =some kv) (hu:P.underlying t=some (.map kt et)) (hf:find hp id=some (.mp es clock))
 (oR:gX P es.isEmpty kt kv es=some (some i)) (zk:es[i]? =some (k0,c,born)):gR P n (.lookup t m k ok) ty tm hp ctr (if ok=true then .dQ [cw c,bT true]else .w (cw c)) hp:=by
 rintro⟨dst',op',ty',pos',after',guard'⟩ rfl rfl
 intro M A ρ a w hr
 have vm:=hr.get m
 rw[jx,hm]at vm
 have vk:=V.bn hk (by have:=hr.get k;rw[jx]at this;exact this)
 obtain⟨b,en,q1,q2,q3,q4,q5⟩:=gF hr hf vm
 obtain⟨c1,o2,c2,c3,c4⟩:=dl oR (fo (id:=id) (clock:=clock) q4 q5) w
 cases o2 with
 |none=>simp at c3
 |some p=>
  obtain⟨j,v⟩:=p
  simp only[Option.map_some,Option.some.injEq]at c3
  subst c3
  obtain⟨e0,e1,e2,e3,e4,e5⟩:=q5 j k0 c born zk
  obtain⟨e',g1,rfl⟩:=c4 j v rfl
  rw[e1]at g1
  simp only[Option.some.injEq]at g1
  subst g1
  have hrun:(execOp a.eval ⟨dst', .lookup t m k ok,ty',pos',after',guard'⟩).run P w= .ok (.value (if ok then .tuple #[e0.val, .bool true]else e0.val)) w:=by
   simp only[execOp,Instr.lookup,Sem.run_bind,run_underlying hu,Result.andThen_ok,q2,nG q3,Sem.run_pure,vk,ej q4,c1,c2]
  refine⟨_,w,A,ρ, .inl hrun,hr.sub cK,?_,df.refl _ _,cU.refl _,bE.refl _ _⟩
  cases ok with
  |true=>exact B3 (e5.rw e4)
  |false=>exact e5.rw e4
theorem xH {n ctr:Nat} {t ty kt et:TypeId} {m k:Operand} {ok:Bool} {tm:TS} {hp:HS} {id clock:Nat} {es:cz} {kv z:Value} (hm:Gt n tm m= .w (.one (.map id))) (hk:(Gt n tm k).val? =some kv) (hu:P.underlying t=some (.map kt et)) (hf:find hp id=some (.mp es clock))
 (oR:gX P es.isEmpty kt kv es=some none) (hz:mm P et=some z):gR P n (.lookup t m k ok) ty tm hp ctr (if ok=true then .dQ [.one (.t (.val z)),bT false]else .w (.one (.t (.val z)))) hp:=by
 rintro⟨dst',op',ty',pos',after',guard'⟩ rfl rfl
 intro M A ρ a w hr
 have vm:=hr.get m
 rw[jx,hm]at vm
 have vk:=V.bn hk (by have:=hr.get k;rw[jx]at this;exact this)
 obtain⟨b,en,q1,q2,q3,q4,q5⟩:=gF hr hf vm
 obtain⟨c1,o2,c2,c3,c4⟩:=dl oR (fo (id:=id) (clock:=clock) q4 q5) w
 cases o2 with
 |some p=>simp at c3
 |none=>
  obtain⟨M9,sU⟩:=qn hz w
  have hrun:(execOp a.eval ⟨dst', .lookup t m k ok,ty',pos',after',guard'⟩).run P w= .ok (.value (if ok then .tuple #[z, .bool false]else z)) w:=by
   simp only[execOp,Instr.lookup,Sem.run_bind,run_underlying hu,Result.andThen_ok,q2,nG q3,Sem.run_pure,vk,ej q4,c1,c2,M9]
  refine⟨_,w,A,ρ, .inl hrun,hr.sub cK,?_,df.refl _ _,cU.refl _,bE.refl _ _⟩
  cases ok with
  |true=>exact B3 (u0:= .one (.t (.val z))) ⟨RT.val sU,sU⟩
  |false=>exact⟨RT.val sU,sU⟩
theorem FT {n ctr:Nat} {t ty kt et:TypeId} {m k:Operand} {tm:TS} {hp:HS} {id clock:Nat} {es:cz} {kv z:Value} {Kd:Value→Prop} {K:V→HS→Prop} (hm:Gt n tm m= .w (.one (.map id))) (hf:find hp id=some (.mp es clock)) (hk:(Gt n tm k).val? =some kv) (hu:P.underlying t=some (.map kt et))
 (hz:mm P et=some z) (hK:gZ P kt Kd) (hkv:Kd kv) (jg: ∀p,p∈es→Kd p.1) (h1: ∀ (i:Nat) (p:Value×C×Nat),es[i]? =some p→p.1=kv→K (.w (cw p.2.1)) hp) (h2:(∀p,p∈es→p.1≠kv)→K (.w (.one (.t (.val z)))) hp):
 ∃v aF,gR P n (.lookup t m k false) ty tm hp ctr v aF∧K v aF:=by
 rcases hK.at_ es kv es.isEmpty jg hkv with⟨h3,h4⟩|⟨i,⟨k0,c,born⟩,h3,h4,h5⟩
 · exact⟨_,_,xH hm hk hu hf h3 hz,by simpa using h2 h4⟩
 · exact⟨_,_,uL hm hk hu hf h3 h4,by simpa using h1 i _ h4 h5⟩
theorem Db {n ctr:Nat} {t ty kt et:TypeId} {m k:Operand} {tm:TS} {hp:HS} {id clock:Nat} {es:cz} {kv z:Value} {Kd:Value→Prop} {K:V→HS→Prop} (hm:Gt n tm m= .w (.one (.map id))) (hf:find hp id=some (.mp es clock)) (hk:(Gt n tm k).val? =some kv) (hu:P.underlying t=some (.map kt et))
 (hz:mm P et=some z) (hK:gZ P kt Kd) (hkv:Kd kv) (jg: ∀p,p∈es→Kd p.1) (h1: ∀ (i:Nat) (p:Value×C×Nat),es[i]? =some p→p.1=kv→K (.dQ [cw p.2.1,bT true]) hp) (h2:(∀p,p∈es→p.1≠kv)→K (.dQ [.one (.t (.val z)),bT false]) hp):
 ∃v aF,gR P n (.lookup t m k true) ty tm hp ctr v aF∧K v aF:=by
 rcases hK.at_ es kv es.isEmpty jg hkv with⟨h3,h4⟩|⟨i,⟨k0,c,born⟩,h3,h4,h5⟩
 · exact⟨_,_,xH hm hk hu hf h3 hz,by simpa using h2 h4⟩
 · exact⟨_,_,uL hm hk hu hf h3 h4,by simpa using h1 i _ h4 h5⟩
theorem IY {n ctr:Nat} {t ty kt et:TypeId} {m k:Operand} {tm:TS} {hp:HS} {id clock:Nat} {es:cz} {kv z:Value} {Kd:Value→Prop} {Pc:C→Prop} {K:V→HS→Prop} (hm:Gt n tm m= .w (.one (.map id))) (hf:find hp id=some (.mp es clock)) (hk:(Gt n tm k).val? =some kv) (hu:P.underlying t=some (.map kt et))
 (hz:mm P et=some z) (hK:gZ P kt Kd) (hkv:Kd kv) (jg:lO Kd Pc es) (hzP:Pc (.t (.val z))) (h: ∀c,Pc c→K (.w (cw c)) hp):
 ∃v aF,gR P n (.lookup t m k false) ty tm hp ctr v aF∧K v aF:=
 FT hm hf hk hu hz hK hkv jg.keys (fun i p hp _=>h _ (jg p (List.mem_of_getElem? hp)).2) (fun _=>h _ hzP)
def BH (v:V) (c:C):Prop:=v= .w (.one c)∨ ∃ts,v= .w (.agg (ts.map .t))∧c= .pk ts
theorem BH.spec {v:V} {c:C} {x:Value} (h:BH v c) (hr:RV w A ρ v x):RC w A ρ c x∧yj c x:=by
 rcases h with rfl|⟨ts,rfl,rfl⟩
 · exact⟨hr.1, .inl hr.2⟩
 · exact yj.pk hr
theorem Jm {n ctr:Nat} {t ty kt et:TypeId} {m k x:Operand} {tm:TS} {hp:HS} {id clock i:Nat} {es:cz} {kv:Value} {c c0:C} {born:Nat} (hm:Gt n tm m= .w (.one (.map id))) (hk:(Gt n tm k).val? =some kv) (hx:BH (Gt n tm x) c) (hu:P.underlying t=some (.map kt et)) (hf:find hp id=some (.mp es clock))
 (oR:gX P false kt kv es=some (some i)) (zk:es[i]? =some (kv,c0,born)) (kU:Instr.sameBits 10000 kv kv=true):gR P n (.mapUpdate t m k x) ty tm hp ctr .undef (jJ hp id (.mp (es.set i (kv,c,born)) clock)):=by
 rintro⟨dst',op',ty',pos',after',guard'⟩ rfl rfl
 intro M A ρ a w hr
 have vm:=hr.get m
 rw[jx,hm]at vm
 have vk:=V.bn hk (by have:=hr.get k;rw[jx]at this;exact this)
 have vx:=hx.spec (by have:=hr.get x;rw[jx]at this;exact this)
 obtain⟨b,en,q1,q2,q3,q4,q5⟩:=gF hr hf vm
 obtain⟨c1,o2,c2,c3,c4⟩:=dl oR (fo (id:=id) (clock:=clock) q4 q5) w
 cases o2 with
 |none=>simp at c3
 |some p=>
  obtain⟨j,v⟩:=p
  simp only[Option.map_some,Option.some.injEq]at c3
  subst c3
  obtain⟨e0,e1,e2,e3,_⟩:=q5 j kv c0 born zk
  have hi:j < en.size:=(Array.getElem?_eq_some_iff.1 e1).1
  obtain⟨r1,r2⟩:=Rel.tZ (st:=⟨n,tm,hp⟩) (clock':=clock) (es':=es.set j (kv,c,born)) (en':=en.modify j fun e=>{e with key:=kv,val:=a.eval x}) hr hf q1 q3 (by simp[q4]) (fun i k' c' n' hi'=>by
   by_cases hij:j=i
   · subst hij
     rw[List.getElem?_set_self (by rw[←q4];exact hi)]at hi'
     simp only[Option.some.injEq,Prod.mk.injEq]at hi'
     obtain⟨rfl,rfl,rfl⟩:=hi'
     refine⟨{e0 with key:=kv,val:=a.eval x},by simp[Array.getElem?_modify,e1],rfl,e3,vx.1,vx.2⟩
   · rw[List.getElem?_set_ne hij]at hi'
     obtain⟨e,g1,g2,g3,g4,g5⟩:=q5 i k' c' n' hi'
     exact⟨e,by simp[Array.getElem?_modify,hij,g1],g2,g3,g4,g5⟩)
  refine⟨undef,_,A,ρ, .inr ⟨?_,rfl⟩,r1.sub cK,trivial,r2,cU.refl _,bE.refl _ _⟩
  have hks:(Instr.keyThatStays (((en[j]?).map (·.key)).getD kv) kv).run P w= .ok kv w:=by
   simp[Instr.keyThatStays,e1,e2,kU]
  simp only[execOp,Instr.mapUpdate,Sem.run_bind,run_underlying hu,Result.andThen_ok,q2,nG q3,vk,c1,c2,hks,EE _ q3,Sem.run_pure]
theorem Gs {n ctr:Nat} {t ty kt et:TypeId} {m k x:Operand} {tm:TS} {hp:HS} {id clock:Nat} {es:cz} {kv:Value} {c:C} (hm:Gt n tm m= .w (.one (.map id))) (hk:(Gt n tm k).val? =some kv) (hx:BH (Gt n tm x) c) (hu:P.underlying t=some (.map kt et)) (hf:find hp id=some (.mp es clock))
 (oR:gX P false kt kv es=some none):gR P n (.mapUpdate t m k x) ty tm hp ctr .undef (jJ hp id (.mp (es++[(kv,c,clock)]) (clock+1))):=by
 rintro⟨dst',op',ty',pos',after',guard'⟩ rfl rfl
 intro M A ρ a w hr
 have vm:=hr.get m
 rw[jx,hm]at vm
 have vk:=V.bn hk (by have:=hr.get k;rw[jx]at this;exact this)
 have vx:=hx.spec (by have:=hr.get x;rw[jx]at this;exact this)
 obtain⟨b,en,q1,q2,q3,q4,q5⟩:=gF hr hf vm
 obtain⟨c1,o2,c2,c3,c4⟩:=dl oR (fo (id:=id) (clock:=clock) q4 q5) w
 cases o2 with
 |some p=>simp at c3
 |none=>
  obtain⟨r1,r2⟩:=Rel.tZ (st:=⟨n,tm,hp⟩) (clock':=clock+1) (es':=es++[(kv,c,clock)]) (en':=en.push {key:=kv,val:=a.eval x,born:=clock}) hr hf q1 q3 (by simp[q4]) (fun i k' c' n' hi'=>by
   by_cases hlt:i < es.length
   · rw[List.getElem?_append_left hlt]at hi'
     obtain⟨e,g1,g2,g3,g4,g5⟩:=q5 i k' c' n' hi'
     exact⟨e,by rw[Array.getElem?_push,if_neg (by omega)];exact g1,g2,g3,g4,g5⟩
   · rw[List.getElem?_append_right (by omega)]at hi'
     have hz:i - es.length=0:=by
      have:=(List.getElem?_eq_some_iff.1 hi').1
      simp at this
      omega
     rw[hz]at hi'
     simp only[List.getElem?_cons_zero,Option.some.injEq,Prod.mk.injEq]at hi'
     obtain⟨rfl,rfl,rfl⟩:=hi'
     exact⟨⟨kv,a.eval x,clock⟩,by rw[Array.getElem?_push,if_pos (by omega)],rfl,rfl,vx.1,vx.2⟩)
  refine⟨undef,_,A,ρ, .inr ⟨?_,rfl⟩,r1.sub cK,trivial,r2,cU.refl _,bE.refl _ _⟩
  simp only[execOp,Instr.mapUpdate,Sem.run_bind,run_underlying hu,Result.andThen_ok,q2,nG q3,vk,c1,c2,EE _ q3,Sem.run_pure]
def og (es:cz) (clock:Nat) (kv:Value) (c:C) (es':cz) (clock':Nat):Prop:=
 (∃i p,es[i]? =some p∧p.1=kv∧es'=es.set i (kv,c,p.2.2)∧clock'=clock)∨((∀p,p∈es→p.1≠kv)∧es'=es++[(kv,c,clock)]∧clock'=clock+1)
theorem BZ {n ctr:Nat} {t ty kt et:TypeId} {m k x:Operand} {tm:TS} {hp:HS} {id clock:Nat} {es:cz} {kv:Value} {c:C} {Kd:Value→Prop} {K:V→HS→Prop} (hm:Gt n tm m= .w (.one (.map id))) (hf:find hp id=some (.mp es clock)) (hk:(Gt n tm k).val? =some kv) (hx:BH (Gt n tm x) c) (hu:P.underlying t=some (.map kt et))
 (hK:gZ P kt Kd) (hkv:Kd kv) (jg: ∀p,p∈es→Kd p.1) (h: ∀es' clock',og es clock kv c es' clock'→K .undef (jJ hp id (.mp es' clock'))):
 ∃v aF,gR P n (.mapUpdate t m k x) ty tm hp ctr v aF∧K v aF:=by
 rcases hK.at_ es kv false jg hkv with⟨h3,h4⟩|⟨i,⟨k0,c0,born⟩,h3,h4,h5⟩
 · exact⟨_,_,Gs hm hk hx hu hf h3,h _ _ (.inr ⟨h4,rfl,rfl⟩)⟩
 · simp only at h5
   subst h5
   exact⟨_,_,Jm hm hk hx hu hf h3 h4 (hK.same _ hkv),h _ _ (.inl ⟨i,_,h4,rfl,rfl,rfl⟩)⟩
theorem Rh {n ctr:Nat} {t ty kt et:TypeId} {m k x:Operand} {tm:TS} {hp:HS} {id clock:Nat} {es:cz} {kv:Value} {c:C} {Kd:Value→Prop} {K:V→HS→Prop} (hm:Gt n tm m= .w (.one (.map id))) (hf:find hp id=some (.mp es clock)) (hk:(Gt n tm k).val? =some kv) (hx:Gt n tm x= .w (.one c)) (hu:P.underlying t=some (.map kt et))
 (hK:gZ P kt Kd) (hkv:Kd kv) (jg: ∀p,p∈es→Kd p.1) (h: ∀es' clock',og es clock kv c es' clock'→K .undef (jJ hp id (.mp es' clock'))):
 ∃v aF,gR P n (.mapUpdate t m k x) ty tm hp ctr v aF∧K v aF:=BZ hm hf hk (.inl hx) hu hK hkv jg h
theorem og.all {es es':cz} {clock clock':Nat} {kv:Value} {c:C} {Kd:Value→Prop} {Pc:C→Prop} (h:og es clock kv c es' clock') (jg:lO Kd Pc es) (hk:Kd kv) (hc:Pc c):lO Kd Pc es':=by
 rcases h with⟨i,p,_,_,rfl,_⟩|⟨_,rfl,_⟩
 · intro p hp
   rcases List.mem_or_eq_of_mem_set hp with hp|rfl
   · exact jg p hp
   · exact⟨hk,hc⟩
 · intro p hp
   simp only[List.mem_append,List.mem_singleton]at hp
   rcases hp with hp|rfl
   · exact jg p hp
   · exact⟨hk,hc⟩
theorem FQ {n ctr:Nat} {t ty kt et:TypeId} {m k x:Operand} {tm:TS} {hp:HS} {id clock:Nat} {es:cz} {kv:Value} {c:C} {Kd:Value→Prop} {Pc:C→Prop} {K:V→HS→Prop} (hm:Gt n tm m= .w (.one (.map id))) (hf:find hp id=some (.mp es clock)) (hk:(Gt n tm k).val? =some kv) (hx:Gt n tm x= .w (.one c)) (hu:P.underlying t=some (.map kt et))
 (hK:gZ P kt Kd) (hkv:Kd kv) (jg:lO Kd Pc es) (hc:Pc c) (h: ∀es' clock',lO Kd Pc es'→K .undef (jJ hp id (.mp es' clock'))):
 ∃v aF,gR P n (.mapUpdate t m k x) ty tm hp ctr v aF∧K v aF:=
 Rh hm hf hk hx hu hK hkv jg.keys (fun es' clock' hp=>h es' clock' (hp.all jg hkv hc))
theorem lO.ak {Kd:Value→Prop} {Pc:C→Prop} {es:cz} (h:lO Kd Pc es) {f:C→C} (hf: ∀c,Pc c→Pc (f c)):lO Kd Pc (es.map fun p=>(p.1,f p.2.1,p.2.2)):=by
 intro p hp
 simp only[List.mem_map]at hp
 obtain⟨q,hq,rfl⟩:=hp
 exact⟨(h q hq).1,hf _ (h q hq).2⟩
def BL (c:C):Prop:= ∃b,c= .t (.val (.bool b))
end Go.aS
end
section
namespace Go.aS.Cd
open Go Go.Proofs
set_option maxRecDepth 100000
set_option maxHeartbeats 1000000
theorem uSB:Tryz.prog.underlying 250=some (.map 9 4):=by kernel_rfl
theorem zBo:mm Tryz.prog 4=some (.bool false):=by kernel_rfl
theorem kSt:gZ Tryz.prog 9 Ot:=EQ (by kernel_rfl)
theorem BL.ak {c:C} (h:BL c) (f:Nat→Option Nat):BL (c.ak f):=by
 obtain⟨b,rfl⟩:=h
 exact⟨b,rfl⟩
theorem pq (xs:Lz) (a:Int) (hx:Is xs) (hl:xs.length≤maxLen):Tg 158 [oL 1 xs,oI a] GI:=by
 refine ae Tryz.func158 ?_
 repeat' (conv=>whnf
          first
  |(refine aA (fun h=>?_) (fun h=>?_))
  |(refine au hx (by first|omega|exact cC (by first|omega|(simp (disch:=omega) only[aa];omega))|(simp (disch:=omega) only[aa];omega)) (by first|omega|exact cr (by omega)|(simp (disch:=omega) only[aa];omega)) ?_;rintro _ ⟨b,rfl⟩ hs)
  |exact gI rfl rfl
  |(apply aL [0,1,7,8] [] [8] (RI xs.length) (xs.length) [iV .i64 0];(conv=>whnf);exact⟨rfl,rfl,rfl,rfl⟩;exact rfl;exact rfl;exact RI.zero;rintro _ _ ⟨i,hi,rfl,rfl⟩)
  |(refine aj [0,1,7,8] [] ?_;(conv=>whnf);exact⟨rfl,_,[_],RI.succ (N:=xs.length) (i:=i) (by omega) hl,rfl,rfl,rfl,by omega⟩))
 all_goals (conv=>whnf)
theorem mz (xs:Lz) (a:Int) (hx:Is xs) (hl:xs.length≤maxLen):Tg 131 [oL 1 xs,oI a] GB:=by
 refine ae Tryz.func131 ?_
 repeat' (conv=>whnf
          first
  |(refine ag rfl (pq xs _ hx hl) ?_;rintro _ ⟨n,rfl⟩)
  |exact gB rfl rfl)
 all_goals (conv=>whnf)
def Ue (e:List T):Prop:= ∃a b c,e=[tI a,tI b,tB c]
def Ug (e:List T):Prop:= ∃a b c d q f,e=[tI a,tI b,tI c,tI d,tB q,tI f]
def Ui (e:List T):Prop:= ∃nm m t af us,e=[.val (.string nm),tI m,tI t, .av 1 af, .av 1 us]∧nm.size≤maxLen∧(Is af∧af.length≤maxLen)∧Is us∧us.length≤maxLen
abbrev jt (sn:ByteArray) (bk ms ps us ss os:Lz):W:= .agg [.t (.val (.string sn)), .t (.av 1 bk), .t (.av 1 ms), .t (.av 7 ps), .t (.av 3 us), .t (.av 6 ss), .t (.av 5 os)]
structure iT (sn:ByteArray) (bk ms ps us ss os:Lz):Prop where
 G8:sn.size≤maxLen
 G7:T0 bk
 XK:bk.length≤maxLen
 Yb:Is ms
 hml:ms.length≤maxLen
 hps: ∀e,e∈ps→KM e
 jv:ps.length≤maxLen
 fR: ∀e,e∈us→Ue e
 IE:us.length≤maxLen
 hss: ∀e,e∈ss→Ug e
 JN:ss.length≤maxLen
 hos: ∀e,e∈os→Ui e
 S1:os.length≤maxLen
def RMs (row:List C) (N:Nat) (m:Nat) (vs:List V) (hq:HS):Prop:= ∃ (i:Nat) (es:cz) (c:Nat),i≤N∧lO Ot BL es∧m=N - i∧vs=[iV .i64 (i:Int)]∧hq=[(4, .row 7 [row]),(8, .mp es c)]
abbrev TX (bk ms ps us ss os:Lz):Prop:=(ms.length=bk.length∧1≤bk.length)∧(bk.length≤12∧ps.length≤12∧us.length≤12)∧ss.length≤24∧os.length≤16
theorem qy (sn:ByteArray) (bk ms ps us ss os:Lz) (hS:iT sn bk ms ps us ss os):Tg 97 [jt sn bk ms ps us ss os] (nP (fun n=>n=0→TX bk ms ps us ss os)):=by
 have sU:=hS.XK
 have Cr:=hS.hml
 refine ae Tryz.func97 ?_
 repeat' (conv=>whnf
          first
  |(refine aA (fun h=>?_) (fun h=>?_))
  |(refine bR (fun h=>?_) (fun h=>?_))
  |(refine aG (fun h=>?_) (fun h=>?_))
  |(refine au (xs:=bk) hS.G7 (by omega) (by omega) ?_;rintro _ ⟨s,rfl,hsz⟩ hs)
  |(refine au (xs:=ms) hS.Yb (by omega) (by omega) ?_;rintro _ ⟨a,rfl⟩ hs)
  |(refine ag rfl (ph sn hS.G8) ?_;rintro _ ⟨b,rfl⟩)
  |(refine ag rfl (yu s hsz) ?_;rintro _ ⟨b,rfl⟩)
  |(refine ag rfl (mz ms _ hS.Yb Cr) ?_;rintro _ ⟨b,rfl⟩)
  |(refine qp ?_)
  |(refine IY rfl rfl rfl uSB zBo kSt ⟨_,rfl⟩ hM ⟨false,rfl⟩ ?_;rintro _ ⟨b,rfl⟩)
  |(refine FQ rfl rfl rfl rfl uSB kSt ⟨_,rfl⟩ hM ⟨true,rfl⟩ ?_;rintro Fm c2 YO)
  |(refine iK rfl rfl (fun h0=>?_);first|(exfalso;omega)|omega|exact⟨⟨by omega,by omega⟩,⟨by omega,by omega,by omega⟩,by omega,by omega⟩)
  |(apply aL [85,86,87] [] [87] (RI ms.length) (ms.length) [iV .i64 0];(conv=>whnf);exact⟨rfl,rfl,rfl,rfl⟩;exact rfl;exact rfl;exact RI.zero;rintro _ _ ⟨i,hi,rfl,rfl⟩)
  |(refine aj [85,86,87] [] ?_;(conv=>whnf);exact⟨rfl,_,[_],RI.succ (N:=ms.length) (i:=i) (by omega) Cr,rfl,rfl,rfl,by omega⟩)
  |(apply bW [1,5,46,47,48] [] [48] (RMs [.t (.val (.string sn)), .t (.av 1 bk), .t (.av 1 ms), .t (.av 7 ps), .t (.av 3 us), .t (.av 6 ss), .t (.av 5 os)] bk.length) (bk.length) [iV .i64 0];(conv=>whnf);exact⟨rfl,rfl,rfl,rfl⟩;exact rfl;exact rfl;exact⟨0,_,_,by omega,lO.nil,rfl,rfl,rfl⟩;rintro _ _ _ ⟨i,es,c,hi,hM,rfl,rfl,rfl⟩)
  |(refine aj [1,5,46,47,48] [] ?_;(conv=>whnf);exact⟨rfl,_,[_],⟨i+1,_,_,by omega,YO.ak (fun c hc=>BL.ak hc _),rfl,by simp only[maxLen]at sU;rw[bj (by omega) (by omega)];rfl,rfl⟩,rfl,rfl,by omega⟩)
  |(apply aL [1,21,22,23] [] [23] (RI bk.length) (bk.length) [iV .i64 0];(conv=>whnf);exact⟨rfl,rfl,rfl,rfl⟩;exact rfl;exact rfl;exact RI.zero;rintro _ _ ⟨i,hi,rfl,rfl⟩)
  |(refine aj [1,21,22,23] [] ?_;(conv=>whnf);exact⟨rfl,_,[_],RI.succ (N:=bk.length) (i:=i) (by omega) sU,rfl,rfl,rfl,by omega⟩))
 all_goals (conv=>whnf)
def Vo (N:Nat) (e:List T):Prop:= ∃a b c,e=[tI a,tI b,tB c]∧(0≤a∧a < (N:Int))∧1≤b∧b≤4
def KG (us:Lz) (N i:Nat):Prop:= ∀j e,j < i→us[j]? =some e→Vo N e
theorem KG.all {us:Lz} {N i:Nat} (h:KG us N i) (hi:us.length≤i): ∀e,e∈us→Vo N e:=by
 intro e he
 obtain⟨j,hj,rfl⟩:=List.getElem_of_mem he
 exact h j _ (by omega) (by simp[hj])
def Vs (us:Lz) (N:Nat) (m:Nat) (vs:List V):Prop:= ∃i:Nat,i≤us.length∧KG us N i∧m=us.length - i∧vs=[iV .i64 (i:Int)]
theorem Vs.next {us:Lz} {N i:Nat} {a b:Int} {c:Bool} (hi:(i:Int) < (us.length:Int)) (hl:us.length≤maxLen) (h:KG us N i) (hs:us[((i:Int)).toNat]? =some [tI a,tI b,tB c]) (ha:0≤a) (ha2:a < (N:Int)) (hb:1≤b) (nw:b≤4):Vs us N (us.length - (i+1)) [iV .i64 (IntKind.i64.wrap ((i:Int)+1))]:=by
 refine⟨i+1,by omega,fun j e hj he=>?_,rfl,by simp only[maxLen]at hl;rw[bj (by omega) (by omega)];rfl⟩
 by_cases eF:j=i
 · subst eF
   have hs':us[j]? =some [tI a,tI b,tB c]:=by simpa using hs
   rw[hs']at he
   exact⟨a,b,c,(Option.some.inj he).symm,⟨ha,ha2⟩,hb,nw⟩
 · exact h j e (by omega) he
theorem yw (sn:ByteArray) (bk ms ps us ss os:Lz) (hp: ∀e,e∈ps→KM e) (a b:Int):Tg 99 [jt sn bk ms ps us ss os,oI a,oI b] GB:=by
 refine ae Tryz.func99 ?_
 repeat' (conv=>whnf
          first
  |(refine aA (fun h=>?_) (fun h=>?_))
  |(refine au (xs:=ps) hp (by omega) (by omega) ?_;rintro _ ⟨nm,es,g,ns,cs,ws,mt,rfl,hnm,⟨he,hm⟩,⟨hn,_⟩,⟨hc,ew⟩,hw,z7⟩ hs)
  |exact gB rfl rfl)
 all_goals (conv=>whnf)
abbrev ZP (bk ms ps us ss os:Lz):Prop:=TX bk ms ps us ss os∧ ∀e,e∈us→Vo ps.length e
theorem jK (sn:ByteArray) (bk ms ps us ss os:Lz) (hS:iT sn bk ms ps us ss os):Tg 74 [jt sn bk ms ps us ss os] (nP (fun n=>n=0→ZP bk ms ps us ss os)):=by
 have sU:=hS.jv
 have Cr:=hS.IE
 have hz3:=hS.JN
 refine ae Tryz.func74 ?_
 repeat' (conv=>whnf
          first
  |(refine aA (fun h=>?_) (fun h=>?_))
  |(refine bR (fun h=>?_) (fun h=>?_))
  |(refine aG (fun h=>?_) (fun h=>?_))
  |(refine eW (Nat.zero_le _) (by omega) ?_)
  |(refine au (xs:=ps) hS.hps (by omega) (by omega) ?_;rintro _ ⟨nm,es,g,ns,cs,ws,mt,rfl,hnm,⟨he,hm⟩,⟨hn,_⟩,⟨hc,ew⟩,hw,z7⟩ hs)
  |(refine au (xs:=us) hS.fR (by omega) (by omega) ?_;rintro _ ⟨a,b,c,rfl⟩ hs)
  |(refine au (xs:=ss) hS.hss (by omega) (by omega) ?_;rintro _ ⟨a,b,c,d,q,f,rfl⟩ hs)
  |(refine And.intro (by kernel_rfl) ?_)
  |(refine And.intro (by omega) ?_)
  |(refine ag rfl (qy sn bk ms ps us ss os hS) ?_;rintro _ ⟨e,rfl,hW⟩)
  |(refine aB rfl (qz _ (dR hS.hps _ _) (nu sU _ _) nm es g ns cs ws mt hnm he hm hn hc ew hw z7) ?_;rintro _ ⟨e,rfl⟩)
  |(refine ag rfl (yw sn bk ms ps us ss os hS.hps _ _) ?_;rintro _ ⟨b,rfl⟩)
  |(refine iK rfl rfl (fun h0=>?_);first|(exfalso;omega)|exact⟨hW (by omega),hp.all (by omega)⟩)
  |(apply aL [1,64,65,66] [] [66] (RI ss.length) (ss.length) [iV .i64 0];(conv=>whnf);exact⟨rfl,rfl,rfl,rfl⟩;exact rfl;exact rfl;exact RI.zero;rintro _ _ ⟨i,hi,rfl,rfl⟩)
  |(refine aj [1,64,65,66] [] ?_;(conv=>whnf);exact⟨rfl,_,[_],RI.succ (N:=ss.length) (i:=i) (by omega) hz3,rfl,rfl,rfl,by omega⟩)
  |(apply aL [1,35,36,37] [] [37] (Vs us ps.length) (us.length) [iV .i64 0];(conv=>whnf);exact⟨rfl,rfl,rfl,rfl⟩;exact rfl;exact rfl;exact⟨0,by omega,fun j e hj=>by omega,rfl,rfl⟩;rintro _ _ ⟨i,hi,hp,rfl,rfl⟩)
  |(refine aj [1,35,36,37] [] ?_;(conv=>whnf);exact⟨rfl,_,[_],Vs.next (by omega) Cr hp hs (by omega) (by omega) (by omega) (by omega),rfl,rfl,rfl,by omega⟩)
  |(apply aL [1,17,18,19] [] [19] (RI ps.length) (ps.length) [iV .i64 0];(conv=>whnf);exact⟨rfl,rfl,rfl,rfl⟩;exact rfl;exact rfl;exact RI.zero;rintro _ _ ⟨i,hi,rfl,rfl⟩)
  |(refine aj [1,17,18,19] [] ?_;(conv=>whnf);exact⟨rfl,_,[_],RI.succ (N:=ps.length) (i:=i) (by omega) sU,rfl,rfl,rfl,by omega⟩))
 all_goals (conv=>whnf)
end Go.aS.Cd
end
section
namespace Go.aS.Cd
open Go Go.Proofs
set_option maxRecDepth 100000
set_option maxHeartbeats 2000000
theorem aPc:iQ Tryz.prog 148=some true:=by kernel_rfl
theorem ZZ:cG Tryz.prog 148=some 7:=by kernel_rfl
abbrev TY (us:Lz) (N:Nat) (Dg:Int):Prop:=(0≤Dg∧Dg < (us.length:Int))∧ ∀e,e∈us→Vo N e
def GOl (us:Lz) (N:Nat) (Dg:Int) (ts:List W):Prop:= ∃gs nm es g ns cs ws mt e,ts=[oL 2 gs,R7 nm es g ns cs ws mt,oI e]∧(e=0→(sD gs∧jD gs∧gs.length≤maxLen)∧(Is ws∧ws.length≤maxLen)∧TY us N Dg)
theorem lP (sn:ByteArray) (bk ms ps us ss os:Lz) (hS:iT sn bk ms ps us ss os) (size Dg:Int):Tg 134 [jt sn bk ms ps us ss os,oI size,oI Dg] (GOl us ps.length Dg):=by
 refine aK ?_
 refine ae Tryz.func134 ?_
 repeat' (conv=>whnf
          first
  |(refine aA (fun h=>?_) (fun h=>?_))
  |(refine bR (fun h=>?_) (fun h=>?_))
  |(refine au (xs:=us) (hC (by omega)).2 (by omega) (by omega) ?_;rintro _ ⟨a,b,c,rfl,⟨ha,ha2⟩,hb⟩ hs)
  |(refine au (xs:=ps) hS.hps ha ha2 ?_;rintro _ ⟨nm,es,g,ns,cs,ws,mt,rfl,hnm,⟨he,hm⟩,⟨hn,_⟩,⟨hc,ew⟩,hw,z7⟩ bO)
  |(refine au (xs:=ms) hS.Yb (by omega) (by have:=(hC (by omega)).1.1.1;omega) ?_;rintro _ ⟨m,rfl⟩ IF)
  |(refine And.intro (by kernel_rfl) ?_)
  |(refine ag rfl (jK sn bk ms ps us ss os hS) ?_;rintro _ ⟨e,rfl,hC⟩)
  |(refine aB rfl (lE (.val (.string nm)) es (tI g) ns cs ws (tB mt) _ he hm hc ew) ?_;rintro _ ⟨gs,e2,rfl,hG⟩)
  |exact Fb rfl (bP 2 rfl) (bF aPc ZZ rfl rfl (Nat.le_refl _) rfl (fc (.cons (.nil 2) (fc (.cons (.nil 2) (.cons (.nil 2) (.cons (.nil 1) (fc .nil)))))))) (bX rfl) ⟨_,_,_,_,_,_,_,_,_,rfl,fun h0=>absurd h0 (by omega)⟩
  |exact Fb rfl (bX rfl) (bF aPc ZZ rfl rfl (Nat.le_refl _) rfl (cQ.refl _)) (bX rfl) ⟨gs,_,es,_,ns,cs,ws,_,_,rfl,fun h0=>⟨⟨(hG h0).1.1,(hG h0).1.2.1,by have:=(hG h0).1.2.2;omega⟩,⟨hw,z7⟩,⟨by omega,by omega⟩,(hC (by omega)).2⟩⟩)
 all_goals (conv=>whnf)
theorem xl (sn:ByteArray) (bk ms ps us ss os:Lz) (hS:iT sn bk ms ps us ss os) (size Dg:Int):Tg 100 [jt sn bk ms ps us ss os,oI size,oI Dg] (KP 2 (fun xs=>vX xs∧TY us ps.length Dg)):=by
 refine aK ?_
 refine ae Tryz.func100 ?_
 repeat' (conv=>whnf
          first
  |(refine bR (fun h=>?_) (fun h=>?_))
  |(refine ag rfl (lP sn bk ms ps us ss os hS size Dg) ?_;rintro _ ⟨gs,nm,es,g,ns,cs,ws,mt,e,rfl,hO⟩)
  |(refine ag rfl (th gs ws (hO (by omega)).1.2.1 (hO (by omega)).1.2.2 (hO (by omega)).2.1.1 (hO (by omega)).2.1.2) ?_;rintro _ ⟨xs,e2,rfl,hA⟩)
  |exact dA rfl (bP 2 rfl) (bX rfl) ⟨_,_,rfl,fun h0=>absurd h0 (by omega)⟩
  |exact dA rfl (bX rfl) (bX rfl) ⟨xs,e2,rfl,fun h0=>⟨hA h0,(hO (by omega)).2.2⟩⟩)
 all_goals (conv=>whnf)
theorem po (sn:ByteArray) (bk ms ps us ss os:Lz) (hS:iT sn bk ms ps us ss os) (size Dg:Int):Tg 101 [jt sn bk ms ps us ss os,oI size,oI Dg] Uk:=by
 refine aK ?_
 refine ae Tryz.func101 ?_
 repeat' (conv=>whnf
          first
  |(refine bR (fun h=>?_) (fun h=>?_))
  |(refine au (xs:=gs) (hO (by omega)).1.1.2.1 (by omega) (by have:=(hO (by omega)).1.1.1;omega) ?_;rintro _ ⟨s,xs,rfl,hL⟩ hs)
  |(refine au (xs:=xs) hL.Em (by omega) (by have:=hL.1;omega) ?_;rintro _ ⟨a,b,rfl⟩ hs)
  |(refine ag rfl (lP sn bk ms ps us ss os hS size Dg) ?_;rintro _ ⟨gs,nm,es,g,ns,cs,ws,mt,e,rfl,hO⟩)
  |exact dA rfl (bF Zb UC rfl rfl (Nat.le_refl _) rfl (cQ.refl _)) (bX rfl) ⟨(_,_),_,rfl⟩)
 all_goals (conv=>whnf)
def ZO (N:Nat) (e:List T):Prop:= ∃g u k f q x y,e=[tI g,tI u,tI k,tB f,tI q,tI x,tI y]∧0≤u∧u < (N:Int)
abbrev Ed (N:Nat) (xs:Lz):Prop:= ∀e,e∈xs→ZO N e
theorem Ed.snoc {N:Nat} {xs:Lz} (h:Ed N xs) (g u k q x y:Int) (f:Bool) (h0:0≤u) (h1:u < (N:Int)):Ed N (xs++[[tI g,tI u,tI k,tB f,tI q,tI x,tI y]]):=by
 intro e he
 simp only[List.mem_append,List.mem_singleton]at he
 rcases he with he|rfl
 · exact h e he
 · exact⟨g,u,k,f,q,x,y,rfl,h0,h1⟩
def VQ (N:Nat) (m:Nat) (ws:List V) (xss:List (Lz)):Prop:= ∃ (i:Nat) (zs:Lz),i≤N∧m=N - i∧ws=[bG 4 7 zs.length,iV .i64 (i:Int)]∧xss=[zs]∧zs.length≤4 * i∧Ed N zs
theorem VQ.next {N i:Nat} {zs:Lz} (h:(i:Int) < (N:Int)) (hN:N≤12) (hp:zs.length≤4 * (i+1)) (hS:Ed N zs):VQ N (N - (i+1)) [bG 4 7 zs.length,iV .i64 (IntKind.i64.wrap ((i:Int)+1))] [zs]:=
 ⟨i+1,_,by omega,rfl,by rw[bj (by omega) (by omega)];rfl,rfl,hp,hS⟩
def VS (N:Nat) (row:List T) (b L:Nat) (m:Nat) (ws:List V) (xss:List (Lz)):Prop:= ∃ (j:Nat) (zs:Lz),j≤L∧m=L - j∧ws=[bG 4 7 zs.length,iV .i64 (j:Int)]∧xss=[zs,[row]]∧zs.length≤b+j∧Ed N zs
theorem VS.next {N b L j k:Nat} {row:List T} {zs:Lz} {u:Int} {g q x y:Int} {f:Bool} (h:j < L) (hL:L≤4) (hp:zs.length≤b+j) (hS:Ed N zs) (h0:0≤u) (h1:u < (N:Int)) (hk:k=zs.length+1):VS N row b L (L - (j+1)) [bG 4 7 k,iV .i64 (IntKind.i64.wrap ((j:Int)+1))] [zs++[[tI g,tI u,tI (j:Int),tB f,tI q,tI x,tI y]],[row]]:=
 ⟨j+1,_,by omega,rfl,by rw[bj (by omega) (by omega),hk];simp,rfl,by simp;omega,hS.snoc g u _ q x y f h0 h1⟩
theorem pn (sn:ByteArray) (bk ms ps us ss os:Lz) (hS:iT sn bk ms ps us ss os):Tg 75 [jt sn bk ms ps us ss os] (GL 7 (fun zs=>Ed us.length zs∧zs.length≤48)):=by
 refine aK ?_
 refine ae Tryz.func75 ?_
 repeat' (conv=>whnf
          first
  |(refine aA (fun h=>?_) (fun h=>?_))
  |(refine bR (fun h=>?_) (fun h=>?_))
  |(refine aG (fun h=>?_) (fun h=>?_))
  |(refine au (xs:=us) (hC (by omega)).2 (by omega) (by omega) ?_;rintro _ ⟨a,b,c,rfl,⟨ha,ha2⟩,hb,nw⟩ hs)
  |(refine And.intro ⟨by simp[tr],by have:=(hC (by omega)).1.2.1;simp[tr,aU];omega,by have:=(hC (by omega)).1.2.1;simp[tr,maxLen];omega⟩ ?_)
  |(refine And.intro (by omega) ?_)
  |(refine ag rfl (jK sn bk ms ps us ss os hS) ?_;rintro _ ⟨e,rfl,hC⟩)
  |exact mh rfl (bP 7 rfl) ⟨[],rfl,fun e he=>by simp at he,by simp⟩
  |exact mh rfl (eR rfl rfl (xs:=zs) rfl (by omega)) ⟨_,rfl,by rw[fE rfl];exact⟨hz,by have:=(hC (by omega)).1.2.1;omega⟩⟩
  |(apply bH [3,4,5,12,13,14,20,21] [] [3,21] [(4,7),(8,3)] (VS us.length [tI a,tI b,tB c] (4 * i) b.toNat) (b.toNat) [bG 4 7 zs.length,iV .i64 0];(conv=>whnf);exact⟨rfl,rfl,rfl,rfl⟩;exact rfl;exact rfl;exact .cons (az.ak (xs:=zs) rfl _) (.cons (az.ak (xs:=[[tI a,tI b,tB c]]) rfl _) .nil);exact⟨0,zs,by omega,rfl,rfl,rfl,by omega,hz⟩;rintro _ _ _ ⟨j,KW,hj,rfl,rfl,rfl,Xr,Cr⟩)
  |(refine aj [3,4,5,12,13,14,20,21] [] ?_;(conv=>whnf);exact⟨rfl,_,[_,_],_, .cons (az.ak (az.snoc (xs:=KW) rfl [tI _,tI _,tI _,tB _,tI _,tI _,tI _]) _) (.cons (az.ak (xs:=[[tI a,tI b,tB c]]) rfl _) .nil),VS.next (by omega) (by omega) Xr Cr (by omega) (by omega) (by simp[tr]),rfl,rfl,by omega⟩)
  |(apply eP [3,12,13,14] [] [3,14] [(4,7)] (VQ us.length) (us.length) [bG 4 7 0,iV .i64 0] (dP.iU 3 7 rfl);(conv=>whnf);exact⟨rfl,rfl,rfl,rfl⟩;exact rfl;exact rfl;exact .cons (az.ak az.nil _) .nil;exact⟨0,[],by omega,rfl,rfl,rfl,by simp,fun e he=>by simp at he⟩;rintro _ _ _ ⟨i,zs,hi,rfl,rfl,rfl,jS,hz⟩)
  |(refine aj [3,12,13,14] [] ?_;(conv=>whnf);exact⟨rfl,_,[_,_],_, .cons (az.ak (xs:=KW) rfl _) .nil,VQ.next (by omega) (by have:=(hC (by omega)).1.2.1;omega) (by omega) Cr,rfl,rfl,by omega⟩))
 all_goals (conv=>whnf)
end Go.aS.Cd
end
section
namespace Go.aS
open Go
variable {P:Program}
theorem Hy {ids:List Nat} {ctr:Nat} (hlt: ∀id,id∈ids→id < ctr) (E0:ids.Nodup): ∀i j k,fS ids ctr i=some k→fS ids ctr j=some k→i=j:=by
 intro i j k hi hj
 unfold fS at hi hj
 split at hi
 · split at hj
   · simp only[Option.some.injEq]at hi hj
     cases h1:ids[i]? with
     |none=>
      rw[h1]at hi
      simp only[Option.getD_none]at hi
      cases h2:ids[j]? with
      |none=>
       rw[h2]at hj
       simp only[Option.getD_none]at hj
       omega
      |some b=>
       rw[h2]at hj
       simp only[Option.getD_some]at hj
       have:=hlt b (List.mem_of_getElem? h2)
       omega
     |some a=>
      rw[h1]at hi
      simp only[Option.getD_some]at hi
      cases h2:ids[j]? with
      |none=>
       rw[h2]at hj
       simp only[Option.getD_none]at hj
       have:=hlt a (List.mem_of_getElem? h1)
       omega
      |some b=>
       rw[h2]at hj
       simp only[Option.getD_some]at hj
       obtain⟨p1,e1⟩:=List.getElem?_eq_some_iff.1 h1
       obtain⟨p2,e2⟩:=List.getElem?_eq_some_iff.1 h2
       exact(List.getElem_inj E0).1 (by rw[e1,e2,hi,hj])
   · simp at hj
 · simp at hi
theorem jz {ids:List Nat} {k:Nat} (hn:bz ids k=none): ∀ (hp:HS),find (iN ids hp) k=find hp k
 | []=>rfl
 |(q,c)::r=>by
  simp only[iN]
  split
  · rename_i j hj
    rw[aq,if_neg,jz hn r]
    intro e
    subst e
    rw[hn]at hj
    simp at hj
  · rw[aq,aq,jz hn r]
theorem oO {g:Nat→Option Nat}: ∀ {hout:HS} {k:Nat} {b:bi},find (eM g hout) k=some b→ ∃j b',find hout j=some b'∧g j=some k
 | [],k,b,h=>by simp[eM,find]at h
 |(q,c)::r,k,b,h=>by
  simp only[eM]at h
  split at h
  · rename_i k' hk'
    rw[aq]at h
    split at h
    · rename_i e
      subst e
      exact⟨q,c,by rw[aq,if_pos rfl],hk'⟩
    · obtain⟨j,b',h1,h2⟩:=oO h
      by_cases e:q=j
      · subst e
        exact⟨q,c,by rw[aq,if_pos rfl],h2⟩
      · exact⟨j,b',by rw[aq,if_neg e];exact h1,h2⟩
  · obtain⟨j,b',h1,h2⟩:=oO h
    by_cases e:q=j
    · subst e
      exact⟨q,c,by rw[aq,if_pos rfl],h2⟩
    · exact⟨j,b',by rw[aq,if_neg e];exact h1,h2⟩
theorem rU {g:Nat→Option Nat} {k:Nat}: ∀ {hout:HS} {j:Nat} {b:bi},find hout j=some b→g j=some k→ ∃b',find (eM g hout) k=some b'
 | [],j,b,h,_=>by simp[find]at h
 |(q,c)::r,j,b,h,hg=>by
  rw[aq]at h
  split at h
  · rename_i e
    subst e
    simp only[eM,hg]
    exact⟨_,by rw[aq,if_pos rfl]⟩
  · obtain⟨b',h'⟩:=rU h hg
    simp only[eM]
    split
    · rw[aq]
      split
      · exact⟨_,rfl⟩
      · exact⟨b',h'⟩
    · exact⟨b',h'⟩
theorem uX {f:Nat→Option Nat} {hp:HS}: ∀ {ids:List Nat} {j i id:Nat} {b:bi},ids[i]? =some id→(∀ (i' id':Nat),ids[i']? =some id'→ ∃b',find hp id'=some b')→find hp id=some b→find (cJ f hp j ids) (j+i)=some (b.ak f)
 | [],j,i,id,b,h,_,_=>by simp at h
 |x::r,j,i,id,b,h,hall,hb=>by
  simp only[cJ]
  obtain⟨bx,U0⟩:=hall 0 x rfl
  rw[U0]
  cases i with
  |zero=>
   simp only[List.getElem?_cons_zero,Option.some.injEq]at h
   subst h
   rw[hb]at U0
   simp only[Option.some.injEq]at U0
   subst U0
   simp[find]
  |succ i=>
   have:find (cJ f hp (j+1) r) (j+1+i)=some (b.ak f):=uX (by simpa using h) (fun i' id' h'=>hall (i'+1) id' (by simpa using h')) hb
   rw[show j+(i+1)=j+1+i by omega,aq,if_neg (by omega)]
   exact this
theorem zO {f:FuncId} {us args:List W} {hp hin:HS} {ctr:Nat} {res:V} (ids:List Nat) (hok:uS ids ctr=true) (hfn:Fn P f args hin res hin)
 (ha:us.map (W.ak (bz ids))=args) (hh:cJ (bz ids) hp 0 ids=hin) (A7: ∀id,id∈ids→ ∃b,find hp id=some b∧(b.ak (bz ids)).ak (fS ids ctr)=b):
 dK P f us hp ctr (res.ak (fS ids ctr)) hp (ctr+4):=by
 have sW:=hok
 simp only[uS,Bool.and_eq_true,decide_eq_true_eq,List.all_eq_true]at sW
 obtain⟨⟨hlen,hlt⟩,E0⟩:=sW
 have hinj:=Hy (ids:=ids) (ctr:=ctr) hlt E0
 intro M A ρ a w n L xs hr hx
 refine(sA ids hok hfn ha hh M A ρ a w n L xs hr hx).mono ?_
 rintro e w' ⟨x,A',ρ',rfl,r1,r2,r3,r4,r5⟩
 refine⟨x,A',ρ',rfl,r1.forget rfl (fun _ _ h=>h) (fun k b hb=>?_),r2,r3,r4,r5⟩
 simp only at hb⊢
 cases hk:bz ids k with
 |none=>
  have hnone:find (eM (fS ids ctr) hin) k=none:=by
   cases hq:find (eM (fS ids ctr) hin) k with
   |none=>rfl
   |some b2=>
    obtain⟨j,b',h1,h2⟩:=oO hq
    rw[←hh]at h1
    obtain⟨i,id,b3,rfl,h3,h4,_⟩:=ca h1
    have hi4:0+i < 4:=by have:=(List.getElem?_eq_some_iff.1 h3).1;omega
    have Yn:i < 4:=by omega
    simp only[fS,Nat.zero_add,h3,Option.getD_some,if_pos Yn,Option.some.injEq]at h2
    subst h2
    exact absurd h3 (ir hk i)
  rw[cM,hnone,Option.none_or,jz hk]
  exact hb
 |some j=>
  have hj:=dW hk
  have hj4:j < 4:=by have:=(List.getElem?_eq_some_iff.1 hj).1;omega
  have hg:fS ids ctr j=some k:=by simp only[fS,if_pos hj4,hj,Option.getD_some]
  have Tk:find hin j=some (b.ak (bz ids)):=by
   rw[←hh]
   have:=uX (f:=bz ids) (hp:=hp) (j:=0) hj (fun i' id' h'=>by
    obtain⟨b',h1,_⟩:=A7 id' (List.mem_of_getElem? h')
    exact⟨b',h1⟩) hb
   simpa using this
  obtain⟨b2,nw⟩:=rU Tk hg
  obtain⟨j',b',g1,g2,g3⟩:=iG hinj nw
  have:=hinj _ _ _ g1 hg
  subst this
  rw[Tk]at g2
  simp only[Option.some.injEq]at g2
  subst g2
  obtain⟨b4,h4,h5⟩:=A7 k (List.mem_of_getElem? hj)
  rw[hb]at h4
  simp only[Option.some.injEq]at h4
  subst h4
  rw[cM,nw,Option.some_or,g3,h5]
end Go.aS
end
section
namespace Go.aS
open Go
variable {P:Program} {M A:Nat→Prop} {ρ:Env} {F:Nat→Prop} {st:St} {a:Act} {w:World}
theorem dP.cut {tm:TS} {hp:HS} {ctr sz:Nat} {rows:List (List C)} (id k:Nat) (hf:find hp id=some (.row sz rows)):dP tm hp ctr tm (jJ hp id (.row sz (rows.take k))) ctr:=by
 intro M A ρ n a w hr
 refine⟨A,ρ,⟨hr.size,hr.defers,hr.tmps,fun q blk hb=>?_,fun Xp mM b1 b2 b h1 h2 r1 r2=>?_,hr.fresh,hr.bound,hr.may,hr.dX⟩,iJ.refl _,fM.refl M A w⟩
 · simp only[bQ]at hb
   split at hb
   · rename_i e
     subst e
     rw[hf]at hb
     simp only[Option.map_some,Option.some.injEq]at hb
     subst hb
     obtain⟨h1,h2⟩:=hr.heap q _ hf
     refine⟨fun e he=>h1 e (List.mem_of_mem_take he),?_⟩
     rcases h2 with⟨b,c,e,k1,k2,k3,k4,k5,k6⟩|⟨k1,k2⟩
     · refine .inl ⟨b,c,e,k1,k2,k3,k4,?_,fun i el j q' hi hj=>k6 i el j q' (Ai hi) hj⟩
       refine Nat.le_trans (Nat.mul_le_mul_right _ ?_) k5
       simp only[List.length_take]
       omega
     · exact .inr ⟨k1,by rw[k2];simp⟩
   · exact hr.heap q blk hb
 · have old: ∀ {q:Nat} {bl:bi},find (jJ hp id (.row sz (rows.take k))) q=some bl→ ∃z8,find hp q=some z8:=by
    intro q bl hq
    simp only[bQ]at hq
    split at hq
    · rename_i e
      subst e
      exact⟨_,hf⟩
    · exact⟨_,hq⟩
   obtain⟨c1,g1⟩:=old h1
   obtain⟨c2,g2⟩:=old h2
   exact hr.inj Xp mM c1 c2 b g1 g2 r1 r2
end Go.aS
end
section
namespace Go.aS
open Go
variable {P:Program} {M A:Nat→Prop} {ρ:Env} {F:Nat→Prop} {st:St} {a:Act} {w:World}
theorem B0 {n ctr:Nat} {op:Op} {ty:TypeId} {tm:TS} {hp:HS} {v:V} {K:V→HS→Prop} (h:bg P (St.get ⟨n,tm,[]⟩) ⟨none,op,ty, "", #[],none⟩=some v) (hk:K v hp):
 ∃v aF,gR P n op ty tm hp ctr v aF∧K v aF:=by
 refine⟨_,_,?_,hk⟩
 rintro⟨dst',op',ty',pos',after',guard'⟩ rfl rfl
 intro M A ρ a w hr
 have hg:St.get ⟨n,tm,hp⟩=St.get ⟨n,tm,[]⟩:=by
  funext x
  exact jx x
 refine gJ (st:=⟨n,tm,hp⟩) ?_ hr cK
 rw[hg]
 exact h
theorem Mb {n ctr m size bytes:Nat} {t t' ty e:TypeId} {ik:IntKind} {s x:Operand} {tm:TS} {hp:HS} {z:List C} {N:Int} {K:V→HS→Prop} (hs:Gt n tm s= .w (.one (.t iA))) (hx:(Gt n tm x).fm =some (.i64,N)) (hN:N=((m+1:Nat):Int))
 (hu:P.underlying t=some (.slice e)) (zh:P.underlying t'=some (.int ik)) (hT:mZ P e=some (size,bytes)) (hz:iR P e=some z) (hsz:z.length=size) (hb:(m+1) * bytes≤70368744177664) (hm:m+1≤70368744177664)
 (hk:K (.w (.one (.own ctr size 0 (m+1)))) ((ctr, .row size (List.replicate (m+1) z))::hp)):
 ∃v aF,gR P n (.call ⟨.builtin .append, #[s,x], #[t,t']⟩) ty tm hp ctr v aF∧K v aF:=by
 refine⟨_,_,?_,hk⟩
 rintro⟨dst',op',ty',pos',after',guard'⟩ rfl rfl
 intro M A ρ a w hr
 have vs:=hr.get s
 rw[jx,hs]at vs
 have vx:=V.iu hx (by have:=hr.get x;rw[jx]at this;exact this)
 have SO:a.eval s= .slice none 0 0:=V.bn (v:= .slice none 0 0) rfl vs
 obtain⟨inf,zv,z1,z2,z3,z4,z5,z6⟩:=lJ hT
 obtain⟨Xn,ZX,y1,y2,y3,y4,y5⟩:=ec hz w A ρ
 rw[z1]at y1
 simp only[Option.some.injEq]at y1
 subst y1
 rw[z2]at y2
 simp only[Option.some.injEq]at y2
 subst y2
 have hrun:=kx (P:=P) (ty:=ty') hu zh z1 z2 (m+1) (by omega) (by omega) hm (by rw[z4];exact hb) w
 have hge:=grownCap_ge w (m+1) 0 e
 obtain⟨e1,e2,e3⟩:=mj y5 (m+1)
 have hlen:(List.replicate (m+1) z).length=m+1:=by simp
 obtain⟨A',ρ',r1,r2,r3,r4,r5⟩:=jy (st:=⟨n,tm,hp⟩) (e:=e) (z:=zv.cells) (cap:=grownCap w (m+1) 0 e) (zs:=List.replicate (m+1) z) (vs:=(Builtin.zeroCells zv.cells (m+1)).toList) (size:=size) hr (Nat.le_refl ctr) z5
  (fun el hel=>by rw[List.eq_of_mem_replicate hel];exact hsz)
  (by rw[Array.length_toList,size_zeroCells,z5,hlen]) (by rw[hlen];exact hge)
  (fun i el j k hi hj=>by
    obtain⟨y,hy,rT,qN⟩:=e3 i el j k hi hj
    refine⟨y,?_,rT,qN⟩
    rw[Array.getElem?_toList, ←hsz]
    have ez:Builtin.zeroCells zv.cells (m+1)=(Array.range ((m+1) * z.length)).map fun k=>zv.cells[k % zv.cells.size]! :=by
     unfold Builtin.zeroCells
     have:zv.cells.size=z.length:=by rw[y3,y4]
     rw[this]
    rw[ez]
    exact hy)
 rw[hlen]at r1 r2 r3
 simp only[Array.toArray_toList]at r1 r2 r3
 refine⟨_,_,A',ρ', .inl ?_,r1.sub gv,r2,r3,r4,r5⟩
 have SH:a.eval x= .int .i64 ((m+1:Nat):Int):=by rw[vx,hN]
 have Ns:(execOp a.eval ⟨dst',Op.call ⟨.builtin .append, #[s,x], #[t,t']⟩,ty',pos',after',guard'⟩).run P w=((Builtin.append_ #[t,t'] ty' #[a.eval s,a.eval x]).run P w).andThen fun v w'=> .ok (.value v) w':=by
  simp[execOp,resolve,invoke,builtin]
 rw[Ns,SO,SH,hrun]
 rfl
theorem tG {f:FuncId} {us ts:List W} {hp:HS} {ctr sz:Nat} {K:V→HS→Prop} {p:Lz→Prop} (hl:iL hp us=some ts) (hfl: ∀xs,p xs→(bi.row sz (tr xs)).flat=true) (h: ∃rs hout,Ab P f ts (aQ rs) hout∧GN sz p rs hout)
 (hk: ∀xs,p xs→K (.w (.one (.own (0+ctr) sz 0 xs.length))) ((0+ctr, .row sz (tr xs))::hp)): ∃v aF,eu P hp ctr f us v aF∧K v aF:=by
 obtain⟨rs,hout,h1,xs,rfl,rfl,h2⟩:=h
 have gY:eu P hp ctr f us ((aQ [.one (.own 0 sz 0 xs.length)]).up ctr) (fq ctr [(0, .row sz (tr xs))]++hp):=
  .inl ⟨_,_,ts,h1,rfl,rfl, .inr ⟨hl,rfl,fun id blk hf=>by
   simp only[find]at hf
   split at hf
   · simp only[Option.some.injEq]at hf
     subst hf
     exact hfl xs h2
   · simp at hf⟩⟩
 refine⟨_,_,gY,?_⟩
 have:=hk xs h2
 simp only[aQ,V.up,W.up,C.up,fq,bi.up,Nat.zero_lt_succ,if_true,K0]at this⊢
 exact this
end Go.aS
end
section
namespace Go.aS
open Go
variable {P:Program} {M A:Nat→Prop} {ρ:Env} {F:Nat→Prop} {st:St} {a:Act} {w:World}
theorem Rel.cut {hp:HS} {n:Nat} {tm:TS} {sz:Nat} {rows:List (List C)} (hr:Rel M A ρ F ⟨n,tm,hp⟩ a w) (id k:Nat) (hf:find hp id=some (.row sz rows)):Rel M A ρ F ⟨n,tm,jJ hp id (.row sz (rows.take k))⟩ a w:=by
 refine⟨hr.size,hr.defers,hr.tmps,fun q blk hb=>?_,fun Xp mM b1 b2 b h1 h2 r1 r2=>?_,hr.fresh,hr.bound,hr.may,hr.dX⟩
 · simp only[bQ]at hb
   split at hb
   · rename_i e
     subst e
     rw[hf]at hb
     simp only[Option.map_some,Option.some.injEq]at hb
     subst hb
     obtain⟨h1,h2⟩:=hr.heap q _ hf
     refine⟨fun e he=>h1 e (List.mem_of_mem_take he),?_⟩
     rcases h2 with⟨b,c,e,k1,k2,k3,k4,k5,k6⟩|⟨k1,k2⟩
     · refine .inl ⟨b,c,e,k1,k2,k3,k4,?_,fun i el j q' hi hj=>k6 i el j q' (Ai hi) hj⟩
       refine Nat.le_trans (Nat.mul_le_mul_right _ ?_) k5
       simp only[List.length_take]
       omega
     · exact .inr ⟨k1,by rw[k2];simp⟩
   · exact hr.heap q blk hb
 · have old: ∀ {q:Nat} {bl:bi},find (jJ hp id (.row sz (rows.take k))) q=some bl→ ∃z8,find hp q=some z8:=by
    intro q bl hq
    simp only[bQ]at hq
    split at hq
    · rename_i e
      subst e
      exact⟨_,hf⟩
    · exact⟨_,hq⟩
   obtain⟨c1,g1⟩:=old h1
   obtain⟨c2,g2⟩:=old h2
   exact hr.inj Xp mM c1 c2 b g1 g2 r1 r2
theorem Ab.cut {f:FuncId} {args:List W} {v:V} {sz:Nat} {rows:List (List C)} (k:Nat) (h:Ab P f args v [(0, .row sz rows)]):Ab P f args v [(0, .row sz (rows.take k))]:=by
 intro w A xs hH hx
 refine(h w A xs hH hx).mono ?_
 rintro e w' ⟨x,A',ρ',F',h1,h2,h3,h4,h5⟩
 refine⟨x,A',ρ',F',h1,h2,?_,h4,h5⟩
 have:=Rel.cut (sz:=sz) (rows:=rows) h3 0 k (by simp[find])
 exact this
def yN (v:V):List Nat→TS→TS
 | [],tm=>tm
 |t::ts,tm=>(t,v)::yN v ts tm
theorem si {v u:V} {tm:TS} {k:Nat}: ∀ {ts:List Nat},find (yN v ts tm) k=some u→(k∈ts∧u=v)∨find tm k=some u
 | [],h=> .inr h
 |t::ts,h=>by
  simp only[yN,aq]at h
  split at h
  · rename_i e
    subst e
    simp only[Option.some.injEq]at h
    exact .inl ⟨List.mem_cons_self,h.symm⟩
  · rcases si h with⟨h1,h2⟩|h
    · exact .inl ⟨List.mem_cons_of_mem _ h1,h2⟩
    · exact .inr h
theorem dP.NF {tm:TS} {hp:HS} {ctr sz len:Nat} {rows:List (List C)} {xs:Lz} (ts:List Nat) (id:Nat) (h: ∀t,t∈ts→find tm t=some (.w (.one (.own id sz 0 len)))) (hf:find hp id=some (.row sz rows)) (hR:az rows xs) (hl:len≤xs.length):
 dP tm hp ctr (yN (.w (.one (.t (.av sz (xs.take len))))) ts tm) (del hp id) ctr:=by
 intro M A ρ n a w hr
 have h0:=Rel.forget hr (st':=⟨n,tm,[(id, .row sz rows)]⟩) rfl (fun _ _ h=>h) (fun k b hb=>by
  simp only[aq]at hb
  split at hb
  · rename_i e
    subst e
    rw[←hb]
    exact hf
  · simp[find]at hb)
 let B:Nat→Prop:=fun b=>A b∧ρ id≠some (.fz b)
 have hfz:bB [(id,bi.row sz rows)] (.one (.own id sz 0 len))=some (.one (.t (.av sz ((xs.drop 0).take len)))):=lF (hp:=[(id,bi.row sz rows)]) (by simp[find]) hR (by omega)
 have hnew: ∀t,t∈ts→RW w B ρ (.one (.t (.av sz ((xs.drop 0).take len)))) (a.tmps.getD t undef):=fun t ht=>
  fT h0 (B:=B) (fun b hb=>hb.1) (fun k blk b hk hρ hB=>by
   simp only[aq]at hk
   split at hk
   · rename_i e
     subst e
     exact hB.2 hρ
   · simp[find]at hk) hfz (hr.tmps t _ (h t ht)) ρ
 have hs:Rel M B ρ (bt ctr) ⟨n,tm,del hp id⟩ a w:=Rel.shrink (hp:=del hp id) hr (fun b hb=>hb.1) (fun k b hk=>by
  rw[de]at hk
  split at hk
  · simp at hk
  · exact hk) (fun k blk b hk hρ=>by
  rw[de]at hk
  split at hk
  · simp at hk
  · rename_i hne
    refine⟨(zq (hr.heap k blk hk) hρ).1,fun h2=>?_⟩
    exact hne (hr.inj k id blk _ b hk hf hρ h2))
 refine⟨B,ρ,⟨hs.size,hs.defers,fun u v hv=>?_,hs.heap,hs.inj,hs.fresh,hs.bound,hs.may,hs.dX⟩,iJ.refl _,fun b hA hM=>⟨hA,fun h2=>hM ((hr.heap id _ hf).lt h2).2.1⟩,fun b _ hb=>hb.1⟩
 rcases si hv with⟨h1,rfl⟩|hv
 · have e:(xs.drop 0).take len=xs.take len:=by simp
   have:=hnew u h1
   rw[e]at this
   exact this
 · exact hs.tmps u v hv
theorem MT {p:Nat→Prop} {a b:Nat} (ha:p a) (hb:p b): ∀t,t∈ [a,b]→p t:=by
 intro t ht
 simp only[List.mem_cons,List.not_mem_nil,or_false]at ht
 rcases ht with rfl|rfl
 · exact ha
 · exact hb
theorem Xi {p:Nat→Prop} {a:Nat} (ha:p a): ∀t,t∈ [a]→p t:=by
 intro t ht
 simp only[List.mem_singleton]at ht
 subst ht
 exact ha
def Um (sz:Nat) (ts:List W) (hout:HS):Prop:= ∃rows,ts=[.one (.own 0 sz 0 0)]∧hout=[(0, .row sz rows)]
theorem gNc {hp:HS} {tm:TS} {rs:List ResultVar} {t id sz:Nat} {rows:List (List C)} (hr:rs=[.tmp t]) (h:find tm t=some (.w (.one (.own id sz 0 0)))) (hf:find hp id=some (.row sz rows)):
 ∃us ids,aM P hp tm rs=some us∧(ids.length≤4∧ids.Nodup)∧Um sz (us.map (W.ak (bz ids))) (cJ (bz ids) hp 0 ids):=by
 subst hr
 refine⟨[.one (.own id sz 0 0)],[id],by simp only[aM,cg,h],⟨by simp,by simp⟩,rows.map fun e=>e.map (C.ak (bz [id])),?_,?_⟩
 · simp[W.ak,C.ak,bz]
 · simp only[cJ,hf,bi.ak]
theorem Um.new {f:FuncId} {args:List W} {sz:Nat} (h: ∃ts hout,Ab P f args (aQ ts) hout∧Um sz ts hout): ∃ts hout,Ab P f args (aQ ts) hout∧GN sz (fun xs=>xs=[]) ts hout:=by
 obtain⟨ts,hout,h1,rows,rfl,rfl⟩:=h
 have:=h1.cut 0
 rw[List.take_zero]at this
 exact⟨_,_,this,[],rfl,rfl,rfl⟩
theorem jF {hp:HS} {id sz:Nat} {rows:List (List C)} {xs:Lz} (hf:find hp id=some (.row sz rows)) (hR:az rows xs):cJ (bz [id]) hp 0 [id]=[(0, .row sz (tr xs))]:=by
 simp only[cJ,hf,bi.ak]
 rw[hR,eJ]
theorem Dc {f:FuncId} {us ts:List W} {hp:HS} {ctr:Nat} {K:V→HS→Prop} {Good:List W→Prop} (hl:iL hp us=some ts) (h: ∃rs,Fn P f ts [] (aQ rs) []∧(aQ rs).bY=true∧Good rs) (hf: ∀rs,Good rs→(aQ rs).flat=true) (hk: ∀rs,Good rs→K (aQ rs) hp): ∃v aF,eu P hp ctr f us v aF∧K v aF:=by
 obtain⟨rs,h1,h2,h3⟩:=h
 refine⟨aQ rs,hp, .inl ⟨aQ rs,[],ts,h1.toF,(V.ov h2).symm,rfl, .inr ⟨hl,hf rs h3,fun id blk h=>by simp[find]at h⟩⟩,hk rs h3⟩
end Go.aS
end
section
namespace Go.aS.Cd
open Go Go.Proofs
set_option maxRecDepth 100000
set_option maxHeartbeats 1000000
def Vz (n:Nat) (m:Nat) (ws:List V) (xss:List (Lz)):Prop:= ∃ (i q:Int) (zs:Lz),(0≤i∧i≤(n:Int)∧q < (n:Int)∧ -1≤q)∧m=(q+1 - i).toNat∧ws=[iV .i64 i,iV .i64 q]∧xss=[zs]∧zs.length=n∧bZ zs
theorem Vz.next {n:Nat} {i q:Int} {zs:Lz} (hb:0≤i∧i≤(n:Int)∧q < (n:Int)∧ -1≤q) (h:i < q) (hn:n≤1000000) (hz:zs.length=n) (hS:bZ zs) (j1 j2:Nat) (a b c d:Int):
 Vz n (q - 1+1 - (i+1)).toNat [iV .i64 (IntKind.i64.wrap (i+1)),iV .i64 (IntKind.i64.wrap (q - 1))] [(zs.set j1 [tI a,tI b]).set j2 [tI c,tI d]]:=
 ⟨i+1,q - 1,_,by omega,rfl,by rw[bj (by omega) (by omega),bj (by omega) (by omega)],rfl,by simp[hz],(hS.set j1 a b).set j2 c d⟩
def GRv (n:Nat) (ts:List W) (hout:HS):Prop:=ts=[]∧ ∃ys,hout=[(0, .row 2 (tr ys))]∧ys.length=n∧bZ ys
theorem mw (xs:Lz) (hx:bZ xs) (hl:xs.length≤1000000): ∃ts hout,Fn Tryz.prog 150 [.one (.own 0 2 0 xs.length)] [(0, .row 2 (tr xs))] (aQ ts) hout∧GRv xs.length ts hout:=by
 refine gH Tryz.func150 ?_
 repeat' (conv=>whnf
          first
  |(refine aA (fun h=>?_) (fun h=>?_))
  |(refine And.intro ⟨by omega,by omega⟩ ?_)
  |(refine And.intro (by kernel_rfl) ?_)
  |(refine cv (xs:=zs) rfl hU (by omega) ?_;rintro _ ⟨a,b,rfl⟩ hs)
  |(refine cv (xs:=zs.set _ [tI _,tI _]) (az.set (xs:=zs) rfl _ [tI _,tI _]) (hU.set _ _ _) (by simp;omega) ?_;rintro _ ⟨a,b,rfl⟩ hs)
  |exact⟨[],[],_,rfl,rfl,Cp rfl (xs:=xs) (ys:=zs) rfl,rfl,zs,rfl,hz,hU⟩
  |(apply bH [0,2,3] [] [2,3] [(0,2)] (Vz xs.length) (xs.length) [iV .i64 0,iV .i64 (IntKind.i64.wrap ((xs.length:Int) - 1))];(conv=>whnf);exact⟨rfl,rfl,rfl,rfl⟩;exact rfl;exact rfl;exact .cons (az.ak (xs:=xs) rfl _) .nil;exact⟨0,(xs.length:Int) - 1,xs,by omega,by omega,by rw[bj (by omega) (by omega)],rfl,rfl,hx⟩;rintro _ _ _ ⟨i,q,zs,hb,rfl,rfl,rfl,hz,hU⟩)
  |(refine aj [0,2,3] [] ?_;(conv=>whnf);exact⟨rfl,_,[_,_],_, .cons (az.ak (az.set (az.set (xs:=zs) rfl _ [tI _,tI _]) _ [tI _,tI _]) _) .nil,Vz.next hb (by omega) hl hz hU _ _ _ _ _ _,rfl,rfl,by omega⟩))
 all_goals (conv=>whnf)
def KO (ts:List W):Prop:=ts=[.one (.t iA)]
theorem TF (_u:Unit):Tg 173 [.one (.t iA),oI 0] KO:=by
 refine ae Tryz.func173 ?_
 repeat' (conv=>whnf
          first
  |(refine B0 (op:= .call ⟨.builtin .cap, #[.tmp _], #[77]⟩) (v:=iV .i64 0) (by kernel_rfl) ?_)
  |exact g1 rfl rfl rfl)
 all_goals (conv=>whnf)
theorem UF:Tryz.prog.underlying 77=some (.slice 57):=by kernel_rfl
theorem uIn:Tryz.prog.underlying 3=some (.int .i64):=by kernel_rfl
theorem Y2:mZ Tryz.prog 57=some (2,16):=by kernel_rfl
theorem Wf:iR Tryz.prog 57=some [.t (tI 0), .t (tI 0)]:=by kernel_rfl
theorem Hv {n:Nat} (hn:n≤1000000):IntKind.i64.wrap ((n:Int) - IntKind.i64.wrap (0 - ((0:Nat):Int)))=(n:Int):=by
 rw[bj (n:=0 - ((0:Nat):Int)) (by omega) (by omega),bj (by omega) (by omega)]
 omega
theorem NB {n:Nat} (h1:1≤n) (hn:n≤1000000):IntKind.i64.wrap ((n:Int) - IntKind.i64.wrap (0 - ((0:Nat):Int)))=((n - 1+1:Nat):Int):=by
 rw[Hv hn]
 omega
theorem TE (n:Nat) (h1:1≤n) (hn:n≤1000000): ∃ts hout,Ab Tryz.prog 173 [.one (.t iA),oI n] (aQ ts) hout∧Um 2 ts hout:=by
 refine vq Tryz.func173 ?_
 repeat' (conv=>whnf
          first
  |(refine aA (fun h=>?_) (fun h=>?_))
  |(refine mo (Nat.zero_le _) (by omega) (.inr rfl) ?_)
  |(refine And.intro (by omega) ?_)
  |(refine B0 (op:= .call ⟨.builtin .cap, #[.tmp _], #[77]⟩) (v:=iV .i64 0) (by kernel_rfl) ?_)
  |(refine B0 (op:= .slice 77 (.tmp 17) none (some (.tmp 19)) none) (v:=EK) (by kernel_rfl) ?_)
  |(refine Mb (m:=n - 1) rfl rfl (NB h1 hn) UF uIn Y2 Wf rfl (by omega) (by omega) ?_)
  |exact gNc rfl rfl rfl
  |(exfalso;rw[Hv hn]at h;omega))
 all_goals (conv=>whnf)
theorem NC (n:Nat) (h:n=0):IQ 173 [.one (.t iA),oI n] KO:=by subst h;exact TF ()
def tl (e:List T):Nat:=
 match e with
 | [.av _ xs]=>xs.length
 |_=>0
def fP:Lz→Nat
 | []=>0
 |e::r=>tl e+fP r
theorem xd: ∀ (es:Lz) (e:List T),fP (es++[e])=fP es+tl e
 | [],e=>by simp[fP]
 |x::r,e=>by simp only[List.cons_append,fP,xd r e];omega
theorem qw {es:Lz} {i:Nat} {e:List T} (h:es[i]? =some e):fP (es.take (i+1))=fP (es.take i)+tl e:=by
 rw[ic h,xd]
def C5 (e:List T):Prop:= ∃ys,e=[.av 2 ys]∧bZ ys∧ys.length≤100000
theorem Dh: ∀ {es:Lz},(∀e,e∈es→C5 e)→fP es≤100000 * es.length
 | [],_=>by simp[fP]
 |e::r,h=>by
  obtain⟨ys,rfl,_,hl⟩:=h e List.mem_cons_self
  have:=Dh (es:=r) (fun q hq=>h q (List.mem_cons_of_mem _ hq))
  simp only[fP,tl,List.length_cons]
  omega
theorem tb {es:Lz} (h: ∀e,e∈es→C5 e) (hl:es.length≤4) (i:Nat):fP (es.take i)≤400000:=by
 have:=Dh (es:=es.take i) (fun e he=>h e (List.mem_of_mem_take he))
 have h2:(es.take i).length≤es.length:=by simp;omega
 omega
theorem I7 {es:Lz} {i:Nat} {y:List T} {ys:Lz} (h0:fP es=0) (hs:es[i]? =some [.av 2 (y::ys)]):False:=by
 have h1: ∀ (l:Lz),[T.av 2 (y::ys)]∈l→1≤fP l:=by
  intro l
  induction l with
  |nil=>intro h;simp at h
  |cons a r ih=>
   intro h
   rcases List.mem_cons.1 h with rfl|h
   · simp only[fP,tl,List.length_cons];omega
   · have:=ih h;simp only[fP];omega
 have:=h1 es (List.mem_of_getElem? hs)
 omega
def PC (ls:Lz) (m:Nat) (vs:List V):Prop:= ∃i:Nat,i≤ls.length∧m=ls.length - i∧vs=[iV .i64 (fP (ls.take i):Int),iV .i64 (i:Int)]
theorem PC.next {ls:Lz} {i:Nat} {ys:Lz} {n:Int} (hls: ∀e,e∈ls→C5 e) (hl:ls.length≤4) (hi:(i:Int) < (ls.length:Int)) (hs:ls[((i:Int)).toNat]? =some [.av 2 ys]) (hn:n=(ys.length:Int)):PC ls (ls.length - (i+1)) [iV .i64 (IntKind.i64.wrap ((fP (ls.take i):Int)+n)),iV .i64 (IntKind.i64.wrap ((i:Int)+1))]:=by
 have h1:=qw (es:=ls) (i:=i) (by simpa using hs)
 have h2:=tb hls hl (i+1)
 simp only[tl]at h1
 refine⟨i+1,by omega,rfl,?_⟩
 rw[hn,bj (by omega) (by omega),bj (by omega) (by omega),h1]
 simp
theorem LO {ls:Lz} {i:Nat} {n:Nat} (hls: ∀e,e∈ls→C5 e) (hl:ls.length≤4) (hn:n≤100000) (h:IntKind.i64.wrap ((fP (ls.take i):Int)+(n:Int)) < 0):False:=by
 have:=tb hls hl i
 rw[bj (by omega) (by omega)]at h
 omega
def Ol (ls:Lz) (m:Nat) (ws:List V) (xss:List (Lz)):Prop:= ∃ (i:Nat) (zs:Lz),i≤ls.length∧m=ls.length - i∧ws=[bG 4 2 zs.length,iV .i64 (i:Int)]∧xss=[zs]∧zs.length=fP (ls.take i)∧bZ zs
theorem Ol.same {ls zs:Lz} {i:Nat} (hl:ls.length≤4) (hi:(i:Int) < (ls.length:Int)) (hs:ls[((i:Int)).toNat]? =some [.av 2 []]) (hz:zs.length=fP (ls.take i)) (hS:bZ zs):Ol ls (ls.length - (i+1)) [bG 4 2 zs.length,iV .i64 (IntKind.i64.wrap ((i:Int)+1))] [zs]:=by
 have h1:=qw (es:=ls) (i:=i) (by simpa using hs)
 simp only[tl,List.length_nil,Nat.add_zero]at h1
 exact⟨i+1,zs,by omega,rfl,by rw[bj (by omega) (by omega)];rfl,rfl,by omega,hS⟩
theorem Ol.IP {ls zs ys:Lz} {y:List T} {i k:Nat} (hl:ls.length≤4) (hi:(i:Int) < (ls.length:Int)) (hs:ls[((i:Int)).toNat]? =some [.av 2 (y::ys)]) (hy:bZ (y::ys)) (hz:zs.length=fP (ls.take i)) (hS:bZ zs) (hk:k=zs.length+(ys.length+1)):Ol ls (ls.length - (i+1)) [bG 4 2 k,iV .i64 (IntKind.i64.wrap ((i:Int)+1))] [zs++y::ys]:=by
 have h1:=qw (es:=ls) (i:=i) (by simpa using hs)
 simp only[tl,List.length_cons]at h1
 refine⟨i+1,_,by omega,rfl,by rw[bj (by omega) (by omega),hk];simp,rfl,by simp;omega,?_⟩
 intro e he
 simp only[List.mem_append]at he
 rcases he with he|he
 · exact hS e he
 · exact hy e he
theorem Y5 {zs ys:Lz} (h1:zs.length≤400000) (h2:ys.length≤100000):zs.length=(tr zs).length∧((tr zs).length+((ys.map fun e=>e.map C.t).length+1)) * 16≤aU∧(tr zs).length+((ys.map fun e=>e.map C.t).length+1)≤maxLen:=by
 refine⟨by simp[tr],?_,?_⟩
 · simp only[tr,List.length_map,aU];omega
 · simp only[tr,List.length_map,maxLen];omega
theorem Kf (ls:Lz) (hls: ∀e,e∈ls→C5 e) (hl:ls.length≤4) (h1:1≤fP ls): ∃ts hout,Ab Tryz.prog 151 [oL 1 ls] (aQ ts) hout∧GN 2 (fun zs=>zs.length=fP ls∧bZ zs) ts hout:=by
 refine vq Tryz.func151 ?_
 repeat' (conv=>whnf
          first
  |(refine aA (fun h=>?_) (fun h=>?_))
  |(refine au (xs:=ls) (n:=(i:Int)) hls (by omega) (by omega) ?_;rintro _ ⟨ys,rfl,hys,kT⟩ hs)
  |(refine au (xs:=ls) (n:=(q:Int)) hls (by omega) (by omega) ?_;rintro _ ⟨_|⟨y,ys⟩,rfl,hys,kT⟩ hs)
  |(exfalso;exact LO hls hl kT h)
  |(refine And.intro (Y5 (by have:=tb hls hl q;omega) (by simp at kT;omega)) ?_)
  |(refine Ri rfl (Um.new (TE (fP (ls.take i)) (by rw[List.take_of_length_le (by omega)];exact h1) (by have:=tb hls hl i;omega))) ?_;rintro _ rfl)
  |exact gN rfl rfl rfl (xs:=zs) rfl rfl ⟨by rw[List.take_of_length_le (by omega)]at hz;exact hz,hS⟩
  |(apply bH [6,25,26,27] [] [6,27] [(4,2)] (Ol ls) (ls.length) [bG 4 2 0,iV .i64 0];(conv=>whnf);exact⟨rfl,rfl,rfl,rfl⟩;exact rfl;exact rfl;exact .cons (az.ak (xs:=[]) rfl _) .nil;exact⟨0,[],by omega,rfl,rfl,rfl,by simp[fP],fun e he=>by simp at he⟩;rintro _ _ _ ⟨q,zs,hq,rfl,rfl,rfl,hz,hS⟩)
  |(refine aj [6,25,26,27] [] ?_;(conv=>whnf);first|exact⟨rfl,_,[_,_],_, .cons (az.ak (xs:=zs) rfl _) .nil,Ol.same hl (by omega) hs hz hS,rfl,rfl,by omega⟩|exact⟨rfl,_,[_,_],_, .cons (az.ak (az.IP (xs:=zs) rfl (y::ys)) _) .nil,Ol.IP hl (by omega) hs hys hz hS (by simp[tr]),rfl,rfl,by omega⟩)
  |(apply aL [0,3,9,10,11] [] [3,11] (PC ls) (ls.length) [iV .i64 0,iV .i64 0];(conv=>whnf);exact⟨rfl,rfl,rfl,rfl⟩;exact rfl;exact rfl;exact⟨0,by omega,rfl,by simp[fP]⟩;rintro _ _ ⟨i,hi,rfl,rfl⟩)
  |(refine aj [0,3,9,10,11] [] ?_;(conv=>whnf);exact⟨rfl,_,[_,_],PC.next hls hl (by omega) hs (by simp),rfl,rfl,rfl,by omega⟩))
 all_goals (conv=>whnf)
def VR (ls:Lz) (m:Nat) (vs:List V):Prop:= ∃i:Nat,i≤ls.length∧m=ls.length - i∧vs=[EK,iV .i64 (i:Int)]
theorem VR.next {ls:Lz} {i:Nat} (hl:ls.length≤4) (hi:(i:Int) < (ls.length:Int)):VR ls (ls.length - (i+1)) [EK,iV .i64 (IntKind.i64.wrap ((i:Int)+1))]:=
 ⟨i+1,by omega,rfl,by rw[bj (by omega) (by omega)];rfl⟩
theorem Kg (ls:Lz) (hls: ∀e,e∈ls→C5 e) (hl:ls.length≤4) (h0:fP ls=0):Tg 151 [oL 1 ls] KO:=by
 refine ae Tryz.func151 ?_
 repeat' (conv=>whnf
          first
  |(refine aA (fun h=>?_) (fun h=>?_))
  |(refine au (xs:=ls) (n:=(i:Int)) hls (by omega) (by omega) ?_;rintro _ ⟨ys,rfl,hys,kT⟩ hs)
  |(refine au (xs:=ls) (n:=(q:Int)) hls (by omega) (by omega) ?_;rintro _ ⟨_|⟨y,ys⟩,rfl,hys,kT⟩ hs)
  |(exfalso;exact LO hls hl kT h)
  |(exfalso;exact I7 h0 hs)
  |(refine ag rfl (NC (fP (ls.take i)) (by rw[List.take_of_length_le (by omega)];exact h0)) ?_;rintro _ rfl)
  |exact g1 rfl rfl rfl
  |(apply aL [6,25,26,27] [] [6,27] (VR ls) (ls.length) [EK,iV .i64 0];(conv=>whnf);exact⟨rfl,rfl,rfl,rfl⟩;exact rfl;exact rfl;exact⟨0,by omega,rfl,rfl⟩;rintro _ _ ⟨q,hq,rfl,rfl⟩)
  |(refine aj [6,25,26,27] [] ?_;(conv=>whnf);exact⟨rfl,_,[_,_],VR.next hl (by omega),rfl,rfl,rfl,by omega⟩)
  |(apply aL [0,3,9,10,11] [] [3,11] (PC ls) (ls.length) [iV .i64 0,iV .i64 0];(conv=>whnf);exact⟨rfl,rfl,rfl,rfl⟩;exact rfl;exact rfl;exact⟨0,by omega,rfl,by simp[fP]⟩;rintro _ _ ⟨i,hi,rfl,rfl⟩)
  |(refine aj [0,3,9,10,11] [] ?_;(conv=>whnf);exact⟨rfl,_,[_,_],PC.next hls hl (by omega) hs (by simp),rfl,rfl,rfl,by omega⟩))
 all_goals (conv=>whnf)
end Go.aS.Cd
end
section
namespace Go.aS.Cd
open Go Go.Proofs
set_option maxRecDepth 100000
set_option maxHeartbeats 1000000
theorem FZ {A B:Lz} (hA:bZ A) (hB:bZ B) (h:A.length+B.length≤100000): ∀e,e∈ ([[.av 2 A],[.av 2 B]]:Lz)→C5 e:=by
 intro e he
 simp only[List.mem_cons,List.not_mem_nil,or_false]at he
 rcases he with rfl|rfl
 · exact⟨A,rfl,hA,by omega⟩
 · exact⟨B,rfl,hB,by omega⟩
theorem yo (A B:Lz):fP [[.av 2 A],[.av 2 B]]=A.length+B.length:=by simp[fP,tl]
theorem DV {A B:Lz} (hA:bZ A) (hB:bZ B) (h1:1≤A.length+B.length) (h:A.length+B.length≤100000): ∃ts hout,Ab Tryz.prog 151 [oL 1 [[.av 2 A],[.av 2 B]]] (aQ ts) hout∧GN 2 (fun zs=>zs.length=A.length+B.length∧bZ zs) ts hout:=by
 have:=Kf [[.av 2 A],[.av 2 B]] (FZ hA hB h) (by simp) (by rw[yo];exact h1)
 rw[yo]at this
 exact this
theorem DU {A B:Lz} (hA:bZ A) (hB:bZ B) (h:A.length+B.length=0):IQ 151 [oL 1 [[.av 2 A],[.av 2 B]]] KO:=
 Kg [[.av 2 A],[.av 2 B]] (FZ hA hB (by omega)) (by simp) (by rw[yo];exact h)
theorem flN {n:Nat}: ∀xs:Lz,xs.length=n∧bZ xs→(bi.row 2 (tr xs)).flat=true:=by
 rintro xs ⟨_,h⟩
 simp only[bi.flat,tr,List.all_eq_true,List.mem_map]
 rintro r ⟨e,he,rfl⟩
 obtain⟨a,b,rfl⟩:=h e he
 intro c hc
 simp only[List.map_cons,List.map_nil,List.mem_cons,List.not_mem_nil,or_false]at hc
 rcases hc with rfl|rfl<;>rfl
def Oj (N:Nat) (m:Nat) (ws:List V) (xss:List (Lz)):Prop:= ∃ (i:Nat) (zs:Lz),i≤N∧m=N - i∧ws=[bG 4 2 zs.length,iV .i64 (i:Int)]∧xss=[zs]∧zs.length≤i∧bZ zs
theorem Oj.same {N i:Nat} {zs:Lz} (h:(i:Int) < (N:Int)) (hN:N≤1000000) (hz:zs.length≤i) (hS:bZ zs):Oj N (N - (i+1)) [bG 4 2 zs.length,iV .i64 (IntKind.i64.wrap ((i:Int)+1))] [zs]:=
 ⟨i+1,zs,by omega,rfl,by rw[bj (by omega) (by omega)];rfl,rfl,by omega,hS⟩
theorem Oj.IP {N i k:Nat} {zs:Lz} {x y:Int} (h:(i:Int) < (N:Int)) (hN:N≤1000000) (hz:zs.length≤i) (hS:bZ zs) (hk:k=zs.length+1):Oj N (N - (i+1)) [bG 4 2 k,iV .i64 (IntKind.i64.wrap ((i:Int)+1))] [zs++[[tI x,tI y]]]:=
 ⟨i+1,_,by omega,rfl,by rw[bj (by omega) (by omega),hk];simp,rfl,by simp;omega,hS.snoc x y⟩
def Kz (N:Nat) (m:Nat) (ws:List V) (xss:List (Lz)):Prop:= ∃ (i f:Nat),i≤N∧(f < N∨N=0∧f=0)∧m=N - i∧ws=[iV .i64 (f:Int),iV .i64 (i:Int)]∧xss=[]
theorem Kz.zero {N:Nat}:Kz N N [iV .i64 0,iV .i64 0] []:=⟨0,0,by omega,by omega,rfl,rfl,rfl⟩
theorem Kz.keep {N i f:Nat} (h:(i:Int) < (N:Int)) (hN:N≤1000000) (hf:f < N):Kz N (N - (i+1)) [iV .i64 (f:Int),iV .i64 (IntKind.i64.wrap ((i:Int)+1))] []:=
 ⟨i+1,f,by omega, .inl hf,rfl,by rw[bj (by omega) (by omega)];rfl,rfl⟩
theorem uA (xs:Lz) (hx:bZ xs) (hl:xs.length≤1000000):Tg 119 [oL 2 xs] (KP 2 (fun zs=>bZ zs∧zs.length≤40)):=by
 refine aK ?_
 refine ae Tryz.func119 ?_
 repeat' (conv=>whnf
          first
  |(refine aA (fun h=>?_) (fun h=>?_))
  |(refine bR (fun h=>?_) (fun h=>?_))
  |(refine au (xs:=xs) hx (by omega) (by omega) ?_;rintro _ ⟨a,b,rfl⟩ hs)
  |(refine au (xs:=zs.take zs.length) (hz.take _) (by omega) (by simp;omega) ?_;rintro _ ⟨a,b,rfl⟩ hs)
  |(refine au (xs:=ys.take zs.length) (hys.take _) (by omega) (by simp;omega) ?_;rintro _ ⟨a,b,rfl⟩ hs)
  |(refine And.intro ⟨by simp[tr],by simp[tr,aU];omega,by simp[tr,maxLen];omega⟩ ?_)
  |(refine eW (Nat.zero_le _) (by simp;omega) ?_)
  |(refine eW (by simp;omega) (by simp) ?_)
  |(refine eW (by omega) (by omega) ?_)
  |(refine And.intro (by kernel_rfl) ?_)
  |(refine And.intro (by omega) ?_)
  |(refine ag rfl (dS xs hx hl) ?_;rintro _ ⟨e,rfl,hP⟩)
  |(refine ag rfl (yO xs i hx hl (by omega)) ?_;rintro _ ⟨n,rfl⟩)
  |(refine ag rfl (pD xs hx hl) ?_;rintro _ ⟨n,rfl⟩)
  |(refine eV [4] rfl (mw zs hz (by omega)) rfl (jF rfl rfl) ?_;rintro _ _ ⟨rfl,ys,rfl,kT,hys⟩)
  |(refine tG rfl flN (DV (dR (hz.take _) _ _) (dR (hz.take _) _ _) (by simp;omega) (by have:=(hP (by omega)).1.2.1;simp;omega)) ?_;rintro ws ⟨z7,EW⟩)
  |(refine tG rfl flN (DV (dR (hys.take _) _ _) (dR (hys.take _) _ _) (by simp;omega) (by have:=(hP (by omega)).1.2.1;simp;omega)) ?_;rintro ws ⟨z7,EW⟩)
  |(refine Dc rfl (DU (dR (hz.take _) _ _) (dR (hz.take _) _ _) (by simp only[List.length_take,List.length_drop];omega)) (fun rs h=>by subst h;rfl) ?_;rintro _ rfl)
  |(refine Dc rfl (DU (dR (hys.take _) _ _) (dR (hys.take _) _ _) (by simp only[List.length_take,List.length_drop];omega)) (fun rs h=>by subst h;rfl) ?_;rintro _ rfl)
  |exact dA rfl (bP 2 rfl) (bX rfl) ⟨_,_,rfl,fun h0=>absurd h0 (by omega)⟩
  |exact dA rfl (eR rfl rfl (xs:=ws) rfl (by omega)) (bX rfl) ⟨_,_,rfl,fun _=>by rw[fE rfl];exact⟨EW,by have:=(hP (by omega)).1.2.1;simp at z7;omega⟩⟩
  |exact dA rfl (bP 2 rfl) (bX rfl) ⟨_,_,rfl,fun _=>⟨fun e he=>by simp at he,by simp⟩⟩
  |(apply eP [5,8,38,39,40] [] [8,40] [] (Kz zs.length) (zs.length) [iV .i64 0,iV .i64 0] (dP.NF (xs:=ys) [5,38] 4 (MT rfl rfl) rfl (az.ak rfl _) (by omega));(conv=>whnf);exact⟨rfl,rfl,rfl,rfl⟩;exact rfl;exact rfl;exact .nil;exact Kz.zero;rintro _ _ _ ⟨q,f,hq,(hf|⟨hc,rfl⟩),rfl,rfl,rfl⟩)
  |(refine aj [5,8,38,39,40] [] ?_;(conv=>whnf);exact⟨rfl,_,[_,_],_, .nil,Kz.keep (by omega) (by omega) (by omega),rfl,rfl,by omega⟩)
  |(apply eP [5,8,38,39,40] [] [8,40] [] (Kz zs.length) (zs.length) [iV .i64 0,iV .i64 0] (dP.NF (xs:=zs) [5,38] 4 (MT rfl rfl) rfl rfl (Nat.le_refl _));(conv=>whnf);exact⟨rfl,rfl,rfl,rfl⟩;exact rfl;exact rfl;exact .nil;exact Kz.zero;rintro _ _ _ ⟨q,f,hq,(hf|⟨hc,rfl⟩),rfl,rfl,rfl⟩)
  |(apply eP [0,5,17,18,19] [] [5,19] [(4,2)] (Oj xs.length) (xs.length) [bG 4 2 0,iV .i64 0] (dP.iU 5 2 rfl);(conv=>whnf);exact⟨rfl,rfl,rfl,rfl⟩;exact rfl;exact rfl;exact .cons (az.ak az.nil _) .nil;exact⟨0,[],by omega,rfl,rfl,rfl,by simp,fun e he=>by simp at he⟩;rintro _ _ _ ⟨i,zs,hi,rfl,rfl,rfl,jS,hz⟩)
  |(refine aj [0,5,17,18,19] [] ?_;(conv=>whnf);first|exact⟨rfl,_,[_,_],_, .cons (az.ak (xs:=zs) rfl _) .nil,Oj.same (by omega) hl jS hz,rfl,rfl,by omega⟩|exact⟨rfl,_,[_,_],_, .cons (az.ak (az.snoc (xs:=zs) rfl [tI _,tI _]) _) .nil,Oj.IP (by omega) hl jS hz (by simp[tr]),rfl,rfl,by omega⟩))
 all_goals (conv=>whnf)
end Go.aS.Cd
end
section
namespace Go.aS
open Go
variable {P:Program} {M A:Nat→Prop} {ρ:Env} {F:Nat→Prop} {st:St} {a:Act} {w:World}
theorem xy (j:IntKind) (x y:Int): ∃n,aH P (Builtin.min2 (.int j x) (.int j y))=some (.int j n):=by
 unfold Builtin.min2
 simp[aD]
theorem EF (ia:Array TypeId) (ty:TypeId) (j:IntKind) (x y z:Int): ∃n,aH P (Builtin.min_ ia ty #[.int j x, .int j y, .int j z])=some (.int j n):=by
 obtain⟨a,ha⟩:=xy (P:=P) j x y
 obtain⟨b,hb⟩:=xy (P:=P) j a z
 refine⟨b,?_⟩
 unfold Builtin.min_
 simp[aJ,ha,hb]
theorem IX {ctr a b c:Nat} {ty:TypeId} {ia:Array TypeId} {tm:TS} {hp:HS} {x y z:Int} {K:V→HS→Prop} (ha:find tm a=some (iV .i64 x)) (hb:find tm b=some (iV .i64 y)) (hc:find tm c=some (iV .i64 z)) (hk: ∀m,K (iV .i64 m) hp):
 ∃v aF,ZN P (.call ⟨.builtin .min, #[.tmp a, .tmp b, .tmp c],ia⟩) ty tm hp ctr v aF∧K v aF:=by
 obtain⟨m,hm⟩:=EF (P:=P) ia ty .i64 x y z
 refine⟨iV .i64 m,hp,⟨fun get=>rfl,?_⟩,hk m⟩
 rintro n ⟨dst',op',ty',pos',after',guard'⟩ rfl rfl
 have e:bg P (St.get ⟨n,tm,hp⟩) ⟨dst', .call ⟨.builtin .min, #[.tmp a, .tmp b, .tmp c],ia⟩,ty',pos',after',guard'⟩=some (iV .i64 m):=by
  unfold bg
  have hall:(fG (Op.call ⟨.builtin .min, #[.tmp a, .tmp b, .tmp c],ia⟩)&& (Op.call ⟨.builtin .min, #[.tmp a, .tmp b, .tmp c],ia⟩).operands.toList.all fun x=>(St.get ⟨n,tm,hp⟩ x).val?.isSome)=true:=by
   have X5:(Op.call ⟨.builtin .min, #[.tmp a, .tmp b, .tmp c],ia⟩).operands.toList=[.tmp a, .tmp b, .tmp c]:=rfl
   rw[X5]
   simp[fG,St.get,ha,hb,hc,V.val?,W.val?,C.val?]
  rw[if_pos hall]
  have:aH P (execOp (fun x=>((St.get ⟨n,tm,hp⟩ x).val?).getD undef) ⟨dst', .call ⟨.builtin .min, #[.tmp a, .tmp b, .tmp c],ia⟩,ty',pos',after',guard'⟩)=some (.value (.int .i64 m)):=by
   simp[execOp,resolve,invoke,builtin,dh,St.get,ha,hb,hc,V.val?,W.val?,C.val?,hm]
  rw[this]
  rfl
 simp only[ai,e,Option.map_some]
theorem xW {hp:HS} {id sz i len:Nat} {rows:List (List C)} {xs:Lz} (hf:find hp id=some (.row sz rows)) (hR:az rows xs) (hl:i+len≤xs.length):elems hp (.own id sz i len)=some (sz,tr ((xs.drop i).take len)):=by
 have hl':i+len≤rows.length:=by rw[hR.len];exact hl
 simp only[elems,hf,true_and,hl',if_true]
 rw[hR,tR]
theorem Dd {d s t1 t2 ty e id sz i len ctr:Nat} {tm:TS} {hp:HS} {c:C} {rows:List (List C)} {xs ys:Lz} {K:V→HS→Prop}
 (hd:find tm d=some (.w (.one (.own id sz i len)))) (hs:find tm s=some (.w (.one c))) (hn:isNil c=false) (he:elems hp c=some (sz,tr ys))
 (ht:P.underlying t1=some (.slice e)) (hz:cG P e=some sz) (hf:find hp id=some (.row sz rows)) (hR:az rows xs) (hl:i+len≤xs.length)
 (h0: ∀n,K (iV .i64 n) hp) (hk: ∀n,K (iV .i64 n) (jJ hp id (.row sz (tr (aX xs i (ys.take len)))))):
 ∃v aF,ZN P (.call ⟨.builtin .copy, #[.tmp d, .tmp s], #[t1,t2]⟩) ty tm hp ctr v aF∧K v aF:=by
 have CB:rows=tr xs:=hR
 subst CB
 by_cases hc:(ys.take len).length=0
 · refine⟨_,hp,⟨fun get=>rfl,?_⟩,h0 0⟩
   rintro n ⟨dst',op',ty',pos',after',guard'⟩ rfl rfl
   simp only[ai,St.get,hd,hs,Option.getD_some,eB,ht,hz,hn,he,Bool.false_eq_true,if_false,tu,yq,hc,if_true]
   rfl
 · refine⟨_,_,⟨fun get=>rfl,?_⟩,hk ((ys.take len).length:Nat)⟩
   rintro n ⟨dst',op',ty',pos',after',guard'⟩ rfl rfl
   have hl':True∧True∧True∧i+len≤xs.length:=⟨trivial,trivial,trivial,hl⟩
   simp only[ai,St.get,hd,hs,Option.getD_some,eB,ht,hz,hn,he,hf,Bool.false_eq_true,if_false,tu,yq,hc,xj]
   rw[if_pos hl']
   rfl
theorem tX {α:Type} {xs ys:List α} {i:Nat} (h:i+ys.length≤xs.length):(aX xs i ys).length=xs.length:=by
 unfold aX
 simp only[List.length_append,List.length_take,List.length_drop]
 omega
theorem B5 {α:Type} {xs ys:List α} {i:Nat} {e:α} (h:e∈aX xs i ys):e∈xs∨e∈ys:=by
 unfold aX at h
 simp only[List.mem_append]at h
 rcases h with(h|h)|h
 · exact .inl (List.mem_of_mem_take h)
 · exact .inr h
 · exact .inl (List.mem_of_mem_drop h)
theorem gn {n:Nat} {b:Rc} {Q:Exit→TS→HS→Nat→Prop} {tm sI:TS} {hp zj:HS} {ctr c0:Nat} (keys:List Nat) (nest:List (Nat×Nat)) (ks:List Nat) (R:Nat→List V→HS→Prop) (m0:Nat) (ym:List V) {lc:TS} {o6:HS} {cB:Nat}
 (hW:dP tm hp ctr sI zj c0)
 (hB:Bb (vQ keys nest sI zj) fun S=>pS (S.tm sI) fun t=>qT (S.hp zj) fun q=>S.ok=true∧t=lc∧q=o6∧S.ctr=cB)
 (D4:lc.length=keys.length) (h0:lc=j5 ks ym lc) (J0:R m0 ym o6)
 (hstep: ∀m vs hq,R m vs hq→pS (j5 ks vs lc) fun nF=>X P n b (gU (bM fun bf aF c'=> ∃m' vs',R m' vs' aF∧bf=j5 ks vs' lc∧c'=cB∧m' < m) Q) nF hq cB):
 ∃I:Nat→TS→HS→Nat→Prop,bM (fun tm hp c=> ∃m,I m tm hp c) tm hp ctr∧
  ∀m tm hp c,I m tm hp c→X P n b (gU (bM fun tm hp c=> ∃m',m' < m∧I m' tm hp c) Q) tm hp c:=by
 rw[nx,fO,iz]at hB
 obtain⟨hS,e1,e2,e3⟩:=hB
 refine⟨fun m bf aF c'=> ∃vs',R m vs' aF∧bf=j5 ks vs' lc∧c'=cB, .sem hW (bM.mk' ⟨vQ keys nest sI zj,hS,m0,ym,by rw[e2];exact J0,e1.trans h0,e3⟩),?_⟩
 rintro m bf hq c' ⟨vs,hR,rfl,rfl⟩
 have:=hstep m vs hq hR
 rw[fO]at this
 refine(congrArg (fun J=>X P n b (gU (bM J) Q) _ _ _) ?_).mp this
 funext bf aF Vc
 exact propext ⟨fun⟨m',vs',h1,h2,h4,h5⟩=>⟨m',h5,vs',h1,h2,h4⟩,fun⟨m',h5,vs',h1,h2,h4⟩=>⟨m',vs',h1,h2,h4,h5⟩⟩
theorem om {f:FuncId} {us args:List W} {hp hin:HS} {ctr:Nat} {K:V→HS→Nat→Prop} {Good:List W→Prop} (ids:List Nat) (hok:uS ids ctr=true) (hb: ∀id,id∈ids→ ∃b,find hp id=some b∧(b.ak (bz ids)).ak (fS ids ctr)=b)
 (ha:us.map (W.ak (bz ids))=args) (hh:cJ (bz ids) hp 0 ids=hin) (h: ∃ts hout,Fn P f args hin (aQ ts) hout∧hout=hin∧Good ts) (hk: ∀ts,Good ts→K ((aQ ts).ak (fS ids ctr)) hp (ctr+4)): ∃v aF c',dK P f us hp ctr v aF c'∧K v aF c':=by
 obtain⟨ts,hout,h1,rfl,h2⟩:=h
 exact⟨_,_,_,zO ids hok h1 ha hh hb,hk ts h2⟩
theorem Mw {hp:HS} {tm:TS} {t id cV sl MV len k:Nat} {rs zs:Lz} {rows fZ:List (List C)} (h:find tm t=some (.w (.one (.own id 1 0 len)))) (hf:find hp id=some (.row 1 rows)) (hrows:rows=tr rs++[[.own MV cV 0 k]]) (hl:len=rs.length+1)
 (A3:find hp MV=some (.row cV fZ)) (U4:az fZ zs) (hk:k≤zs.length) (_:sl=cV):Rs P hp tm (.tmp t) (.one (.t (.av 1 (rs++[[.av cV (zs.take k)]])))):=by
 subst hrows
 subst hl
 have hk':0+k≤fZ.length:=by rw[U4.len];omega
 have nY:cN 5 hp (.own MV cV 0 k)=some (.av cV (zs.take k)):=by
  simp only[cN,A3,true_and,hk',if_true]
  rw[U4,tR,oW]
  simp
 have YK: ∀ (xs:Lz),bu (bu (cN 5 hp)) (tr xs++[[.own MV cV 0 k]])=some (xs++[[.av cV (zs.take k)]]):=by
  intro xs
  induction xs with
  |nil=>simp only[tr,List.map_nil,List.nil_append,bu,nY]
  |cons e xs ih=>
   have hone:=oW (hp:=hp) (d:=5) [e]
   have he:bu (cN 5 hp) (e.map .t)=some e:=by
    simp only[tr,List.map_cons,List.map_nil,bu]at hone
    split at hone
    · rename_i y l hy hl
      simp only[Option.some.injEq]at hl
      subst hl
      simp only[Option.some.injEq,List.cons.injEq,and_true]at hone
      subst hone
      exact hy
    · simp at hone
   have ih':=ih
   simp only[tr]at ih'⊢
   simp only[List.map_cons,List.cons_append,bu,he,ih']
 have hlen:0+(rs.length+1)≤(tr rs++[[C.own MV cV 0 k]]).length:=by simp[tr]
 have JW:((tr rs++[[C.own MV cV 0 k]]).drop 0).take (rs.length+1)=tr rs++[[C.own MV cV 0 k]]:=by
  rw[List.drop_zero]
  exact List.take_of_length_le (by simp[tr])
 refine⟨.one (.own id 1 0 (rs.length+1)), .one (.t (.av 1 (rs++[[.av cV (zs.take k)]]))),by simp only[cg,h],?_,wi.refl _⟩
 have:cN 6 hp (.own id 1 0 (rs.length+1))=some (.av 1 (rs++[[.av cV (zs.take k)]])):=by
  simp only[cN,hf,true_and,hlen,if_true]
  rw[JW,YK]
  rfl
 simp only[bB,this,Option.map_some]
end Go.aS
end
section
namespace Go.aS.Cd
open Go Go.Proofs
set_option maxRecDepth 100000
set_option maxHeartbeats 1000000
theorem tQ (xs:Lz) (q:Sp) (hx:bZ xs):Tg 124 [oL 2 xs,ij q] GI:=by
 refine ae Tryz.func124 ?_
 repeat' (conv=>whnf
          first
  |(refine aA (fun h=>?_) (fun h=>?_))
  |(refine bR (fun h=>?_) (fun h=>?_))
  |(refine aG (fun h=>?_) (fun h=>?_))
  |(refine au hx (by first|omega|exact cC (by first|omega|(simp (disch:=omega) only[aa];omega))|(simp (disch:=omega) only[aa];omega)) (by first|omega|exact cr (by omega)|(simp (disch:=omega) only[aa];omega)) ?_;rintro _ ⟨a,b,rfl⟩ hs)
  |(refine And.intro (by kernel_rfl) ?_)
  |(refine ag rfl (qx (_,_)) ?_;rintro _ ⟨b,rfl⟩)
  |(refine ag rfl (gu (_,_) (_,_) (_,_)) ?_;rintro _ ⟨n,rfl⟩)
  |(refine aB rfl (gu (_,_) (_,_) (_,_)) ?_;rintro _ ⟨n,rfl⟩)
  |(refine IX rfl rfl rfl ?_;intro mn)
  |exact gI rfl rfl)
 all_goals (conv=>whnf)
abbrev Tw (k:Nat) (zs:Lz):HS:=[(0, .row 1 [[.own 1 2 0 k]]),(1, .row 2 (tr zs))]
abbrev Hu (k:Nat) (zs:Lz):HS:=[(0, .row 1 [[.own 1 2 0 k]]),(1, .row 2 (tr zs)),(2, .row 1 [[.jY 120 [(0,1,0,0)]]])]
theorem Gk {hin:HS} (xs:Lz) (sz:Nat):Ij hin (.row sz (tr xs)):=by
 intro e he c hc
 simp only[tr,List.mem_map]at he
 obtain⟨e',_,rfl⟩:=he
 simp only[List.mem_map]at hc
 obtain⟨c',_,rfl⟩:=hc
 rfl
theorem JC {hp:HS} {k:Nat} {zs:Lz} {rows:List (List C)} (h0:find hp 0=some (.row 1 [[.own 1 2 0 k]])) (h1:find hp 1=some (.row 2 rows)) (hR:az rows zs):kp (Tw k zs) hp (Tw k zs):=by
 have CB:rows=tr zs:=hR
 subst CB
 refine⟨fun q b hq=>?_,fun q blk hq=>?_⟩
 · simp only[find]at hq
   split at hq
   · rename_i e;subst e;exact⟨by omega,_,h0⟩
   · split at hq
     · rename_i e;subst e;exact⟨by omega,_,h1⟩
     · simp at hq
 · simp only[find]at hq
   split at hq
   · rename_i e
     subst e
     simp only[Option.some.injEq]at hq
     subst hq
     refine⟨h0,rfl,fun e he c hc=>?_⟩
     simp only[List.mem_singleton]at he
     subst he
     simp only[List.mem_singleton]at hc
     subst hc
     rfl
   · split at hq
     · rename_i e
       subst e
       simp only[Option.some.injEq]at hq
       subst hq
       exact⟨h1,rfl,Gk _ _⟩
     · simp at hq
theorem pP {hp:HS} {k:Nat} {zs:Lz} {rows:List (List C)} (h0:find hp 0=some (.row 1 [[.own 1 2 0 k]])) (h1:find hp 1=some (.row 2 rows)) (h2:find hp 2=some (.row 1 [[.jY 120 [(0,1,0,0)]]])) (hR:az rows zs):kp (Hu k zs) hp (Hu k zs):=by
 have CB:rows=tr zs:=hR
 subst CB
 refine⟨fun q b hq=>?_,fun q blk hq=>?_⟩
 · simp only[find]at hq
   split at hq
   · rename_i e;subst e;exact⟨by omega,_,h0⟩
   · split at hq
     · rename_i e;subst e;exact⟨by omega,_,h1⟩
     · split at hq
       · rename_i e;subst e;exact⟨by omega,_,h2⟩
       · simp at hq
 · simp only[find]at hq
   split at hq
   · rename_i e
     subst e
     simp only[Option.some.injEq]at hq
     subst hq
     refine⟨h0,rfl,fun e he c hc=>?_⟩
     simp only[List.mem_singleton]at he
     subst he
     simp only[List.mem_singleton]at hc
     subst hc
     rfl
   · split at hq
     · rename_i e
       subst e
       simp only[Option.some.injEq]at hq
       subst hq
       exact⟨h1,rfl,Gk _ _⟩
     · split at hq
       · rename_i e
         subst e
         simp only[Option.some.injEq]at hq
         subst hq
         refine⟨h2,rfl,fun e he c hc=>?_⟩
         simp only[List.mem_singleton]at he
         subst he
         simp only[List.mem_singleton]at hc
         subst hc
         rfl
       · simp at hq
theorem JS {hp:HS} {a l k:Nat} {rows:List (List C)} {zs:Lz} (h0:find hp a=some (.row 1 [[.own l 2 0 k]])) (h1:find hp l=some (.row 2 rows)) (hR:az rows zs) (hl:bz [a,l] l=some 1):cJ (bz [a,l]) hp 0 [a,l]=Tw k zs:=by
 have CB:rows=tr zs:=hR
 subst CB
 simp only[cJ,h0,h1,bi.ak,List.map_cons,List.map_nil,C.ak,hl,eJ]
theorem Y9 {hp:HS} {a l k ctr:Nat} {rows:List (List C)} {zs:Lz} (h0:find hp a=some (.row 1 [[.own l 2 0 k]])) (h1:find hp l=some (.row 2 rows)) (hR:az rows zs) (hl:bz [a,l] l=some 1) (hf:fS [a,l] ctr 1=some l): ∀id,id∈ [a,l]→ ∃b,find hp id=some b∧(b.ak (bz [a,l])).ak (fS [a,l] ctr)=b:=by
 have CB:rows=tr zs:=hR
 subst CB
 refine MT ⟨_,h0,?_⟩ ⟨_,h1,?_⟩
 · simp only[bi.ak,List.map_cons,List.map_nil,C.ak,hl,hf]
 · simp only[bi.ak,eJ]
theorem hi2 {hp:HS} {a l b k:Nat} {rows:List (List C)} {zs:Lz} (h0:find hp a=some (.row 1 [[.own l 2 0 k]])) (h1:find hp l=some (.row 2 rows)) (h2:find hp b=some (.row 1 [[.jY 120 [(a,1,0,0)]]])) (hR:az rows zs) (hl:bz [a,l,b] l=some 1) (ha:bz [a,l,b] a=some 0):cJ (bz [a,l,b]) hp 0 [a,l,b]=Hu k zs:=by
 have CB:rows=tr zs:=hR
 subst CB
 simp only[cJ,h0,h1,h2,bi.ak,List.map_cons,List.map_nil,C.ak,hl,ha,eJ,List.all_cons,List.all_nil,Option.isSome_some,Bool.and_self,if_true,Option.getD_some]
theorem Vm {hp:HS} {a l b k ctr:Nat} {rows:List (List C)} {zs:Lz} (h0:find hp a=some (.row 1 [[.own l 2 0 k]])) (h1:find hp l=some (.row 2 rows)) (h2:find hp b=some (.row 1 [[.jY 120 [(a,1,0,0)]]])) (hR:az rows zs) (hl:bz [a,l,b] l=some 1) (ha:bz [a,l,b] a=some 0) (hf:fS [a,l,b] ctr 1=some l) (hg:fS [a,l,b] ctr 0=some a): ∀id,id∈ [a,l,b]→ ∃bl,find hp id=some bl∧(bl.ak (bz [a,l,b])).ak (fS [a,l,b] ctr)=bl:=by
 have CB:rows=tr zs:=hR
 subst CB
 intro id bJ
 simp only[List.mem_cons,List.not_mem_nil,or_false]at bJ
 rcases bJ with rfl|rfl|rfl
 · exact⟨_,h0,by simp only[bi.ak,List.map_cons,List.map_nil,C.ak,hl,hf]⟩
 · exact⟨_,h1,by simp only[bi.ak,eJ]⟩
 · exact⟨_,h2,by simp only[bi.ak,List.map_cons,List.map_nil,C.ak,ha,hg,List.all_cons,List.all_nil,Option.isSome_some,Bool.and_self,if_true,Option.getD_some]⟩
theorem NT:enters Tryz.prog 120=true:=by kernel_rfl
theorem YZ:enters Tryz.prog 121=true:=by kernel_rfl
theorem YY:enters Tryz.prog 123=true:=by kernel_rfl
def ZG (ts:List W):Prop:= ∃a b c d e f:Int,ts=[ij (a,b),ij (c,d),ij (e,f)]
theorem Mm (k:Nat) (zs:Lz) (hz:bZ zs) (hk:k≤zs.length) (Lr:zs.length≤1000000) (i:Int) (E3:0≤i) (hi:i < (k:Int)): ∃ts hout,Fn Tryz.prog 120 [oI i, .one (.ptr 0 1 0 0)] (Tw k zs) (aQ ts) hout∧(fun ts hout=>hout=Tw k zs∧ZG ts) ts hout:=by
 refine gH Tryz.func120 ?_
 repeat' (conv=>whnf
          first
  |(refine And.intro ⟨by omega,by omega⟩ ?_)
  |(refine And.intro ⟨cC (by rw[bj (n:=i+(k:Int)) (by omega) (by omega),bj (by omega) (by omega)];omega),cr (by omega)⟩ ?_)
  |(refine And.intro ⟨cC (by rw[bj (by omega) (by omega)];omega),cr (by omega)⟩ ?_)
  |(refine And.intro (show((k:Nat):Int)≠0 by omega) ?_)
  |(refine And.intro (by kernel_rfl) ?_)
  |(refine cv (xs:=zs) rfl hz (by first|omega|(have h1:=cr (a:=IntKind.i64.wrap (IntKind.i64.wrap (i+(k:Int)) - 1)) (b:=(k:Int)) (by omega);have h2:=cr (a:=IntKind.i64.wrap (i+1)) (b:=(k:Int)) (by omega);omega)) ?_;rintro _ ⟨x,y,rfl⟩ hs)
  |exact⟨_,_,_,rfl,rfl,JC rfl rfl rfl,rfl,_,_,_,_,_,_,rfl⟩)
 all_goals (conv=>whnf)
theorem WL (k:Nat) (zs:Lz) (hz:bZ zs) (hk:k≤zs.length) (Lr:zs.length≤1000000) (i:Int) (E3:0≤i) (hi:i < (k:Int)): ∃ts hout,Fn Tryz.prog 121 [oI i, .one (.ptr 2 1 0 0)] (Hu k zs) (aQ ts) hout∧(fun ts hout=>hout=Hu k zs∧GB ts) ts hout:=by
 refine gH Tryz.func121 ?_
 repeat' (conv=>whnf
          first
  |(refine And.intro NT ?_)
  |(refine om [0,1] rfl (Y9 rfl rfl rfl rfl rfl) rfl (JS rfl rfl rfl rfl) (Mm k zs hz hk Lr i E3 hi) ?_;rintro _ ⟨a,b,c,d,e,f,rfl⟩)
  |(refine ag rfl (gu (_,_) (_,_) (_,_)) ?_;rintro _ ⟨n,rfl⟩)
  |exact⟨_,_,_,rfl,rfl,pP rfl rfl rfl rfl,rfl,_,rfl⟩)
 all_goals (conv=>whnf)
theorem Jc (a b c d e f:Int):bZ ([[tI a,tI b],[tI c,tI d],[tI e,tI f]]:Lz):=by
 intro q hq
 simp at hq
 rcases hq with hq|hq|hq
 · exact⟨a,b,hq⟩
 · exact⟨c,d,hq⟩
 · exact⟨e,f,hq⟩
theorem FV {n ctr ty t1 t2 t3:Nat} {a b c d e f:Int} {tm:TS} {hp:HS} {K:V→HS→Prop} (h1:find tm t1=some (.w (.agg [.t (tI a), .t (tI b)]))) (h2:find tm t2=some (.w (.agg [.t (tI c), .t (tI d)]))) (h3:find tm t3=some (.w (.agg [.t (tI e), .t (tI f)])))
 (hk:K (.w (.one (.t (.av 2 [[tI a,tI b],[tI c,tI d],[tI e,tI f]])))) hp): ∃v aF,gR Tryz.prog n (.buildSlice 77 3 #[(0, .tmp t1),(1, .tmp t2),(2, .tmp t3)]) ty tm hp ctr v aF∧K v aF:=by
 refine⟨_,_,Ji (sz:=2) (l:=[(0, .agg [.t (tI a), .t (tI b)]),(1, .agg [.t (tI c), .t (tI d)]),(2, .agg [.t (tI e), .t (tI f)])]) (xs:=[[tI a,tI b],[tI c,tI d],[tI e,tI f]]) ?_ ?_ rfl,hk⟩
 · simp only[fQ,St.get,h1,h2,h3,Option.getD_some]
 · kernel_rfl
def RS3 (k:Nat) (zs:Lz) (a b c d e f:Int) (m:Nat) (vs:List V) (hq:HS):Prop:= ∃ (i:Nat) (rows:List (List C)),i≤k∧m=k - i∧vs=[iV .i64 (i:Int)]∧az rows zs∧
 hq=[(0, .row 1 [[.own 1 2 0 k]]),(1, .row 2 rows),(2, .row 1 [[.jY 120 [(0,1,0,0)]]]),(4, .row 2 [[.t (tI a), .t (tI b)]]),(8, .row 2 [[.t (tI c), .t (tI d)]]),(12, .row 2 [[.t (tI e), .t (tI f)]])]
theorem WK (k:Nat) (zs:Lz) (hz:bZ zs) (hk:k≤zs.length) (Lr:zs.length≤1000000) (i:Int) (E3:0≤i) (hi:i < (k:Int)): ∃ts hout,Fn Tryz.prog 123 [oI i, .one (.ptr 2 1 0 0), .one (.ptr 0 1 0 0)] (Hu k zs) (aQ ts) hout∧(fun ts hout=>hout=Hu k zs∧GB ts) ts hout:=by
 refine gH Tryz.func123 ?_
 repeat' (conv=>whnf
          first
  |(refine aA (fun h=>?_) (fun h=>?_))
  |(refine aG (fun h=>?_) (fun h=>?_))
  |(refine And.intro NT ?_)
  |(refine And.intro ⟨by omega,by omega⟩ ?_)
  |(refine om [0,1] rfl (Y9 rfl rfl rfl rfl rfl) rfl (JS rfl rfl rfl rfl) (Mm k zs hz hk Lr i E3 hi) ?_;rintro _ ⟨a,b,c,d,e,f,rfl⟩)
  |(refine cv (xs:=zs) hR hz (by omega) ?_;rintro _ ⟨x,y,rfl⟩ hs)
  |(refine FV rfl rfl rfl ?_)
  |(refine ag rfl (gu (_,_) (_,_) (_,_)) ?_;rintro _ ⟨n,rfl⟩)
  |(refine ag rfl (tQ _ (_,_) (Jc _ _ _ _ _ _)) ?_;rintro _ ⟨n,rfl⟩)
  |exact⟨_,_,_,rfl,rfl,pP rfl rfl rfl rfl,rfl,_,rfl⟩
  |exact⟨_,_,_,rfl,rfl,pP rfl rfl rfl hR,rfl,_,rfl⟩
  |(apply bW [5,6,7,22,23,24] [] [24] (RS3 k zs a b c d e f) (k) [iV .i64 0];(conv=>whnf);exact⟨rfl,rfl,rfl,rfl⟩;exact rfl;exact rfl;exact⟨0,_,by omega,rfl,rfl,az.ak (xs:=zs) rfl _,rfl⟩;rintro _ _ _ ⟨j,rows,hj,rfl,rfl,hR,rfl⟩)
  |(refine aj [5,6,7,22,23,24] [] ?_;(conv=>whnf);exact⟨rfl,_,[_],⟨j+1,_,by omega,rfl,by rw[bj (by omega) (by omega)];rfl,hR.ak _,rfl⟩,rfl,rfl,by omega⟩))
 all_goals (conv=>whnf)
def GIr (k:Nat) (ts:List W):Prop:= ∃r:Int,ts=[oI r]∧ -1≤r∧r < (k:Int)
def RF (k:Nat) (zs:Lz) (m:Nat) (vs:List V) (hq:HS):Prop:= ∃ (i:Nat) (rows:List (List C)),i≤k∧m=k - i∧vs=[iV .i64 (i:Int)]∧az rows zs∧
 hq=[(0, .row 1 [[.own 1 2 0 k]]),(1, .row 2 rows),(2, .row 1 [[.jY 120 [(0,1,0,0)]]])]
theorem NN (k:Nat) (zs:Lz) (hz:bZ zs) (hk:k≤zs.length) (Lr:zs.length≤1000000): ∃ts hout,Fn Tryz.prog 125 [oI k, .one (.jY 121 [(2,1,0,0)])] (Hu k zs) (aQ ts) hout∧(fun ts hout=>hout=Hu k zs∧GIr k ts) ts hout:=by
 refine gH Tryz.func125 ?_
 repeat' (conv=>whnf
          first
  |(refine aA (fun h=>?_) (fun h=>?_))
  |(refine aG (fun h=>?_) (fun h=>?_))
  |(refine And.intro YZ ?_)
  |(refine om [0,1,2] rfl (Vm rfl rfl rfl hR rfl rfl rfl rfl) rfl (hi2 rfl rfl rfl hR rfl rfl) (WL k zs hz hk Lr (j:Int) (by omega) (by omega)) ?_;rintro _ ⟨b,rfl⟩)
  |exact⟨_,_,_,rfl,rfl,pP rfl rfl rfl hR,rfl,_,rfl,by omega,by omega⟩
  |(apply bW [1,6,7] [] [7] (RF k zs) (k) [iV .i64 0];(conv=>whnf);exact⟨rfl,rfl,rfl,rfl⟩;exact rfl;exact rfl;exact⟨0,_,by omega,rfl,rfl,az.ak (xs:=zs) rfl _,rfl⟩;rintro _ _ _ ⟨j,rows,hj,rfl,rfl,hR,rfl⟩)
  |(refine aj [1,6,7] [] ?_;(conv=>whnf);exact⟨rfl,_,[_],⟨j+1,_,by omega,rfl,by rw[bj (by omega) (by omega)];rfl,hR.ak _,rfl⟩,rfl,rfl,by omega⟩))
 all_goals (conv=>whnf)
theorem NM (k:Nat) (zs:Lz) (hz:bZ zs) (hk:k≤zs.length) (Lr:zs.length≤1000000): ∃ts hout,Fn Tryz.prog 125 [oI k, .one (.jY 123 [(2,1,0,0),(0,1,0,0)])] (Hu k zs) (aQ ts) hout∧(fun ts hout=>hout=Hu k zs∧GIr k ts) ts hout:=by
 refine gH Tryz.func125 ?_
 repeat' (conv=>whnf
          first
  |(refine aA (fun h=>?_) (fun h=>?_))
  |(refine aG (fun h=>?_) (fun h=>?_))
  |(refine And.intro YY ?_)
  |(refine om [0,1,2] rfl (Vm rfl rfl rfl hR rfl rfl rfl rfl) rfl (hi2 rfl rfl rfl hR rfl rfl) (WK k zs hz hk Lr (j:Int) (by omega) (by omega)) ?_;rintro _ ⟨b,rfl⟩)
  |exact⟨_,_,_,rfl,rfl,pP rfl rfl rfl hR,rfl,_,rfl,by omega,by omega⟩
  |(apply bW [1,6,7] [] [7] (RF k zs) (k) [iV .i64 0];(conv=>whnf);exact⟨rfl,rfl,rfl,rfl⟩;exact rfl;exact rfl;exact⟨0,_,by omega,rfl,rfl,az.ak (xs:=zs) rfl _,rfl⟩;rintro _ _ _ ⟨j,rows,hj,rfl,rfl,hR,rfl⟩)
  |(refine aj [1,6,7] [] ?_;(conv=>whnf);exact⟨rfl,_,[_],⟨j+1,_,by omega,rfl,by rw[bj (by omega) (by omega)];rfl,hR.ak _,rfl⟩,rfl,rfl,by omega⟩))
 all_goals (conv=>whnf)
end Go.aS.Cd
end
section
namespace Go.aS.Cd
open Go Go.Proofs
set_option maxRecDepth 100000
set_option maxHeartbeats 1000000
def Uf (e:List T):Prop:= ∃IA,e=[.av 2 IA]∧bZ IA∧IA.length≤1000000
abbrev Fz (rs:Lz):Prop:= ∀e,e∈rs→Uf e
theorem Fz.snoc {rs:Lz} (h:Fz rs) {IA:Lz} (ht:bZ IA) (hl:IA.length≤1000000):Fz (rs++[[.av 2 IA]]):=by
 intro e he
 simp only[List.mem_append,List.mem_singleton]at he
 rcases he with he|rfl
 · exact h e he
 · exact⟨IA,rfl,ht,hl⟩
theorem I4 {id sz i len l h:Nat} {K:C→Prop} (h1:l≤h) (h2:h≤len) (hk:h≠l→K (.own id sz (i+l) (h - l))) (Hl:h=l→l≠0→K (.t (.av sz []))) (h0:h=l→l=0→False):(l≤h∧h≤len)∧rf (.own id sz i len) l h K:=by
 refine⟨⟨h1,h2⟩,?_⟩
 by_cases e:h=l
 · by_cases e0:l=0
   · exact(h0 e e0).elim
   · simp only[rf,wT,if_pos (⟨e,e0⟩:h=l∧l≠0)]
     exact Hl e e0
 · have e':¬ (h=l∧l≠0):=fun q=>e q.1
   simp only[rf,wT,if_neg e',if_pos (⟨h1,h2⟩:l≤h∧h≤len)]
   exact hk e
theorem V9:cG Tryz.prog 57=some 2:=UC
theorem bZ.aX {xs ys:Lz} (h:bZ xs) (g:bZ ys) (i:Nat):bZ (aX xs i ys):=by
 intro e he
 rcases B5 he with he|he
 · exact h e he
 · exact g e he
def Ku (m:Nat) (vs:List V) (hq:HS):Prop:= ∃ (k:Nat) (zs rs:Lz) (rl rr:List (List C)),m=k∧(k≤zs.length∧zs.length≤40)∧bZ zs∧rs.length+k≤40∧Fz rs∧az rr rs∧az rl zs∧vs=[bG 12 1 rs.length]∧
 hq=[(4, .row 1 [[.own 16 2 0 k]]),(8, .row 1 [[.jY 120 [(4,1,0,0)]]]),(12, .row 1 rr),(16, .row 2 rl)]
theorem Ku.next {k q:Nat} {zs rs:Lz} {rl rr:List (List C)} (h4:(k:Int) > 3) (hk:k≤zs.length∧zs.length≤40) (hz:bZ zs) (hn:rs.length+(k - 1)≤40) (ht:Fz rs) (h1:az rr rs) (h2:az rl zs) (hq:q=rs.length):
 Ku (k - 1) [bG 12 1 q] [(4, .row 1 [[.own 16 2 0 ((IntKind.i64.wrap ((k:Int) - 1)).toNat - 0)]]),(8, .row 1 [[.jY 120 [(4,1,0,0)]]]),(12, .row 1 rr),(16, .row 2 rl)]:=by
 have e:(IntKind.i64.wrap ((k:Int) - 1)).toNat - 0=k - 1:=by rw[bj (by omega) (by omega)];omega
 rw[e,hq]
 exact⟨k - 1,zs,rs,rl,rr,rfl,by omega,hz,hn,ht,h1,h2,rfl,rfl⟩
theorem LM {form:Lz} (h:form.length≤40):(aX (List.replicate ((form.length:Nat):Int).toNat [tI 0,tI 0]) 0 (form.take ((form.length:Nat):Int).toNat)).length=form.length:=by
 have e:((form.length:Nat):Int).toNat=form.length:=by omega
 rw[e,tX (by simp)]
 simp
theorem Dr {zs ys:Lz} {i k n:Nat} (hk:k≤zs.length∧zs.length≤40) (hi:i+n≤k):k≤(aX zs i (ys.take n)).length∧(aX zs i (ys.take n)).length≤40:=by
 rw[tX]
 · exact hk
 · simp only[List.length_take]
   omega
theorem jn (xs:Lz) (hx:bZ xs) (hl:xs.length≤1000000):Tg 90 [oL 2 xs] (KP 1 (fun rs=>Fz rs∧rs.length≤41)):=by
 refine aK ?_
 refine ae Tryz.func90 ?_
 repeat' (conv=>whnf
          first
  |(refine aA (fun h=>?_) (fun h=>?_))
  |(refine bR (fun h=>?_) (fun h=>?_))
  |(refine And.intro ⟨by omega,by omega,by have:=(hF (by omega)).2;omega,by have:=(hF (by omega)).2;omega⟩ ?_)
  |(refine And.intro NT ?_)
  |(refine And.intro ⟨h1.len.symm,by rw[h1.len];simp[aU];omega,by rw[h1.len];simp[maxLen];omega⟩ ?_)
  |(refine And.intro (show(0:Int)≤IntKind.i64.wrap (r+1) by rw[bj (by omega) (by omega)];omega) ?_)
  |(refine And.intro (show(0:Int)≤IntKind.i64.wrap ((k:Int) - 1) by rw[bj (by omega) (by omega)];omega) ?_)
  |(refine And.intro (show(0:Int)≤r by omega) ?_)
  |(refine mo (l:=r.toNat) (by omega) (Nat.le_refl _) (.inl (by omega)) ?_)
  |(refine mo (l:=0) (Nat.zero_le _) (by rw[bj (by omega) (by omega)];omega) (.inr rfl) ?_)
  |(refine I4 (by rw[bj (by omega) (by omega)];omega) (Nat.le_refl _) (fun hne=>?_) (fun heq JP=>?_) (fun heq JP=>by omega))
  |(refine And.intro (by kernel_rfl) ?_)
  |(refine ag rfl (uA xs hx hl) ?_;rintro _ ⟨form,e,rfl,hF⟩)
  |(refine FU (ys:=form) rfl rfl rfl rfl UF V9 rfl (az.replicate _ [tI 0,tI 0]) (by simp) ?_)
  |(refine om [4,16,8] rfl (Vm rfl rfl rfl h2 rfl rfl rfl rfl) rfl (hi2 rfl rfl rfl h2 rfl rfl) (NN k zs hz hk.1 (by omega)) ?_;rintro _ ⟨r,rfl,uU,rT⟩)
  |(refine om [4,16,8] rfl (Vm rfl rfl rfl h2 rfl rfl rfl rfl) rfl (hi2 rfl rfl rfl h2 rfl rfl) (NM k zs hz hk.1 (by omega)) ?_;rintro _ ⟨r,rfl,uU,rT⟩)
  |(refine om [4,16] rfl (Y9 rfl rfl h2 rfl rfl) rfl (JS rfl rfl h2 rfl) (Mm k zs hz hk.1 (by omega) r (by omega) (by omega)) ?_;rintro _ ⟨a,b,c,d,e,f,rfl⟩)
  |(refine FV rfl rfl rfl ?_)
  |(refine Dd rfl rfl rfl (xW rfl h2 (by rw[bj (by omega) (by omega)];omega)) UF V9 rfl h2 (by omega) (fun n=>?_) (fun n=>?_))
  |(refine Dd (ys:=[]) rfl rfl rfl rfl UF V9 rfl h2 (by omega) (fun n=>?_) (fun n=>?_))
  |exact dA rfl (bP 1 rfl) (bX rfl) ⟨_,_,rfl,fun h0=>absurd h0 (by omega)⟩
  |exact dA rfl (Mw rfl rfl (rs:=rs) (zs:=zs) (by rw[show rr=tr rs from h1];rfl) (by rw[h1.len];rfl) rfl h2 hk.1 rfl) (bX rfl) ⟨_,_,rfl,fun _=>⟨ht.snoc (hz.take _) (by simp;omega),by simp;omega⟩⟩
  |(apply gn [6,7,8,9,10] [(6,0)] [10] (Ku) (form.length) [bG 12 1 0] (dP.iU 10 1 rfl);(conv=>whnf);exact⟨rfl,rfl,rfl,rfl⟩;exact rfl;exact rfl;exact⟨((form.length:Nat):Int).toNat,_,[],_,_,by omega,⟨by rw[LM (hF (by omega)).2];omega,by rw[LM (hF (by omega)).2];exact(hF (by omega)).2⟩,(bZ.Mu _).aX ((hF (by omega)).1.take _) _,by have:=(hF (by omega)).2;simp;omega,fun e he=>by simp at he,az.ak az.nil _,az.ak (xs:=aX (List.replicate _ [tI 0,tI 0]) 0 _) rfl _,rfl,rfl⟩;rintro _ _ _ ⟨k,zs,rs,rl,rr,hmk,hk,hz,hn,ht,h1,h2,rfl,rfl⟩)
  |(refine aj [6,7,8,9,10] [(6,0)] ?_;(conv=>whnf);first|exact⟨rfl,_,[_],Ku.next (by omega) hk hz (by omega) ht (h1.ak _) (h2.ak _) rfl,rfl,rfl,by omega⟩|exact⟨rfl,_,[_],Ku.next (by omega) hk hz (by simp;omega) (ht.snoc (Jc _ _ _ _ _ _) (by simp)) ((az.snoc h1 [.av 2 [[tI _,tI _],[tI _,tI _],[tI _,tI _]]]).ak _) (h2.ak _) (by have:=h1.len;simp;omega),rfl,rfl,by omega⟩|exact⟨rfl,_,[_],Ku.next (by omega) (Dr hk (by omega)) (hz.aX (bZ.take (dR hz _ _) _) _) (by omega) ht (h1.ak _) (az.ak (xs:=aX zs _ _) rfl _) rfl,rfl,rfl,by omega⟩|exact⟨rfl,_,[_],Ku.next (by omega) (Dr hk (by omega)) (hz.aX (bZ.take (dR hz _ _) _) _) (by simp;omega) (ht.snoc (Jc _ _ _ _ _ _) (by simp)) ((az.snoc h1 [.av 2 [[tI _,tI _],[tI _,tI _],[tI _,tI _]]]).ak _) (az.ak (xs:=aX zs _ _) rfl _) (by have:=h1.len;simp;omega),rfl,rfl,by omega⟩|exact⟨rfl,_,[_],Ku.next (by omega) (Dr hk (by omega)) (hz.aX (fun e he=>by simp at he) _) (by omega) ht (h1.ak _) (az.ak (xs:=aX zs _ _) rfl _) rfl,rfl,rfl,by omega⟩|exact⟨rfl,_,[_],Ku.next (by omega) (Dr hk (by omega)) (hz.aX (fun e he=>by simp at he) _) (by simp;omega) (ht.snoc (Jc _ _ _ _ _ _) (by simp)) ((az.snoc h1 [.av 2 [[tI _,tI _],[tI _,tI _],[tI _,tI _]]]).ak _) (az.ak (xs:=aX zs _ _) rfl _) (by have:=h1.len;simp;omega),rfl,rfl,by omega⟩))
 all_goals (conv=>whnf)
end Go.aS.Cd
end
section
namespace Go.aS.Cd
open Go Go.Proofs
set_option maxRecDepth 100000
set_option maxHeartbeats 1000000
def PB (N:Nat) (m:Nat) (vs:List V):Prop:= ∃ (i:Nat) (n:Int),i≤N∧m=N - i∧vs=[iV .i64 n,iV .i64 (i:Int)]
theorem PB.next {N i:Nat} {n:Int} (h:(i:Int) < (N:Int)) (hN:N≤1000000):PB N (N - (i+1)) [iV .i64 n,iV .i64 (IntKind.i64.wrap ((i:Int)+1))]:=⟨i+1,n,by omega,rfl,by rw[bj (by omega) (by omega)];rfl⟩
def GII (ts:List W):Prop:= ∃n e,ts=[oI n,oI e]
theorem qH (xs ys:Lz) (hx:bZ xs) (hy:bZ ys) (hl:xs.length≤1000000) (hm:ys.length≤1000000):Tg 138 [oL 2 xs,oL 2 ys] GII:=by
 refine aK ?_
 refine ae Tryz.func138 ?_
 repeat' (conv=>whnf
          first
  |(refine aA (fun h=>?_) (fun h=>?_))
  |(refine bR (fun h=>?_) (fun h=>?_))
  |(refine au (xs:=ts) (hT (by omega)).1 (by omega) (by omega) ?_;rintro _ ⟨t1,rfl,ht1,OV⟩ hs)
  |(refine au (xs:=us) (hU (by omega)).1 (by omega) (by omega) ?_;rintro _ ⟨t2,rfl,ht2,rW⟩ hs)
  |(refine ag rfl (jn xs hx hl) ?_;rintro _ ⟨ts,e,rfl,hT⟩)
  |(refine ag rfl (jn ys hy hm) ?_;rintro _ ⟨us,e2,rfl,hU⟩)
  |(refine ag rfl (lS t1 t2 ht1 ht2 OV rW) ?_;rintro _ ⟨c,rfl⟩)
  |exact dA rfl (bX rfl) (bX rfl) ⟨_,_,rfl⟩
  |(apply aL [8,9,11,30,31,32,36,37,38] [] [9,38] (PB us.length) (us.length) [iV .i64 n,iV .i64 0];(conv=>whnf);exact⟨rfl,rfl,rfl,rfl⟩;exact rfl;exact rfl;exact⟨0,n,by omega,rfl,rfl⟩;rintro _ _ ⟨j,n2,hj,rfl,rfl⟩)
  |(refine aj [8,9,11,30,31,32,36,37,38] [] ?_;(conv=>whnf);exact⟨rfl,_,[_,_],PB.next (by omega) (by have:=(hU (by omega)).2;omega),rfl,rfl,rfl,by omega⟩)
  |(apply aL [8,9,30,31,32] [] [9,32] (PB ts.length) (ts.length) [iV .i64 (-1),iV .i64 0];(conv=>whnf);exact⟨rfl,rfl,rfl,rfl⟩;exact rfl;exact rfl;exact⟨0, -1,by omega,rfl,rfl⟩;rintro _ _ ⟨i,n,hi,rfl,rfl⟩)
  |(refine aj [8,9,30,31,32] [] ?_;(conv=>whnf);exact⟨rfl,_,[_,_],PB.next (by omega) (by have:=(hT (by omega)).2;omega),rfl,rfl,rfl,by omega⟩))
 all_goals (conv=>whnf)
def GBI (ts:List W):Prop:= ∃b e,ts=[oB b,oI e]
theorem sM (xs ys:Lz) (hx:bZ xs) (hy:bZ ys) (hl:xs.length≤1000000) (hm:ys.length≤1000000):Tg 104 [oL 2 xs,oL 2 ys] GBI:=by
 refine aK ?_
 refine ae Tryz.func104 ?_
 repeat' (conv=>whnf
          first
  |(refine aA (fun h=>?_) (fun h=>?_))
  |(refine ag rfl (qH xs ys hx hy hl hm) ?_;rintro _ ⟨n,e,rfl⟩)
  |exact dA rfl (bX rfl) (bX rfl) ⟨_,_,rfl⟩)
 all_goals (conv=>whnf)
def Zf (e:List T):Prop:= ∃poly g m x y,e=[.av 2 poly,tI g,tB m,tI x,tI y]∧bZ poly∧poly.length≤1000000
def Zk (e:List T):Prop:= ∃sh f q x y,e=[tI sh,tB f,tI q,tI x,tI y]
abbrev MK (sh:Int) (f:Bool) (q x y:Int):W:= .agg [.t (tI sh), .t (tB f), .t (tI q), .t (tI x), .t (tI y)]
abbrev D5 (xs:Lz):Prop:= ∀e,e∈xs→Zf e
abbrev Zj (xs:Lz):Prop:= ∀e,e∈xs→Zk e
theorem oE (eK:Lz) (hs:D5 eK) (sh:Int) (f:Bool) (q x y:Int):Tg 31 [oL 5 eK,MK sh f q x y] (KP 2 (fun ps=>(bZ ps∧ps.length≤1000000)∧0≤sh∧sh < (eK.length:Int))):=by
 refine aK ?_
 refine ae Tryz.func31 ?_
 repeat' (conv=>whnf
          first
  |(refine aA (fun h=>?_) (fun h=>?_))
  |(refine bR (fun h=>?_) (fun h=>?_))
  |(refine aG (fun h=>?_) (fun h=>?_))
  |(refine au (xs:=eK) hs (by omega) (by omega) ?_;rintro _ ⟨poly,g,m,px,py,rfl,hp,jv⟩ hs1)
  |(refine And.intro (by kernel_rfl) ?_)
  |(refine ag rfl (pE (_,_)) ?_;rintro _ ⟨b,rfl,_⟩)
  |(refine ag rfl (dS poly hp jv) ?_;rintro _ ⟨d,rfl,_⟩)
  |(refine aB rfl (qv _ _ poly hp jv) ?_;rintro _ ⟨ys,rfl,kT,hys⟩)
  |(refine aB rfl (yP ys (_,_) hys (by omega)) ?_;rintro _ ⟨zs,rfl,jS,hzs⟩)
  |(refine ag rfl (dS zs hzs (by omega)) ?_;rintro _ ⟨d2,rfl,_⟩)
  |exact dA rfl (bP 2 rfl) (bX rfl) ⟨_,_,rfl,fun h0=>absurd h0 (by omega)⟩
  |exact dA rfl (bX rfl) (bX rfl) ⟨zs,_,rfl,fun _=>⟨⟨hzs,by omega⟩,by omega,by omega⟩⟩)
 all_goals (conv=>whnf)
theorem wA (r a:Sp) (sh:Int) (f:Bool) (q x y:Int):Tg 103 [ij r,ij a,MK sh f q x y] GB:=by
 refine ae Tryz.func103 ?_
 repeat' (conv=>whnf
          first
  |(refine aG (fun h=>?_) (fun h=>?_))
  |(refine ag rfl (pE (_,_)) ?_;rintro _ ⟨b,rfl,_⟩)
  |(refine ag rfl (kY _ _ (_,_)) ?_;rintro _ ⟨u,v,rfl,_⟩)
  |(refine ag rfl (Al (_,_) (_,_) (_,_)) ?_;rintro _ ⟨b,rfl⟩)
  |exact gB rfl rfl)
 all_goals (conv=>whnf)
abbrev R8 (l w rx ry:Int):W:= .agg [.t (tI l), .t (tI w), .t (tI rx), .t (tI ry)]
theorem Ch (bl bw Vl Vd:Int) (eK fk:Lz) (hs:D5 eK) (hp:Zj fk) (jv:fk.length≤maxLen) (sh:Int) (f:Bool) (q x y:Int):Tg 78 [R8 bl bw Vl Vd,oL 5 eK,oL 5 fk,MK sh f q x y] GI:=by
 refine ae Tryz.func78 ?_
 repeat' (conv=>whnf
          first
  |(refine aA (fun h=>?_) (fun h=>?_))
  |(refine bR (fun h=>?_) (fun h=>?_))
  |(refine aG (fun h=>?_) (fun h=>?_))
  |(refine au (xs:=eK) hs (hP (by omega)).2.1 (hP (by omega)).2.2 ?_;rintro _ ⟨poly,g,m,px,py,rfl,_,_⟩ hs1)
  |(refine au (xs:=ps) (hP (by omega)).1.1 (by omega) (by omega) ?_;rintro _ ⟨a,b,rfl⟩ bO)
  |(refine au (xs:=fk) hp (by omega) (by omega) ?_;rintro _ ⟨sh2,f2,q2,x2,y2,rfl⟩ IF)
  |(refine ag rfl (oE eK hs sh f q x y) ?_;rintro _ ⟨ps,e,rfl,hP⟩)
  |(refine ag rfl (yp _ _ _ _) ?_;rintro _ ⟨b,rfl⟩)
  |(refine ag rfl (wA (_,_) (_,_) _ _ _ _ _) ?_;rintro _ ⟨b,rfl⟩)
  |(refine ag rfl (oE eK hs sh2 f2 q2 x2 y2) ?_;rintro _ ⟨OJ,e2,rfl,hP2⟩)
  |(refine ag rfl (sM OJ ps (hP2 (by omega)).1.1 (hP (by omega)).1.1 (hP2 (by omega)).1.2 (hP (by omega)).1.2) ?_;rintro _ ⟨b,e3,rfl⟩)
  |exact gI rfl rfl
  |(apply aL [1,9,97,98,99] [] [99] (RI fk.length) (fk.length) [iV .i64 0];(conv=>whnf);exact⟨rfl,rfl,rfl,rfl⟩;exact rfl;exact rfl;exact RI.zero;rintro _ _ ⟨i,hi,rfl,rfl⟩)
  |(refine aj [1,9,97,98,99] [] ?_;(conv=>whnf);exact⟨rfl,_,[_],RI.succ (N:=fk.length) (i:=i) (by omega) jv,rfl,rfl,rfl,by omega⟩)
  |(apply aL [1,2,4,7,9,11,57,58,59] [] [59] (RI ps.length) (ps.length) [iV .i64 0];(conv=>whnf);exact⟨rfl,rfl,rfl,rfl⟩;exact rfl;exact rfl;exact RI.zero;rintro _ _ ⟨i,hi,rfl,rfl⟩)
  |(refine aj [1,2,4,7,9,11,57,58,59] [] ?_;(conv=>whnf);exact⟨rfl,_,[_],RI.succ (N:=ps.length) (i:=i) (by omega) (by have:=(hP (by omega)).1.2;simp only[maxLen];omega),rfl,rfl,rfl,by omega⟩))
 all_goals (conv=>whnf)
theorem rJ (bl bw Vl Vd:Int) (eK fk:Lz) (hs:D5 eK) (hp:Zj fk) (jv:fk.length≤maxLen):Tg 53 [R8 bl bw Vl Vd,oL 5 eK,oL 5 fk] GI:=by
 refine ae Tryz.func53 ?_
 repeat' (conv=>whnf
          first
  |(refine aA (fun h=>?_) (fun h=>?_))
  |(refine bR (fun h=>?_) (fun h=>?_))
  |(refine eW (Nat.zero_le _) (by omega) ?_)
  |(refine au (xs:=fk) hp (by omega) (by omega) ?_;rintro _ ⟨sh,f,q,x,y,rfl⟩ IF)
  |(refine And.intro (by kernel_rfl) ?_)
  |(refine And.intro (by omega) ?_)
  |(refine aB rfl (Ch bl bw Vl Vd eK _ hs (dR hp _ _) (nu jv _ _) sh f q x y) ?_;rintro _ ⟨n,rfl⟩)
  |exact gI rfl rfl
  |(apply aL [1,2,3,13,14,15] [] [15] (RI fk.length) (fk.length) [iV .i64 0];(conv=>whnf);exact⟨rfl,rfl,rfl,rfl⟩;exact rfl;exact rfl;exact RI.zero;rintro _ _ ⟨i,hi,rfl,rfl⟩)
  |(refine aj [1,2,3,13,14,15] [] ?_;(conv=>whnf);exact⟨rfl,_,[_],RI.succ (N:=fk.length) (i:=i) (by omega) jv,rfl,rfl,rfl,by omega⟩))
 all_goals (conv=>whnf)
end Go.aS.Cd
end
section
namespace Go.aS.Cd
open Go Go.Proofs
set_option maxRecDepth 100000
set_option maxHeartbeats 1000000
theorem Zc:iQ Tryz.prog 166=some true:=by kernel_rfl
theorem Wg:cG Tryz.prog 166=some 5:=by kernel_rfl
theorem aKy:iQ Tryz.prog 158=some true:=by kernel_rfl
theorem zKy:cG Tryz.prog 158=some 3:=by kernel_rfl
abbrev oPl (g u k:Int) (f:Bool) (q x y:Int):W:= .agg [.t (tI g), .t (tI u), .t (tI k), .t (tB f), .t (tI q), .t (tI x), .t (tI y)]
theorem uK (g u k:Int) (f:Bool) (q x y:Int): ∃ts,Fn Tryz.prog 51 [oPl g u k f q x y] [] (aQ ts) []∧(aQ ts).bY=true∧(fun ts=>ts=[.agg [.t (tI g), .t (tI u), .t (tI k)]]) ts:=by
 refine aK ?_
 refine ae Tryz.func51 ?_
 repeat' (conv=>whnf
          first
  |(refine aA (fun h=>?_) (fun h=>?_))
  |(refine D0 (fun h=>?_) (fun h=>?_))
  |(refine bR (fun h=>?_) (fun h=>?_))
  |(refine aG (fun h=>?_) (fun h=>?_))
  |(refine ol (by omega) (by omega) ?_;intro bb)
  |(refine eW (by omega) (by omega) ?_)
  |(refine And.intro (by kernel_rfl) ?_)
  |(refine And.intro (by omega) ?_)
  |exact mh rfl (bF aKy zKy rfl rfl (Nat.le_refl _) rfl (cQ.refl _)) rfl
  |(exfalso;omega))
 all_goals (conv=>whnf)
abbrev W7 (poly:Lz) (g:Int) (m:Bool) (x y:Int):W:= .agg [.t (.av 2 poly), .t (tI g), .t (tB m), .t (tI x), .t (tI y)]
def ZI (ts:List W):Prop:= ∃poly g m x y e,ts=[W7 poly g m x y,oI e]∧(e=0→bZ poly∧poly.length≤1000000)
theorem vX.Em {xs:Lz} (h:vX xs):bZ xs∧xs.length≤40:=⟨fun e he=>by obtain⟨a,b,r,_⟩:=h.1.2.2 e he;exact⟨a,b,r⟩,h.1.2.1⟩
theorem mI (sn:ByteArray) (bk ms ps us ss os:Lz) (hS:iT sn bk ms ps us ss os) (size:Int) (g u k:Int) (f:Bool) (q x y:Int):Tg 76 [jt sn bk ms ps us ss os,oI size,oPl g u k f q x y] ZI:=by
 refine aK ?_
 refine ae Tryz.func76 ?_
 repeat' (conv=>whnf
          first
  |(refine aA (fun h=>?_) (fun h=>?_))
  |(refine D0 (fun h=>?_) (fun h=>?_))
  |(refine bR (fun h=>?_) (fun h=>?_))
  |(refine aG (fun h=>?_) (fun h=>?_))
  |(refine au (xs:=us) (hC (by assumption)).2.2 (hC (by assumption)).2.1.1 (hC (by assumption)).2.1.2 ?_;rintro _ ⟨a,b,c,rfl,⟨ha,ha2⟩,hb⟩ hs)
  |(refine au (xs:=ps) hS.hps ha ha2 ?_;rintro _ ⟨nm,es,gr,ns,cs,ws,mt,rfl,hnm,⟨he,hm⟩,⟨hn,_⟩,⟨hc,ew⟩,hw,z7⟩ bO)
  |(refine ol (by omega) (by omega) ?_;intro bb)
  |(refine eW (by omega) (by omega) ?_)
  |(refine And.intro (by kernel_rfl) ?_)
  |(refine And.intro (by omega) ?_)
  |(refine ag rfl (xl sn bk ms ps us ss os hS size u) ?_;rintro _ ⟨poly,e,rfl,hC⟩)
  |(refine aB rfl (xl sn bk ms ps us ss os hS size u) ?_;rintro _ ⟨poly,e,rfl,hC⟩)
  |(refine ag rfl (po sn bk ms ps us ss os hS size u) ?_;rintro _ ⟨⟨ax,ay⟩,e2,rfl⟩)
  |(refine aB rfl (po sn bk ms ps us ss os hS size u) ?_;rintro _ ⟨⟨ax,ay⟩,e2,rfl⟩)
  |(refine ag rfl (qv _ _ poly (hC (by assumption)).1.Em.1 (by have:=(hC (by assumption)).1.Em.2;omega)) ?_;rintro _ ⟨ys,rfl,kT,hys⟩)
  |(refine aB rfl (qv _ _ poly (hC (by assumption)).1.Em.1 (by have:=(hC (by assumption)).1.Em.2;omega)) ?_;rintro _ ⟨ys,rfl,kT,hys⟩)
  |(refine ag rfl (kY _ _ (_,_)) ?_;rintro _ ⟨bx,b_y,rfl,_⟩)
  |(refine aB rfl (kY _ _ (_,_)) ?_;rintro _ ⟨bx,b_y,rfl,_⟩)
  |exact dA rfl (bF Zc Wg rfl rfl (Nat.le_refl _) rfl (.cons (.nil 2) (cQ.refl _))) (bX rfl) ⟨_,_,_,_,_,_,rfl,fun h0=>absurd h0 (by assumption)⟩
  |exact dA rfl (bF Zc Wg rfl rfl (Nat.le_refl _) rfl (cQ.refl _)) (bX rfl) ⟨poly,_,_,_,_,_,rfl,fun _=>⟨(hC (by assumption)).1.Em.1,by have:=(hC (by assumption)).1.Em.2;omega⟩⟩
  |exact dA rfl (bF Zc Wg rfl rfl (Nat.le_refl _) rfl (cQ.refl _)) (bX rfl) ⟨ys,_,_,_,_,_,rfl,fun _=>⟨hys,by have:=(hC (by assumption)).1.Em.2;omega⟩⟩
  |(exfalso;omega))
 all_goals (conv=>whnf)
abbrev ox (sn:ByteArray) (bk ms ps us ss os:Lz):List T:=[.val (.string sn), .av 1 bk, .av 1 ms, .av 7 ps, .av 3 us, .av 6 ss, .av 5 os]
theorem D5.snoc {xs:Lz} (h:D5 xs) {poly:Lz} (hp:bZ poly) (hl:poly.length≤1000000) (g:Int) (m:Bool) (x y:Int):D5 (xs++[[.av 2 poly,tI g,tB m,tI x,tI y]]):=by
 intro e he
 simp only[List.mem_append,List.mem_singleton]at he
 rcases he with he|rfl
 · exact h e he
 · exact⟨poly,g,m,x,y,rfl,hp,hl⟩
def nI (k:Nat) (e:List T):Int:=
 match e[k]? with
 |some (.val (.int .i64 n))=>n
 |_=>0
def nB (k:Nat) (e:List T):Bool:=
 match e[k]? with
 |some (.val (.bool b))=>b
 |_=>false
def nL (k:Nat) (e:List T):Lz:=
 match e[k]? with
 |some (.av _ xs)=>xs
 |_=>[]
def Pre (Q:List T→Prop) (xs:Lz) (i:Nat):Prop:= ∀j e,j < i→xs[j]? =some e→Q e
theorem Pre.zero {Q:List T→Prop} {xs:Lz}:Pre Q xs 0:=fun j e hj=>by omega
theorem Pre.succ {Q:List T→Prop} {xs:Lz} {i:Nat} {e:List T} (h:Pre Q xs i) (hs:xs[i]? =some e) (hq:Q e):Pre Q xs (i+1):=by
 intro j e' hj he
 by_cases eF:j=i
 · subst eF
   rw[hs]at he
   cases he
   exact hq
 · exact h j e' (by omega) he
theorem Pre.all {Q:List T→Prop} {xs:Lz} {i:Nat} (h:Pre Q xs i) (hi:xs.length≤i): ∀e,e∈xs→Q e:=by
 intro e he
 obtain⟨j,hj,rfl⟩:=List.getElem_of_mem he
 exact h j _ (by omega) (by simp[hj])
def Ox (n:Int) (e:List T):Prop:= ∃a,e=[tI a]∧0≤a∧a < n
def KI (xs:Lz) (n:Int) (i:Nat):Prop:= ∀j e,j < i→xs[j]? =some e→Ox n e
theorem KI.all {xs:Lz} {n:Int} {i:Nat} (h:KI xs n i) (hi:xs.length≤i): ∀e,e∈xs→Ox n e:=by
 intro e he
 obtain⟨j,hj,rfl⟩:=List.getElem_of_mem he
 exact h j _ (by omega) (by simp[hj])
def VI (xs:Lz) (n:Int) (m:Nat) (vs:List V):Prop:= ∃i:Nat,i≤xs.length∧KI xs n i∧m=xs.length - i∧vs=[iV .i64 (i:Int)]
theorem VI.next {xs:Lz} {n a:Int} {i:Nat} (hi:(i:Int) < (xs.length:Int)) (hl:xs.length≤maxLen) (h:KI xs n i) (hs:xs[((i:Int)).toNat]? =some [tI a]) (h0:0≤a) (h1:a < n):VI xs n (xs.length - (i+1)) [iV .i64 (IntKind.i64.wrap ((i:Int)+1))]:=by
 refine⟨i+1,by omega,fun j e hj he=>?_,rfl,by simp only[maxLen]at hl;rw[bj (by omega) (by omega)];rfl⟩
 by_cases eF:j=i
 · subst eF
   have hs':xs[j]? =some [tI a]:=by simpa using hs
   rw[hs']at he
   exact⟨a,(Option.some.inj he).symm,h0,h1⟩
 · exact h j e (by omega) he
def VX (N:Nat) (e:List T):Prop:= ∃g r,e=tI g::r∧0≤g∧g < (N:Int)
abbrev C6 (N:Nat) (xs:Lz):Prop:= ∀e,e∈xs→VX N e
theorem C6.snoc {N:Nat} {xs:Lz} (h:C6 N xs) {g:Int} (r:List T) (h0:0≤g) (h1:g < (N:Int)):C6 N (xs++[tI g::r]):=by
 intro e he
 simp only[List.mem_append,List.mem_singleton]at he
 rcases he with he|rfl
 · exact h e he
 · exact⟨g,r,rfl,h0,h1⟩
def Kx (row:List T) (U N:Nat) (m:Nat) (ws:List V) (xss:List (Lz)):Prop:= ∃ (i:Nat) (eK jB:Lz),i≤N∧m=N - i∧ws=[bG 8 5 eK.length,bG 12 7 jB.length,iV .i64 (i:Int)]∧xss=[[row],eK,jB]∧jB.length=eK.length∧eK.length≤48 * i∧D5 eK∧Ed U jB∧C6 N jB
theorem Kx.next {row:List T} {U N i:Nat} {eK jB:Lz} (h:(i:Int) < (N:Int)) (hN:N≤6) (hl:jB.length=eK.length) (hb:eK.length≤48 * (i+1)) (h1:D5 eK) (h2:Ed U jB) (h3:C6 N jB):Kx row U N (N - (i+1)) [bG 8 5 eK.length,bG 12 7 jB.length,iV .i64 (IntKind.i64.wrap ((i:Int)+1))] [[row],eK,jB]:=
 ⟨i+1,eK,jB,by omega,rfl,by rw[bj (by omega) (by omega)];rfl,rfl,hl,hb,h1,h2,h3⟩
def Kw (row:List T) (U N b L:Nat) (m:Nat) (ws:List V) (xss:List (Lz)):Prop:= ∃ (j:Nat) (eK jB:Lz),j≤L∧m=L - j∧ws=[bG 8 5 eK.length,bG 12 7 jB.length,iV .i64 (j:Int)]∧xss=[[row],eK,jB]∧jB.length=eK.length∧eK.length≤b+j∧D5 eK∧Ed U jB∧C6 N jB
theorem Kw.next {row:List T} {U N b L j k1 k2:Nat} {eK jB poly:Lz} {g x y gg u k qq xx yy:Int} {m f:Bool} (h:(j:Int) < (L:Int)) (hL:L≤48) (hl:jB.length=eK.length) (hb:eK.length≤b+j) (h1:D5 eK) (h2:Ed U jB) (hp:bZ poly∧poly.length≤1000000) (hu:0≤u∧u < (U:Int)) (h3:C6 N jB) (hg:0≤gg∧gg < (N:Int)) (e1:k1=eK.length+1) (e2:k2=jB.length+1):
 Kw row U N b L (L - (j+1)) [bG 8 5 k1,bG 12 7 k2,iV .i64 (IntKind.i64.wrap ((j:Int)+1))] [[row],eK++[[.av 2 poly,tI g,tB m,tI x,tI y]],jB++[[tI gg,tI u,tI k,tB f,tI qq,tI xx,tI yy]]]:=
 ⟨j+1,_,_,by omega,rfl,by rw[bj (by omega) (by omega),e1,e2];simp,rfl,by simp[hl],by simp;omega,h1.snoc hp.1 hp.2 g m x y,h2.snoc gg u k qq xx yy f hu.1 hu.2,h3.snoc _ hg.1 hg.2⟩
def ZH (U N M:Nat) (sizes:Lz) (ts:List W):Prop:= ∃eK jB e,ts=[oL 5 eK,oL 7 jB,oI e]∧(e=0→D5 eK∧Ed U jB∧jB.length=eK.length∧eK.length≤336∧C6 N jB∧(∀e,e∈sizes→Ox M e)∧sizes.length≤6)
theorem nV (sn:ByteArray) (bk ms ps us ss os:Lz) (hS:iT sn bk ms ps us ss os) (sizes:Lz) (hz:Is sizes) (jS:sizes.length≤maxLen):Tg 50 [jt sn bk ms ps us ss os,oL 1 sizes] (ZH us.length sizes.length bk.length sizes):=by
 refine aK ?_
 refine ae Tryz.func50 ?_
 repeat' (conv=>whnf
          first
  |(refine aA (fun h=>?_) (fun h=>?_))
  |(refine D0 (fun h=>?_) (fun h=>?_))
  |(refine bR (fun h=>?_) (fun h=>?_))
  |(refine aG (fun h=>?_) (fun h=>?_))
  |(refine au (xs:=sizes) hz (by omega) (by omega) ?_;rintro _ ⟨a,rfl⟩ hs)
  |(refine au (xs:=cs) hcs (by omega) (by omega) ?_;rintro _ ⟨g,u,k,f,q,x,y,rfl,lC,rS⟩ hs)
  |(refine And.intro ⟨by simp[tr],by simp[tr,aU];omega,by simp[tr,maxLen];omega⟩ ?_)
  |(refine ol (by omega) (by omega) ?_;intro bb)
  |(refine eW (by omega) (by omega) ?_)
  |(refine And.intro (by kernel_rfl) ?_)
  |(refine And.intro (by omega) ?_)
  |(refine ag rfl (jK sn bk ms ps us ss os hS) ?_;rintro _ ⟨e,rfl,hC⟩)
  |(refine aB rfl (jK sn bk ms ps us ss os hS) ?_;rintro _ ⟨e,rfl,hC⟩)
  |(refine ag rfl (pn sn bk ms ps us ss os hS) ?_;rintro _ ⟨cs,rfl,hcs,ew⟩)
  |(refine aB rfl (pn sn bk ms ps us ss os hS) ?_;rintro _ ⟨cs,rfl,hcs,ew⟩)
  |(refine ag rfl (mI sn bk ms ps us ss os hS _ _ _ _ _ _ _ _) ?_;rintro _ ⟨poly,pg,pm,px,py,e3,rfl,hp⟩)
  |(refine aB rfl (mI sn bk ms ps us ss os hS _ _ _ _ _ _ _ _) ?_;rintro _ ⟨poly,pg,pm,px,py,e3,rfl,hp⟩)
  |exact Fb rfl (bP 5 rfl) (bP 7 rfl) (bX rfl) ⟨_,_,_,rfl,fun h0=>absurd h0 (by omega)⟩
  |exact Fb rfl (eR rfl rfl (xs:=eK) rfl (by omega)) (eR rfl rfl (xs:=jB) rfl (by omega)) (bX rfl) ⟨_,_,_,rfl,fun _=>by rw[fE rfl,fE rfl];exact⟨hs1,mQ,OV,by omega,hg1,o6.all (by omega),by omega⟩⟩
  |(apply bH [2,10,11,12,13,14,56,57,58,63,64,65] [] [11,12,65] [(4,7),(8,5),(12,7)] (Kw (ox sn bk ms ps us ss os) us.length sizes.length (48 * i) cs.length) (cs.length) [bG 8 5 eK.length,bG 12 7 jB.length,iV .i64 0];(conv=>whnf);exact⟨rfl,rfl,rfl,rfl⟩;exact rfl;exact rfl;exact .cons (az.ak (xs:=[ox sn bk ms ps us ss os]) rfl _) (.cons (az.ak (xs:=eK) rfl _) (.cons (az.ak (xs:=jB) rfl _) .nil));exact⟨0,eK,jB,by omega,rfl,rfl,rfl,OV,by omega,hs1,mQ,hg1⟩;rintro _ _ _ ⟨j,RB,TM,hj,rfl,rfl,rfl,rW,nw,bO,wK,xN⟩)
  |(refine aj [2,10,11,12,13,14,56,57,58,63,64,65] [] ?_;(conv=>whnf);exact⟨rfl,_,[_,_,_],_, .cons (az.ak (xs:=[ox sn bk ms ps us ss os]) rfl _) (.cons (az.ak (az.snoc (xs:=RB) rfl [.av 2 _,tI _,tB _,tI _,tI _]) _) (.cons (az.ak (az.snoc (xs:=TM) rfl [tI _,tI _,tI _,tB _,tI _,tI _,tI _]) _) .nil)),Kw.next (by omega) ew rW nw bO wK (hp (by omega)) ⟨lC,rS⟩ xN ⟨by omega,by omega⟩ (by simp[tr]) (by simp[tr]),rfl,rfl,by omega⟩)
  |(apply eP [2,10,11,12,56,57,58] [] [11,12,58] [(4,7),(8,5),(12,7)] (Kx (ox sn bk ms ps us ss os) us.length sizes.length) (sizes.length) [bG 8 5 0,bG 12 7 0,iV .i64 0] (dP.trans (dP.iU 11 5 rfl) (dP.iU 12 7 rfl));(conv=>whnf);exact⟨rfl,rfl,rfl,rfl⟩;exact rfl;exact rfl;exact .cons (az.ak (xs:=[ox sn bk ms ps us ss os]) rfl _) (.cons (az.ak az.nil _) (.cons (az.ak az.nil _) .nil));exact⟨0,[],[],by omega,rfl,rfl,rfl,rfl,by simp,fun e he=>by simp at he,fun e he=>by simp at he,fun e he=>by simp at he⟩;rintro _ _ _ ⟨i,eK,jB,hi,rfl,rfl,rfl,OV,oT,hs1,mQ,hg1⟩)
  |(refine aj [2,10,11,12,56,57,58] [] ?_;(conv=>whnf);exact⟨rfl,_,[_,_,_],_, .cons (az.ak (xs:=[ox sn bk ms ps us ss os]) rfl _) (.cons (az.ak (xs:=RB) rfl _) (.cons (az.ak (xs:=TM) rfl _) .nil)),Kx.next (by omega) (by omega) rW (by omega) bO wK xN,rfl,rfl,by omega⟩)
  |(apply aL [1,2,32,33,34] [] [34] (VI sizes bk.length) (sizes.length) [iV .i64 0];(conv=>whnf);exact⟨rfl,rfl,rfl,rfl⟩;exact rfl;exact rfl;exact⟨0,by omega,fun j e hj=>by omega,rfl,rfl⟩;rintro _ _ ⟨i,hi,o6,rfl,rfl⟩)
  |(refine aj [1,2,32,33,34] [] ?_;(conv=>whnf);exact⟨rfl,_,[_],VI.next (by omega) jS o6 hs (by omega) (by omega),rfl,rfl,rfl,by omega⟩)
  |(exfalso;omega))
 all_goals (conv=>whnf)
end Go.aS.Cd
end
section
namespace Go.aS.Cd
open Go Go.Proofs
set_option maxRecDepth 100000
set_option maxHeartbeats 1000000
theorem Sv {hp:HS} {id sz len:Nat} {rows:List (List C)} {xs:Lz} {x:T} (hf:find hp id=some (.row sz rows)) (hR:az rows xs) (hl:len=xs.length):bu (bB hp) [.one (.own id sz 0 len), .one (.t x)]=some [.one (.t (.av sz xs)), .one (.t x)]:=by
 have:=lF (hp:=hp) (i:=0) hf hR (by omega:0+len≤xs.length)
 have hx:bB hp (.one (.t x))=some (.one (.t x)):=rfl
 simp only[bu,this,hx]
 simp[hl]
def IsB (e:List T):Prop:= ∃b,e=[tB b]
abbrev Bs (xs:Lz):Prop:= ∀e,e∈xs→IsB e
theorem oA (xs:Lz) (b:Bool) (hx:Bs xs) (hl:xs.length≤maxLen):Tg 77 [oL 1 xs,oB b] GI:=by
 refine ae Tryz.func77 ?_
 repeat' (conv=>whnf
          first
  |(refine aA (fun h=>?_) (fun h=>?_))
  |(refine au hx (by first|omega|exact cC (by first|omega|(simp (disch:=omega) only[aa];omega))|(simp (disch:=omega) only[aa];omega)) (by first|omega|exact cr (by omega)|(simp (disch:=omega) only[aa];omega)) ?_;rintro _ ⟨c,rfl⟩ hs)
  |exact gI rfl rfl
  |(apply aL [0,1,7,8] [] [8] (RI xs.length) (xs.length) [iV .i64 0];(conv=>whnf);exact⟨rfl,rfl,rfl,rfl⟩;exact rfl;exact rfl;exact RI.zero;rintro _ _ ⟨i,hi,rfl,rfl⟩)
  |(refine aj [0,1,7,8] [] ?_;(conv=>whnf);exact⟨rfl,_,[_],RI.succ (N:=xs.length) (i:=i) (by omega) hl,rfl,rfl,rfl,by omega⟩))
 all_goals (conv=>whnf)
theorem lY (xs:Lz) (b:Bool) (hx:Bs xs) (hl:xs.length≤maxLen):Tg 52 [oL 1 xs,oB b] GB:=by
 refine ae Tryz.func52 ?_
 repeat' (conv=>whnf
          first
  |(refine ag rfl (oA xs _ hx hl) ?_;rintro _ ⟨n,rfl⟩)
  |exact gB rfl rfl)
 all_goals (conv=>whnf)
def Ou (v:Value):Prop:= ∃a b c,v= .agg #[.int .i64 a, .int .i64 b, .int .i64 c]
theorem sb3 (k:Nat) (a b c:Int):Instr.sameBits (k+1) (.agg #[.int .i64 a, .int .i64 b, .int .i64 c]) (.agg #[.int .i64 a, .int .i64 b, .int .i64 c])=true:=by
 simp[Instr.sameBits]
theorem JB: ∃d,Tryz.prog.underlying 158=some (.struct d):=by
 have h:(match Tryz.prog.underlying 158 with|some (.struct _)=>true|_=>false)=true:=by kernel_rfl
 split at h
 · rename_i d hd;exact⟨d,hd⟩
 · simp at h
theorem kKy:gZ Tryz.prog 158 Ou:=by
 obtain⟨d,hd⟩:=JB
 refine xJ hd ?_ ?_ ?_ ?_
 · rintro e _ ⟨a,b,c,rfl⟩
   exact⟨(),by cases e<;>kernel_rfl⟩
 · rintro _ _ ⟨a,b,c,rfl⟩ ⟨a',b',c',rfl⟩
   rfl
 · rintro _ _ ⟨a,b,c,rfl⟩ ⟨a',b',c',rfl⟩
   have h:=(jp (P:=Tryz.prog) (t:=158) (ks:=[0,0,0]) (cs:=[.t (tI a), .t (tI b), .t (tI c)]) (ds:=[.t (tI a'), .t (tI b'), .t (tI c')]) (vs:=[.int .i64 a, .int .i64 b, .int .i64 c]) (us:=[.int .i64 a', .int .i64 b', .int .i64 c']) (b:=(a==a')&& ((b==b')&& ((c==c')&&true))) (by kernel_rfl) rfl rfl rfl).1
   refine⟨_,h,?_⟩
   simp only[Bool.and_true,Bool.and_eq_true,beq_iff_eq,Value.agg.injEq]
   constructor
   · rintro⟨rfl,rfl,rfl⟩;rfl
   · intro h
     simp at h
     exact⟨h.1.symm,h.2.1.symm,h.2.2.symm⟩
 · rintro _ ⟨a,b,c,rfl⟩
   exact sb3 9999 a b c
theorem uMk:Tryz.prog.underlying 156=some (.map 158 3):=by kernel_rfl
theorem Wh:mm Tryz.prog 3=some (.int .i64 0):=by kernel_rfl
theorem gZ.sub {kt:TypeId} {K1 K2:Value→Prop} (h:gZ Tryz.prog kt K1) (hs: ∀v,K2 v→K1 v):gZ Tryz.prog kt K2:=
 ⟨fun es kv empty he hk=>h.at_ es kv empty (fun p hp=>hs _ (he p hp)) (hs _ hk),fun kv hk=>h.same kv (hs _ hk)⟩
def LW (N:Nat) (v:Value):Prop:= ∃a b c,v= .agg #[.int .i64 a, .int .i64 b, .int .i64 c]∧0≤a∧a < (N:Int)
theorem LW.key {N:Nat} (v:Value) (h:LW N v):Ou v:=by
 obtain⟨a,b,c,rfl,_⟩:=h
 exact⟨a,b,c,rfl⟩
def w5 (n:Nat) (c:C):Prop:= ∃m:Int,c= .t (tI m)∧0≤m∧m < (n:Int)
theorem w5.ak {n:Nat} {c:C} (h:w5 n c) (f:Nat→Option Nat):w5 n (c.ak f):=by
 obtain⟨m,rfl,h⟩:=h
 exact⟨m,rfl,h⟩
theorem IZ {n ctr N G:Nat} {t ty kt et:TypeId} {m k:Operand} {tm:TS} {hp:HS} {id clock:Nat} {es:cz} {a1 b1 c1:Int} {K:V→HS→Prop} (hm:Gt n tm m= .w (.one (.map id))) (hf:find hp id=some (.mp es clock)) (hk:(Gt n tm k).val? =some (.agg #[.int .i64 a1, .int .i64 b1, .int .i64 c1])) (hu:Tryz.prog.underlying t=some (.map kt et))
 (hz:mm Tryz.prog et=some (.int .i64 0)) (hK:gZ Tryz.prog kt Ou) (jg:lO (LW G) (w5 N) es) (h: ∀ (i:Int) (b:Bool),(b=true→(0≤i∧i < (N:Int))∧0≤a1∧a1 < (G:Int))→K (.dQ [.one (.t (tI i)), .one (.t (.val (.bool b)))]) hp):
 ∃v aF,gR Tryz.prog n (.lookup t m k true) ty tm hp ctr v aF∧K v aF:=by
 refine Db hm hf hk hu hz hK ⟨_,_,_,rfl⟩ (fun p hp=>LW.key _ (jg p hp).1) (fun i p hp he=>?_) (fun _=>h 0 false (fun h=>by simp at h))
 obtain⟨h1,j,hj,h2⟩:=jg p (List.mem_of_getElem? hp)
 rw[hj]
 refine h j true (fun _=>⟨h2,?_⟩)
 obtain⟨a,b,c,h3,h4⟩:=h1
 rw[he]at h3
 simp only[Value.agg.injEq,Array.mk.injEq,List.cons.injEq,Value.int.injEq,true_and,and_true]at h3
 rw[h3.1]
 exact h4
abbrev ML (ln wd rx ry:Int) (sizes places:Lz):W:= .agg [.t (tI ln), .t (tI wd), .t (tI rx), .t (tI ry), .t (.av 1 sizes), .t (.av 7 places)]
abbrev Sl (ln wd rx ry:Int) (sizes places:Lz):List T:=[tI ln,tI wd,tI rx,tI ry, .av 1 sizes, .av 7 places]
def Zu (e:List T):Prop:= ∃g u k f q x y,e=[tI g,tI u,tI k,tB f,tI q,tI x,tI y]
abbrev On (xs:Lz):Prop:= ∀e,e∈xs→Zu e
def RA0 (row:List T) (C0 N G:Nat) (m:Nat) (vs:List V) (hq:HS):Prop:= ∃ (i:Nat) (es:cz) (c:Nat),i≤N∧lO (LW G) (w5 C0) es∧m=N - i∧vs=[iV .i64 (i:Int)]∧hq=[(4, .row 6 [row.map .t]),(8, .mp es c)]
def PtS (n:Nat) (e:List T):Prop:= ∃sh f q x y,e=[tI sh,tB f,tI q,tI x,tI y]∧0≤sh∧sh < (n:Int)
abbrev w4 (n:Nat) (xs:Lz):Prop:= ∀e,e∈xs→PtS n e
theorem w4.snoc {n:Nat} {xs:Lz} (h:w4 n xs) (sh:Int) (f:Bool) (q x y:Int) (h0:0≤sh∧sh < (n:Int)):w4 n (xs++[[tI sh,tB f,tI q,tI x,tI y]]):=by
 intro e he
 simp only[List.mem_append,List.mem_singleton]at he
 rcases he with he|rfl
 · exact h e he
 · exact⟨sh,f,q,x,y,rfl,h0⟩
theorem w4.pts {n:Nat} {xs:Lz} (h:w4 n xs):Zj xs:=fun e he=>by
 obtain⟨sh,f,q,x,y,r,_⟩:=h e he
 exact⟨sh,f,q,x,y,r⟩
theorem Bs.set {xs:Lz} (h:Bs xs) (j:Nat) (b:Bool):Bs (xs.set j [tB b]):=by
 intro e he
 rcases List.mem_or_eq_of_mem_set he with he|rfl
 · exact h e he
 · exact⟨b,rfl⟩
theorem Bs.Mu (n:Nat) (b:Bool):Bs (List.replicate n [tB b]):=by
 intro e he
 obtain⟨_,rfl⟩:=List.mem_replicate.1 he
 exact⟨b,rfl⟩
def VV (row:List T) (places:Lz) (C0 N G:Nat) (m:Nat) (vs:List V) (hq:HS):Prop:= ∃ (i:Nat) (es:cz) (c:Nat) (sn ps:Lz) (rs rp:List (List C)),i≤N∧(lO (LW G) (w5 C0) es∧Pre (VX G) places i)∧m=N - i∧vs=[bG 16 5 ps.length,iV .i64 (i:Int)]∧az rs sn∧az rp ps∧(sn.length=C0∧Bs sn)∧(ps.length=i∧w4 C0 ps)∧
 hq=[(4, .row 6 [row.map .t]),(8, .mp es c),(12, .row 1 rs),(16, .row 5 rp)]
theorem VV.next {row:List T} {places:Lz} {C0 N G i k j:Nat} {g:Int} {r:List T} {es:cz} {c:Nat} {sn ps:Lz} {rs rp:List (List C)} {sh q x y:Int} {f b:Bool} (h:(i:Int) < (N:Int)) (hN:N≤maxLen) (hM:lO (LW G) (w5 C0) es) (hpre:Pre (VX G) places i) (hpi:places[((i:Int)).toNat]? =some (tI g::r)) (Yq:0≤g∧g < (G:Int)) (h1:az rs (sn.set j [tB b])) (h2:az rp (ps++[[tI sh,tB f,tI q,tI x,tI y]])) (hs:sn.length=C0∧Bs sn) (hp:ps.length=i∧w4 C0 ps) (hsh:0≤sh∧sh < (C0:Int)) (hk:k=ps.length+1):
 VV row places C0 N G (N - (i+1)) [bG 16 5 k,iV .i64 (IntKind.i64.wrap ((i:Int)+1))] [(4, .row 6 [row.map .t]),(8, .mp es c),(12, .row 1 rs),(16, .row 5 rp)]:=
 ⟨i+1,es,c,_,_,rs,rp,by omega,⟨hM,hpre.succ (by simpa using hpi) ⟨g,r,rfl,Yq⟩⟩,rfl,by simp only[maxLen]at hN;rw[bj (by omega) (by omega),hk];simp,h1,h2,⟨by simp[hs.1],hs.2.set j b⟩,⟨by simp[hp.1],hp.2.snoc sh f q x y hsh⟩,rfl⟩
def VU (row:List T) (N:Nat) (m:Nat) (vs:List V) (xss:List (Lz)):Prop:= ∃i:Nat,i≤N∧m=N - i∧vs=[iV .i64 (i:Int)]∧xss=[[row]]
theorem VU.next {row:List T} {N i:Nat} (h:(i:Int) < (N:Int)) (hN:N≤maxLen):VU row N (N - (i+1)) [iV .i64 (IntKind.i64.wrap ((i:Int)+1))] [[row]]:=
 ⟨i+1,by omega,rfl,by simp only[maxLen]at hN;rw[bj (by omega) (by omega)];rfl,rfl⟩
theorem Hx {N i:Nat} {xs:Lz} {g:Int} {r:List T} (h:C6 N xs) (hs:xs[i]? =some (tI g::r)):0≤g∧g < (N:Int):=by
 obtain⟨g',r',he,h0⟩:=h _ (List.mem_of_getElem? hs)
 injection he with h1 h2
 injection h1 with h1
 injection h1 with _ h1
 rw[h1]
 exact h0
theorem TV {eK jB fk sizes places:Lz} {U M i:Nat} (hA:D5 eK∧Ed U jB∧jB.length=eK.length∧eK.length≤336∧C6 sizes.length jB∧(∀e,e∈sizes→Ox M e)∧sizes.length≤6) (hpt:fk.length=i∧w4 jB.length fk) (hg: ∀e,e∈places→VX sizes.length e) (hi:i=places.length):
 D5 eK∧w4 eK.length (fk.take fk.length)∧(fk.take fk.length).length=places.length∧C6 sizes.length places∧(∀e,e∈sizes→Ox M e)∧sizes.length≤6:=by
 obtain⟨h1,_,h2,_,_,h3,h4⟩:=hA
 refine⟨h1,fun e he=>?_,by simp;omega,hg,h3,h4⟩
 rw[←h2]
 exact hpt.2 e (List.mem_of_mem_take he)
def GAr (sizes places:Lz) (M:Nat) (ts:List W):Prop:= ∃eK fk e,ts=[oL 5 eK,oL 5 fk,oI e]∧(e=0→D5 eK∧w4 eK.length fk∧fk.length=places.length∧C6 sizes.length places∧(∀e,e∈sizes→Ox M e)∧sizes.length≤6)
theorem sS (sn:ByteArray) (bk ms ps us ss os:Lz) (hS:iT sn bk ms ps us ss os) (ln wd rx ry:Int) (sizes places:Lz) (hz:Is sizes) (jS:sizes.length≤maxLen) (jv:On places) (SY:places.length≤1000000):Tg 30 [jt sn bk ms ps us ss os,ML ln wd rx ry sizes places] (GAr sizes places bk.length):=by
 refine aK ?_
 refine ae Tryz.func30 ?_
 repeat' (conv=>whnf
          first
  |(refine aA (fun h=>?_) (fun h=>?_))
  |(refine D0 (fun h=>?_) (fun h=>?_))
  |(refine bR (fun h=>?_) (fun h=>?_))
  |(refine aG (fun h=>?_) (fun h=>?_))
  |(have qm:=hmm (by simpa using h);clear hmm)
  |(refine au (xs:=jB) (hA (by omega)).2.1 (n:=(i:Int)) (by omega) (by omega) ?_;rintro _ ⟨g,u,k,f,qq,x,y,rfl,lC,rS⟩ hs;have hgi:=Hx (hA (by omega)).2.2.2.2.1 hs)
  |(refine au (xs:=places) jv (by omega) (by omega) ?_;rintro _ ⟨g,u,k,f,qq,x,y,rfl⟩ hs)
  |(refine au (xs:=fk.take fk.length) (fun e he=>hpt.2 e (List.mem_of_mem_take he)) (by omega) (by have:=hpt.1;simp;omega) ?_;rintro _ ⟨sh2,f2,q2,x2,y2,rfl,SR,SQ⟩ bO)
  |(refine au (xs:=jB) (hA (by omega)).2.1 SR SQ ?_;rintro _ ⟨g3,u3,k3,f3,q3,x3,y3,rfl,_,_⟩ hs)
  |(refine And.intro ⟨by omega,by omega,by have:=hA (by omega);omega,by have:=hA (by omega);omega⟩ ?_)
  |(refine And.intro ⟨qm.1.1,by have:=G8.1;have:=qm.1.2;omega⟩ ?_)
  |(refine And.intro ⟨OP.len.symm,by rw[OP.len];have:=hpt.1;simp[aU];omega,by rw[OP.len];have:=hpt.1;simp[maxLen];omega⟩ ?_)
  |(refine ol (by omega) (by omega) ?_;intro bb)
  |(refine eW (by omega) (by omega) ?_)
  |(refine And.intro (by kernel_rfl) ?_)
  |(refine And.intro (by omega) ?_)
  |(refine ag rfl (nV sn bk ms ps us ss os hS sizes hz jS) ?_;rintro _ ⟨eK,jB,e,rfl,hA⟩)
  |(refine aB rfl (nV sn bk ms ps us ss os hS sizes hz jS) ?_;rintro _ ⟨eK,jB,e,rfl,hA⟩)
  |(refine qp ?_)
  |(refine FQ rfl rfl rfl rfl uMk (gZ.sub kKy LW.key) ⟨_,_,_,rfl,hgi.1,hgi.2⟩ hM ⟨_,rfl,by omega,by omega⟩ ?_;rintro es3 c3 YO)
  |(refine IZ rfl rfl rfl uMk Wh kKy hMM ?_;intro mi mb hmm)
  |(refine cv (xs:=seen) eA G8.2 (by have:=G8.1;have:=qm.1;omega) ?_;rintro _ ⟨b2,rfl⟩ hs5)
  |(refine ag rfl (uK _ _ _ _ _ _ _) ?_;rintro _ rfl)
  |(refine aB rfl (uK _ _ _ _ _ _ _) ?_;rintro _ rfl)
  |(refine jk (Sv (xs:=seen) rfl eA (by have:=G8.1;omega)) (lY seen _ G8.2 (by have:=G8.1;have:=hA (by omega);simp only[maxLen];omega)) ?_ ?_;(rintro _ ⟨b3,rfl⟩;rfl);rintro _ ⟨b3,rfl⟩)
  |(refine ag rfl (rJ _ _ _ _ eK _ (hA (by omega)).1 (fun e he=>hpt.2.pts e (List.mem_of_mem_take he)) (by have:=hpt.1;simp[maxLen];omega)) ?_;rintro _ ⟨n,rfl⟩)
  |(refine aB rfl (rJ _ _ _ _ eK _ (hA (by omega)).1 (fun e he=>hpt.2.pts e (List.mem_of_mem_take he)) (by have:=hpt.1;simp[maxLen];omega)) ?_;rintro _ ⟨n,rfl⟩)
  |exact Fb rfl (bP 5 rfl) (bP 5 rfl) (bX rfl) ⟨_,_,_,rfl,fun h0=>by omega⟩
  |exact Fb rfl (bX rfl) (bX rfl) (bX rfl) ⟨_,_,_,rfl,fun _=>TV (hA (by omega)) hpt (Lo.all (by omega)) (by omega)⟩
  |(apply eP [3,7,8,14,88,89,90] [] [90] [(4,6)] (VU (Sl ln wd rx ry sizes places) places.length) (places.length) [iV .i64 0] (dP.NF (xs:=fk) [14] 16 (Xi rfl) rfl OP (Nat.le_refl _));(conv=>whnf);exact⟨rfl,rfl,rfl,rfl⟩;exact rfl;exact rfl;exact .cons (az.ak (xs:=[Sl ln wd rx ry sizes places]) rfl _) .nil;exact⟨0,by omega,rfl,rfl,rfl⟩;rintro _ _ _ ⟨q,hq,rfl,rfl,rfl⟩)
  |(refine aj [3,7,8,14,88,89,90] [] ?_;(conv=>whnf);exact⟨rfl,_,[_],_, .cons (az.ak (xs:=[Sl ln wd rx ry sizes places]) rfl _) .nil,VU.next (by omega) (by simp only[maxLen];omega),rfl,rfl,by omega⟩)
  |(apply gn [3,7,8,10,13,14,51,52,53] [] [14,53] (VV (Sl ln wd rx ry sizes places) places jB.length places.length sizes.length) (places.length) [bG 16 5 0,iV .i64 0] (dP.iU 14 5 rfl);(conv=>whnf);exact⟨rfl,rfl,rfl,rfl⟩;exact rfl;exact rfl;exact⟨0,_,_,_,[],_,_,by omega,⟨hM.ak (fun c hc=>w5.ak hc _),Pre.zero⟩,rfl,rfl,az.ak (az.replicate _ [tB false]) _,az.ak az.nil _,⟨by simp,Bs.Mu _ _⟩,⟨rfl,fun e he=>by simp at he⟩,rfl⟩;rintro _ _ _ ⟨i2,Fm,c2,seen,fk,rs,rp,hi2,⟨hMM,Lo⟩,rfl,rfl,eA,OP,G8,hpt,rfl⟩)
  |(refine aj [3,7,8,10,13,14,51,52,53] [] ?_;(conv=>whnf);exact⟨rfl,_,[_,_],VV.next (by omega) (by simp only[maxLen];omega) (hMM.ak (fun c hc=>w5.ak hc _)) Lo hs qm.2 ((az.set eA _ [tB _]).ak _) ((az.snoc OP [tI _,tB _,tI _,tI _,tI _]).ak _) G8 hpt qm.1 (by have:=OP.len;simp;omega),rfl,rfl,by omega⟩)
  |(apply bW [3,7,8,10,35,36,37] [] [37] (RA0 (Sl ln wd rx ry sizes places) jB.length jB.length sizes.length) (jB.length) [iV .i64 0];(conv=>whnf);exact⟨rfl,rfl,rfl,rfl⟩;exact rfl;exact rfl;exact⟨0,_,_,by omega,lO.nil,rfl,rfl,rfl⟩;rintro _ _ _ ⟨i,es,c,hi,hM,rfl,rfl,rfl⟩)
  |(refine aj [3,7,8,10,35,36,37] [] ?_;(conv=>whnf);exact⟨rfl,_,[_],⟨i+1,_,_,by omega,YO.ak (fun c hc=>w5.ak hc _),rfl,by have:=hA (by omega);rw[bj (by omega) (by omega)];rfl,rfl⟩,rfl,rfl,by omega⟩)
  |(exfalso;omega))
 all_goals (conv=>whnf)
end Go.aS.Cd
end
section
namespace Go.aS.Cd
open Go Go.Proofs
set_option maxRecDepth 100000
set_option maxHeartbeats 1000000
end Go.aS.Cd
end
section
namespace Go.aS.Cd
open Go Go.Proofs
set_option maxRecDepth 100000
set_option maxHeartbeats 1000000
def RQ (Q:List T→Prop) (xs:Lz) (m:Nat) (vs:List V):Prop:= ∃i:Nat,i≤xs.length∧Pre Q xs i∧m=xs.length - i∧vs=[iV .i64 (i:Int)]
theorem RQ.zero {Q:List T→Prop} {xs:Lz}:RQ Q xs xs.length [iV .i64 0]:=⟨0,by omega,Pre.zero,rfl,rfl⟩
theorem RQ.next {Q:List T→Prop} {xs:Lz} {i:Nat} {e:List T} (hi:(i:Int) < (xs.length:Int)) (hl:xs.length≤maxLen) (h:Pre Q xs i) (hs:xs[((i:Int)).toNat]? =some e) (hq:Q e):RQ Q xs (xs.length - (i+1)) [iV .i64 (IntKind.i64.wrap ((i:Int)+1))]:=
 ⟨i+1,by omega,h.succ (by simpa using hs) hq,rfl,by simp only[maxLen]at hl;rw[bj (by omega) (by omega)];rfl⟩
def Zt (e:List T):Prop:= ∃l q,e=[tI l, .av 4 q]
abbrev Pys (xs:Lz):Prop:= ∀e,e∈xs→Zt e
abbrev mc (ln wd rx ry:Int) (sizes places plies:Lz):W:= .agg [.t (tI ln), .t (tI wd), .t (tI rx), .t (tI ry), .t (.av 1 sizes), .t (.av 7 places), .t (.av 2 plies)]
abbrev EO (ln wd rx ry:Int) (sizes places plies:Lz):List T:=[tI ln,tI wd,tI rx,tI ry, .av 1 sizes, .av 7 places, .av 2 plies]
structure Uu (sizes plies DS:Lz) (e:List T):Prop where
 g:0≤nI 1 e∧nI 1 e < (sizes.length:Int)
 f:0≤nI 4 e∧nI 4 e < nI 5 e∧nI 5 e≤(plies.length:Int)
 t: ∀o,o∈DS→nI 0 o≠nI 0 e
 s:sizes[(nI 1 e).toNat]? =some [tI (nI 2 e)]
 l: ∀ (k:Nat) (p:List T),nI 4 e≤(k:Int)→(k:Int) < nI 5 e→plies[k]? =some p→nI 0 p=nI 3 e
 o: ∀o,o∈DS→¬ (nI 1 o=nI 1 e∧nI 4 o < nI 5 e∧nI 4 e < nI 5 o)
def L5 (sizes plies bs:Lz) (i:Nat):Prop:= ∀j e,j < i→bs[j]? =some e→Uu sizes plies (bs.take j) e
def RBk (row:List T) (sizes plies bs:Lz) (m:Nat) (vs:List V) (xss:List (Lz)):Prop:= ∃ (i:Nat) (zs:Lz),i≤bs.length∧L5 sizes plies bs i∧m=bs.length - i∧vs=[iV .i64 (i:Int)]∧xss=[[row],zs]∧zs.length=sizes.length∧Is zs
theorem Is.set {xs:Lz} (h:Is xs) (j:Nat) (n:Int):Is (xs.set j [tI n]):=by
 intro e he
 rcases List.mem_or_eq_of_mem_set he with he|rfl
 · exact h e he
 · exact⟨n,rfl⟩
theorem Is.Mu (n:Nat) (a:Int):Is (List.replicate n [tI a]):=by
 intro e he
 obtain⟨_,rfl⟩:=List.mem_replicate.1 he
 exact⟨a,rfl⟩
theorem RBk.next {row:List T} {sizes plies bs zs:Lz} {i j:Nat} {e:List T} {n:Int} (hi:(i:Int) < (bs.length:Int)) (hl:bs.length≤maxLen) (h:L5 sizes plies bs i) (hs:bs[((i:Int)).toNat]? =some e) (hq:Uu sizes plies ((bs.drop 0).take (((i:Int)).toNat - 0)) e) (hz:zs.length=sizes.length) (hZ:Is zs):
 RBk row sizes plies bs (bs.length - (i+1)) [iV .i64 (IntKind.i64.wrap ((i:Int)+1))] [[row],zs.set j [tI n]]:=by
 refine⟨i+1,_,by omega,fun j' e' hj he=>?_,rfl,by simp only[maxLen]at hl;rw[bj (by omega) (by omega)];rfl,rfl,by simp[hz],hZ.set j n⟩
 by_cases eF:j'=i
 · subst eF
   have hs':bs[j']? =some e:=by simpa using hs
   rw[hs']at he
   cases he
   simpa using hq
 · exact h j' e' (by omega) he
def RBn (row:List T) (zs:Lz) (m:Nat) (vs:List V) (xss:List (Lz)):Prop:= ∃i:Nat,i≤zs.length∧m=zs.length - i∧vs=[iV .i64 (i:Int)]∧xss=[[row],zs]
theorem RBn.next {row:List T} {zs:Lz} {i:Nat} (hi:(i:Int) < (zs.length:Int)) (hl:zs.length≤maxLen):RBn row zs (zs.length - (i+1)) [iV .i64 (IntKind.i64.wrap ((i:Int)+1))] [[row],zs]:=
 ⟨i+1,by omega,rfl,by simp only[maxLen]at hl;rw[bj (by omega) (by omega)];rfl,rfl⟩
def VA (Q:List T→Prop) (xs:Lz) (hJ:List (Lz)) (m:Nat) (vs:List V) (xss:List (Lz)):Prop:= ∃i:Nat,i≤xs.length∧Pre Q xs i∧m=xs.length - i∧vs=[iV .i64 (i:Int)]∧xss=hJ
theorem VA.next {Q:List T→Prop} {xs:Lz} {hJ:List (Lz)} {i:Nat} {e:List T} (hi:(i:Int) < (xs.length:Int)) (hl:xs.length≤maxLen) (h:Pre Q xs i) (hs:xs[((i:Int)).toNat]? =some e) (hq:Q e):VA Q xs hJ (xs.length - (i+1)) [iV .i64 (IntKind.i64.wrap ((i:Int)+1))] hJ:=
 ⟨i+1,by omega,h.succ (by simpa using hs) hq,rfl,by simp only[maxLen]at hl;rw[bj (by omega) (by omega)];rfl,rfl⟩
theorem gV {b:Bool} (h:(!b)=false):b=true:=by simpa using h
end Go.aS.Cd
end
section
namespace Go.aS.Cd
open Go Go.Proofs
set_option maxRecDepth 100000
set_option maxHeartbeats 1000000
abbrev zI (r f t a:Int):List T:=[tI r,tI f,tI t,tI a]
abbrev EJ (r f t a:Int):W:= .agg [.t (tI r), .t (tI f), .t (tI t), .t (tI a)]
def Zs (e:List T):Prop:= ∃a b c d,e=[tI a,tI b,tI c,tI d]
abbrev BK (xs:Lz):Prop:= ∀e,e∈xs→Zs e
abbrev oRl (id:ByteArray) (w l a b c:Int) (fl:Lz):W:= .agg [.t (.val (.string id)), .t (tI w), .t (tI l), .t (tI a), .t (tI b), .t (tI c), .t (.av 4 fl)]
def Zr (e:List T):Prop:= ∃id w l a b c fl,e=[.val (.string id),tI w,tI l,tI a,tI b,tI c, .av 4 fl]∧id.size≤maxLen∧BK fl∧fl.length≤maxLen
abbrev FB (xs:Lz):Prop:= ∀e,e∈xs→Zr e
theorem tW (r f t a:Int):Tg 62 [EJ r f t a] GI:=by
 refine ae Tryz.func62 ?_
 repeat' (conv=>whnf
          first
  |exact gI rfl rfl)
 all_goals (conv=>whnf)
theorem vE (n:Int):Tg 93 [oI n] GB:=by
 refine ae Tryz.func93 ?_
 repeat' (conv=>whnf
          first
  |(refine aA (fun h=>?_) (fun h=>?_))
  |exact gB rfl rfl)
 all_goals (conv=>whnf)
theorem vF (r f t a x y w h:Int):Tg 69 [EJ r f t a,EJ x y w h] GB:=by
 refine ae Tryz.func69 ?_
 repeat' (conv=>whnf
          first
  |(refine aA (fun h=>?_) (fun h=>?_))
  |(refine aG (fun h=>?_) (fun h=>?_))
  |(refine ag rfl (vE _) ?_;rintro _ ⟨b,rfl⟩)
  |exact gB rfl rfl)
 all_goals (conv=>whnf)
theorem aRc:iQ Tryz.prog 152=some true:=by kernel_rfl
theorem ZY:cG Tryz.prog 152=some 4:=by kernel_rfl
def GBx (xs:Lz) (ts:List W):Prop:= ∃a b c d e,ts=[EJ a b c d,oI e]∧(e=0→vX xs)
def VT (xs:Lz) (m:Nat) (vs:List V) (xss:List (Lz)):Prop:= ∃ (i:Nat) (a b c d:Int),i≤xs.length∧m=xs.length - i∧vs=[iV .i64 (i:Int)]∧xss=[[[tI 0,tI 0,tI 0,tI 0]],[[tI a,tI b]],[[tI c,tI d]]]
theorem VT.next {xs:Lz} {i:Nat} {a b c d:Int} (hi:(i:Int) < (xs.length:Int)) (hl:xs.length≤1000000):VT xs (xs.length - (i+1)) [iV .i64 (IntKind.i64.wrap ((i:Int)+1))] [[[tI 0,tI 0,tI 0,tI 0]],[[tI a,tI b]],[[tI c,tI d]]]:=
 ⟨i+1,_,_,_,_,by omega,rfl,by rw[bj (by omega) (by omega)];rfl,rfl⟩
theorem rH (xs:Lz) (hx:bZ xs) (hl:xs.length≤1000000):Tg 68 [oL 2 xs] (GBx xs):=by
 refine aK ?_
 refine ae Tryz.func68 ?_
 repeat' (conv=>whnf
          first
  |(refine aA (fun h=>?_) (fun h=>?_))
  |(refine bR (fun h=>?_) (fun h=>?_))
  |(have h9:=(hP (by omega)).1.1;refine au (xs:=xs) hx (by omega) (by omega) ?_;rintro _ ⟨a0,b0,rfl⟩ hs0)
  |(refine And.intro (by kernel_rfl) ?_)
  |(refine ag rfl (dS xs hx hl) ?_;rintro _ ⟨e,rfl,hP⟩)
  |exact dA rfl (bF aRc ZY rfl rfl (Nat.le_refl _) rfl (cQ.refl _)) (bX rfl) ⟨_,_,_,_,_,rfl,fun h=>by omega⟩
  |exact dA rfl (bF aRc ZY rfl rfl (Nat.le_refl _) rfl (cQ.refl _)) (bX rfl) ⟨_,_,_,_,_,rfl,fun _=>hP (by omega)⟩
  |(apply bH [2,5,6,21,22,23] [] [23] [(4,4),(8,2),(12,2)] (VT xs) (xs.length) [iV .i64 0];(conv=>whnf);exact⟨rfl,rfl,rfl,rfl⟩;exact rfl;exact rfl;exact .cons (az.ak (xs:=[[tI 0,tI 0,tI 0,tI 0]]) rfl _) (.cons (az.ak (xs:=[[tI _,tI _]]) rfl _) (.cons (az.ak (xs:=[[tI _,tI _]]) rfl _) .nil));exact⟨0,_,_,_,_,by omega,rfl,rfl,rfl⟩;rintro _ _ _ ⟨i,a,b,c,d,hi,rfl,rfl,rfl⟩)
  |(refine aj [2,5,6,21,22,23] [] ?_;(conv=>whnf);exact⟨rfl,_,[_],_, .cons (az.ak (xs:=[[tI 0,tI 0,tI 0,tI 0]]) rfl _) (.cons (az.ak (xs:=[[tI _,tI _]]) rfl _) (.cons (az.ak (xs:=[[tI _,tI _]]) rfl _) .nil)),VT.next (by omega) hl,rfl,rfl,by omega⟩))
 all_goals (conv=>whnf)
def ZF (ts:List W):Prop:= ∃a b c,ts=[oI a,oI b,oB c]
theorem pG (a l:Int):Tg 91 [oI a,oI l] ZF:=by
 refine aK ?_
 refine ae Tryz.func91 ?_
 repeat' (conv=>whnf
          first
  |(refine aA (fun h=>?_) (fun h=>?_))
  |exact Fb rfl (bX rfl) (bX rfl) (bX rfl) ⟨_,_,_,rfl⟩)
 all_goals (conv=>whnf)
def KD (zs:Lz) (m:Nat) (vs:List V):Prop:= ∃ (i:Nat) (lo:Int),i≤zs.length∧m=zs.length - i∧vs=[iV .i64 lo,iV .i64 (i:Int)]
theorem KD.next {zs:Lz} {i:Nat} {lo:Int} (hi:(i:Int) < (zs.length:Int)) (hl:zs.length≤1000000):KD zs (zs.length - (i+1)) [iV .i64 lo,iV .i64 (IntKind.i64.wrap ((i:Int)+1))]:=
 ⟨i+1,_,by omega,rfl,by rw[bj (by omega) (by omega)];rfl⟩
theorem Ao (zs:Lz) (hi:Int) (hz:bZ zs) (hl:zs.length≤1000000):Tg 85 [oL 2 zs,oI hi] GI:=by
 refine ae Tryz.func85 ?_
 repeat' (conv=>whnf
          first
  |(refine aA (fun h=>?_) (fun h=>?_))
  |(refine au (xs:=zs) hz (by omega) (by omega) ?_;rintro _ ⟨a1,b1,rfl⟩ hs1)
  |exact gI rfl rfl
  |(apply aL [1,5,9,10,11] [] [5,11] (KD zs) (zs.length) [iV .i64 hi,iV .i64 0];(conv=>whnf);exact⟨rfl,rfl,rfl,rfl⟩;exact rfl;exact rfl;exact⟨0,_,by omega,rfl,rfl⟩;rintro _ _ ⟨i,lo,hk,rfl,rfl⟩)
  |(refine aj [1,5,9,10,11] [] ?_;(conv=>whnf);exact⟨rfl,_,[_,_],KD.next (by omega) hl,rfl,rfl,rfl,by omega⟩))
 all_goals (conv=>whnf)
end Go.aS.Cd
end
section
namespace Go.aS.Cd
open Go Go.Proofs
set_option maxRecDepth 100000
set_option maxHeartbeats 1000000
def Uh (e:List T):Prop:= ∃xs,e=[.av 2 xs]∧bZ xs∧xs.length≤1000000
abbrev vY (xs:Lz):Prop:= ∀e,e∈xs→Uh e
def GEx (ts:List W):Prop:= ∃zs e,ts=[oL 2 zs,oI e]∧bZ zs∧zs.length≤60
def KA (aC:Lz) (m:Nat) (vs:List V) (xss:List (Lz)):Prop:=
 ∃ (i:Nat) (zs:Lz),i≤aC.length∧m=aC.length - i∧vs=[bG 4 2 zs.length,iV .i64 (i:Int)]∧xss=[zs]∧bZ zs∧zs.length≤i
theorem KA.next {aC zs:Lz} {i n:Nat} {a b:Int} (hi:(i:Int) < (aC.length:Int)) (hl:aC.length≤60) (hz:bZ zs) (jS:zs.length≤i) (hn:n=zs.length+1):
 KA aC (aC.length - (i+1)) [bG 4 2 n,iV .i64 (IntKind.i64.wrap ((i:Int)+1))] [zs++[[tI a,tI b]]]:=by
 refine⟨i+1,_,by omega,rfl,by subst hn;rw[bj (by omega) (by omega)];simp,rfl,fun e he=>?_,by simp;omega⟩
 rcases List.mem_append.1 he with he|he
 · exact hz e he
 · simp only[List.mem_singleton]at he
   exact⟨a,b,he⟩
theorem Dq:bZ []:=fun e he=>by simp at he
theorem tY (ln:Int) (aC:Lz) (hp:vY aC):Tg 84 [oI ln,oL 1 aC] GEx:=by
 refine aK ?_
 refine ae Tryz.func84 ?_
 repeat' (conv=>whnf
          first
  |(refine aA (fun h=>?_) (fun h=>?_))
  |(refine bR (fun h=>?_) (fun h=>?_))
  |(refine au (xs:=aC) hp (by omega) (by omega) ?_;rintro _ ⟨xs,rfl,hxs,hxl⟩ hs)
  |(refine And.intro ⟨by simp[tr],by simp[tr,aU];omega,by simp[tr,maxLen];omega⟩ ?_)
  |(refine ag rfl (rH xs hxs hxl) ?_;rintro _ ⟨a,b,c,d,e,rfl,_⟩)
  |exact dA rfl (bP 2 rfl) (bX rfl) ⟨[],_,rfl,Dq,by simp⟩
  |exact dA rfl (eR rfl rfl (xs:=zs) rfl (by omega)) (bX rfl) ⟨_,_,rfl,by rw[fE rfl];exact hz,by rw[fE rfl];omega⟩
  |(apply eP [0,6,20,21,22] [] [6,22] [(4,2)] (KA aC) (aC.length) [bG 4 2 0,iV .i64 0] (dP.iU 6 2 rfl);(conv=>whnf);exact⟨rfl,rfl,rfl,rfl⟩;exact rfl;exact rfl;exact .cons (az.ak az.nil _) .nil;exact⟨0,[],by omega,rfl,rfl,rfl,Dq,by simp⟩;rintro _ _ _ ⟨i,zs,hi,rfl,rfl,rfl,hz,jS⟩)
  |(refine aj [0,6,20,21,22] [] ?_;(conv=>whnf);exact⟨rfl,_,[_,_],_, .cons (az.ak (az.snoc (xs:=zs) rfl [tI _,tI _]) _) .nil,KA.next (by omega) (by omega) hz jS (by simp[tr]),rfl,rfl,by omega⟩))
 all_goals (conv=>whnf)
theorem rD (ln:Int) (aC:Lz) (hp:vY aC) (hi:Int):Tg 58 [oI ln,oL 1 aC,oI hi] GII:=by
 refine aK ?_
 refine ae Tryz.func58 ?_
 repeat' (conv=>whnf
          first
  |(refine aA (fun h=>?_) (fun h=>?_))
  |(refine bR (fun h=>?_) (fun h=>?_))
  |(refine ag rfl (tY ln aC hp) ?_;rintro _ ⟨zs,e,rfl,hz,jS⟩)
  |(refine ag rfl (Ao zs hi hz (by omega)) ?_;rintro _ ⟨n,rfl⟩)
  |exact dA rfl (bX rfl) (bX rfl) ⟨_,_,rfl⟩)
 all_goals (conv=>whnf)
theorem Ev (s:ByteArray) (hs:s.size≤maxLen):Tg 89 [oS s] GB:=by
 refine ae Tryz.func89 ?_
 repeat' (conv=>whnf
          first
  |(refine aA (fun h=>?_) (fun h=>?_))
  |(refine aG (fun h=>?_) (fun h=>?_))
  |(refine ol (by omega) (by omega) ?_;intro bb)
  |exact gB rfl rfl
  |(apply aL [0,8,9] [] [9] (RI s.size) (s.size) [iV .i64 0];(conv=>whnf);exact⟨rfl,rfl,rfl,rfl⟩;exact rfl;exact rfl;exact RI.zero;rintro _ _ ⟨i,hi,rfl,rfl⟩)
  |(refine aj [0,8,9] [] ?_;(conv=>whnf);exact⟨rfl,_,[_],RI.succ (N:=s.size) (i:=i) (by omega) hs,rfl,rfl,rfl,by omega⟩))
 all_goals (conv=>whnf)
def PA (N:Nat) (hJ:List (Lz)) (m:Nat) (vs:List V) (xss:List (Lz)):Prop:= ∃i:Nat,i≤N∧m=N - i∧vs=[iV .i64 (i:Int)]∧xss=hJ
theorem PA.next {N i:Nat} {hJ:List (Lz)} (hi:(i:Int) < (N:Int)) (hl:N≤maxLen):PA N hJ (N - (i+1)) [iV .i64 (IntKind.i64.wrap ((i:Int)+1))] hJ:=⟨i+1,by omega,rfl,by simp only[maxLen]at hl;rw[bj (by omega) (by omega)];rfl,rfl⟩
theorem is3 {a b c:Int}:Is [[tI a],[tI b],[tI c]]:=fun e he=>by
 simp only[List.mem_cons,List.not_mem_nil,or_false]at he
 rcases he with rfl|rfl|rfl<;>exact⟨_,rfl⟩
end Go.aS.Cd
end
section
namespace Go.aS.Cd
open Go Go.Proofs
set_option maxRecDepth 100000
set_option maxHeartbeats 1000000
theorem qJ {hp:HS} {id sz len:Nat} {rows:List (List C)} {xs:Lz} {x:T} (hf:find hp id=some (.row sz rows)) (hR:az rows xs) (hl:len=xs.length):bu (bB hp) [.one (.t x), .one (.own id sz 0 len)]=some [.one (.t x), .one (.t (.av sz xs))]:=by
 have:=lF (hp:=hp) (i:=0) hf hR (by omega:0+len≤xs.length)
 have hx:bB hp (.one (.t x))=some (.one (.t x)):=rfl
 simp only[bu,this,hx]
 simp[hl]
abbrev CP (a b c d:Int):Lz:=[[tI a,tI b],[tI c,tI b],[tI c,tI d],[tI a,tI d]]
theorem Kh {a b c d:Int}:bZ (CP a b c d):=fun e he=>by
 simp only[CP,List.mem_cons,List.not_mem_nil,or_false]at he
 rcases he with rfl|rfl|rfl|rfl<;>exact⟨_,_,rfl⟩
theorem yR (xs:Lz) (hx:bZ xs) (hl:xs.length≤1000000) (x y w h:Int):Tg 67 [oL 2 xs,EJ x y w h] GBI:=by
 refine aK ?_
 refine ae Tryz.func67 ?_
 repeat' (conv=>whnf
          first
  |(refine aA (fun h=>?_) (fun h=>?_))
  |(refine bR (fun h=>?_) (fun h=>?_))
  |(refine aG (fun h=>?_) (fun h=>?_))
  |(refine au (xs:=rs) (hT (by omega)).1 (by omega) (by omega) ?_;rintro _ ⟨IA,rfl,ht,XF⟩ hs)
  |(refine ag rfl (jn xs hx hl) ?_;rintro _ ⟨rs,e,rfl,hT⟩)
  |(have h77:=lf;refine ag rfl (pG _ _) ?_;rintro _ ⟨lo,hg,tl,rfl⟩)
  |(refine ag rfl (pG _ _) ?_;rintro _ ⟨lf,rg,wd,rfl⟩)
  |(refine jk (qJ rfl (show az _ (CP lf lo rg hg)from rfl) rfl) (lS IA (CP lf lo rg hg) ht Kh XF (by simp)) ?_ ?_;(rintro _ ⟨n,rfl⟩;rfl);rintro _ ⟨n,rfl⟩)
  |exact dA rfl (bX rfl) (bX rfl) ⟨_,_,rfl⟩
  |(apply bH [14,70,71,72] [] [72] [(4,2)] (PA rs.length [CP lf lo rg hg]) (rs.length) [iV .i64 0];(conv=>whnf);exact⟨rfl,rfl,rfl,rfl⟩;exact rfl;exact rfl;exact .cons (az.ak (xs:=CP _ _ _ _) rfl _) .nil;exact⟨0,by omega,rfl,rfl,rfl⟩;rintro _ _ _ ⟨i,hi,rfl,rfl,rfl⟩)
  |(refine aj [14,70,71,72] [] ?_;(conv=>whnf);exact⟨rfl,_,[_],_, .cons (az.ak (xs:=CP _ _ _ _) rfl _) .nil,PA.next (by omega) (by have:=(hT (by omega)).2;simp only[maxLen];omega),rfl,rfl,by omega⟩))
 all_goals (conv=>whnf)
abbrev GD (l:Int) (ps:Lz):W:= .agg [.t (tI l), .t (.av 4 ps)]
def GCr (ps:Lz) (ts:List W):Prop:= ∃n e,ts=[oI n,oI e]∧(e=0→0≤n∧n < (ps.length:Int))
theorem vG (l:Int) (ps poly:Lz) (hp:BK ps) (jv:ps.length≤maxLen) (hx:bZ poly) (hl:poly.length≤1000000):Tg 36 [GD l ps,oL 2 poly] (GCr ps):=by
 refine aK ?_
 refine ae Tryz.func36 ?_
 repeat' (conv=>whnf
          first
  |(refine aA (fun h=>?_) (fun h=>?_))
  |(refine bR (fun h=>?_) (fun h=>?_))
  |(refine aG (fun h=>?_) (fun h=>?_))
  |(refine au (xs:=ps) hp (by omega) (by omega) ?_;rintro _ ⟨r1,f1,t1,a1,rfl⟩ hs)
  |(refine ag rfl (rH poly hx hl) ?_;rintro _ ⟨a,b,c,d,e,rfl,_⟩)
  |(refine ag rfl (vF r1 f1 t1 a1 _ _ _ _) ?_;rintro _ ⟨b3,rfl⟩)
  |exact dA rfl (bX rfl) (bX rfl) ⟨_,_,rfl,fun h=>by omega⟩
  |(apply bH [6,19,20,21] [] [21] [(4,4)] (PA ps.length [[[tI a,tI b,tI c,tI d]]]) (ps.length) [iV .i64 0];(conv=>whnf);exact⟨rfl,rfl,rfl,rfl⟩;exact rfl;exact rfl;exact .cons (az.ak (xs:=[[tI a,tI b,tI c,tI d]]) rfl _) .nil;exact⟨0,by omega,rfl,rfl,rfl⟩;rintro _ _ _ ⟨i,hi,rfl,rfl,rfl⟩)
  |(refine aj [6,19,20,21] [] ?_;(conv=>whnf);exact⟨rfl,_,[_],_, .cons (az.ak (xs:=[[tI a,tI b,tI c,tI d]]) rfl _) .nil,PA.next (by omega) jv,rfl,rfl,by omega⟩))
 all_goals (conv=>whnf)
end Go.aS.Cd
end
section
namespace Go.aS.Cd
open Go Go.Proofs
set_option maxRecDepth 100000
set_option maxHeartbeats 1000000
theorem yA (ln:Int) (aC:Lz) (hp:vY aC) (r1 f1 t1 a1 r2 f2 t2 a2:Int):Tg 61 [oI ln,oL 1 aC,EJ r1 f1 t1 a1,EJ r2 f2 t2 a2] GB:=by
 refine ae Tryz.func61 ?_
 repeat' (conv=>whnf
          first
  |(refine aA (fun h=>?_) (fun h=>?_))
  |(refine And.intro (by kernel_rfl) ?_)
  |(refine ag rfl (tW _ _ _ _) ?_;rintro _ ⟨n,rfl⟩)
  |(refine aB rfl (tW _ _ _ _) ?_;rintro _ ⟨n,rfl⟩)
  |(refine ag rfl (rD ln aC hp _) ?_;rintro _ ⟨n2,e2,rfl⟩)
  |exact gB rfl rfl)
 all_goals (conv=>whnf)
end Go.aS.Cd
end
section
namespace Go.aS.Cd
open Go Go.Proofs
set_option maxRecDepth 100000
set_option maxHeartbeats 1000000
class BM:Type 1 where
 pk: {α:Type}→[Inhabited α]→FuncId→List W→(α→List W)→(α→Prop)→α
 ok: ∀ {α:Type} [Inhabited α] {f:FuncId} {args:List W} {enc:α→List W} {Q:α→Prop},(∃a,Fn Tryz.prog f args [] (aQ (enc a)) []∧(aQ (enc a)).bY=true∧Q a)→
  Fn Tryz.prog f args [] (aQ (enc (pk f args enc Q))) []∧(aQ (enc (pk f args enc Q))).bY=true∧Q (pk f args enc Q)
open Classical in
theorem ME:Nonempty BM:=by
 refine⟨⟨fun f args enc Q=>if h: ∃a,Fn Tryz.prog f args [] (aQ (enc a)) []∧(aQ (enc a)).bY=true∧Q a then h.choose else default,?_⟩⟩
 intro α _ f args enc Q h
 rw[dif_pos h]
 exact h.choose_spec
variable [BM]
def pk {α:Type} [Inhabited α] (f:FuncId) (args:List W) (enc:α→List W) (Q:α→Prop):α:=BM.pk f args enc Q
theorem uB {α:Type} [Inhabited α] {f:FuncId} {args:List W} {enc:α→List W} {Q:α→Prop} (h: ∃a,Fn Tryz.prog f args [] (aQ (enc a)) []∧(aQ (enc a)).bY=true∧Q a):
 ∃ts,Fn Tryz.prog f args [] (aQ ts) []∧(aQ ts).bY=true∧(ts=enc (pk f args enc Q)∧Q (pk f args enc Q)):=
 ⟨_,(BM.ok h).1,(BM.ok h).2.1,rfl,(BM.ok h).2.2⟩
def idV (id:ByteArray):Bool:=pk 89 [oS id] (fun b=>[oB b]) (fun _=>True)
theorem Cc (id:ByteArray) (bJ:id.size≤maxLen): ∃ts,Fn Tryz.prog 89 [oS id] [] (aQ ts) []∧(aQ ts).bY=true∧(ts=[oB (idV id)]∧True):=by
 obtain⟨ts,h1,h2,b,rfl⟩:=Ev id bJ
 exact uB (enc:=fun b=>[oB b]) (Q:=fun _=>True) ⟨b,h1,h2,trivial⟩
def Oy (e:List T):Prop:= -1000≤nI 0 e∧nI 0 e≤1000
def Uo (l w:Int) (e:List T):Prop:=(0≤nI 0 e∧1≤nI 2 e∧nI 2 e≤IntKind.i64.wrap (l - nI 0 e))∧0≤nI 1 e∧1≤nI 3 e∧nI 3 e≤IntKind.i64.wrap (w - nI 1 e)
structure Ik (id:ByteArray) (w l a b c:Int) (fl:Lz):Prop where
 id:idV id=true
 rl:1≤l∧l≤1048576
 rw_:1≤w∧w≤1048576
 WC: ∀e,e∈ [[tI a],[tI b],[tI c]]→Oy e
 fll:fl.length≤20
 flo: ∀e,e∈fl→Uo l w e
def Kt (a b c:Int) (m:Nat) (vs:List V):Prop:= ∃i:Nat,i≤3∧Pre Oy [[tI a],[tI b],[tI c]] i∧m=3 - i∧vs=[iV .i64 (i:Int)]
theorem Kt.next {a b c a5:Int} {i:Nat} (hi:(i:Int) < 3) (h:Pre Oy [[tI a],[tI b],[tI c]] i) (hs: [[tI a],[tI b],[tI c]][0+((i:Int)).toNat]? =some [tI a5]) (h1: -1000≤a5) (h2:a5≤1000):Kt a b c (3 - (i+1)) [iV .i64 (IntKind.i64.wrap ((i:Int)+1))]:=
 ⟨i+1,by omega,h.succ (e:=[tI a5]) (by simpa using hs) (show -1000≤a5∧a5≤1000 from⟨h1,h2⟩),rfl,by rw[bj (by omega) (by omega)];rfl⟩
theorem GG {b:Bool} (h:(!b)=true):¬b=true:=by simpa using h
theorem rF (id:ByteArray) (w l a b c:Int) (fl:Lz) (bJ:id.size≤maxLen) (hf:BK fl) (hfl:fl.length≤maxLen):Tg 66 [oRl id w l a b c fl] (nP (fun n=>n=0↔Ik id w l a b c fl)):=by
 refine ae Tryz.func66 ?_
 repeat' (conv=>whnf
          first
  |(refine aA (fun h=>?_) (fun h=>?_))
  |(refine aG (fun h=>?_) (fun h=>?_))
  |(refine au (xs:=fl) hf (by omega) (by omega) ?_;rintro _ ⟨a2,b2,c2,d2,rfl⟩ hs)
  |(refine And.intro (by omega) ?_)
  |(refine ag rfl (Cc id bJ) ?_;rintro _ ⟨rfl,_⟩)
  |(have hi4:(i:Int) < 3:=(by omega);refine cv (xs:=[[tI a],[tI b],[tI c]]) rfl is3 (by simp;omega) ?_;rintro _ ⟨a5,rfl⟩ XQ)
  |exact iK rfl rfl (iff_of_false (by decide) (fun hh=>GG (by assumption) hh.id))
  |exact iK rfl rfl (iff_of_false (by decide) (fun hh=>by have h1:=hh.rl;have h2:=hh.rw_;omega))
  |exact iK rfl rfl (iff_of_false (by decide) (fun hh=>by have h1: -1000≤a5∧a5≤1000:=hh.WC _ (List.mem_of_getElem? XQ);omega))
  |exact iK rfl rfl (iff_of_false (by decide) (fun hh=>by have h1:=hh.fll;omega))
  |exact iK rfl rfl (iff_of_false (by decide) (fun hh=>by have h1:(0≤a2∧1≤c2∧c2≤IntKind.i64.wrap (l - a2))∧0≤b2∧1≤d2∧d2≤IntKind.i64.wrap (w - b2):=hh.flo _ (List.mem_of_getElem? hs);omega))
  |exact iK rfl rfl (iff_of_true rfl ⟨gV (by assumption),by omega,by omega,hp.all (by simp;omega),by omega,hp2.all (by omega)⟩)
  |(apply aL [1,56,57,58] [] [58] (RQ (Uo l w) fl) (fl.length) [iV .i64 0];(conv=>whnf);exact⟨rfl,rfl,rfl,rfl⟩;exact rfl;exact rfl;exact RQ.zero;rintro _ _ ⟨i2,hi2,hp2,rfl,rfl⟩)
  |(refine aj [1,56,57,58] [] ?_;(conv=>whnf);exact⟨rfl,_,[_],RQ.next (by omega) hfl hp2 hs (show(0≤a2∧1≤c2∧c2≤IntKind.i64.wrap (l - a2))∧0≤b2∧1≤d2∧d2≤IntKind.i64.wrap (w - b2)from⟨⟨by omega,by omega,by omega⟩,by omega,by omega,by omega⟩),rfl,rfl,rfl,by omega⟩)
  |(apply aL [1,38,39,40] [] [40] (Kt a b c) (3) [iV .i64 0];(conv=>whnf);exact⟨rfl,rfl,rfl,rfl⟩;exact rfl;exact rfl;exact⟨0,by omega,Pre.zero,rfl,rfl⟩;rintro _ _ ⟨i,hi,hp,rfl,rfl⟩)
  |(refine aj [1,38,39,40] [] ?_;(conv=>whnf);exact⟨rfl,_,[_],Kt.next hi4 hp XQ (by omega) (by omega),rfl,rfl,rfl,by omega⟩))
 all_goals (conv=>whnf)
def zU (e:List T):Prop:= ∃id w l a b c fl,e=[.val (.string id),tI w,tI l,tI a,tI b,tI c, .av 4 fl]∧Ik id w l a b c fl
theorem zU.of {id:ByteArray} {w l a b c:Int} {fl:Lz} (h:zU [.val (.string id),tI w,tI l,tI a,tI b,tI c, .av 4 fl]):Ik id w l a b c fl:=by
 obtain⟨id',w',l',a',b',c',fl',he,h⟩:=h
 simp only[List.cons.injEq,T.val.injEq,Value.string.injEq,Value.int.injEq,T.av.injEq,true_and,and_true]at he
 obtain⟨rfl,rfl,rfl,rfl,rfl,rfl,rfl⟩:=he
 exact h
structure T2 (ah aR:Lz):Prop where
 n:ah.length≤20
 all: ∀e,e∈ah→zU e
 aR:aR.length=ah.length
theorem oy (ah aR:Lz) (hR:FB ah) (BW:ah.length≤maxLen):Tg 59 [oL 7 ah,oL 1 aR] (nP (fun n=>n=0↔T2 ah aR)):=by
 refine ae Tryz.func59 ?_
 repeat' (conv=>whnf
          first
  |(refine aA (fun h=>?_) (fun h=>?_))
  |(refine bR (fun h=>?_) (fun h=>?_))
  |(refine au (xs:=ah) hR (by omega) (by omega) ?_;rintro _ ⟨id,w1,l1,a2,b2,c2,fl,rfl,bJ,hfl,E6⟩ qM)
  |(refine ag rfl (rF id w1 l1 a2 b2 c2 fl bJ hfl E6) ?_;rintro _ ⟨e2,rfl,Hr⟩)
  |exact iK rfl rfl (iff_of_false (by decide) (fun hh=>by have h1:=hh.n;omega))
  |exact iK rfl rfl (iff_of_false (by omega) (fun hh=>by have h1:=Hr.2 (zU.of (hh.all _ (List.mem_of_getElem? qM)));omega))
  |exact iK rfl rfl (iff_of_false (by decide) (fun hh=>by have h1:=hh.aR;omega))
  |exact iK rfl rfl (iff_of_true rfl ⟨by omega,hp.all (by omega),by omega⟩)
  |(apply aL [0,1,11,12,13] [] [13] (RQ zU ah) (ah.length) [iV .i64 0];(conv=>whnf);exact⟨rfl,rfl,rfl,rfl⟩;exact rfl;exact rfl;exact RQ.zero;rintro _ _ ⟨i,hi,hp,rfl,rfl⟩)
  |(refine aj [0,1,11,12,13] [] ?_;(conv=>whnf);exact⟨rfl,_,[_],RQ.next (by omega) BW hp qM ⟨_,_,_,_,_,_,_,rfl,Hr.1 (by omega)⟩,rfl,rfl,rfl,by omega⟩))
 all_goals (conv=>whnf)
def Y8 (ln:Int) (aC:Lz) (hi:Int):Int×Int:=pk 58 [oI ln,oL 1 aC,oI hi] (fun p=>[oI p.1,oI p.2]) (fun _=>True)
theorem yC (ln:Int) (aC:Lz) (hp:vY aC) (hi:Int): ∃ts,Fn Tryz.prog 58 [oI ln,oL 1 aC,oI hi] [] (aQ ts) []∧(aQ ts).bY=true∧(ts=[oI (Y8 ln aC hi).1,oI (Y8 ln aC hi).2]∧True):=by
 obtain⟨ts,h1,h2,n,e,rfl⟩:=rD ln aC hp hi
 exact uB (enc:=fun p:Int×Int=>[oI p.1,oI p.2]) (Q:=fun _=>True) ⟨(n,e),h1,h2,trivial⟩
def UH (ln:Int) (aC:Lz) (p q:List T):Bool:=pk 61 [oI ln,oL 1 aC, .agg (p.map .t), .agg (q.map .t)] (fun b=>[oB b]) (fun _=>True)
theorem wm (ln:Int) (aC:Lz) (hp:vY aC) (r1 f1 t1 a1 r2 f2 t2 a2:Int): ∃ts,Fn Tryz.prog 61 [oI ln,oL 1 aC,EJ r1 f1 t1 a1,EJ r2 f2 t2 a2] [] (aQ ts) []∧(aQ ts).bY=true∧(ts=[oB (UH ln aC (zI r1 f1 t1 a1) (zI r2 f2 t2 a2))]∧True):=by
 obtain⟨ts,h1,h2,b,rfl⟩:=yA ln aC hp r1 f1 t1 a1 r2 f2 t2 a2
 exact uB (f:=61) (args:=[oI ln,oL 1 aC, .agg ((zI r1 f1 t1 a1).map .t), .agg ((zI r2 f2 t2 a2).map .t)]) (enc:=fun b=>[oB b]) (Q:=fun _=>True) ⟨b,h1,h2,trivial⟩
structure ClF (ln wd:Int) (aC ah aR:Lz):Prop where
 back:(Y8 ln aC 0).2=0
 rs:T2 ah aR
 wd:1≤wd∧wd≤1048576
theorem oz (ln wd rx ry:Int) (sizes places aC ah aR:Lz) (hp:vY aC) (hR:FB ah) (BW:ah.length≤maxLen):Tg 32 [ML ln wd rx ry sizes places,oL 1 aC,oL 7 ah,oL 1 aR] (nP (fun n=>n=0↔ClF ln wd aC ah aR)):=by
 refine ae Tryz.func32 ?_
 repeat' (conv=>whnf
          first
  |(refine aA (fun h=>?_) (fun h=>?_))
  |(refine bR (fun h=>?_) (fun h=>?_))
  |(refine ag rfl (yC ln aC hp _) ?_;rintro _ ⟨rfl,_⟩)
  |(refine ag rfl (oy ah aR hR BW) ?_;rintro _ ⟨n,rfl,hn⟩)
  |exact iK rfl rfl (iff_of_false (by omega) (fun hh=>by have h1:=hh.back;omega))
  |exact iK rfl rfl (iff_of_false (by omega) (fun hh=>by have h1:=hn.2 hh.rs;omega))
  |exact iK rfl rfl (iff_of_false (by decide) (fun hh=>by have h1:=hh.wd;omega))
  |exact iK rfl rfl (iff_of_true rfl ⟨by omega,hn.1 (by omega),by omega⟩))
 all_goals (conv=>whnf)
abbrev tf (xs:Lz) (r:Int):List T:=(xs[r.toNat]?).getD []
def Ur (ah:Lz) (p:List T):Prop:=(0≤nI 0 p∧nI 0 p < (ah.length:Int))∧0≤nI 1 p∧nI 1 p < nI 2 p∧nI 2 p≤nI 2 (tf ah (nI 0 p))
theorem kQ {xs:Lz} {r:Int} {e:List T} (h:xs[r.toNat]? =some e):tf xs r=e:=by simp[tf,h]
theorem TO {ah:Lz} {r f t a q:Int} {id:ByteArray} {w l a1 b1 c1:Int} {fl:Lz} (hs:ah[r.toNat]? =some [.val (.string id),tI w,tI l,tI a1,tI b1,tI c1, .av 4 fl]) (h0:0≤r) (h1:r < (ah.length:Int)) (h2:0≤f) (h3:f < t) (b:Bool) (hb:b=decide (t≤l)):b=true↔Ur ah [tI r,tI f,tI t,tI a]:=by
 have e:nI 2 (tf ah r)=l:=by rw[kQ hs];rfl
 rw[hb,decide_eq_true_eq]
 constructor
 · intro h
   exact⟨⟨h0,h1⟩,h2,h3,by show t≤nI 2 (tf ah r);rw[e];exact h⟩
 · rintro⟨_,_,_,h⟩
   have h:t≤nI 2 (tf ah r):=h
   rwa [e]at h
theorem sJ (r f t a:Int) (ah:Lz) (hR:FB ah):Tg 60 [EJ r f t a,oL 7 ah] (KQ (Ur ah (zI r f t a))):=by
 refine ae Tryz.func60 ?_
 repeat' (conv=>whnf
          first
  |(refine aA (fun h=>?_) (fun h=>?_))
  |(refine au (xs:=ah) hR (by omega) (by omega) ?_;rintro _ ⟨id,w,l,a1,b1,c1,fl,rfl,_,_,_⟩ hs)
  |(refine And.intro (by kernel_rfl) ?_)
  |exact LD rfl rfl (TO (q:=0) hs (by omega) (by omega) (by omega) (by omega) _ rfl)
  |exact LD rfl rfl (iff_of_false (by simp) (fun hh=>by obtain⟨⟨h1,h2⟩,h3,h4,_⟩:=hh;have h1:0≤r:=h1;have h2:r < (ah.length:Int):=h2;have h3:0≤f:=h3;have h4:f < t:=h4;omega)))
 all_goals (conv=>whnf)
end Go.aS.Cd
end
section
namespace Go.aS.Cd
open Go Go.Proofs
set_option maxRecDepth 100000
set_option maxHeartbeats 1000000
variable [BM]
def TJ (e:List T):Int:=IntKind.i64.wrap (IntKind.i64.wrap (nI 3 e+nI 2 e) - nI 1 e)
theorem An (r f t a:Int):Tg 62 [EJ r f t a] (nP (fun n=>n=TJ (zI r f t a))):=by
 refine ae Tryz.func62 ?_
 repeat' (conv=>whnf
          first
  |exact iK rfl rfl rfl)
 all_goals (conv=>whnf)
def Om (ln wd:Int) (ah aR:Lz) (pJ:Int) (p:List T):Prop:=Ur ah p∧(0≤nI 3 p∧nI 3 p≤ln)∧nI 0 (tf aR (nI 0 p))=pJ∧wd≤nI 1 (tf ah (nI 0 p))
def KE (ln:Int) (aC ps:Lz) (i:Nat) (p:List T):Prop:=(i=0→nI 3 p=0)∧(0 < i→UH ln aC ((ps[i - 1]?).getD []) p=true)
structure zV (ln wd:Int) (aC ah aR:Lz) (pJ:Int) (ps:Lz):Prop where
 ne:ps.length≠0
 all: ∀i p,ps[i]? =some p→Om ln wd ah aR pJ p∧KE ln aC ps i p
 en:TJ ((ps[ps.length - 1]?).getD [])=ln
def Ip (Q:Nat→List T→Prop) (xs:Lz) (i:Nat):Prop:= ∀j e,j < i→xs[j]? =some e→Q j e
theorem Ip.succ {Q:Nat→List T→Prop} {xs:Lz} {i:Nat} {e:List T} (h:Ip Q xs i) (hs:xs[i]? =some e) (hq:Q i e):Ip Q xs (i+1):=by
 intro j e' hj he
 by_cases eF:j=i
 · subst eF
   rw[hs]at he
   cases he
   exact hq
 · exact h j e' (by omega) he
def Im (Q:Nat→List T→Prop) (xs:Lz) (hJ:List (Lz)) (m:Nat) (vs:List V) (xss:List (Lz)):Prop:= ∃i:Nat,i≤xs.length∧Ip Q xs i∧m=xs.length - i∧vs=[iV .i64 (i:Int)]∧xss=hJ
theorem Im.next {Q:Nat→List T→Prop} {xs:Lz} {hJ:List (Lz)} {i:Nat} {e:List T} (hi:(i:Int) < (xs.length:Int)) (hl:xs.length≤maxLen) (h:Ip Q xs i) (hs:xs[((i:Int)).toNat]? =some e) (hq:Q i e):Im Q xs hJ (xs.length - (i+1)) [iV .i64 (IntKind.i64.wrap ((i:Int)+1))] hJ:=
 ⟨i+1,by omega,h.succ (by simpa using hs) hq,rfl,by simp only[maxLen]at hl;rw[bj (by omega) (by omega)];rfl,rfl⟩
section
variable {ln wd l r f t a:Int} {aC ah aR ps:Lz} {i:Nat} {b:Bool} {x:List T} {n7:Int} {id:ByteArray} {w1 l1 a2 b2 c2:Int} {fl:Lz}
theorem Om.mk' (hb:b=true↔Ur ah (zI r f t a)) (h0:(!b)=false) (h1:¬a < 0) (h2:¬a > ln) (Nd:aR[r.toNat]? =some [tI n7]) (h3:n7=l) (qM:ah[r.toNat]? =some [.val (.string id),tI w1,tI l1,tI a2,tI b2,tI c2, .av 4 fl]) (h4:¬w1 < wd):Om ln wd ah aR l (zI r f t a):=by
 refine⟨hb.1 (gV h0),⟨by show 0≤a;omega,by show a≤ln;omega⟩,?_,?_⟩
 · show nI 0 (tf aR r)=l
   rw[kQ Nd]
   exact h3
 · show wd≤nI 1 (tf ah r)
   rw[kQ qM]
   show wd≤w1
   omega
theorem qF (hh:zV ln wd aC ah aR l ps) (hs:ps[((i:Int)).toNat]? =some x):Om ln wd ah aR l x∧KE ln aC ps i x:=hh.all i x (by simpa using hs)
theorem Sf (hh:zV ln wd aC ah aR l ps) (hs:ps[((i:Int)).toNat]? =some (zI r f t a)) (hb:b=true↔Ur ah (zI r f t a)) (h0:(!b)=true):False:=by
 have:=hb.2 (qF hh hs).1.1
 rw[this]at h0
 simp at h0
theorem Si (hh:zV ln wd aC ah aR l ps) (hs:ps[((i:Int)).toNat]? =some (zI r f t a)) (h:a < 0∨a > ln):False:=by
 have h1:0≤a∧a≤ln:=(qF hh hs).1.2.1
 omega
theorem MN (hh:zV ln wd aC ah aR l ps) (hs:ps[((i:Int)).toNat]? =some (zI r f t a)) (Nd:aR[r.toNat]? =some [tI n7]) (h3:¬n7=l):False:=by
 have h1:nI 0 (tf aR r)=l:=(qF hh hs).1.2.2.1
 rw[kQ Nd]at h1
 exact h3 h1
theorem Sc (hh:zV ln wd aC ah aR l ps) (hs:ps[((i:Int)).toNat]? =some (zI r f t a)) (qM:ah[r.toNat]? =some [.val (.string id),tI w1,tI l1,tI a2,tI b2,tI c2, .av 4 fl]) (h4:w1 < wd):False:=by
 have h1:wd≤nI 1 (tf ah r):=(qF hh hs).1.2.2.2
 rw[kQ qM]at h1
 have h1:wd≤w1:=h1
 omega
theorem Se (hh:zV ln wd aC ah aR l ps) (hs:ps[((i:Int)).toNat]? =some (zI r f t a)) (hi:(i:Int)=0) (h:¬a=0):False:=
 h ((qF hh hs).2.1 (by omega))
theorem Dy (hi:(i:Int) > 0) (hl:ps.length≤maxLen) (hi2:(i:Int) < (ps.length:Int)) (DI:ps[(IntKind.i64.wrap ((i:Int) - 1)).toNat]? =some x):(ps[i - 1]?).getD []=x:=by
 simp only[maxLen]at hl
 rw[bj (by omega) (by omega),show((i:Int) - 1).toNat=i - 1 by omega]at DI
 simp[DI]
theorem Sd (hh:zV ln wd aC ah aR l ps) (hs:ps[((i:Int)).toNat]? =some (zI r f t a)) (hi:(i:Int) > 0) (hl:ps.length≤maxLen) (hi2:(i:Int) < (ps.length:Int)) (DI:ps[(IntKind.i64.wrap ((i:Int) - 1)).toNat]? =some x) (h:(!UH ln aC x (zI r f t a))=true):False:=by
 have:=(qF hh hs).2.2 (by omega)
 rw[Dy hi hl hi2 DI]at this
 rw[this]at h
 simp at h
theorem KE.zero (hi:(i:Int)=0) (h:a=0):KE ln aC ps i (zI r f t a):=⟨fun _=>h,fun h=>by omega⟩
theorem KE.pos (hi:(i:Int) > 0) (hl:ps.length≤maxLen) (hi2:(i:Int) < (ps.length:Int)) (DI:ps[(IntKind.i64.wrap ((i:Int) - 1)).toNat]? =some x) (h:(!UH ln aC x (zI r f t a))=false):KE ln aC ps i (zI r f t a):=
 ⟨fun h=>by omega,fun _=>by rw[Dy hi hl hi2 DI];exact gV h⟩
theorem DE (hl:ps.length≤maxLen) (h0:¬ (ps.length:Int)=0) (DI:ps[(IntKind.i64.wrap ((ps.length:Int) - 1)).toNat]? =some x):(ps[ps.length - 1]?).getD []=x:=by
 simp only[maxLen]at hl
 rw[bj (by omega) (by omega),show((ps.length:Int) - 1).toNat=ps.length - 1 by omega]at DI
 simp[DI]
end
theorem qA (ln wd rx ry:Int) (sizes places aC ah aR:Lz) (hp:vY aC) (hR:FB ah) (BW:ah.length≤maxLen) (hlo:Is aR) (OU:aR.length=ah.length) (l:Int) (ps:Lz) (hps:BK ps) (jv:ps.length≤maxLen):Tg 33 [ML ln wd rx ry sizes places,oL 1 aC,oL 7 ah,oL 1 aR,GD l ps] (nP (fun n=>n=0↔zV ln wd aC ah aR l ps)):=by
 refine ae Tryz.func33 ?_
 repeat' (conv=>whnf
          first
  |(refine aA (fun h=>?_) (fun h=>?_))
  |(refine bR (fun h=>?_) (fun h=>?_))
  |(refine aG (fun h=>?_) (fun h=>?_))
  |(have h7:0≤r1∧r1 < (ah.length:Int):=(hb.1 (gV (b:=b) (by assumption))).1;refine au (xs:=aR) hlo h7.1 (by omega) ?_;rintro _ ⟨n7,rfl⟩ Nd)
  |(have h7:0≤r1∧r1 < (ah.length:Int):=(hb.1 (gV (b:=b) (by assumption))).1;refine au (xs:=ah) hR h7.1 h7.2 ?_;rintro _ ⟨id,w1,l1,a2,b2,c2,fl,rfl,bJ,hfl,E6⟩ qM)
  |(refine au (xs:=ps) hps (by omega) (by omega) ?_;rintro _ ⟨r1,f1,t1,a1,rfl⟩ hs)
  |(have h77:=jv;simp only[maxLen]at h77;refine au (xs:=ps) hps (by first|omega|(simp (disch:=omega) only[aa];omega)) (by first|omega|(simp (disch:=omega) only[aa];omega)) ?_;rintro _ ⟨r9,f9,t9,a9,rfl⟩ DI)
  |(refine And.intro (by kernel_rfl) ?_)
  |(refine ag rfl (sJ r1 f1 t1 a1 ah hR) ?_;rintro _ ⟨b,rfl,hb⟩)
  |(refine aB rfl (wm ln aC hp _ _ _ _ _ _ _ _) ?_;rintro _ ⟨rfl,_⟩)
  |(refine aB rfl (An _ _ _ _) ?_;rintro _ ⟨_,rfl,rfl⟩)
  |exact iK rfl rfl (iff_of_false (by decide) (fun hh=>by have h1:=hh.ne;omega))
  |exact iK rfl rfl (iff_of_false (by decide) (fun hh=>Sf hh hs hb (by assumption)))
  |exact iK rfl rfl (iff_of_false (by decide) (fun hh=>Si hh hs (by omega)))
  |exact iK rfl rfl (iff_of_false (by decide) (fun hh=>MN hh hs Nd (by omega)))
  |exact iK rfl rfl (iff_of_false (by decide) (fun hh=>Sc hh hs qM (by omega)))
  |exact iK rfl rfl (iff_of_false (by decide) (fun hh=>Se hh hs (by omega) (by omega)))
  |exact iK rfl rfl (iff_of_false (by decide) (fun hh=>Sd hh hs (by omega) jv (by omega) DI (by assumption)))
  |exact iK rfl rfl (iff_of_false (by decide) (fun hh=>by have h1:=hh.en;rw[DE jv (by omega) DI]at h1;exact absurd h1 (by assumption)))
  |exact iK rfl rfl (iff_of_true rfl ⟨by omega,fun j p hj=>hpre j p (by have:=(List.getElem?_eq_some_iff.1 hj).1;omega) hj,by rw[DE jv (by omega) DI];omega⟩)
  |(apply bH [1,2,3,5,9,18,19,20] [] [20] [(4,6),(8,2)] (Im (fun i p=>Om ln wd ah aR l p∧KE ln aC ps i p) ps [[[tI ln,tI wd,tI rx,tI ry, .av 1 sizes, .av 7 places]],[[tI l, .av 4 ps]]]) (ps.length) [iV .i64 0];(conv=>whnf);exact⟨rfl,rfl,rfl,rfl⟩;exact rfl;exact rfl;exact .cons (az.ak (xs:=[[tI ln,tI wd,tI rx,tI ry, .av 1 sizes, .av 7 places]]) rfl _) (.cons (az.ak (xs:=[[tI l, .av 4 ps]]) rfl _) .nil);exact⟨0,by omega,fun j e hj=>by omega,rfl,rfl,rfl⟩;rintro _ _ _ ⟨i,hi,hpre,rfl,rfl,rfl⟩)
  |(refine aj [1,2,3,5,9,18,19,20] [] ?_;(conv=>whnf);first|exact⟨rfl,_,[_],_, .cons (az.ak (xs:=[[tI ln,tI wd,tI rx,tI ry, .av 1 sizes, .av 7 places]]) rfl _) (.cons (az.ak (xs:=[[tI l, .av 4 ps]]) rfl _) .nil),Im.next (by omega) jv hpre hs ⟨Om.mk' hb (by assumption) (by assumption) (by assumption) Nd (by omega) qM (by assumption),KE.pos (by omega) jv (by omega) DI (by assumption)⟩,rfl,rfl,by omega⟩|exact⟨rfl,_,[_],_, .cons (az.ak (xs:=[[tI ln,tI wd,tI rx,tI ry, .av 1 sizes, .av 7 places]]) rfl _) (.cons (az.ak (xs:=[[tI l, .av 4 ps]]) rfl _) .nil),Im.next (by omega) jv hpre hs ⟨Om.mk' hb (by assumption) (by assumption) (by assumption) Nd (by omega) qM (by assumption),KE.zero (by omega) (by omega)⟩,rfl,rfl,by omega⟩)
  |(exfalso;omega))
 all_goals (conv=>whnf)
end Go.aS.Cd
end
section
namespace Go.Proofs
open Go.Shelf
def Tryz.B6:Go.Shelf.Ren:=⟨fun|6=>63|15=>87|14=>86|28=>117|29=>118|20=>109|21=>110|22=>111|23=>112|24=>113|25=>114|26=>115|27=>116|46=>143|47=>144|48=>145|49=>146|50=>147|57=>172|n=>n,fun|22=>175|24=>177|25=>180|3=>3|39=>205|0=>0|53=>238|55=>240|4=>4|46=>232|45=>231|50=>101|5=>5|9=>9|66=>260|70=>264|76=>306|77=>307|n=>n,fun|n=>n⟩
theorem Tryz.Ga:Go.Proofs.SlLaysF0.n6 Tryz.prog Tryz.B6:={
 mixed:=by kernel_rfl
 f6:=⟨Tryz.f63.name,by decide,Tryz.func63.trans (congrArg some (by kernel_rfl))⟩
 f14:=⟨Tryz.f86.name,by decide,Tryz.func86.trans (congrArg some (by kernel_rfl))⟩
 f15:=Tryz.func87.trans (congrArg some (by kernel_rfl))
 f20:=⟨Tryz.f109.name,by decide,Tryz.func109.trans (congrArg some (by kernel_rfl))⟩
 f21:=⟨Tryz.f110.name,by decide,Tryz.func110.trans (congrArg some (by kernel_rfl))⟩
 f22:=⟨Tryz.f111.name,by decide,Tryz.func111.trans (congrArg some (by kernel_rfl))⟩
 f23:=⟨Tryz.f112.name,by decide,Tryz.func112.trans (congrArg some (by kernel_rfl))⟩
 f24:=⟨Tryz.f113.name,by decide,Tryz.func113.trans (congrArg some (by kernel_rfl))⟩
 f25:=⟨Tryz.f114.name,by decide,Tryz.func114.trans (congrArg some (by kernel_rfl))⟩
 f26:=⟨Tryz.f115.name,by decide,Tryz.func115.trans (congrArg some (by kernel_rfl))⟩
 f27:=⟨Tryz.f116.name,by decide,Tryz.func116.trans (congrArg some (by kernel_rfl))⟩
 f28:=Tryz.func117.trans (congrArg some (by kernel_rfl))
 f29:=Tryz.func118.trans (congrArg some (by kernel_rfl))
 f46:=⟨Tryz.f143.name,by decide,Tryz.func143.trans (congrArg some (by kernel_rfl))⟩
 f47:=Tryz.func144.trans (congrArg some (by kernel_rfl))
 f48:=Tryz.func145.trans (congrArg some (by kernel_rfl))
 f49:=⟨Tryz.f146.name,by decide,Tryz.func146.trans (congrArg some (by kernel_rfl))⟩
 f50:=⟨Tryz.f147.name,by decide,Tryz.func147.trans (congrArg some (by kernel_rfl))⟩
 f57:=⟨Tryz.f172.name,by decide,Tryz.func172.trans (congrArg some (by kernel_rfl))⟩
 t0:=Tryz.underlying0
 a0:=Tryz.isAgg0
 z0:=Tryz.sizeOf0
 v0:=Tryz.zeroValue0
 t3:=Tryz.underlying3
 a3:=Tryz.isAgg3
 z3:=Tryz.sizeOf3
 v3:=Tryz.zeroValue3
 t4:=Tryz.underlying4
 a4:=Tryz.isAgg4
 z4:=Tryz.sizeOf4
 v4:=Tryz.zeroValue4
 t5:=Tryz.underlying5
 a5:=Tryz.isAgg5
 z5:=Tryz.sizeOf5
 v5:=Tryz.zeroValue5
 t9:=Tryz.underlying9
 a9:=Tryz.isAgg9
 z9:=Tryz.sizeOf9
 v9:=Tryz.zeroValue9
 t22:=Tryz.underlying175
 a22:=Tryz.isAgg175
 z22:=Tryz.sizeOf175
 v22:=Tryz.zeroValue175
 t25:=Tryz.underlying180
 a25:=Tryz.isAgg180
 z25:=Tryz.sizeOf180
 v25:=Tryz.zeroValue180
 t39:=Tryz.underlying205
 a39:=Tryz.isAgg205
 z39:=Tryz.sizeOf205
 v39:=Tryz.zeroValue205
 t45:=Tryz.underlying231
 a45:=Tryz.isAgg231
 z45:=Tryz.sizeOf231
 v45:=Tryz.zeroValue231
 t46:=Tryz.underlying232
 a46:=Tryz.isAgg232
 z46:=Tryz.sizeOf232
 v46:=Tryz.zeroValue232
 t50:=Tryz.underlying101
 a50:=Tryz.isAgg101
 z50:=Tryz.sizeOf101
 v50:=Tryz.zeroValue101
 t53:=Tryz.underlying238
 a53:=Tryz.isAgg238
 z53:=Tryz.sizeOf238
 v53:=Tryz.zeroValue238
 t55:=Tryz.underlying240
 a55:=Tryz.isAgg240
 z55:=Tryz.sizeOf240
 v55:=Tryz.zeroValue240
 t66:=Tryz.underlying260
 a66:=Tryz.isAgg260
 z66:=Tryz.sizeOf260
 v66:=Tryz.zeroValue260
 t70:=Tryz.underlying264
 a70:=Tryz.isAgg264
 z70:=Tryz.sizeOf264
 v70:=Tryz.zeroValue264
 t76:=Tryz.underlying306
 a76:=Tryz.isAgg306
 z76:=Tryz.sizeOf306
 v76:=Tryz.zeroValue306
 t77:=Tryz.underlying307
 a77:=Tryz.isAgg307
 z77:=Tryz.sizeOf307
 v77:=Tryz.zeroValue307}
def Tryz.CQ:Go.Shelf.Ren:=⟨fun|5=>65|7=>88|n=>n,fun|22=>3|3=>3|4=>4|n=>n,fun|n=>n⟩
theorem Tryz.N2:Go.Proofs.SlLaysC2.n5 Tryz.prog Tryz.CQ:={
 mixed:=by kernel_rfl
 f5:=⟨Tryz.f65.name,by decide,Tryz.func65.trans (congrArg some (by kernel_rfl))⟩
 f7:=⟨Tryz.f88.name,by decide,Tryz.func88.trans (congrArg some (by kernel_rfl))⟩
 t3:=Tryz.underlying3
 a3:=Tryz.isAgg3
 z3:=Tryz.sizeOf3
 v3:=Tryz.zeroValue3
 t4:=Tryz.underlying4
 a4:=Tryz.isAgg4
 z4:=Tryz.sizeOf4
 v4:=Tryz.zeroValue4
 t22:=Tryz.underlying3
 a22:=Tryz.isAgg3
 z22:=Tryz.sizeOf3
 v22:=Tryz.zeroValue3}
end Go.Proofs
end
section
namespace Go.aS.Cd
open Go Go.Proofs Go.Sort Go.Shelf Go.RowKit Go.Lib
set_option maxRecDepth 100000
abbrev Zn:=Int×Int
abbrev eZ (x:Zn):List T:=[tI x.1,tI x.2]
abbrev rZ (l:List Zn):Lz:=l.map eZ
def q8 (x:Zn):List Value:=[.int .i64 x.1, .int .i64 x.2]
def LN (x y:Zn):Int:=Lib.compareInt x.1 y.1
def mv (d:Array Zn):Array Zn:=pdq (ltOf LN) d 0 d.size (Lib.bitLen d.size) true true
def cH (l:List Zn):List Zn:=(mv l.toArray).toList
theorem Xj (x y:Zn):ltOf LN x y=decide (x.1 < y.1):=by
 unfold ltOf LN Lib.compareInt
 by_cases h1:x.1 < y.1
 · simp[h1]
 · by_cases h2:y.1 < x.1<;>simp[h1,h2]
theorem Rz:SWO (ltOf LN) where
 irrefl x:=by rw[Xj];simp
 trans x y z h1 h2:=by rw[Xj]at *;simp at *;omega
 ntrans x y z h1 h2:=by rw[Xj]at *;simp at *;omega
theorem B7 (d:Array Zn):PermIn 0 d.size d (mv d):=(pdq_sorts (ltOf LN) Rz d 0 d.size (Lib.bitLen d.size) true true (Nat.zero_le _) (Nat.le_refl _) (Or.inl rfl)).1
theorem aO (l:List Zn):(cH l).length=l.length:=by
 have:=(B7 l.toArray).1
 simpa[cH]using this
theorem J5 {M:Nat→Prop} (w:World) (b n:Nat) (F:Array Value) (os:Array Obj) (hM:M b) (hlt:b < w.heap.size):
 df M w (grow (putRow id (Sort.ahead w n) b 0 F) os):=by
 have hb: ∀k,k < w.heap.size→(grow (putRow id (Sort.ahead w n) b 0 F) os).heap[k]? =if b=k then(w.heap[k]?).map (onCells (putCells id 0 F))else w.heap[k]? :=by
  intro k hk
  rw[heap_grow_old _ _ (by simpa[putRow,mapBlock,Sort.ahead]using hk)]
  simp only[putRow,mapBlock,Sort.ahead,Array.getElem?_modify]
 refine⟨rfl,rfl,rfl,by simp[putRow,mapBlock,Sort.ahead],fun k hk ho=>?_,fun k hk=>?_⟩
 · have hne:¬b=k:=fun e=>ho (by rw[←e];exact hM)
   rw[hb k hk,if_neg hne]
 · simp only[World.shape?,hb k hk]
   by_cases U1:b=k
   · rw[if_pos U1]
     cases h:w.heap[k]? with
     |none=>rfl
     |some o=>cases o<;>simp[onCells,putCells]
   · rw[if_neg U1]
theorem Jh {w:World} {A:Nat→Prop} {ρ:Env} {u:W} {v:Value} {xs:Array Value} (h:wY w A ρ [u, .one (.t (.val v))] xs.toList): ∃y,RW w A ρ u y∧xs= #[y,v]:=by
 obtain⟨hl,hx⟩:=h
 have h1:xs.toList.length=2:=by rw[←hl];rfl
 match hq:xs.toList,h1 with
 | [y,z],_=>
   have hy:=hx 0 _ y rfl (by rw[hq];rfl)
   have hz:=hx 1 _ z rfl (by rw[hq];rfl)
   cases hz.1
   refine⟨y,hy,?_⟩
   rw[←Array.toArray_toList (xs:=xs),hq]
def fL (P:Program) (f g:Nat):Prop:=
 (∀ (blk cap:Nat) (d:Array Zn) (w:World),HoldsK q8 2 w blk 0 d→blk < w.heap.size→d.size < 4611686018427387904→
   Calls P f #[.slice (some ⟨blk,0,none⟩) d.size cap, .func (.func g) #[] #[]] w fun e w'=>e= .returned (.tuple #[])∧ ∃n os,w'=sortWorldK q8 2 w blk 0 n (mv d) os)∧
 (∀ (p:Option Addr) (cap:Nat) (w:World),Calls P f #[.slice p 0 cap, .func (.func g) #[] #[]] w fun e w'=>e= .returned (.tuple #[])∧w'=w)
set_option maxHeartbeats 1000000 in
theorem H8 (x y:Zn) (W:World):Calls Tryz.prog 64 #[.agg #[.int .i64 x.1, .int .i64 x.2], .agg #[.int .i64 y.1, .int .i64 y.2]] W fun e w'=>e= .returned (.int .i64 (LN x y))∧ ∃q os',w'=grow (W.drewN q) os':=by
 have Nq:=fun W'=>AnyG.cmp_Compare_int Tryz.N2 x.1 y.1 W'
 change ∀W',Calls Tryz.prog 65 _ _ _ at Nq
 unfold LN
 generalize Lib.compareInt x.1 y.1=r at Nq⊢
 go_enter Tryz.func64,Tryz.ntmps64
 go_wp2_with (go_at_call 65;refine(Nq _).mono ?_;rintro e w' ⟨rfl,rfl⟩)
 go_ret
 exact⟨rfl,0,_,by rw[alloc_eq_grow,alloc_eq_grow,grow_grow];rfl⟩
theorem jo:fL Tryz.prog 63 64:=by
 refine⟨fun blk cap d w hH hb hs=>?_,fun p cap w=>?_⟩
 · have eg: ∀args w,(callFunc 64 args).run Tryz.prog w= .ok (.enter 64 args) w:=enters_of Tryz.func64 (by kernel_rfl) rfl
   exact AnyQ.slices_SortFunc_eq Tryz.Ga 2 Tryz.isAgg177 Tryz.sizeOf177 q8 (fun _=>rfl) (fun x v hv=>by simp[q8]at hv;rcases hv with rfl|rfl<;>rfl) LN Rz 64 #[] blk 0 cap d w eg (fun _ _ _ _ x y=>H8 x y _) hH hb hs
 · exact AnyF.slices_SortFunc_none {Tryz.Ga with} p cap _ w
theorem LG (d:Array Zn) (i:Nat) (x:Zn) (h:d[i]? =some x):i * 2+1 < (flatK q8 2 d).size∧(flatK q8 2 d)[i * 2]! = .int .i64 x.1∧(flatK q8 2 d)[i * 2+1]! = .int .i64 x.2:=by
 obtain⟨hi,hx⟩:=Array.getElem?_eq_some_iff.1 h
 have e:d[i]! =x:=by rw[getElem!_pos d i hi,hx]
 refine⟨by rw[size_flatK];omega,?_,?_⟩
 · rw[get_flatK _ _ _ _ (by omega),show i * 2 / 2=i by omega,show i * 2 % 2=0 by omega,e];rfl
 · rw[get_flatK _ _ _ _ (by omega),show(i * 2+1) / 2=i by omega,show(i * 2+1) % 2=1 by omega,e];rfl
theorem Jd {P:Program} {f g:Nat} (hS:fL P f g) (l:List Zn) (hl:l.length < 4611686018427387904):
 Fn P f [.one (.own 0 2 0 l.length),fV g] [(0, .row 2 (tr (rZ l)))] (aQ []) [(0, .row 2 (tr (rZ (cH l))))]:=by
 intro w A ρ xs hH hxs
 obtain⟨y,hy,rfl⟩:=Jh hxs
 obtain⟨h1,h2⟩:=hH.heap 0 _ rfl
 rcases hy.1 with⟨b,cap,n,e,k1,rfl,k3,k4,k5⟩|⟨k1,_,k3,rfl⟩
 · rcases h2 with⟨b',c,e',r1,r2,r3,r4,r5,r6⟩|⟨r1,_⟩
   · rw[k1]at r1
     simp only[Option.some.injEq,Loc.fz.injEq]at r1
     subst r1
     have hb:b < w.heap.size:=(Array.getElem?_eq_some_iff.1 r4).1
     have hcell: ∀ (i:Nat) (x:Zn),l[i]? =some x→c[i * 2]? =some (.int .i64 x.1)∧c[i * 2+1]? =some (.int .i64 x.2):=by
      intro i x hi
      have hrow:(tr (rZ l))[i]? =some ((eZ x).map C.t):=by simp[tr,rZ,hi]
      obtain⟨y0,g1,g2,_⟩:=r6 i _ 0 _ hrow rfl
      obtain⟨y1,g3,g4,_⟩:=r6 i _ 1 _ hrow rfl
      cases g2
      cases g4
      exact⟨g1,g3⟩
     have Tz:HoldsK q8 2 w b 0 l.toArray:=by
      intro j hj
      rw[size_flatK,List.size_toArray]at hj
      obtain⟨i,hi,eF⟩: ∃i,i < l.length∧(j=i * 2∨j=i * 2+1):=⟨j / 2,by omega,by omega⟩
      obtain⟨q1,q2⟩:=hcell i l[i] (by simp[hi])
      obtain⟨_,q3,q4⟩:=LG l.toArray i l[i] (by simp[hi])
      refine⟨?_,by simp only[World.frozen?,r4];simp⟩
      simp only[World.cell?,r4,id,Nat.zero_add,Option.isSome_none,Bool.false_eq_true,if_false]
      rcases eF with rfl|rfl
      · rw[q1,q3]
      · rw[q2,q4]
     have hc:=hS.1 b cap l.toArray w Tz hb (by simpa using hl)
     rw[List.size_toArray]at hc
     have hz:(0 * 2:Nat)=0:=rfl
     rw[hz]
     refine hc.mono ?_
     rintro ex w' ⟨rfl,n',os,rfl⟩
     have dJ:=J5 (M:=fun k=>o7 ρ [(0,bi.row 2 (tr (rZ l)))] k∨w.heap.size≤k) w b n' (flatK q8 2 (mv l.toArray)) os (.inl ⟨0,_,rfl,k1⟩) hb
     have hsz:(mv l.toArray).size=l.length:=by have:=aO l;simpa[cH]using this
     refine⟨.tuple #[],A,ρ,bt 4,rfl,⟨#[],rfl,rfl,fun k u x hu=>by simp at hu⟩,⟨rfl,rfl,fun t v hv=>by simp[find]at hv,fun id blk hb'=>?_,fun id id' blk fp b' q1 q2 q3 q4=>?_,hH.fresh,fun k hk=>Nat.lt_of_lt_of_le (hH.bound k hk) dJ.size,fun k hk=> .inr (Nat.le_trans dJ.size hk),hH.dX.Fk dJ (fun _ _ h=>h)⟩,dJ,iJ.refl _,bE.refl _ _⟩
     · simp only[aq]at hb'
       split at hb'
       · rename_i e0
         subst e0
         simp only[Option.some.injEq]at hb'
         subst hb'
         refine⟨fun el hel=>?_, .inl ⟨b,putCells id 0 (flatK q8 2 (mv l.toArray)) c,e',k1, .inl ⟨0,_,rfl,k1⟩,r3,?_,?_,fun i el j q hi hj=>?_⟩⟩
         · simp only[tr,rZ,List.mem_map]at hel
           obtain⟨_,⟨x,_,rfl⟩,rfl⟩:=hel
           rfl
         · unfold sortWorldK putRowK
           rw[heap_grow_old _ _ (by simpa[putRow,mapBlock,Sort.ahead]using hb)]
           simp[putRow,mapBlock,Sort.ahead,Array.getElem?_modify,r4,onCells]
         · have:(tr (rZ l)).length=l.length:=by simp[tr,rZ]
           rw[this]at r5
           simp[tr,rZ,aO,putCells]
           exact r5
         · simp only[tr,rZ,List.getElem?_map,Option.map_eq_some_iff]at hi
           obtain⟨_,⟨x,hx,rfl⟩,rfl⟩:=hi
           have hx':(mv l.toArray)[i]? =some x:=by simpa[cH]using hx
           obtain⟨g1,g2,g3⟩:=LG _ i x hx'
           have hcs: ∀k,k < (flatK q8 2 (mv l.toArray)).size→(putCells id 0 (flatK q8 2 (mv l.toArray)) c)[k]? =some (flatK q8 2 (mv l.toArray))[k]! :=by
            intro k hk
            have hkc:k < c.size:=by
             have:(tr (rZ l)).length=l.length:=by simp[tr,rZ]
             rw[this]at r5
             rw[size_flatK,hsz]at hk
             omega
            simp only[putCells,Array.getElem?_mapIdx,Nat.zero_le,Nat.zero_add,true_and,Nat.sub_zero,hk,if_true,id]
            rw[Array.getElem?_eq_getElem hkc]
            rfl
           match j,hj with
           |0,hj=>
            simp only[List.map_cons,List.getElem?_cons_zero,Option.some.injEq]at hj
            subst hj
            exact⟨_,by rw[Nat.add_zero];exact hcs _ (by omega),by rw[g2];exact .val rfl,by rw[g2];rfl⟩
           |1,hj=>
            simp only[List.map_cons,List.getElem?_cons_succ,List.getElem?_cons_zero,Option.some.injEq]at hj
            subst hj
            exact⟨_,hcs _ g1,by rw[g3];exact .val rfl,by rw[g3];rfl⟩
           |j+2,hj=>simp at hj
       · simp[find]at hb'
     · simp only[aq]at q1 q2
       split at q1
       · split at q2
         · omega
         · simp[find]at q2
       · simp[find]at q1
   · rw[k1]at r1
     simp at r1
 · have JP:l=[]:=List.length_eq_zero_iff.1 k3
   subst JP
   refine(hS.2 none 0 w).mono ?_
   rintro ex w' ⟨rfl,rfl⟩
   exact⟨.tuple #[],A,ρ,bt 4,rfl,⟨#[],rfl,rfl,fun k u x hu=>by simp at hu⟩,by simpa[cH,show mv #[]= #[]from by have:=aO [];simpa[cH]using this]using hH,df.refl _ _,iJ.refl _,bE.refl _ _⟩
end Go.aS.Cd
end
section
namespace Go.aS
open Go
end Go.aS
end
section
namespace Go.aS
open Go
open Go.ChangeMaps (setBlock)
variable {P:Program} {M A:Nat→Prop} {ρ:Env} {F:Nat→Prop} {st:St} {a:Act} {w:World}
def isKey (k:Int) (p:Value×C×Nat):Bool:=match p.1 with
 | .int .i64 m=>m==k
 |_=>false
def er (k:Int) (es:cz):cz:=es.filter fun p=> !isKey k p
def NK (es:cz):Prop:=(es.map (·.1)).Nodup
theorem EU {k:Int} {p:Value×C×Nat}:isKey k p=true↔p.1= .int .i64 k:=by
 unfold isKey
 split
 · rename_i m h
   rw[h]
   simp
 · rename_i h
   simp only[Bool.false_eq_true,false_iff]
   exact fun e=>h k e
theorem vB {k:Int} {es:cz} {p:Value×C×Nat} (h:p∈er k es):p∈es∧p.1≠ .int .i64 k:=by
 simp only[er,List.mem_filter,Bool.not_eq_true']at h
 refine⟨h.1,fun e=>?_⟩
 rw[EU.2 e]at h
 simp at h
theorem NK.er {es:cz} (h:NK es) (k:Int):NK (er k es):=List.Nodup.sublist (List.filter_sublist.map _) h
theorem NK.nil:NK []:=by simp[NK]
theorem NK.put {es es':cz} {clock clock':Nat} {kv:Value} {c:C} (h:NK es) (hp:og es clock kv c es' clock'):NK es':=by
 rcases hp with⟨i,p,hi,rfl,rfl,_⟩|⟨hne,rfl,_⟩
 · unfold NK
   have:(es.set i (p.1,c,p.2.2)).map (·.1)=es.map (·.1):=by
    apply List.ext_getElem?
    intro j
    simp only[List.getElem?_map,List.getElem?_set]
    by_cases hij:i=j
    · subst hij
      have hlt:i < es.length:=(List.getElem?_eq_some_iff.1 hi).1
      simp[hlt,hi]
      have:=(List.getElem?_eq_some_iff.1 hi)
      obtain⟨_,h2⟩:=this
      rw[h2]
    · simp[hij]
   rw[this]
   exact h
 · unfold NK
   rw[List.map_append,List.nodup_append]
   refine⟨h,by simp,?_⟩
   intro x hx y hy
   simp only[List.mem_map]at hx
   obtain⟨p,hp,rfl⟩:=hx
   simp only[List.map_cons,List.map_nil,List.mem_singleton]at hy
   subst hy
   exact hne p hp
def T8 (M:Nat→Prop) (r:Nat):Nat→Prop:=fun b=>M b∧b≠r
end Go.aS
end
section
namespace Go.aS
open Go
open Go.ChangeMaps (setBlock)
variable {P:Program} {M A:Nat→Prop} {ρ:Env} {F:Nat→Prop} {st:St} {a:Act} {w:World}
end Go.aS
end
section
namespace Go.aS
open Go
open Go.ChangeMaps (setBlock)
variable {P:Program} {M A:Nat→Prop} {ρ:Env} {F:Nat→Prop} {st:St} {a:Act} {w:World}
def erB (k:Int):bi→bi
 | .mp e c=> .mp (er k e) c
 |b=>b
def hE (S:Nat→Bool) (k:Int) (hp:HS):HS:=hp.map fun q=>(q.1,if S q.1 then erB k q.2 else q.2)
structure Zg (es:cz) (ck o:Nat) (hp:HS):Prop where
 out:find hp o=some (.mp es ck)
 UI: ∀p,p∈es→T9 p.1∧p.2.2 < ck∧ ∃id ei ci,p.2.1= .map id∧id≠o∧find hp id=some (.mp ei ci)∧NK ei∧ ∀x,x∈ei→T9 x.1
 born:(es.map (·.2.2)).Nodup
 NW: ∀ (p q:Value×C×Nat) (id:Nat),p∈es→q∈es→p.2.1= .map id→q.2.1= .map id→p.2.2=q.2.2
end Go.aS
end
section
namespace Go.aS
open Go
open Go.ChangeMaps (setBlock)
variable {P:Program} {M A:Nat→Prop} {ρ:Env} {F:Nat→Prop} {st:St} {a:Act} {w:World}
theorem HB.more {id:Nat} {blk:bi} {r:Nat} (h:HB w (T8 M r) A ρ id blk):HB w M A ρ id blk:=by
 cases blk with
 |row sz xs=>
  obtain⟨h1,h2⟩:=h
  refine⟨h1,?_⟩
  rcases h2 with⟨b,c,e,k1,k2,k3⟩|h2
  · exact .inl ⟨b,c,e,k1,k2.1,k3⟩
  · exact .inr h2
 |mp es clock=>
  obtain⟨b,en,k1,k2,k3⟩:=h
  exact⟨b,en,k1,k2.1,k3⟩
theorem Rel.more {r:Nat} (h:Rel (T8 M r) A ρ F st a w) (hA:A r):Rel M A ρ F st a w:=by
 refine⟨h.size,h.defers,h.tmps,fun id blk hf=>(h.heap id blk hf).more,h.inj,h.fresh,h.bound,fun b hb=>(h.may b hb).1,fun g vs hg=>?_⟩
 obtain⟨h1,h2,h3,h4⟩:=h.dX g vs hg
 exact⟨h1,fun hm=>h2 ⟨hm,fun e=>h3 (e▸hA)⟩,h3,h4⟩
end Go.aS
end
section
namespace Go.aS
open Go
variable {P:Program}
inductive DX (P:Program) (n:Nat) (r:Rc) (Q:Exit→TS→HS→Nat→Prop) (tm:TS) (hp:HS) (ctr:Nat):Prop
 |mk (h: ∀c,aP P c=some r→ ∃e st' c',nH n (Q e) st' c'∧Wp P c (fun e2 s k=>e2=e∧Is st' c' s k) ⟨n,tm,hp⟩ ctr)
theorem DX.get {n:Nat} {r:Rc} {Q:Exit→TS→HS→Nat→Prop} {tm:TS} {hp:HS} {ctr:Nat} (h:DX P n r Q tm hp ctr): ∀c,aP P c=some r→ ∃e st' c',nH n (Q e) st' c'∧Wp P c (fun e2 s k=>e2=e∧Is st' c' s k) ⟨n,tm,hp⟩ ctr:=by
 cases h with
 |mk h=>exact h
variable {n:Nat} {Q:Exit→TS→HS→Nat→Prop} {tm:TS} {hp:HS} {ctr:Nat}
theorem dP.forget {bf:TS} {aF:HS} {c':Nat} (hc:ctr≤c') (ht: ∀t v,find bf t=some v→find tm t=some v) (hh: ∀id b,find aF id=some b→find hp id=some b):dP tm hp ctr bf aF c':=
 fun M A ρ _ _ w hr=>⟨A,ρ,(Rel.forget (st':=⟨_,bf,aF⟩) hr rfl ht hh).sub (fun _ h=>Nat.le_trans hc h),iJ.refl _,fM.refl M A w⟩
def GS (ks:List Nat) (tm:TS):TS:=ks.filterMap fun t=>(find tm t).map fun v=>(t,v)
theorem CF {tm:TS}: ∀ {ks:List Nat} {t:Nat} {v:V},find (GS ks tm) t=some v→find tm t=some v:=by
 intro ks t v h
 have hm:=fb h
 simp only[GS,List.mem_filterMap,Option.map_eq_some_iff,Prod.mk.injEq]at hm
 obtain⟨t',_,u,hu,rfl,rfl⟩:=hm
 exact hu
theorem dP.keep (ks:List Nat):dP tm hp ctr (GS ks tm) hp ctr:=dP.forget (Nat.le_refl _) (fun _ _ h=>CF h) (fun _ _ h=>h)
end Go.aS
end
section
namespace Go.aS
open Go
variable {P:Program}
structure Ms (n:Nat) (es:cz) (ck o:Nat) (hp:HS) (c:Nat):Prop where
 rg:Zg es ck o hp
 nk:NK es
 keys: ∀p,p∈es→ ∃j:Nat,j < n∧p.1= .int .i64 (j:Int)
 lo:o < c
 li: ∀ (p:Value×C×Nat) (id:Nat),p∈es→p.2.1= .map id→id < c
theorem Ms.new {o c n:Nat} {hp:HS} (h:find hp o=some (.mp [] 0)) (hc:o < c):Ms n [] 0 o hp c:=
 ⟨⟨h,fun p hp=>by simp at hp,by simp,fun p q id hp=>by simp at hp⟩,NK.nil,fun p hp=>by simp at hp,hc,fun p id hp=>by simp at hp⟩
theorem Ms.mono {n n':Nat} {es:cz} {ck o c c':Nat} {hp:HS} (h:Ms n es ck o hp c) (hn:n≤n') (hc:c≤c'):Ms n' es ck o hp c':=
 ⟨h.rg,h.nk,fun p hp=>by obtain⟨j,h1,h2⟩:=h.keys p hp;exact⟨j,by omega,h2⟩,Nat.lt_of_lt_of_le h.lo hc,fun p id h1 h2=>Nat.lt_of_lt_of_le (h.li p id h1 h2) hc⟩
theorem Ms.heap {n:Nat} {es:cz} {ck o c:Nat} {hp aF:HS} (h:Ms n es ck o hp c) (he: ∀q Fm c2,q < c→find hp q=some (.mp Fm c2)→find aF q=some (.mp Fm c2)):Ms n es ck o aF c:=by
 refine⟨⟨he _ _ _ h.lo h.rg.out,fun p hp=>?_,h.rg.born,h.rg.NW⟩,h.nk,h.keys,h.lo,h.li⟩
 obtain⟨h1,h2,id,ei,ci,h3,h4,h5,h6⟩:=h.rg.UI p hp
 exact⟨h1,h2,id,ei,ci,h3,h4,he _ _ _ (h.li p id hp h3) h5,h6⟩
theorem Ms.add {i:Nat} {es:cz} {ck o c cm c':Nat} {hp hq:HS} (h:Ms i es ck o hp c) (hc:c≤cm) (Cy:cm < c') (hm:find hq cm=some (.mp [] 0)) (he: ∀q,q < c→find hq q=find hp q):
 Ms (i+1) (es++[(.int .i64 (i:Int), .map cm,ck)]) (ck+1) o (jJ hq o (.mp (es++[(.int .i64 (i:Int), .map cm,ck)]) (ck+1))) c':=by
 have hlo:=h.lo
 refine⟨⟨?_,fun p hp=>?_,?_,fun p q id hp hq h1 h2=>?_⟩,?_,fun p hp=>?_,by omega,fun p id hp h1=>?_⟩
 · rw[bQ,if_pos rfl,he o hlo,h.rg.out]
   rfl
 · rcases List.mem_append.1 hp with hp|hp
   · obtain⟨h1,h2,id,ei,ci,h3,h4,h5,h6⟩:=h.rg.UI p hp
     exact⟨h1,by omega,id,ei,ci,h3,h4,by rw[bQ,if_neg h4,he id (h.li p id hp h3)];exact h5,h6⟩
   · rw[List.mem_singleton]at hp
     subst hp
     exact⟨⟨_,rfl⟩,by simp,cm,[],0,rfl,by omega,by rw[bQ,if_neg (by omega)];exact hm,NK.nil,fun x hx=>by simp at hx⟩
 · rw[List.map_append,List.nodup_append]
   refine⟨h.rg.born,by simp,?_⟩
   intro x hx y hy
   simp only[List.mem_map]at hx
   obtain⟨p,hp,rfl⟩:=hx
   simp only[List.map_cons,List.map_nil,List.mem_singleton]at hy
   subst hy
   have:=(h.rg.UI p hp).2.1
   omega
 · rcases List.mem_append.1 hp with hp|hp<;>rcases List.mem_append.1 hq with hq|hq
   · exact h.rg.NW p q id hp hq h1 h2
   · rw[List.mem_singleton]at hq
     subst hq
     have:=h.li p id hp h1
     have e:=C.map.inj h2
     omega
   · rw[List.mem_singleton]at hp
     subst hp
     have:=h.li q id hq h2
     have e:=C.map.inj h1
     omega
   · rw[List.mem_singleton]at hp hq
     rw[hp,hq]
 · unfold NK
   rw[List.map_append,List.nodup_append]
   refine⟨h.nk,by simp,?_⟩
   intro x hx y hy
   simp only[List.mem_map]at hx
   obtain⟨p,hp,rfl⟩:=hx
   simp only[List.map_cons,List.map_nil,List.mem_singleton]at hy
   subst hy
   obtain⟨j,h1,h2⟩:=h.keys p hp
   rw[h2]
   intro e
   simp only[Value.int.injEq,true_and]at e
   omega
 · rcases List.mem_append.1 hp with hp|hp
   · obtain⟨j,h1,h2⟩:=h.keys p hp
     exact⟨j,by omega,h2⟩
   · rw[List.mem_singleton]at hp
     subst hp
     exact⟨i,by omega,rfl⟩
 · rcases List.mem_append.1 hp with hp|hp
   · have:=h.li p id hp h1
     omega
   · rw[List.mem_singleton]at hp
     subst hp
     have e:=C.map.inj h1
     omega
theorem Ms.del {n:Nat} {es:cz} {ck o c:Nat} {hp:HS} (h:Ms n es ck o hp c) (k:Int):Ms n (er k es) ck o (jJ hp o (.mp (er k es) ck)) c:=by
 refine⟨⟨?_,fun p hp=>?_,List.Nodup.sublist (List.filter_sublist.map _) h.rg.born,fun p q id hp hq h1 h2=>h.rg.NW p q id (vB hp).1 (vB hq).1 h1 h2⟩,h.nk.er k,fun p hp=>h.keys p (vB hp).1,h.lo,fun p id hp h1=>h.li p id (vB hp).1 h1⟩
 · rw[bQ,if_pos rfl,h.rg.out]
   rfl
 · obtain⟨h1,h2,id,ei,ci,h3,h4,h5,h6⟩:=h.rg.UI p (vB hp).1
   exact⟨h1,h2,id,ei,ci,h3,h4,by rw[bQ,if_neg h4];exact h5,h6⟩
def Ro.IC:Ro→Bool
 | .call _ _| .jZ _ _| .raw _ _=>false
 |_=>true
variable {n ctr:Nat} {tm:TS} {hp:HS} {K:TS→HS→Nat→Prop}
end Go.aS
end
section
namespace Go.aS
open Go
variable {P:Program} {M A:Nat→Prop} {ρ:Env} {F:Nat→Prop} {st:St} {a:Act} {w:World}
theorem zP {f:FuncId} {us ts:List W} {hp:HS} {ctr sz:Nat} {rows:List (List C)} {v:V} (id:Nat) (hv:v.bY=true) (hT:qe ts=true) (hf:find hp id=some (.row sz rows)) (hl:bu (bB [(id,bi.row sz rows)]) us=some ts) (hfn:Fn P f ts [] v []):
 dK P f us hp ctr v (del hp id) (ctr+4):=by
 intro M A ρ a w n L xs hr hx
 have h0:=Rel.forget hr (st':=⟨n,L,[(id, .row sz rows)]⟩) rfl (fun _ _ h=>h) (fun k b hb=>by
  simp only[aq]at hb
  split at hb
  · rename_i e
    subst e
    rw[←hb]
    exact hf
  · simp[find]at hb)
 let B:Nat→Prop:=fun b=>A b∧ρ id≠some (.fz b)
 have hx':wY w B ρ ts xs.toList:=⟨(fF hl).trans hx.1,fun k u x hu zg=>by
  obtain⟨c,hc,hlc⟩:=dU hl k u hu
  exact fT h0 (B:=B) (fun b hb=>hb.1) (fun k blk b hk hρ hB=>by
   simp only[aq]at hk
   split at hk
   · rename_i e
     subst e
     exact hB.2 hρ
   · simp[find]at hk) hlc (hx.2 k c x hc zg) ρ⟩
 have hs:Rel M B ρ (bt ctr) ⟨n,L,del hp id⟩ a w:=Rel.shrink (hp:=del hp id) hr (fun b hb=>hb.1) (fun k b hk=>by
  rw[de]at hk
  split at hk
  · simp at hk
  · exact hk) (fun k blk b hk hρ=>by
  rw[de]at hk
  split at hk
  · simp at hk
  · rename_i hne
    refine⟨(zq (hr.heap k blk hk) hρ).1,fun h2=>?_⟩
    exact hne (hr.inj k id blk _ b hk hf hρ h2))
 refine(jC (eb (hp:=del hp id) (ctr:=ctr) hv hT hfn) M B ρ a w n L xs hs hx').mono ?_
 rintro e w' ⟨x,A',ρ',h1,r1,r2,r3,r4,r5⟩
 refine⟨x,A',ρ',h1,r1,r2,r3,r4,fun b hA hM=>r5.1 b ⟨hA,fun h2=>hM ((hr.heap id _ hf).lt h2).2.1⟩ hM,fun b hb h2=>(r5.2 b hb h2).1⟩
theorem tH {f:FuncId} {us ts:List W} {hp:HS} {ctr sz:Nat} {rows:List (List C)} {K:V→HS→Nat→Prop} {Good:List W→Prop} (id:Nat) (hT:qe ts=true) (hf:find hp id=some (.row sz rows)) (hl:bu (bB [(id,bi.row sz rows)]) us=some ts)
 (h: ∃rs,Fn P f ts [] (aQ rs) []∧(aQ rs).bY=true∧Good rs) (hk: ∀rs,Good rs→K (aQ rs) (del hp id) (ctr+4)): ∃v aF c',dK P f us hp ctr v aF c'∧K v aF c':=by
 obtain⟨rs,h1,h2,h3⟩:=h
 exact⟨_,_,_,zP id h2 hT hf hl h1,hk rs h3⟩
end Go.aS
end
section
namespace Go.aS
open Go
variable {P:Program} {M A:Nat→Prop} {ρ:Env} {F:Nat→Prop} {st:St} {a:Act} {w:World}
theorem dP.fD {tm:TS} {hp:HS} {ctr szr:Nat} {xs:List (List C)} {e:List C} (WR i0 j sz:Nat) (hf:find hp WR=some (.row szr xs)) (E3:xs[i0]? =some e) (hj:e[j]? =some (.t iA)):
 dP tm hp ctr tm ((ctr, .row sz [])::jJ hp WR (.row szr (xs.set i0 (e.set j (.own ctr sz 0 0))))) (ctr+4):=by
 intro M A ρ n a w hr
 have hfr:ρ ctr=none:=hr.fresh ctr (Nat.le_refl _)
 have cF:cU ρ (dg ρ ctr .iU):=cU.jJ hfr
 have hne: ∀ {id:Nat},id≠ctr→dg ρ ctr .iU id=ρ id:=fun bJ=>by simp[dg,bJ]
 refine⟨A,dg ρ ctr .iU,⟨hr.size,hr.defers,fun u v hv=>(hr.tmps u v hv).keeps (dZ.refl _ _) (fun _ _=>rfl) cF,fun id blk hb=>?_,fun id id' blk fp b h1 h2 r1 r2=>?_,fun id bJ=>?_,hr.bound,hr.may,hr.dX⟩,cF.K3,fM.refl M A w⟩
 · simp only[aq]at hb
   split at hb
   · rename_i e'
     subst e'
     simp only[Option.some.injEq]at hb
     subst hb
     exact⟨by simp, .inr ⟨by simp[dg],rfl⟩⟩
   · simp only[bQ]at hb
     split at hb
     · rename_i e'
       subst e'
       rw[hf]at hb
       simp only[Option.map_some,Option.some.injEq]at hb
       subst hb
       have h0:=(hr.heap _ _ hf).keeps (dZ.refl _ _) (fun _ _=>rfl) cF (fun _ h=>h) (fun _ _=>rfl)
       obtain⟨h1,h2⟩:=h0
       refine⟨fun el hel=>?_,?_⟩
       · rcases List.mem_or_eq_of_mem_set hel with hel|rfl
         · exact h1 el hel
         · rw[List.length_set]
           exact h1 e (List.mem_of_getElem? E3)
       · rcases h2 with⟨b,c,t,k1,k2,k3,k4,k5,k6⟩|⟨_,h3⟩
         · refine .inl ⟨b,c,t,k1,k2,k3,k4,by simpa using k5,fun i el jj q hi hq=>?_⟩
           by_cases II:i0=i
           · subst II
             rw[List.getElem?_set_self (List.getElem?_eq_some_iff.1 E3).1,Option.some.injEq]at hi
             subst hi
             by_cases UW:j=jj
             · subst UW
               have hlt:=(List.getElem?_eq_some_iff.1 hj).1
               rw[List.getElem?_set_self hlt,Option.some.injEq]at hq
               subst hq
               obtain⟨x,hx,hrc,hcell⟩:=k6 i0 e j _ E3 hj
               refine⟨x,hx,?_,hcell⟩
               have hrt:RT w A iA x:=hrc
               cases hrt
               exact .inr ⟨by simp[dg],rfl,rfl,rfl⟩
             · rw[List.getElem?_set_ne UW]at hq
               exact k6 i0 e jj q E3 hq
           · rw[List.getElem?_set_ne II]at hi
             exact k6 i el jj q hi hq
         · rw[h3]at E3
           simp at E3
     · exact(hr.heap id blk hb).keeps (dZ.refl _ _) (fun _ _=>rfl) cF (fun _ h=>h) (fun _ _=>rfl)
 · have old: ∀ {q:Nat} {bl:bi},find ((ctr,bi.row sz [])::jJ hp WR (.row szr (xs.set i0 (e.set j (.own ctr sz 0 0))))) q=some bl→q≠ctr→ ∃z8,find hp q=some z8:=by
    intro q bl hq hqc
    simp only[aq]at hq
    rw[if_neg (fun e=>hqc e.symm)]at hq
    simp only[bQ]at hq
    split at hq
    · rename_i e'
      subst e'
      exact⟨_,hf⟩
    · exact⟨_,hq⟩
   have n1:id≠ctr:=by intro e;subst e;simp[dg]at r1
   have n2:id'≠ctr:=by intro e;subst e;simp[dg]at r2
   obtain⟨c1,g1⟩:=old h1 n1
   obtain⟨c2,g2⟩:=old h2 n2
   rw[hne n1]at r1
   rw[hne n2]at r2
   exact hr.inj id id' c1 c2 b g1 g2 r1 r2
 · simp only[bt]at bJ
   rw[hne (by omega)]
   exact hr.fresh id (by simp only[bt];omega)
end Go.aS
end
section
namespace Go.aS.Cd
open Go Go.Proofs
set_option maxRecDepth 100000
set_option maxHeartbeats 2000000
def bI (r:Int) (qs:Lz):List Zn:=qs.filterMap fun e=>if nI 0 e=r then some (nI 1 e,nI 2 e)else none
theorem IT {r f t a:Int} (qs:Lz):bI r (qs++[[tI r,tI f,tI t,tI a]])=bI r qs++[(f,t)]:=by
 simp[bI,nI]
theorem IS {r c f t a:Int} (qs:Lz) (h:r≠c):bI c (qs++[[tI r,tI f,tI t,tI a]])=bI c qs:=by
 simp[bI,nI,h]
theorem jI (r:Int) (qs:Lz):(bI r qs).length≤qs.length:=List.length_filterMap_le _ _
def oH:List Zn→Bool
 |a::b::r=>decide (a.2≤b.1)&&oH (b::r)
 |_=>true
theorem AB (l:List Zn):oH l=true↔ ∀i a b,l[i]? =some a→l[i+1]? =some b→a.2≤b.1:=by
 induction l with
 |nil=>simp[oH]
 |cons x l ih=>
  cases l with
  |nil=>simp[oH]
  |cons y l=>
   simp only[oH,Bool.and_eq_true,decide_eq_true_eq,ih]
   constructor
   · rintro⟨h1,h2⟩ i a b ha hb
     cases i with
     |zero=>simp at ha hb;subst ha hb;exact h1
     |succ i=>exact h2 i a b (by simpa using ha) (by simpa using hb)
   · intro h
     exact⟨h 0 x y rfl rfl,fun i a b ha hb=>h (i+1) a b (by simpa using ha) (by simpa using hb)⟩
def xa (n:Nat) (qs:Lz):Bool:=(List.range n).all fun r=>oH (cH (bI (r:Int) qs))
abbrev partsOf (plies:Lz):Lz:=plies.flatMap (nL 1)
def fB (k:Nat) (r:List (List C)) (z:List Zn):Prop:=k=z.length∧az r (rZ z)
theorem fB.ak {k:Nat} {r:List (List C)} {z:List Zn} (h:fB k r z) (g:Nat→Option Nat):fB k (r.map fun e=>e.map (C.ak g)) z:=⟨h.1,h.2.ak g⟩
theorem fB.IP {k k':Nat} {r:List (List C)} {z:List Zn} (h:fB k r z) (f t:Int) (hk:k'=r.length+1) (g:Nat→Option Nat):fB k' (((r++[[C.t (tI f),C.t (tI t)]]:List (List C))).map fun e=>e.map (C.ak g)) (z++[(f,t)]):=by
 refine⟨?_,?_⟩
 · rw[hk,h.2.len];simp
 · have:=(az.snoc h.2 [tI f,tI t]).ak g
   simpa[rZ]using this
def LY (n:Nat) (qs:Lz) (ts:List W):Prop:= ∃z,ts=[oL 1 z,oB (xa n qs)]
def Og (HQ:(Nat→List Zn)→HS→Prop) (plies:Lz) (m:Nat) (vs:List V) (hq:HS):Prop:= ∃i:Nat,i≤plies.length∧m=plies.length - i∧vs=[iV .i64 (i:Int)]∧HQ (fun r=>bI r (partsOf (plies.take i))) hq
def Of (HQ:(Nat→List Zn)→HS→Prop) (pre ps:Lz) (m:Nat) (vs:List V) (hq:HS):Prop:= ∃j:Nat,j≤ps.length∧m=ps.length - j∧vs=[iV .i64 (j:Int)]∧HQ (fun r=>bI r (pre++ps.take j)) hq
def Oe (HQ:(Nat→List Zn)→HS→Prop) (n:Nat) (F:Nat→List Zn) (m:Nat) (vs:List V) (hq:HS):Prop:= ∃k:Int,0≤k∧k≤(n:Int)∧m=((n:Int) - k).toNat∧vs=[iV .i64 k]∧HQ (fun r=>if(r:Int) < k then cH (F r)else F r) hq∧ ∀r:Nat,(r:Int) < k→oH (cH (F r))=true
def qi (l:List Zn) (i:Int):Prop:= ∀ (j:Nat) (a b:Zn),(j:Int)+1 < i→l[j]? =some a→l[j+1]? =some b→a.2≤b.1
def O8 (l:List Zn) (m:Nat) (vs:List V):Prop:= ∃i:Int,1≤i∧i≤1000000∧m=((l.length:Int)+1 - i).toNat∧vs=[iV .i64 i]∧qi l i
theorem fB.qk {c:Int} {k i j:Nat} {l:Int} {r:List (List C)} {plies ps:Lz} (h:fB k r (bI c (partsOf (plies.take i)++ps.take j))) (hs:plies[((i:Int)).toNat]? =some [tI l, .av 4 ps]) (hj:ps.length≤j) (g:Nat→Option Nat):fB k (r.map fun e=>e.map (C.ak g)) (bI c (partsOf (plies.take (i+1)))):=by
 have hs':plies[i]? =some [tI l, .av 4 ps]:=by simpa using hs
 have e:partsOf (plies.take (i+1))=partsOf (plies.take i)++ps.take j:=by
  rw[List.take_add_one,hs',List.take_of_length_le hj]
  simp[partsOf,nL]
 rw[e]
 exact h.ak g
theorem fB.nil {c:Int} {k:Nat} {r:List (List C)} {pre ps:Lz} (h:fB k r (bI c pre)) (g:Nat→Option Nat):fB k (r.map fun e=>e.map (C.ak g)) (bI c (pre++ps.take 0)):=by
 simpa using h.ak g
theorem fB.all {c:Int} {k i:Nat} {r:List (List C)} {plies:Lz} (h:fB k r (bI c (partsOf (plies.take i)))) (hi:plies.length≤i) (g:Nat→Option Nat):fB k (r.map fun e=>e.map (C.ak g)) (bI c (partsOf plies)):=by
 rw[List.take_of_length_le hi]at h
 exact h.ak g
theorem K4 {ps:Lz} {j:Nat} {e:List T} (hs:ps[((j:Int)).toNat]? =some e):ps.take (j+1)=ps.take j++[e]:=by
 have hs':ps[j]? =some e:=by simpa using hs
 rw[List.take_add_one,hs']
 rfl
theorem fB.eU {c r0 f t a:Int} {k j:Nat} {r:List (List C)} {pre ps:Lz} (h:fB k r (bI c (pre++ps.take j))) (hs:ps[((j:Int)).toNat]? =some [tI r0,tI f,tI t,tI a]) (hne:r0≠c) (g:Nat→Option Nat):fB k (r.map fun e=>e.map (C.ak g)) (bI c (pre++ps.take (j+1))):=by
 rw[K4 hs, ←List.append_assoc,IS _ hne]
 exact h.ak g
theorem fB.hit {c f t a:Int} {k k' j:Nat} {r:List (List C)} {pre ps:Lz} (h:fB k r (bI c (pre++ps.take j))) (hs:ps[((j:Int)).toNat]? =some [tI c,tI f,tI t,tI a]) (hk:k'=r.length+1) (g:Nat→Option Nat):fB k' (((r++[[C.t (tI f),C.t (tI t)]]:List (List C))).map fun e=>e.map (C.ak g)) (bI c (pre++ps.take (j+1))):=by
 rw[K4 hs, ←List.append_assoc,IT]
 exact h.IP f t hk g
theorem fB.sort {z zl:List Zn} {k:Nat} {r:List (List C)} (hz:zl=cH z) (hk:k=z.length) (hR:az r (rZ zl)):fB k r (cH z):=⟨by rw[hk,aO],hz▸hR⟩
theorem fB.kP {c:Int} {k j:Nat} {r:List (List C)} {pre ps:Lz} {B:Nat} (h:fB k r (bI c (pre++ps.take j))) (hB:pre.length+ps.length≤B):r.length=k∧k≤B:=by
 have h1:=jI c (pre++ps.take j)
 have h2:=h.2.len
 have h3:=h.1
 simp[rZ]at h1 h2
 omega
theorem yL {l:List Zn} {i:Nat} {a b:Int} (h:(rZ l)[i]? =some [tI a,tI b]):l[i]? =some (a,b):=by
 simp only[rZ,List.getElem?_map,Option.map_eq_some_iff]at h
 obtain⟨⟨x,y⟩,h1,h2⟩:=h
 simp only[eZ,List.cons.injEq,T.val.injEq,Value.int.injEq,true_and,and_true]at h2
 obtain⟨rfl,rfl⟩:=h2
 exact h1
theorem cP (l:List Zn):(rZ l).length=l.length:=by simp[rZ]
theorem xw (l:List Zn):bZ (rZ l):=fun e he=>by
 simp only[rZ,List.mem_map]at he
 obtain⟨x,_,rfl⟩:=he
 exact⟨_,_,rfl⟩
theorem qi.one (l:List Zn):qi l 1:=fun j a b hj=>by omega
theorem qi.next {l:List Zn} {i a b c d:Int} {i1:Int} (h:qi l i) (h1:1≤i) (JS:i1=i - 1) (ha:(rZ l)[0+i1.toNat]? =some [tI c,tI a]) (hb:(rZ l)[0+i.toNat]? =some [tI b,tI d]) (hab:a≤b):qi l (i+1):=by
 rw[Nat.zero_add]at ha hb
 intro j x y hj hx hy
 by_cases eF:(j:Int)+1=i
 · have e1:i1.toNat=j:=by omega
   have e2:i.toNat=j+1:=by omega
   rw[e1]at ha
   rw[e2]at hb
   rw[yL ha]at hx
   rw[yL hb]at hy
   cases hx
   cases hy
   exact hab
 · exact h j x y (by omega) hx hy
theorem qi.all {l:List Zn} {i:Int} (h:qi l i) (hi:(l.length:Int)≤i):oH l=true:=(AB l).2 fun j a b ha hb=>h j a b (by have:=(List.getElem?_eq_some_iff.1 hb).1;omega) ha hb
theorem cj {l:List Zn} {i i1 a b c d:Int} (h1:1≤i) (JS:i1=i - 1) (ha:(rZ l)[0+i1.toNat]? =some [tI c,tI a]) (hb:(rZ l)[0+i.toNat]? =some [tI b,tI d]) (hab:b < a):oH l=false:=by
 cases h:oH l with
 |false=>rfl
 |true=>
  have e2:i.toNat=i1.toNat+1:=by omega
  rw[Nat.zero_add]at ha hb
  rw[e2]at hb
  have:=(AB l).1 h _ _ _ (yL ha) (yL hb)
  simp only at this
  omega
theorem cR {n r:Nat} {qs:Lz} {zl:List Zn} (hr:r < n) (hz:zl=cH (bI (r:Int) qs)) (h:oH zl=false):xa n qs=false:=by
 unfold xa
 rw[List.all_eq_false]
 exact⟨r,by simpa using hr,by rw[←hz,h];simp⟩
theorem jl {n:Nat} {k:Int} {qs:Lz} (hk:(n:Int)≤k) (h: ∀r:Nat,(r:Int) < k→oH (cH (bI (r:Int) qs))=true):xa n qs=true:=by
 unfold xa
 rw[List.all_eq_true]
 intro r hr
 exact h r (by have:=List.mem_range.1 hr;omega)
theorem ct {c:Nat} {F:Nat→List Zn} {zl:List Zn} (h: ∀r:Nat,(r:Int) < (c:Int)→oH (cH (F r))=true) (hz:zl=cH (F c)) (h1:oH zl=true): ∀r:Nat,(r:Int) < ((c+1:Nat):Int)→oH (cH (F r))=true:=by
 intro r hr
 by_cases e:r=c
 · subst e
   rw[←hz]
   exact h1
 · exact h r (by omega)
def GSo (l:List Zn) (ts:List W) (hout:HS):Prop:=ts=[]∧hout=[(0, .row 2 (tr (rZ (cH l))))]
theorem cS {f g:Nat} (hS:fL Tryz.prog f g) (l:List Zn) (hl:l.length≤100000): ∃ts hout,Fn Tryz.prog f [.one (.own 0 2 0 l.length),fV g] [(0, .row 2 (tr (rZ l)))] (aQ ts) hout∧GSo l ts hout:=
 ⟨[],_,Jd hS l (by omega),rfl,rfl⟩
theorem fH {z zl:List Zn} {i:Int} (h:i < (z.length:Int)) (hz:zl.length=z.length):i < (zl.length:Int):=by omega
theorem fI {z zl:List Zn} {i:Int} (h:¬i < (z.length:Int)) (hz:zl.length=z.length):(zl.length:Int)≤i:=by omega
def C3 (hp:HS):List (Nat×Nat×Lz)→Prop
 | []=>True
 |p::r=>(∃rr,find hp p.1=some (.row 2 rr)∧az rr p.2.2∧p.2.1=p.2.2.length)∧C3 hp r
theorem AC {hp:HS}: ∀ {ps:List (Nat×Nat×Lz)},C3 hp ps→bu (bu (cN 5 hp)) (ps.map fun p=>[.own p.1 2 0 p.2.1])=some (ps.map fun p=>[.av 2 p.2.2])
 | [],_=>rfl
 |p::r,h=>by
  obtain⟨⟨rr,h1,h2,h3⟩,h4⟩:=h
  have hl:0+p.2.1≤rr.length:=by rw[h2.len,h3];omega
  have e:cN 5 hp (.own p.1 2 0 p.2.1)=some (.av 2 p.2.2):=by
   simp only[cN,h1,true_and,hl,if_true]
   rw[h2,tR,oW,h3]
   simp
  simp only[List.map_cons,bu,e,AC h4]
theorem oD {hp:HS} {tm:TS} {t id len:Nat} {rows:List (List C)} (ps:List (Nat×Nat×Lz)) (h:find tm t=some (.w (.one (.own id 1 0 len)))) (hf:find hp id=some (.row 1 rows)) (hr:rows=ps.map fun p=>[.own p.1 2 0 p.2.1]) (hl:len=ps.length) (hN:C3 hp ps):
 Rs Tryz.prog hp tm (.tmp t) (.one (.t (.av 1 (ps.map fun p=>[.av 2 p.2.2])))):=by
 subst hr hl
 refine⟨_, .one (.t (.av 1 (ps.map fun p=>[.av 2 p.2.2]))),by simp only[cg,h];rfl,?_,wi.refl _⟩
 have hk:0+ps.length≤(ps.map fun p=>[C.own p.1 2 0 p.2.1]).length:=by simp
 have:cN 6 hp (.own id 1 0 ps.length)=some (.av 1 (ps.map fun p=>[.av 2 p.2.2])):=by
  simp only[cN,hf,true_and,hk,if_true]
  have e:((ps.map fun p=>[C.own p.1 2 0 p.2.1]).drop 0).take ps.length=ps.map fun p=>[C.own p.1 2 0 p.2.1]:=by rw[List.drop_zero,List.take_of_length_le (by simp)]
  rw[e,AC hN]
  rfl
 simp only[bB,this,Option.map_some]
end Go.aS.Cd
end
section
namespace Go.aS.Cd
open Go Go.Proofs
set_option maxRecDepth 100000
set_option maxHeartbeats 1000000
variable [BM]
def BY (l:Int) (ps poly:Lz):Int×Int:=pk 36 [GD l ps,oL 2 poly] (fun p=>[oI p.1,oI p.2]) (fun p=>p.2=0→0≤p.1∧p.1 < (ps.length:Int))
theorem lX (l:Int) (ps poly:Lz) (hp:BK ps) (jv:ps.length≤maxLen) (hx:bZ poly) (hl:poly.length≤1000000): ∃ts,Fn Tryz.prog 36 [GD l ps,oL 2 poly] [] (aQ ts) []∧(aQ ts).bY=true∧(ts=[oI (BY l ps poly).1,oI (BY l ps poly).2]∧((BY l ps poly).2=0→0≤(BY l ps poly).1∧(BY l ps poly).1 < (ps.length:Int))):=by
 obtain⟨ts,h1,h2,n,e,rfl,h3⟩:=vG l ps poly hp jv hx hl
 exact uB (enc:=fun p:Int×Int=>[oI p.1,oI p.2]) (Q:=fun p=>p.2=0→0≤p.1∧p.1 < (ps.length:Int)) ⟨(n,e),h1,h2,h3⟩
def MI (poly:Lz) (x y w h:Int):Bool×Int:=pk 67 [oL 2 poly,EJ x y w h] (fun p=>[oB p.1,oI p.2]) (fun _=>True)
theorem wB (poly:Lz) (hx:bZ poly) (hl:poly.length≤1000000) (x y w h:Int): ∃ts,Fn Tryz.prog 67 [oL 2 poly,EJ x y w h] [] (aQ ts) []∧(aQ ts).bY=true∧(ts=[oB (MI poly x y w h).1,oI (MI poly x y w h).2]∧True):=by
 obtain⟨ts,h1,h2,b,e,rfl⟩:=yR poly hx hl x y w h
 exact uB (enc:=fun p:Bool×Int=>[oB p.1,oI p.2]) (Q:=fun _=>True) ⟨(b,e),h1,h2,trivial⟩
def xT (oh:Int→Int→Int→Int→Bool×Int) (d:Int):Lz→Bool×Int
 | []=>(false,0)
 |f::r=>if(oh (IntKind.i64.wrap (nI 0 f+d)) (nI 1 f) (nI 2 f) (nI 3 f)).2≠0 then(false,(oh (IntKind.i64.wrap (nI 0 f+d)) (nI 1 f) (nI 2 f) (nI 3 f)).2)
  else if(oh (IntKind.i64.wrap (nI 0 f+d)) (nI 1 f) (nI 2 f) (nI 3 f)).1=true then(true,0)else xT oh d r
def wV (l:Int) (ps poly:Lz):List T:=tf ps ((BY l ps poly).1)
def LH (l:Int) (ps ah poly:Lz):Bool×Int:=xT (MI poly) (IntKind.i64.wrap (nI 3 (wV l ps poly) - nI 1 (wV l ps poly))) (nL 6 (tf ah (nI 0 (wV l ps poly))))
structure w6 (l:Int) (ps ah poly:Lz):Prop where
 car:(BY l ps poly).2=0
 rng:0≤nI 0 (wV l ps poly)∧nI 0 (wV l ps poly) < (ah.length:Int)
 WO:zU (tf ah (nI 0 (wV l ps poly)))
 fl:(LH l ps ah poly).2=0
def GHt (l:Int) (ps ah poly:Lz) (ts:List W):Prop:= ∃b e,ts=[oB b,oI e]∧(e=0↔w6 l ps ah poly)∧(e=0→b=(LH l ps ah poly).1)
def VJ (oh:Int→Int→Int→Int→Bool×Int) (d:Int) (fl:Lz) (hJ:List (Lz)) (m:Nat) (vs:List V) (xss:List (Lz)):Prop:= ∃i:Nat,i≤fl.length∧xT oh d fl=xT oh d (fl.drop i)∧m=fl.length - i∧vs=[iV .i64 (i:Int)]∧xss=hJ
theorem zJ {fl:Lz} {i:Nat} {e:List T} (hs:fl[((i:Int)).toNat]? =some e):fl.drop i=e::fl.drop (i+1):=by
 have hs':fl[i]? =some e:=by simpa using hs
 obtain⟨hi,he⟩:=List.getElem?_eq_some_iff.1 hs'
 rw[List.drop_eq_getElem_cons hi,he]
theorem zD {oh:Int→Int→Int→Int→Bool×Int} {d x y w h:Int} {r:Lz}:xT oh d ([tI x,tI y,tI w,tI h]::r)=if(oh (IntKind.i64.wrap (x+d)) y w h).2≠0 then(false,(oh (IntKind.i64.wrap (x+d)) y w h).2)else if(oh (IntKind.i64.wrap (x+d)) y w h).1=true then(true,0)else xT oh d r:=rfl
theorem VJ.next {oh:Int→Int→Int→Int→Bool×Int} {d x y w h:Int} {fl:Lz} {hJ:List (Lz)} {i:Nat} (hi:(i:Int) < (fl.length:Int)) (hl:fl.length≤maxLen) (hf:xT oh d fl=xT oh d (fl.drop i)) (hs:fl[((i:Int)).toNat]? =some [tI x,tI y,tI w,tI h]) (h1:(oh (IntKind.i64.wrap (x+d)) y w h).2=0) (h2:(oh (IntKind.i64.wrap (x+d)) y w h).1=false):
 VJ oh d fl hJ (fl.length - (i+1)) [iV .i64 (IntKind.i64.wrap ((i:Int)+1))] hJ:=by
 refine⟨i+1,by omega,?_,rfl,by simp only[maxLen]at hl;rw[bj (by omega) (by omega)];rfl,rfl⟩
 rw[hf,zJ hs,zD]
 rw[if_neg (fun hh=>hh h1),if_neg (by rw[h2];simp)]
theorem NI {oh:Int→Int→Int→Int→Bool×Int} {d x y w h:Int} {fl:Lz} {i:Nat} (hf:xT oh d fl=xT oh d (fl.drop i)) (hs:fl[((i:Int)).toNat]? =some [tI x,tI y,tI w,tI h]) (h1:¬ (oh (IntKind.i64.wrap (x+d)) y w h).2=0):¬ (xT oh d fl).2=0:=by
 rw[hf,zJ hs,zD]
 rw[if_pos (show(oh (IntKind.i64.wrap (x+d)) y w h).2≠0 from h1)]
 exact h1
theorem NH {oh:Int→Int→Int→Int→Bool×Int} {d x y w h:Int} {fl:Lz} {i:Nat} (hf:xT oh d fl=xT oh d (fl.drop i)) (hs:fl[((i:Int)).toNat]? =some [tI x,tI y,tI w,tI h]) (h1:(oh (IntKind.i64.wrap (x+d)) y w h).2=0) (h2:(oh (IntKind.i64.wrap (x+d)) y w h).1=true):xT oh d fl=(true,0):=by
 rw[hf,zJ hs,zD]
 rw[if_neg (fun hh=>hh h1),if_pos h2]
theorem NJ {oh:Int→Int→Int→Int→Bool×Int} {d:Int} {fl:Lz} {i:Nat} (hf:xT oh d fl=xT oh d (fl.drop i)) (hi:fl.length≤i):xT oh d fl=(false,0):=by
 rw[hf,List.drop_eq_nil_of_le hi]
 rfl
section
variable {l r1 f1 t1 a1:Int} {ps ah poly fl:Lz} {id:ByteArray} {w1 l1 a2 b2 c2:Int}
theorem ri (hs:ps[((BY l ps poly).1).toNat]? =some [tI r1,tI f1,tI t1,tI a1]):wV l ps poly=[tI r1,tI f1,tI t1,tI a1]:=kQ hs
theorem CE (hs:ps[((BY l ps poly).1).toNat]? =some [tI r1,tI f1,tI t1,tI a1]) (qM:ah[r1.toNat]? =some [.val (.string id),tI w1,tI l1,tI a2,tI b2,tI c2, .av 4 fl]):LH l ps ah poly=xT (MI poly) (IntKind.i64.wrap (a1 - f1)) fl:=by
 unfold LH
 rw[ri hs,show nI 0 [tI r1,tI f1,tI t1,tI a1]=r1 from rfl,kQ qM]
 rfl
theorem SL (h:¬ (BY l ps poly).2=0):(BY l ps poly).2=0↔w6 l ps ah poly:=iff_of_false h fun hh=>h hh.car
theorem XI (hs:ps[((BY l ps poly).1).toNat]? =some [tI r1,tI f1,tI t1,tI a1]) (h:r1 < 0∨r1≥ (ah.length:Int)):¬w6 l ps ah poly:=fun hh=>by
 have h1:=hh.rng
 rw[ri hs]at h1
 have h1:0≤r1∧r1 < (ah.length:Int):=h1
 omega
theorem XH (hs:ps[((BY l ps poly).1).toNat]? =some [tI r1,tI f1,tI t1,tI a1]) (qM:ah[r1.toNat]? =some [.val (.string id),tI w1,tI l1,tI a2,tI b2,tI c2, .av 4 fl]) (h:¬Ik id w1 l1 a2 b2 c2 fl):¬w6 l ps ah poly:=fun hh=>by
 have h1:=hh.WO
 rw[ri hs]at h1
 have h1:zU (tf ah r1):=h1
 rw[kQ qM]at h1
 exact h (zU.of h1)
theorem XG (hs:ps[((BY l ps poly).1).toNat]? =some [tI r1,tI f1,tI t1,tI a1]) (qM:ah[r1.toNat]? =some [.val (.string id),tI w1,tI l1,tI a2,tI b2,tI c2, .av 4 fl]) (h:¬ (xT (MI poly) (IntKind.i64.wrap (a1 - f1)) fl).2=0):¬w6 l ps ah poly:=fun hh=>by
 have h1:=hh.fl
 rw[CE hs qM]at h1
 exact h h1
theorem Ll (hc:(BY l ps poly).2=0) (hs:ps[((BY l ps poly).1).toNat]? =some [tI r1,tI f1,tI t1,tI a1]) (h0:0≤r1) (h1:r1 < (ah.length:Int)) (qM:ah[r1.toNat]? =some [.val (.string id),tI w1,tI l1,tI a2,tI b2,tI c2, .av 4 fl]) (hr:Ik id w1 l1 a2 b2 c2 fl) {b:Bool} (h:xT (MI poly) (IntKind.i64.wrap (a1 - f1)) fl=(b,0)):
 w6 l ps ah poly∧b=(LH l ps ah poly).1:=by
 refine⟨⟨hc,?_,?_,?_⟩,?_⟩
 · rw[ri hs];exact⟨h0,h1⟩
 · rw[ri hs]
   show zU (tf ah r1)
   rw[kQ qM]
   exact⟨_,_,_,_,_,_,_,rfl,hr⟩
 · rw[CE hs qM,h]
 · rw[CE hs qM,h]
end
theorem CM (l:Int) (ps ah poly:Lz) (hp:BK ps) (jv:ps.length≤maxLen) (hR:FB ah) (hx:bZ poly) (hl:poly.length≤1000000):Tg 35 [GD l ps,oL 7 ah,oL 2 poly] (GHt l ps ah poly):=by
 refine aK ?_
 refine ae Tryz.func35 ?_
 repeat' (conv=>whnf
          first
  |(refine aA (fun h=>?_) (fun h=>?_))
  |(refine bR (fun h=>?_) (fun h=>?_))
  |(refine aG (fun h=>?_) (fun h=>?_))
  |(refine And.intro (by omega) (Exists.intro _ (And.intro qM ?_)))
  |(refine au (xs:=ps) hp (hn (by omega)).1 (hn (by omega)).2 ?_;rintro _ ⟨r1,f1,t1,a1,rfl⟩ hs)
  |(refine au (xs:=ah) hR (by omega) (by omega) ?_;rintro _ ⟨id,w1,l1,a2,b2,c2,fl,rfl,bJ,hfl,E6⟩ qM)
  |(refine au (xs:=fl) hfl (by omega) (by omega) ?_;rintro _ ⟨x3,y3,w3,h3,rfl⟩ XP)
  |(refine ag rfl (lX l ps poly hp jv hx hl) ?_;rintro _ ⟨rfl,hn⟩)
  |(refine ag rfl (rF id w1 l1 a2 b2 c2 fl bJ hfl E6) ?_;rintro _ ⟨e2,rfl,Hr⟩)
  |(refine ag rfl (wB poly hx hl _ _ _ _) ?_;rintro _ ⟨rfl,_⟩)
  |exact dA rfl (bX rfl) (bX rfl) ⟨_,_,rfl,SL (by assumption),fun h0=>absurd h0 (by assumption)⟩
  |exact dA rfl (bX rfl) (bX rfl) ⟨_,_,rfl,iff_of_false (by decide) (XI hs (by omega)),fun h0=>absurd h0 (by decide)⟩
  |exact dA rfl (bX rfl) (bX rfl) ⟨_,_,rfl,iff_of_false (by assumption) (XH hs qM (fun hh=>absurd (Hr.2 hh) (by assumption))),fun h0=>absurd h0 (by assumption)⟩
  |exact dA rfl (bX rfl) (bX rfl) ⟨_,_,rfl,iff_of_false (by assumption) (XG hs qM (NI hf XP (by assumption))),fun h0=>absurd h0 (by assumption)⟩
  |(have h9:=Ll (by omega) hs (by omega) (by omega) qM (Hr.1 (by omega)) (NH hf XP (by omega) (by assumption));exact dA rfl (bX rfl) (bX rfl) ⟨_,_,rfl,iff_of_true rfl h9.1,fun _=>h9.2⟩)
  |(have h9:=Ll (by omega) hs (by omega) (by omega) qM (Hr.1 (by omega)) (NJ hf (by omega));exact dA rfl (bX rfl) (bX rfl) ⟨_,_,rfl,iff_of_true rfl h9.1,fun _=>h9.2⟩)
  |(apply bH [2,10,54,55,56] [] [56] [(4,4)] (VJ (MI poly) (IntKind.i64.wrap (a1 - f1)) fl [[[tI r1,tI f1,tI t1,tI a1]]]) (fl.length) [iV .i64 0];(conv=>whnf);exact⟨rfl,rfl,rfl,rfl⟩;exact rfl;exact rfl;exact .cons (az.ak (xs:=[[tI r1,tI f1,tI t1,tI a1]]) rfl _) .nil;exact⟨0,by omega,rfl,rfl,rfl,rfl⟩;rintro _ _ _ ⟨i,hi,hf,rfl,rfl,rfl⟩)
  |(refine aj [2,10,54,55,56] [] ?_;(conv=>whnf);exact⟨rfl,_,[_],_, .cons (az.ak (xs:=[[tI r1,tI f1,tI t1,tI a1]]) rfl _) .nil,VJ.next (by omega) E6 hf XP (by omega) (by first|assumption|simp_all),rfl,rfl,by omega⟩))
 all_goals (conv=>whnf)
end Go.aS.Cd
end
section
namespace Go.aS.Cd
open Go Go.Proofs
set_option maxRecDepth 100000
set_option maxHeartbeats 1000000
variable [BM]
theorem Zd:iQ Tryz.prog 53=some true:=by kernel_rfl
theorem Wl:cG Tryz.prog 53=some 6:=by kernel_rfl
def C9 (sizes places:Lz) (M:Nat) (ps:Lz):Prop:=vY ps∧ps.length=places.length∧C6 sizes.length places∧(∀e,e∈sizes→Ox M e)∧sizes.length≤6
def Ky (n:Nat) (m:Nat) (vs:List V) (xss:List (Lz)):Prop:= ∃ (i:Nat) (zs:Lz),i≤n∧m=n - i∧vs=[bG 4 1 zs.length,iV .i64 (i:Int)]∧xss=[zs]∧vY zs∧zs.length=i
theorem Ky.next {n i k:Nat} {zs ps:Lz} (hi:(i:Int) < (n:Int)) (hn:n≤1000000) (hz:vY zs) (jS:zs.length=i) (hp:bZ ps∧ps.length≤1000000) (hk:k=zs.length+1):Ky n (n - (i+1)) [bG 4 1 k,iV .i64 (IntKind.i64.wrap ((i:Int)+1))] [zs++[[.av 2 ps]]]:=by
 refine⟨i+1,_,by omega,rfl,by subst hk;rw[bj (by omega) (by omega)];simp,rfl,fun e he=>?_,by simp;omega⟩
 rcases List.mem_append.1 he with he|he
 · exact hz e he
 · simp only[List.mem_singleton]at he
   exact⟨ps,he,hp⟩
theorem y8 (sn:ByteArray) (bk ms ps us ss os:Lz) (hS:iT sn bk ms ps us ss os) (ln wd rx ry:Int) (sizes places:Lz) (hz:Is sizes) (jS:sizes.length≤maxLen) (jv:On places) (SY:places.length≤1000000):Tg 15 [jt sn bk ms ps us ss os,ML ln wd rx ry sizes places] (KP 1 (C9 sizes places bk.length)):=by
 refine aK ?_
 refine ae Tryz.func15 ?_
 repeat' (conv=>whnf
          first
  |(refine aA (fun h=>?_) (fun h=>?_))
  |(refine bR (fun h=>?_) (fun h=>?_))
  |(refine au (xs:=fk) (hA (by omega)).2.1 (by omega) (by omega) ?_;rintro _ ⟨sh,f,q,x,y,rfl,SR,SQ⟩ hs)
  |(have h8:=(hA (by omega)).2.2.1;refine And.intro ⟨by simp[tr],by simp[tr,aU];omega,by simp[tr,maxLen];omega⟩ ?_)
  |(refine ag rfl (sS sn bk ms ps us ss os hS ln wd rx ry sizes places hz jS jv SY) ?_;rintro _ ⟨eK,fk,e,rfl,hA⟩)
  |(refine ag rfl (oE eK (hA (by omega)).1 sh f q x y) ?_;rintro _ ⟨pl,e2,rfl,hP⟩)
  |exact dA rfl (bP 1 rfl) (bX rfl) ⟨_,_,rfl,fun h0=>absurd h0 (by omega)⟩
  |exact dA rfl (eR rfl rfl (xs:=zs) rfl (by omega)) (bX rfl) ⟨_,_,rfl,fun _=>by rw[fE rfl];have h9:=hA (by omega);exact⟨hzs,by omega,h9.2.2.2⟩⟩
  |(apply eP [6,9,24,25,26] [] [9,26] [(4,1)] (Ky fk.length) (fk.length) [bG 4 1 0,iV .i64 0] (dP.iU 9 1 rfl);(conv=>whnf);exact⟨rfl,rfl,rfl,rfl⟩;exact rfl;exact rfl;exact .cons (az.ak az.nil _) .nil;exact⟨0,[],by omega,rfl,rfl,rfl,fun e he=>by simp at he,rfl⟩;rintro _ _ _ ⟨i,zs,hi,rfl,rfl,rfl,hzs,eE⟩)
  |(refine aj [6,9,24,25,26] [] ?_;(conv=>whnf);exact⟨rfl,_,[_,_],_, .cons (az.ak (az.snoc (xs:=zs) rfl [.av 2 _]) _) .nil,Ky.next (by omega) (by have:=(hA (by omega)).2.2.1;omega) hzs eE (hP (by omega)).1 (by simp[tr]),rfl,rfl,by omega⟩))
 all_goals (conv=>whnf)
def OL (sn:ByteArray) (bk ms ps us ss os:Lz) (ln wd rx ry:Int) (sizes places:Lz):Lz×Int:=pk 15 [jt sn bk ms ps us ss os,ML ln wd rx ry sizes places] (fun p=>[oL 1 p.1,oI p.2]) (fun p=>p.2=0→C9 sizes places bk.length p.1)
theorem wG (sn:ByteArray) (bk ms ps us ss os:Lz) (hS:iT sn bk ms ps us ss os) (ln wd rx ry:Int) (sizes places:Lz) (hz:Is sizes) (jS:sizes.length≤maxLen) (jv:On places) (SY:places.length≤1000000):
 ∃ts,Fn Tryz.prog 15 [jt sn bk ms ps us ss os,ML ln wd rx ry sizes places] [] (aQ ts) []∧(aQ ts).bY=true∧(ts=[oL 1 (OL sn bk ms ps us ss os ln wd rx ry sizes places).1,oI (OL sn bk ms ps us ss os ln wd rx ry sizes places).2]∧((OL sn bk ms ps us ss os ln wd rx ry sizes places).2=0→C9 sizes places bk.length (OL sn bk ms ps us ss os ln wd rx ry sizes places).1)):=by
 obtain⟨ts,h1,h2,x,e,rfl,h3⟩:=y8 sn bk ms ps us ss os hS ln wd rx ry sizes places hz jS jv SY
 exact uB (enc:=fun p:Lz×Int=>[oL 1 p.1,oI p.2]) (Q:=fun p=>p.2=0→C9 sizes places bk.length p.1) ⟨(x,e),h1,h2,h3⟩
abbrev MM (p q l s:Int) (x:T) (d:Bool):W:= .agg [.t (tI p), .t (tI q), .t (tI l), .t (tI s), .t x, .t (tB d)]
def GPo (pJ:Int) (ps ah poly:Lz) (qk place sz:Int) (ts:List W):Prop:= ∃p q l s x d e,ts=[MM p q l s x d,oI e]∧(e=0↔w6 pJ ps ah poly)∧
 (e=0→p=qk∧q=place∧l=pJ∧s=sz∧x= .av 1 [[tI (nI 0 (wV pJ ps poly))]]∧d=(LH pJ ps ah poly).1)
theorem td (ln wd rx ry:Int) (sizes places plies ah poly:Lz) (hR:FB ah) (hx:bZ poly) (hl:poly.length≤1000000) (qk place pJ g u k q x y sz:Int) (f:Bool) (ps:Lz) (hps:BK ps) (jv:ps.length≤maxLen) (h0:0≤qk) (hy:plies[qk.toNat]? =some [tI pJ, .av 4 ps]) (h1:0≤place) (Lp:places[place.toNat]? =some [tI g,tI u,tI k,tB f,tI q,tI x,tI y]) (h2:0≤g) (hsz:sizes[g.toNat]? =some [tI sz]):Tg 42 [mc ln wd rx ry sizes places plies,oL 7 ah,oI qk,oI place,oL 2 poly] (GPo pJ ps ah poly qk place sz):=by
 refine aK ?_
 refine ae Tryz.func42 ?_
 repeat' (conv=>whnf
          first
  |(refine bR (fun h=>?_) (fun h=>?_))
  |(refine And.intro h0 (Exists.intro _ (And.intro hy ?_)))
  |(refine And.intro h1 (Exists.intro _ (And.intro Lp ?_)))
  |(refine And.intro h2 (Exists.intro _ (And.intro hsz ?_)))
  |(refine au (xs:=ps) hps (hn (by omega)).1 (hn (by omega)).2 ?_;rintro _ ⟨r1,f1,t1,a1,rfl⟩ hs)
  |(refine And.intro (by kernel_rfl) ?_)
  |(refine ag rfl (lX pJ ps poly hps jv hx hl) ?_;rintro _ ⟨rfl,hn⟩)
  |(refine ag rfl (CM pJ ps ah poly hps jv hR hx hl) ?_;rintro _ ⟨hb,he,rfl,No,Th⟩)
  |exact dA rfl (bF Zd Wl rfl rfl (Nat.le_refl _) rfl (cQ.refl _)) (bX rfl) ⟨_,_,_,_,_,_,_,rfl,SL (by assumption),fun h0=>absurd h0 (by assumption)⟩
  |exact dA rfl (bF Zd Wl rfl rfl (Nat.le_refl _) rfl (cQ.refl _)) (bX rfl) ⟨_,_,_,_,_,_,_,rfl,No,fun h0=>absurd h0 (by assumption)⟩
  |exact dA rfl (bF Zd Wl rfl rfl (Nat.le_refl _) rfl (cQ.refl _)) (bX rfl) ⟨_,_,_,_,_,_,_,rfl,iff_of_true rfl (No.1 (by assumption)),fun _=>⟨rfl,rfl,rfl,rfl,by rw[ri hs];rfl,Th (by assumption)⟩⟩)
 all_goals (conv=>whnf)
end Go.aS.Cd
end
section
namespace Go.aS.Cd
open Go Go.Proofs
set_option maxRecDepth 100000
set_option maxHeartbeats 4000000
def ZD (F:Nat→List Zn) (hq:HS):Prop:=hq=[(4, .row 1 [])]
theorem Rw (hS:fL Tryz.prog 63 64) (ln wd rx ry:Int) (sizes places plies:Lz) (hy: ∀e,e∈plies→ ∃l q,e=[tI l, .av 4 q]∧BK q) (kT:plies.length≤1000000) (hB: ∀e,e∈plies→(nL 1 e).length≤1000) (hT: ∀i,(partsOf (plies.take i)).length≤100000) (ew: ∀e,e∈plies→ ∀q,q∈nL 1 e→0≤nI 0 q∧nI 0 q < 0):Tg 34 [mc ln wd rx ry sizes places plies,oL 7 []] (LY 0 (partsOf plies)):=by
 have hZ: ∀c:Int,(bI c (partsOf plies)).length≤100000:=fun c=>by have h1:=jI c (partsOf plies);have h2:=hT plies.length;rw[List.take_of_length_le (Nat.le_refl _)]at h2;omega
 refine aK ?_
 refine ae Tryz.func34 ?_
 repeat' (conv=>whnf
          first
  |(refine aA (fun h=>?_) (fun h=>?_))
  |(refine And.intro ⟨by simp,by simp,by simp,by simp⟩ ?_)
  |(refine au (xs:=plies) hy (by omega) (by omega) ?_;rintro _ ⟨l,ps,rfl,hq⟩ hs;have E8:=ew _ (List.mem_of_getElem? hs);have Ly:ps.length≤1000:=hB _ (List.mem_of_getElem? hs);have OO:=hT i)
  |(refine au (xs:=ps) hq (by omega) (by omega) ?_;rintro _ ⟨r1,f1,t1,a1,rfl⟩ bO;have sV:=E8 _ (List.mem_of_getElem? bO);simp only[nI,List.getElem?_cons_zero]at sV)
  |(refine And.intro ⟨by omega,by omega⟩ ?_)
  |(exfalso;simp at h;omega)
  |(have h7:((0:Nat):Int)≤k:=(by simp at h;omega);exact dA rfl (oD [] rfl rfl rfl rfl trivial) (bX rfl) ⟨_,by rw[jl h7 hall]⟩)
  |(have hgd:=hs;clear hgd;apply bW [6,18,19,20,25,26,27] [] [27] (Of ZD (partsOf (plies.take i)) ps) (ps.length) [iV .i64 0];(conv=>whnf);exact⟨rfl,rfl,rfl,rfl⟩;exact rfl;exact rfl;exact⟨0,by omega,rfl,rfl,rfl⟩;rintro _ _ _ ⟨j,hj,rfl,rfl,rfl⟩)
  |(have hgd:=hi;clear hgd;apply bW [6,49,50,51] [] [51] (Oe ZD 0 (fun r=>bI (r:Int) (partsOf plies))) (0) [iV .i64 0];(conv=>whnf);exact⟨rfl,rfl,rfl,rfl⟩;exact rfl;exact rfl;exact⟨0,by omega,by omega,rfl,rfl,rfl,fun r hr=>by omega⟩;rintro _ _ _ ⟨k,AY,fC,rfl,rfl,rfl,hall⟩)
  |(apply bW [6,18,19,20] [] [20] (Og ZD plies) (plies.length) [iV .i64 0];(conv=>whnf);exact⟨rfl,rfl,rfl,rfl⟩;exact rfl;exact rfl;exact⟨0,by omega,rfl,rfl,rfl⟩;rintro _ _ _ ⟨i,hi,rfl,rfl,rfl⟩)
  |(have hgd:=hj;clear hgd;refine aj [6,18,19,20] [] ?_;(conv=>whnf);exact⟨rfl,_,[_],⟨i+1,by omega,rfl,by rw[bj (by omega) (by omega)];rfl,rfl⟩,rfl,rfl,by omega⟩))
 all_goals (conv=>whnf)
end Go.aS.Cd
end
section
namespace Go.aS.Cd
open Go Go.Proofs
set_option maxRecDepth 100000
set_option maxHeartbeats 4000000
def ZC (F:Nat→List Zn) (hq:HS):Prop:= ∃ (k0:Nat) (y0:List (List C)),hq=[(4, .row 1 [[.own 8 2 0 k0]]),(8, .row 2 y0)]∧fB k0 y0 (F 0)
theorem Ru (hS:fL Tryz.prog 63 64) (e0:List T) (ln wd rx ry:Int) (sizes places plies:Lz) (hy: ∀e,e∈plies→ ∃l q,e=[tI l, .av 4 q]∧BK q) (kT:plies.length≤1000000) (hB: ∀e,e∈plies→(nL 1 e).length≤1000) (hT: ∀i,(partsOf (plies.take i)).length≤100000) (ew: ∀e,e∈plies→ ∀q,q∈nL 1 e→0≤nI 0 q∧nI 0 q < 1):Tg 34 [mc ln wd rx ry sizes places plies,oL 7 [e0]] (LY 1 (partsOf plies)):=by
 have hZ: ∀c:Int,(bI c (partsOf plies)).length≤100000:=fun c=>by have h1:=jI c (partsOf plies);have h2:=hT plies.length;rw[List.take_of_length_le (Nat.le_refl _)]at h2;omega
 refine aK ?_
 refine ae Tryz.func34 ?_
 repeat' (conv=>whnf
          first
  |(refine aA (fun h=>?_) (fun h=>?_))
  |(refine And.intro ⟨by simp,by simp,by simp,by simp⟩ ?_)
  |(have wK:=sV.2;have mQ:=sV.1;have ve:r1=0:=(by omega);clear mQ wK;rcases ve with rfl)
  |(have mQ:=AY;have A6:=h;simp at A6;have ve:k=0:=(by omega);clear mQ A6;rcases ve with rfl)
  |(refine And.intro ⟨by simp,by simp⟩ ?_)
  |(refine au (xs:=plies) hy (by omega) (by omega) ?_;rintro _ ⟨l,ps,rfl,hq⟩ hs;have E8:=ew _ (List.mem_of_getElem? hs);have Ly:ps.length≤1000:=hB _ (List.mem_of_getElem? hs);have OO:=hT i)
  |(refine au (xs:=ps) hq (by omega) (by omega) ?_;rintro _ ⟨r1,f1,t1,a1,rfl⟩ bO;have sV:=E8 _ (List.mem_of_getElem? bO);simp only[nI,List.getElem?_cons_zero]at sV)
  |(have hb0:=p0.kP (B:=101000) (by omega);refine And.intro ⟨hb0.1.symm,by simp[aU];omega,by simp[maxLen];omega⟩ ?_)
  |(have h6:=fH (z:=bI ((0:Nat):Int) (partsOf plies)) h eE;refine And.intro ⟨by omega,h⟩ ?_)
  |(have lV:IntKind.i64.wrap (i4 - 1)=i4 - 1:=bj (by omega) (by omega);generalize IntKind.i64.wrap (i4 - 1)=j1 at lV⊢;refine And.intro ⟨by omega,by omega⟩ ?_)
  |(refine And.intro (by kernel_rfl) ?_)
  |(refine eV [8] rfl (cS hS (bI ((0:Nat):Int) (partsOf plies)) (hZ _)) rfl (jF rfl (rfl:az _ (rZ (bI ((0:Nat):Int) (partsOf plies))))) ?_;rintro _ _ ⟨rfl,rfl⟩;obtain⟨zl,hz⟩: ∃zl,zl=cH (bI ((0:Nat):Int) (partsOf plies)):=⟨_,rfl⟩;rw[←hz];have jS:zl.length≤100000:=(by rw[hz,aO];exact hZ _);have eE:zl.length=(bI ((0:Nat):Int) (partsOf plies)).length:=(by rw[hz,aO]))
  |(refine cv (xs:=rZ zl) (az.ak (az.ak (xs:=rZ zl) rfl _) _) (xw zl) (by rw[cP];omega) ?_;first|(rintro _ ⟨a6,b6,rfl⟩ kU;have:=lU)|rintro _ ⟨a5,b5,rfl⟩ lU)
  |exact dA rfl (bP 1 rfl) (bX rfl) ⟨_,by rw[cR (r:=0) (by omega) hz (cj hi4 lV kU lU (by omega))]⟩
  |(have h7:((1:Nat):Int)≤k:=(by simp at h;omega);exact dA rfl (oD [(8,_,_)] rfl rfl rfl rfl ⟨⟨_,rfl,rfl,(cP _).symm⟩,trivial⟩) (bX rfl) ⟨_,by rw[jl h7 hall]⟩)
  |(have hgd:=eE;clear hgd;apply aL [6,12,13,49,50,51] [(6,0)] [13] (O8 zl) (zl.length) [iV .i64 1];(conv=>whnf);exact⟨rfl,rfl,rfl,rfl⟩;exact rfl;exact rfl;exact⟨1,by omega,by omega,by omega,rfl,qi.one zl⟩;rintro _ _ ⟨i4,hi4,Tf,rfl,rfl,nX⟩)
  |(have hgd:=h6;clear hgd;refine aj [6,12,13,49,50,51] [(6,0)] ?_;(conv=>whnf);exact⟨rfl,_,[_],⟨i4+1,by omega,by omega,rfl,by rw[bj (by omega) (by omega)],nX.next hi4 lV kU lU (by omega)⟩,rfl,(by simp only[eJ]<;>rfl),rfl,by omega⟩)
  |(have hgd:=hs;clear hgd;apply bW [6,18,19,20,25,26,27] [(6,0)] [27] (Of ZC (partsOf (plies.take i)) ps) (ps.length) [iV .i64 0];(conv=>whnf);exact⟨rfl,rfl,rfl,rfl⟩;exact rfl;exact rfl;exact⟨0,by omega,rfl,rfl,⟨_,_,rfl,p0.nil _⟩⟩;rintro _ _ _ ⟨j,hj,rfl,rfl,⟨k0,y0,rfl,p0⟩⟩)
  |(have hgd:=bO;clear hgd;refine aj [6,18,19,20,25,26,27] [(6,0)] ?_;(conv=>whnf);exact⟨rfl,_,[_],⟨j+1,by omega,rfl,by rw[bj (by omega) (by omega)];rfl,⟨_,_,rfl,p0.hit bO (by simp) _⟩⟩,rfl,rfl,by omega⟩)
  |(have hgd:=hi;clear hgd;apply bW [6,49,50,51] [(6,0)] [51] (Oe ZC 1 (fun r=>bI (r:Int) (partsOf plies))) (1) [iV .i64 0];(conv=>whnf);exact⟨rfl,rfl,rfl,rfl⟩;exact rfl;exact rfl;exact⟨0,by omega,by omega,rfl,rfl,⟨_,_,rfl,p0.all (by omega) _⟩,fun r hr=>by omega⟩;rintro _ _ _ ⟨k,AY,fC,rfl,rfl,⟨_,_,rfl,⟨rfl,rfl⟩⟩,hall⟩)
  |(have hgd:=eE;clear hgd;refine aj [6,49,50,51] [(6,0)] ?_;(conv=>whnf);exact⟨rfl,_,[_],⟨1,by omega,by omega,rfl,rfl,⟨_,_,rfl,fB.sort hz rfl (az.ak (az.ak (az.ak (xs:=rZ zl) rfl _) _) _)⟩,ct (c:=0) hall hz (nX.all (fI (z:=bI ((0:Nat):Int) (partsOf plies)) h eE))⟩,rfl,rfl,by omega⟩)
  |(apply gn [6,18,19,20] [(6,0)] [20] (Og ZC plies) (plies.length) [iV .i64 0] (dP.fD 24 0 0 2 rfl rfl rfl);(conv=>whnf);exact⟨rfl,rfl,rfl,rfl⟩;exact rfl;exact rfl;exact⟨0,by omega,rfl,rfl,⟨_,_,rfl,⟨rfl,rfl⟩⟩⟩;rintro _ _ _ ⟨i,hi,rfl,rfl,⟨k0,y0,rfl,p0⟩⟩)
  |(have hgd:=hj;clear hgd;refine aj [6,18,19,20] [(6,0)] ?_;(conv=>whnf);exact⟨rfl,_,[_],⟨i+1,by omega,rfl,by rw[bj (by omega) (by omega)];rfl,⟨_,_,rfl,p0.qk hs (by omega) _⟩⟩,rfl,rfl,by omega⟩))
 all_goals (conv=>whnf)
end Go.aS.Cd
end
section
namespace Go.aS.Cd
open Go Go.Proofs
set_option maxRecDepth 100000
set_option maxHeartbeats 4000000
def ZB (F:Nat→List Zn) (hq:HS):Prop:= ∃ (k0 k1:Nat) (y0 y1:List (List C)),hq=[(4, .row 1 [[.own 8 2 0 k0],[.own 12 2 0 k1]]),(8, .row 2 y0),(12, .row 2 y1)]∧fB k0 y0 (F 0)∧fB k1 y1 (F 1)
theorem Rt (hS:fL Tryz.prog 63 64) (e0 e1:List T) (ln wd rx ry:Int) (sizes places plies:Lz) (hy: ∀e,e∈plies→ ∃l q,e=[tI l, .av 4 q]∧BK q) (kT:plies.length≤1000000) (hB: ∀e,e∈plies→(nL 1 e).length≤1000) (hT: ∀i,(partsOf (plies.take i)).length≤100000) (ew: ∀e,e∈plies→ ∀q,q∈nL 1 e→0≤nI 0 q∧nI 0 q < 2):Tg 34 [mc ln wd rx ry sizes places plies,oL 7 [e0,e1]] (LY 2 (partsOf plies)):=by
 have hZ: ∀c:Int,(bI c (partsOf plies)).length≤100000:=fun c=>by have h1:=jI c (partsOf plies);have h2:=hT plies.length;rw[List.take_of_length_le (Nat.le_refl _)]at h2;omega
 refine aK ?_
 refine ae Tryz.func34 ?_
 repeat' (conv=>whnf
          first
  |(refine aA (fun h=>?_) (fun h=>?_))
  |(refine And.intro ⟨by simp,by simp,by simp,by simp⟩ ?_)
  |(have wK:=sV.2;have mQ:=sV.1;have ve:r1=0∨r1=1:=(by omega);clear mQ wK;rcases ve with rfl|rfl)
  |(have mQ:=AY;have A6:=h;simp at A6;have ve:k=0∨k=1:=(by omega);clear mQ A6;rcases ve with rfl|rfl)
  |(refine And.intro ⟨by simp,by simp⟩ ?_)
  |(refine au (xs:=plies) hy (by omega) (by omega) ?_;rintro _ ⟨l,ps,rfl,hq⟩ hs;have E8:=ew _ (List.mem_of_getElem? hs);have Ly:ps.length≤1000:=hB _ (List.mem_of_getElem? hs);have OO:=hT i)
  |(refine au (xs:=ps) hq (by omega) (by omega) ?_;rintro _ ⟨r1,f1,t1,a1,rfl⟩ bO;have sV:=E8 _ (List.mem_of_getElem? bO);simp only[nI,List.getElem?_cons_zero]at sV)
  |(have hb0:=p0.kP (B:=101000) (by omega);refine And.intro ⟨hb0.1.symm,by simp[aU];omega,by simp[maxLen];omega⟩ ?_)
  |(have oT:=p1.kP (B:=101000) (by omega);refine And.intro ⟨oT.1.symm,by simp[aU];omega,by simp[maxLen];omega⟩ ?_)
  |(have h6:=fH (z:=bI ((0:Nat):Int) (partsOf plies)) h eE;refine And.intro ⟨by omega,h⟩ ?_)
  |(have h6:=fH (z:=bI ((1:Nat):Int) (partsOf plies)) h eE;refine And.intro ⟨by omega,h⟩ ?_)
  |(have lV:IntKind.i64.wrap (i4 - 1)=i4 - 1:=bj (by omega) (by omega);generalize IntKind.i64.wrap (i4 - 1)=j1 at lV⊢;refine And.intro ⟨by omega,by omega⟩ ?_)
  |(refine And.intro (by kernel_rfl) ?_)
  |(refine eV [8] rfl (cS hS (bI ((0:Nat):Int) (partsOf plies)) (hZ _)) rfl (jF rfl (rfl:az _ (rZ (bI ((0:Nat):Int) (partsOf plies))))) ?_;rintro _ _ ⟨rfl,rfl⟩;obtain⟨zl,hz⟩: ∃zl,zl=cH (bI ((0:Nat):Int) (partsOf plies)):=⟨_,rfl⟩;rw[←hz];have jS:zl.length≤100000:=(by rw[hz,aO];exact hZ _);have eE:zl.length=(bI ((0:Nat):Int) (partsOf plies)).length:=(by rw[hz,aO]))
  |(refine eV [12] rfl (cS hS (bI ((1:Nat):Int) (partsOf plies)) (hZ _)) rfl (jF rfl (rfl:az _ (rZ (bI ((1:Nat):Int) (partsOf plies))))) ?_;rintro _ _ ⟨rfl,rfl⟩;obtain⟨zl,hz⟩: ∃zl,zl=cH (bI ((1:Nat):Int) (partsOf plies)):=⟨_,rfl⟩;rw[←hz];have jS:zl.length≤100000:=(by rw[hz,aO];exact hZ _);have eE:zl.length=(bI ((1:Nat):Int) (partsOf plies)).length:=(by rw[hz,aO]))
  |(refine cv (xs:=rZ zl) (az.ak (az.ak (xs:=rZ zl) rfl _) _) (xw zl) (by rw[cP];omega) ?_;first|(rintro _ ⟨a6,b6,rfl⟩ kU;have:=lU)|rintro _ ⟨a5,b5,rfl⟩ lU)
  |exact dA rfl (bP 1 rfl) (bX rfl) ⟨_,by rw[cR (r:=0) (by omega) hz (cj hi4 lV kU lU (by omega))]⟩
  |exact dA rfl (bP 1 rfl) (bX rfl) ⟨_,by rw[cR (r:=1) (by omega) hz (cj hi4 lV kU lU (by omega))]⟩
  |(have h7:((2:Nat):Int)≤k:=(by simp at h;omega);exact dA rfl (oD [(8,_,_),(12,_,_)] rfl rfl rfl rfl ⟨⟨_,rfl,rfl,(cP _).symm⟩,⟨_,rfl,rfl,(cP _).symm⟩,trivial⟩) (bX rfl) ⟨_,by rw[jl h7 hall]⟩)
  |(have hgd:=eE;clear hgd;apply aL [6,12,13,49,50,51] [(6,0),(6,1)] [13] (O8 zl) (zl.length) [iV .i64 1];(conv=>whnf);exact⟨rfl,rfl,rfl,rfl⟩;exact rfl;exact rfl;exact⟨1,by omega,by omega,by omega,rfl,qi.one zl⟩;rintro _ _ ⟨i4,hi4,Tf,rfl,rfl,nX⟩)
  |(have hgd:=h6;clear hgd;refine aj [6,12,13,49,50,51] [(6,0),(6,1)] ?_;(conv=>whnf);exact⟨rfl,_,[_],⟨i4+1,by omega,by omega,rfl,by rw[bj (by omega) (by omega)],nX.next hi4 lV kU lU (by omega)⟩,rfl,(by simp only[eJ]<;>rfl),rfl,by omega⟩)
  |(have hgd:=hs;clear hgd;apply bW [6,18,19,20,25,26,27] [(6,0),(6,1)] [27] (Of ZB (partsOf (plies.take i)) ps) (ps.length) [iV .i64 0];(conv=>whnf);exact⟨rfl,rfl,rfl,rfl⟩;exact rfl;exact rfl;exact⟨0,by omega,rfl,rfl,⟨_,_,_,_,rfl,p0.nil _,p1.nil _⟩⟩;rintro _ _ _ ⟨j,hj,rfl,rfl,⟨k0,k1,y0,y1,rfl,p0,p1⟩⟩)
  |(have hgd:=bO;clear hgd;refine aj [6,18,19,20,25,26,27] [(6,0),(6,1)] ?_;(conv=>whnf);first|exact⟨rfl,_,[_],⟨j+1,by omega,rfl,by rw[bj (by omega) (by omega)];rfl,⟨_,_,_,_,rfl,p0.hit bO (by simp) _,p1.eU bO (by decide) _⟩⟩,rfl,rfl,by omega⟩|exact⟨rfl,_,[_],⟨j+1,by omega,rfl,by rw[bj (by omega) (by omega)];rfl,⟨_,_,_,_,rfl,p0.eU bO (by decide) _,p1.hit bO (by simp) _⟩⟩,rfl,rfl,by omega⟩)
  |(have hgd:=hi;clear hgd;apply bW [6,49,50,51] [(6,0),(6,1)] [51] (Oe ZB 2 (fun r=>bI (r:Int) (partsOf plies))) (2) [iV .i64 0];(conv=>whnf);exact⟨rfl,rfl,rfl,rfl⟩;exact rfl;exact rfl;exact⟨0,by omega,by omega,rfl,rfl,⟨_,_,_,_,rfl,p0.all (by omega) _,p1.all (by omega) _⟩,fun r hr=>by omega⟩;rintro _ _ _ ⟨k,AY,fC,rfl,rfl,⟨_,_,_,_,rfl,⟨rfl,rfl⟩,⟨rfl,rfl⟩⟩,hall⟩)
  |(have hgd:=eE;clear hgd;refine aj [6,49,50,51] [(6,0),(6,1)] ?_;(conv=>whnf);first|exact⟨rfl,_,[_],⟨1,by omega,by omega,rfl,rfl,⟨_,_,_,_,rfl,fB.sort hz rfl (az.ak (az.ak (az.ak (xs:=rZ zl) rfl _) _) _),⟨rfl,az.ak (az.ak (xs:=rZ _) rfl _) _⟩⟩,ct (c:=0) hall hz (nX.all (fI (z:=bI ((0:Nat):Int) (partsOf plies)) h eE))⟩,rfl,rfl,by omega⟩|exact⟨rfl,_,[_],⟨2,by omega,by omega,rfl,rfl,⟨_,_,_,_,rfl,⟨rfl,az.ak (az.ak (xs:=rZ _) rfl _) _⟩,fB.sort hz rfl (az.ak (az.ak (az.ak (xs:=rZ zl) rfl _) _) _)⟩,ct (c:=1) hall hz (nX.all (fI (z:=bI ((1:Nat):Int) (partsOf plies)) h eE))⟩,rfl,rfl,by omega⟩)
  |(apply gn [6,18,19,20] [(6,0),(6,1)] [20] (Og ZB plies) (plies.length) [iV .i64 0] (dP.trans (dP.fD 24 0 0 2 rfl rfl rfl) (dP.fD 24 1 0 2 rfl rfl rfl));(conv=>whnf);exact⟨rfl,rfl,rfl,rfl⟩;exact rfl;exact rfl;exact⟨0,by omega,rfl,rfl,⟨_,_,_,_,rfl,⟨rfl,rfl⟩,⟨rfl,rfl⟩⟩⟩;rintro _ _ _ ⟨i,hi,rfl,rfl,⟨k0,k1,y0,y1,rfl,p0,p1⟩⟩)
  |(have hgd:=hj;clear hgd;refine aj [6,18,19,20] [(6,0),(6,1)] ?_;(conv=>whnf);exact⟨rfl,_,[_],⟨i+1,by omega,rfl,by rw[bj (by omega) (by omega)];rfl,⟨_,_,_,_,rfl,p0.qk hs (by omega) _,p1.qk hs (by omega) _⟩⟩,rfl,rfl,by omega⟩))
 all_goals (conv=>whnf)
end Go.aS.Cd
end
section
namespace Go.aS.Cd
open Go Go.Proofs
set_option maxRecDepth 100000
set_option maxHeartbeats 4000000
def ZA (F:Nat→List Zn) (hq:HS):Prop:= ∃ (k0 k1 k2:Nat) (y0 y1 y2:List (List C)),hq=[(4, .row 1 [[.own 8 2 0 k0],[.own 12 2 0 k1],[.own 16 2 0 k2]]),(8, .row 2 y0),(12, .row 2 y1),(16, .row 2 y2)]∧fB k0 y0 (F 0)∧fB k1 y1 (F 1)∧fB k2 y2 (F 2)
theorem Rr (hS:fL Tryz.prog 63 64) (e0 e1 e2:List T) (ln wd rx ry:Int) (sizes places plies:Lz) (hy: ∀e,e∈plies→ ∃l q,e=[tI l, .av 4 q]∧BK q) (kT:plies.length≤1000000) (hB: ∀e,e∈plies→(nL 1 e).length≤1000) (hT: ∀i,(partsOf (plies.take i)).length≤100000) (ew: ∀e,e∈plies→ ∀q,q∈nL 1 e→0≤nI 0 q∧nI 0 q < 3):Tg 34 [mc ln wd rx ry sizes places plies,oL 7 [e0,e1,e2]] (LY 3 (partsOf plies)):=by
 have hZ: ∀c:Int,(bI c (partsOf plies)).length≤100000:=fun c=>by have h1:=jI c (partsOf plies);have h2:=hT plies.length;rw[List.take_of_length_le (Nat.le_refl _)]at h2;omega
 refine aK ?_
 refine ae Tryz.func34 ?_
 repeat' (conv=>whnf
          first
  |(refine aA (fun h=>?_) (fun h=>?_))
  |(refine And.intro ⟨by simp,by simp,by simp,by simp⟩ ?_)
  |(have wK:=sV.2;have mQ:=sV.1;have ve:r1=0∨r1=1∨r1=2:=(by omega);clear mQ wK;rcases ve with rfl|rfl|rfl)
  |(have mQ:=AY;have A6:=h;simp at A6;have ve:k=0∨k=1∨k=2:=(by omega);clear mQ A6;rcases ve with rfl|rfl|rfl)
  |(refine And.intro ⟨by simp,by simp⟩ ?_)
  |(refine au (xs:=plies) hy (by omega) (by omega) ?_;rintro _ ⟨l,ps,rfl,hq⟩ hs;have E8:=ew _ (List.mem_of_getElem? hs);have Ly:ps.length≤1000:=hB _ (List.mem_of_getElem? hs);have OO:=hT i)
  |(refine au (xs:=ps) hq (by omega) (by omega) ?_;rintro _ ⟨r1,f1,t1,a1,rfl⟩ bO;have sV:=E8 _ (List.mem_of_getElem? bO);simp only[nI,List.getElem?_cons_zero]at sV)
  |(have hb0:=p0.kP (B:=101000) (by omega);refine And.intro ⟨hb0.1.symm,by simp[aU];omega,by simp[maxLen];omega⟩ ?_)
  |(have oT:=p1.kP (B:=101000) (by omega);refine And.intro ⟨oT.1.symm,by simp[aU];omega,by simp[maxLen];omega⟩ ?_)
  |(have nw:=p2.kP (B:=101000) (by omega);refine And.intro ⟨nw.1.symm,by simp[aU];omega,by simp[maxLen];omega⟩ ?_)
  |(have h6:=fH (z:=bI ((0:Nat):Int) (partsOf plies)) h eE;refine And.intro ⟨by omega,h⟩ ?_)
  |(have h6:=fH (z:=bI ((1:Nat):Int) (partsOf plies)) h eE;refine And.intro ⟨by omega,h⟩ ?_)
  |(have h6:=fH (z:=bI ((2:Nat):Int) (partsOf plies)) h eE;refine And.intro ⟨by omega,h⟩ ?_)
  |(have lV:IntKind.i64.wrap (i4 - 1)=i4 - 1:=bj (by omega) (by omega);generalize IntKind.i64.wrap (i4 - 1)=j1 at lV⊢;refine And.intro ⟨by omega,by omega⟩ ?_)
  |(refine And.intro (by kernel_rfl) ?_)
  |(refine eV [8] rfl (cS hS (bI ((0:Nat):Int) (partsOf plies)) (hZ _)) rfl (jF rfl (rfl:az _ (rZ (bI ((0:Nat):Int) (partsOf plies))))) ?_;rintro _ _ ⟨rfl,rfl⟩;obtain⟨zl,hz⟩: ∃zl,zl=cH (bI ((0:Nat):Int) (partsOf plies)):=⟨_,rfl⟩;rw[←hz];have jS:zl.length≤100000:=(by rw[hz,aO];exact hZ _);have eE:zl.length=(bI ((0:Nat):Int) (partsOf plies)).length:=(by rw[hz,aO]))
  |(refine eV [12] rfl (cS hS (bI ((1:Nat):Int) (partsOf plies)) (hZ _)) rfl (jF rfl (rfl:az _ (rZ (bI ((1:Nat):Int) (partsOf plies))))) ?_;rintro _ _ ⟨rfl,rfl⟩;obtain⟨zl,hz⟩: ∃zl,zl=cH (bI ((1:Nat):Int) (partsOf plies)):=⟨_,rfl⟩;rw[←hz];have jS:zl.length≤100000:=(by rw[hz,aO];exact hZ _);have eE:zl.length=(bI ((1:Nat):Int) (partsOf plies)).length:=(by rw[hz,aO]))
  |(refine eV [16] rfl (cS hS (bI ((2:Nat):Int) (partsOf plies)) (hZ _)) rfl (jF rfl (rfl:az _ (rZ (bI ((2:Nat):Int) (partsOf plies))))) ?_;rintro _ _ ⟨rfl,rfl⟩;obtain⟨zl,hz⟩: ∃zl,zl=cH (bI ((2:Nat):Int) (partsOf plies)):=⟨_,rfl⟩;rw[←hz];have jS:zl.length≤100000:=(by rw[hz,aO];exact hZ _);have eE:zl.length=(bI ((2:Nat):Int) (partsOf plies)).length:=(by rw[hz,aO]))
  |(refine cv (xs:=rZ zl) (az.ak (az.ak (xs:=rZ zl) rfl _) _) (xw zl) (by rw[cP];omega) ?_;first|(rintro _ ⟨a6,b6,rfl⟩ kU;have:=lU)|rintro _ ⟨a5,b5,rfl⟩ lU)
  |exact dA rfl (bP 1 rfl) (bX rfl) ⟨_,by rw[cR (r:=0) (by omega) hz (cj hi4 lV kU lU (by omega))]⟩
  |exact dA rfl (bP 1 rfl) (bX rfl) ⟨_,by rw[cR (r:=1) (by omega) hz (cj hi4 lV kU lU (by omega))]⟩
  |exact dA rfl (bP 1 rfl) (bX rfl) ⟨_,by rw[cR (r:=2) (by omega) hz (cj hi4 lV kU lU (by omega))]⟩
  |(have h7:((3:Nat):Int)≤k:=(by simp at h;omega);exact dA rfl (oD [(8,_,_),(12,_,_),(16,_,_)] rfl rfl rfl rfl ⟨⟨_,rfl,rfl,(cP _).symm⟩,⟨_,rfl,rfl,(cP _).symm⟩,⟨_,rfl,rfl,(cP _).symm⟩,trivial⟩) (bX rfl) ⟨_,by rw[jl h7 hall]⟩)
  |(have hgd:=eE;clear hgd;apply aL [6,12,13,49,50,51] [(6,0),(6,1),(6,2)] [13] (O8 zl) (zl.length) [iV .i64 1];(conv=>whnf);exact⟨rfl,rfl,rfl,rfl⟩;exact rfl;exact rfl;exact⟨1,by omega,by omega,by omega,rfl,qi.one zl⟩;rintro _ _ ⟨i4,hi4,Tf,rfl,rfl,nX⟩)
  |(have hgd:=h6;clear hgd;refine aj [6,12,13,49,50,51] [(6,0),(6,1),(6,2)] ?_;(conv=>whnf);exact⟨rfl,_,[_],⟨i4+1,by omega,by omega,rfl,by rw[bj (by omega) (by omega)],nX.next hi4 lV kU lU (by omega)⟩,rfl,(by simp only[eJ]<;>rfl),rfl,by omega⟩)
  |(have hgd:=hs;clear hgd;apply bW [6,18,19,20,25,26,27] [(6,0),(6,1),(6,2)] [27] (Of ZA (partsOf (plies.take i)) ps) (ps.length) [iV .i64 0];(conv=>whnf);exact⟨rfl,rfl,rfl,rfl⟩;exact rfl;exact rfl;exact⟨0,by omega,rfl,rfl,⟨_,_,_,_,_,_,rfl,p0.nil _,p1.nil _,p2.nil _⟩⟩;rintro _ _ _ ⟨j,hj,rfl,rfl,⟨k0,k1,k2,y0,y1,y2,rfl,p0,p1,p2⟩⟩)
  |(have hgd:=bO;clear hgd;refine aj [6,18,19,20,25,26,27] [(6,0),(6,1),(6,2)] ?_;(conv=>whnf);first|exact⟨rfl,_,[_],⟨j+1,by omega,rfl,by rw[bj (by omega) (by omega)];rfl,⟨_,_,_,_,_,_,rfl,p0.hit bO (by simp) _,p1.eU bO (by decide) _,p2.eU bO (by decide) _⟩⟩,rfl,rfl,by omega⟩|exact⟨rfl,_,[_],⟨j+1,by omega,rfl,by rw[bj (by omega) (by omega)];rfl,⟨_,_,_,_,_,_,rfl,p0.eU bO (by decide) _,p1.hit bO (by simp) _,p2.eU bO (by decide) _⟩⟩,rfl,rfl,by omega⟩|exact⟨rfl,_,[_],⟨j+1,by omega,rfl,by rw[bj (by omega) (by omega)];rfl,⟨_,_,_,_,_,_,rfl,p0.eU bO (by decide) _,p1.eU bO (by decide) _,p2.hit bO (by simp) _⟩⟩,rfl,rfl,by omega⟩)
  |(have hgd:=hi;clear hgd;apply bW [6,49,50,51] [(6,0),(6,1),(6,2)] [51] (Oe ZA 3 (fun r=>bI (r:Int) (partsOf plies))) (3) [iV .i64 0];(conv=>whnf);exact⟨rfl,rfl,rfl,rfl⟩;exact rfl;exact rfl;exact⟨0,by omega,by omega,rfl,rfl,⟨_,_,_,_,_,_,rfl,p0.all (by omega) _,p1.all (by omega) _,p2.all (by omega) _⟩,fun r hr=>by omega⟩;rintro _ _ _ ⟨k,AY,fC,rfl,rfl,⟨_,_,_,_,_,_,rfl,⟨rfl,rfl⟩,⟨rfl,rfl⟩,⟨rfl,rfl⟩⟩,hall⟩)
  |(have hgd:=eE;clear hgd;refine aj [6,49,50,51] [(6,0),(6,1),(6,2)] ?_;(conv=>whnf);first|exact⟨rfl,_,[_],⟨1,by omega,by omega,rfl,rfl,⟨_,_,_,_,_,_,rfl,fB.sort hz rfl (az.ak (az.ak (az.ak (xs:=rZ zl) rfl _) _) _),⟨rfl,az.ak (az.ak (xs:=rZ _) rfl _) _⟩,⟨rfl,az.ak (az.ak (xs:=rZ _) rfl _) _⟩⟩,ct (c:=0) hall hz (nX.all (fI (z:=bI ((0:Nat):Int) (partsOf plies)) h eE))⟩,rfl,rfl,by omega⟩|exact⟨rfl,_,[_],⟨2,by omega,by omega,rfl,rfl,⟨_,_,_,_,_,_,rfl,⟨rfl,az.ak (az.ak (xs:=rZ _) rfl _) _⟩,fB.sort hz rfl (az.ak (az.ak (az.ak (xs:=rZ zl) rfl _) _) _),⟨rfl,az.ak (az.ak (xs:=rZ _) rfl _) _⟩⟩,ct (c:=1) hall hz (nX.all (fI (z:=bI ((1:Nat):Int) (partsOf plies)) h eE))⟩,rfl,rfl,by omega⟩|exact⟨rfl,_,[_],⟨3,by omega,by omega,rfl,rfl,⟨_,_,_,_,_,_,rfl,⟨rfl,az.ak (az.ak (xs:=rZ _) rfl _) _⟩,⟨rfl,az.ak (az.ak (xs:=rZ _) rfl _) _⟩,fB.sort hz rfl (az.ak (az.ak (az.ak (xs:=rZ zl) rfl _) _) _)⟩,ct (c:=2) hall hz (nX.all (fI (z:=bI ((2:Nat):Int) (partsOf plies)) h eE))⟩,rfl,rfl,by omega⟩)
  |(apply gn [6,18,19,20] [(6,0),(6,1),(6,2)] [20] (Og ZA plies) (plies.length) [iV .i64 0] (dP.trans (dP.fD 24 0 0 2 rfl rfl rfl) (dP.trans (dP.fD 24 1 0 2 rfl rfl rfl) (dP.fD 24 2 0 2 rfl rfl rfl)));(conv=>whnf);exact⟨rfl,rfl,rfl,rfl⟩;exact rfl;exact rfl;exact⟨0,by omega,rfl,rfl,⟨_,_,_,_,_,_,rfl,⟨rfl,rfl⟩,⟨rfl,rfl⟩,⟨rfl,rfl⟩⟩⟩;rintro _ _ _ ⟨i,hi,rfl,rfl,⟨k0,k1,k2,y0,y1,y2,rfl,p0,p1,p2⟩⟩)
  |(have hgd:=hj;clear hgd;refine aj [6,18,19,20] [(6,0),(6,1),(6,2)] ?_;(conv=>whnf);exact⟨rfl,_,[_],⟨i+1,by omega,rfl,by rw[bj (by omega) (by omega)];rfl,⟨_,_,_,_,_,_,rfl,p0.qk hs (by omega) _,p1.qk hs (by omega) _,p2.qk hs (by omega) _⟩⟩,rfl,rfl,by omega⟩))
 all_goals (conv=>whnf)
end Go.aS.Cd
end
section
namespace Go.aS.Cd
open Go Go.Proofs
set_option maxRecDepth 100000
set_option maxHeartbeats 4000000
def Zz (F:Nat→List Zn) (hq:HS):Prop:= ∃ (k0 k1 k2 k3:Nat) (y0 y1 y2 y3:List (List C)),hq=[(4, .row 1 [[.own 8 2 0 k0],[.own 12 2 0 k1],[.own 16 2 0 k2],[.own 20 2 0 k3]]),(8, .row 2 y0),(12, .row 2 y1),(16, .row 2 y2),(20, .row 2 y3)]∧fB k0 y0 (F 0)∧fB k1 y1 (F 1)∧fB k2 y2 (F 2)∧fB k3 y3 (F 3)
theorem Rq (hS:fL Tryz.prog 63 64) (e0 e1 e2 e3:List T) (ln wd rx ry:Int) (sizes places plies:Lz) (hy: ∀e,e∈plies→ ∃l q,e=[tI l, .av 4 q]∧BK q) (kT:plies.length≤1000000) (hB: ∀e,e∈plies→(nL 1 e).length≤1000) (hT: ∀i,(partsOf (plies.take i)).length≤100000) (ew: ∀e,e∈plies→ ∀q,q∈nL 1 e→0≤nI 0 q∧nI 0 q < 4):Tg 34 [mc ln wd rx ry sizes places plies,oL 7 [e0,e1,e2,e3]] (LY 4 (partsOf plies)):=by
 have hZ: ∀c:Int,(bI c (partsOf plies)).length≤100000:=fun c=>by have h1:=jI c (partsOf plies);have h2:=hT plies.length;rw[List.take_of_length_le (Nat.le_refl _)]at h2;omega
 refine aK ?_
 refine ae Tryz.func34 ?_
 repeat' (conv=>whnf
          first
  |(refine aA (fun h=>?_) (fun h=>?_))
  |(refine And.intro ⟨by simp,by simp,by simp,by simp⟩ ?_)
  |(have wK:=sV.2;have mQ:=sV.1;have ve:r1=0∨r1=1∨r1=2∨r1=3:=(by omega);clear mQ wK;rcases ve with rfl|rfl|rfl|rfl)
  |(have mQ:=AY;have A6:=h;simp at A6;have ve:k=0∨k=1∨k=2∨k=3:=(by omega);clear mQ A6;rcases ve with rfl|rfl|rfl|rfl)
  |(refine And.intro ⟨by simp,by simp⟩ ?_)
  |(refine au (xs:=plies) hy (by omega) (by omega) ?_;rintro _ ⟨l,ps,rfl,hq⟩ hs;have E8:=ew _ (List.mem_of_getElem? hs);have Ly:ps.length≤1000:=hB _ (List.mem_of_getElem? hs);have OO:=hT i)
  |(refine au (xs:=ps) hq (by omega) (by omega) ?_;rintro _ ⟨r1,f1,t1,a1,rfl⟩ bO;have sV:=E8 _ (List.mem_of_getElem? bO);simp only[nI,List.getElem?_cons_zero]at sV)
  |(have hb0:=p0.kP (B:=101000) (by omega);refine And.intro ⟨hb0.1.symm,by simp[aU];omega,by simp[maxLen];omega⟩ ?_)
  |(have oT:=p1.kP (B:=101000) (by omega);refine And.intro ⟨oT.1.symm,by simp[aU];omega,by simp[maxLen];omega⟩ ?_)
  |(have nw:=p2.kP (B:=101000) (by omega);refine And.intro ⟨nw.1.symm,by simp[aU];omega,by simp[maxLen];omega⟩ ?_)
  |(have OZ:=p3.kP (B:=101000) (by omega);refine And.intro ⟨OZ.1.symm,by simp[aU];omega,by simp[maxLen];omega⟩ ?_)
  |(have h6:=fH (z:=bI ((0:Nat):Int) (partsOf plies)) h eE;refine And.intro ⟨by omega,h⟩ ?_)
  |(have h6:=fH (z:=bI ((1:Nat):Int) (partsOf plies)) h eE;refine And.intro ⟨by omega,h⟩ ?_)
  |(have h6:=fH (z:=bI ((2:Nat):Int) (partsOf plies)) h eE;refine And.intro ⟨by omega,h⟩ ?_)
  |(have h6:=fH (z:=bI ((3:Nat):Int) (partsOf plies)) h eE;refine And.intro ⟨by omega,h⟩ ?_)
  |(have lV:IntKind.i64.wrap (i4 - 1)=i4 - 1:=bj (by omega) (by omega);generalize IntKind.i64.wrap (i4 - 1)=j1 at lV⊢;refine And.intro ⟨by omega,by omega⟩ ?_)
  |(refine And.intro (by kernel_rfl) ?_)
  |(refine eV [8] rfl (cS hS (bI ((0:Nat):Int) (partsOf plies)) (hZ _)) rfl (jF rfl (rfl:az _ (rZ (bI ((0:Nat):Int) (partsOf plies))))) ?_;rintro _ _ ⟨rfl,rfl⟩;obtain⟨zl,hz⟩: ∃zl,zl=cH (bI ((0:Nat):Int) (partsOf plies)):=⟨_,rfl⟩;rw[←hz];have jS:zl.length≤100000:=(by rw[hz,aO];exact hZ _);have eE:zl.length=(bI ((0:Nat):Int) (partsOf plies)).length:=(by rw[hz,aO]))
  |(refine eV [12] rfl (cS hS (bI ((1:Nat):Int) (partsOf plies)) (hZ _)) rfl (jF rfl (rfl:az _ (rZ (bI ((1:Nat):Int) (partsOf plies))))) ?_;rintro _ _ ⟨rfl,rfl⟩;obtain⟨zl,hz⟩: ∃zl,zl=cH (bI ((1:Nat):Int) (partsOf plies)):=⟨_,rfl⟩;rw[←hz];have jS:zl.length≤100000:=(by rw[hz,aO];exact hZ _);have eE:zl.length=(bI ((1:Nat):Int) (partsOf plies)).length:=(by rw[hz,aO]))
  |(refine eV [16] rfl (cS hS (bI ((2:Nat):Int) (partsOf plies)) (hZ _)) rfl (jF rfl (rfl:az _ (rZ (bI ((2:Nat):Int) (partsOf plies))))) ?_;rintro _ _ ⟨rfl,rfl⟩;obtain⟨zl,hz⟩: ∃zl,zl=cH (bI ((2:Nat):Int) (partsOf plies)):=⟨_,rfl⟩;rw[←hz];have jS:zl.length≤100000:=(by rw[hz,aO];exact hZ _);have eE:zl.length=(bI ((2:Nat):Int) (partsOf plies)).length:=(by rw[hz,aO]))
  |(refine eV [20] rfl (cS hS (bI ((3:Nat):Int) (partsOf plies)) (hZ _)) rfl (jF rfl (rfl:az _ (rZ (bI ((3:Nat):Int) (partsOf plies))))) ?_;rintro _ _ ⟨rfl,rfl⟩;obtain⟨zl,hz⟩: ∃zl,zl=cH (bI ((3:Nat):Int) (partsOf plies)):=⟨_,rfl⟩;rw[←hz];have jS:zl.length≤100000:=(by rw[hz,aO];exact hZ _);have eE:zl.length=(bI ((3:Nat):Int) (partsOf plies)).length:=(by rw[hz,aO]))
  |(refine cv (xs:=rZ zl) (az.ak (az.ak (xs:=rZ zl) rfl _) _) (xw zl) (by rw[cP];omega) ?_;first|(rintro _ ⟨a6,b6,rfl⟩ kU;have:=lU)|rintro _ ⟨a5,b5,rfl⟩ lU)
  |exact dA rfl (bP 1 rfl) (bX rfl) ⟨_,by rw[cR (r:=0) (by omega) hz (cj hi4 lV kU lU (by omega))]⟩
  |exact dA rfl (bP 1 rfl) (bX rfl) ⟨_,by rw[cR (r:=1) (by omega) hz (cj hi4 lV kU lU (by omega))]⟩
  |exact dA rfl (bP 1 rfl) (bX rfl) ⟨_,by rw[cR (r:=2) (by omega) hz (cj hi4 lV kU lU (by omega))]⟩
  |exact dA rfl (bP 1 rfl) (bX rfl) ⟨_,by rw[cR (r:=3) (by omega) hz (cj hi4 lV kU lU (by omega))]⟩
  |(have h7:((4:Nat):Int)≤k:=(by simp at h;omega);exact dA rfl (oD [(8,_,_),(12,_,_),(16,_,_),(20,_,_)] rfl rfl rfl rfl ⟨⟨_,rfl,rfl,(cP _).symm⟩,⟨_,rfl,rfl,(cP _).symm⟩,⟨_,rfl,rfl,(cP _).symm⟩,⟨_,rfl,rfl,(cP _).symm⟩,trivial⟩) (bX rfl) ⟨_,by rw[jl h7 hall]⟩)
  |(have hgd:=eE;clear hgd;apply aL [6,12,13,49,50,51] [(6,0),(6,1),(6,2),(6,3)] [13] (O8 zl) (zl.length) [iV .i64 1];(conv=>whnf);exact⟨rfl,rfl,rfl,rfl⟩;exact rfl;exact rfl;exact⟨1,by omega,by omega,by omega,rfl,qi.one zl⟩;rintro _ _ ⟨i4,hi4,Tf,rfl,rfl,nX⟩)
  |(have hgd:=h6;clear hgd;refine aj [6,12,13,49,50,51] [(6,0),(6,1),(6,2),(6,3)] ?_;(conv=>whnf);exact⟨rfl,_,[_],⟨i4+1,by omega,by omega,rfl,by rw[bj (by omega) (by omega)],nX.next hi4 lV kU lU (by omega)⟩,rfl,(by simp only[eJ]<;>rfl),rfl,by omega⟩)
  |(have hgd:=hs;clear hgd;apply bW [6,18,19,20,25,26,27] [(6,0),(6,1),(6,2),(6,3)] [27] (Of Zz (partsOf (plies.take i)) ps) (ps.length) [iV .i64 0];(conv=>whnf);exact⟨rfl,rfl,rfl,rfl⟩;exact rfl;exact rfl;exact⟨0,by omega,rfl,rfl,⟨_,_,_,_,_,_,_,_,rfl,p0.nil _,p1.nil _,p2.nil _,p3.nil _⟩⟩;rintro _ _ _ ⟨j,hj,rfl,rfl,⟨k0,k1,k2,k3,y0,y1,y2,y3,rfl,p0,p1,p2,p3⟩⟩)
  |(have hgd:=bO;clear hgd;refine aj [6,18,19,20,25,26,27] [(6,0),(6,1),(6,2),(6,3)] ?_;(conv=>whnf);first|exact⟨rfl,_,[_],⟨j+1,by omega,rfl,by rw[bj (by omega) (by omega)];rfl,⟨_,_,_,_,_,_,_,_,rfl,p0.hit bO (by simp) _,p1.eU bO (by decide) _,p2.eU bO (by decide) _,p3.eU bO (by decide) _⟩⟩,rfl,rfl,by omega⟩|exact⟨rfl,_,[_],⟨j+1,by omega,rfl,by rw[bj (by omega) (by omega)];rfl,⟨_,_,_,_,_,_,_,_,rfl,p0.eU bO (by decide) _,p1.hit bO (by simp) _,p2.eU bO (by decide) _,p3.eU bO (by decide) _⟩⟩,rfl,rfl,by omega⟩|exact⟨rfl,_,[_],⟨j+1,by omega,rfl,by rw[bj (by omega) (by omega)];rfl,⟨_,_,_,_,_,_,_,_,rfl,p0.eU bO (by decide) _,p1.eU bO (by decide) _,p2.hit bO (by simp) _,p3.eU bO (by decide) _⟩⟩,rfl,rfl,by omega⟩|exact⟨rfl,_,[_],⟨j+1,by omega,rfl,by rw[bj (by omega) (by omega)];rfl,⟨_,_,_,_,_,_,_,_,rfl,p0.eU bO (by decide) _,p1.eU bO (by decide) _,p2.eU bO (by decide) _,p3.hit bO (by simp) _⟩⟩,rfl,rfl,by omega⟩)
  |(have hgd:=hi;clear hgd;apply bW [6,49,50,51] [(6,0),(6,1),(6,2),(6,3)] [51] (Oe Zz 4 (fun r=>bI (r:Int) (partsOf plies))) (4) [iV .i64 0];(conv=>whnf);exact⟨rfl,rfl,rfl,rfl⟩;exact rfl;exact rfl;exact⟨0,by omega,by omega,rfl,rfl,⟨_,_,_,_,_,_,_,_,rfl,p0.all (by omega) _,p1.all (by omega) _,p2.all (by omega) _,p3.all (by omega) _⟩,fun r hr=>by omega⟩;rintro _ _ _ ⟨k,AY,fC,rfl,rfl,⟨_,_,_,_,_,_,_,_,rfl,⟨rfl,rfl⟩,⟨rfl,rfl⟩,⟨rfl,rfl⟩,⟨rfl,rfl⟩⟩,hall⟩)
  |(have hgd:=eE;clear hgd;refine aj [6,49,50,51] [(6,0),(6,1),(6,2),(6,3)] ?_;(conv=>whnf);first|exact⟨rfl,_,[_],⟨1,by omega,by omega,rfl,rfl,⟨_,_,_,_,_,_,_,_,rfl,fB.sort hz rfl (az.ak (az.ak (az.ak (xs:=rZ zl) rfl _) _) _),⟨rfl,az.ak (az.ak (xs:=rZ _) rfl _) _⟩,⟨rfl,az.ak (az.ak (xs:=rZ _) rfl _) _⟩,⟨rfl,az.ak (az.ak (xs:=rZ _) rfl _) _⟩⟩,ct (c:=0) hall hz (nX.all (fI (z:=bI ((0:Nat):Int) (partsOf plies)) h eE))⟩,rfl,rfl,by omega⟩|exact⟨rfl,_,[_],⟨2,by omega,by omega,rfl,rfl,⟨_,_,_,_,_,_,_,_,rfl,⟨rfl,az.ak (az.ak (xs:=rZ _) rfl _) _⟩,fB.sort hz rfl (az.ak (az.ak (az.ak (xs:=rZ zl) rfl _) _) _),⟨rfl,az.ak (az.ak (xs:=rZ _) rfl _) _⟩,⟨rfl,az.ak (az.ak (xs:=rZ _) rfl _) _⟩⟩,ct (c:=1) hall hz (nX.all (fI (z:=bI ((1:Nat):Int) (partsOf plies)) h eE))⟩,rfl,rfl,by omega⟩|exact⟨rfl,_,[_],⟨3,by omega,by omega,rfl,rfl,⟨_,_,_,_,_,_,_,_,rfl,⟨rfl,az.ak (az.ak (xs:=rZ _) rfl _) _⟩,⟨rfl,az.ak (az.ak (xs:=rZ _) rfl _) _⟩,fB.sort hz rfl (az.ak (az.ak (az.ak (xs:=rZ zl) rfl _) _) _),⟨rfl,az.ak (az.ak (xs:=rZ _) rfl _) _⟩⟩,ct (c:=2) hall hz (nX.all (fI (z:=bI ((2:Nat):Int) (partsOf plies)) h eE))⟩,rfl,rfl,by omega⟩|exact⟨rfl,_,[_],⟨4,by omega,by omega,rfl,rfl,⟨_,_,_,_,_,_,_,_,rfl,⟨rfl,az.ak (az.ak (xs:=rZ _) rfl _) _⟩,⟨rfl,az.ak (az.ak (xs:=rZ _) rfl _) _⟩,⟨rfl,az.ak (az.ak (xs:=rZ _) rfl _) _⟩,fB.sort hz rfl (az.ak (az.ak (az.ak (xs:=rZ zl) rfl _) _) _)⟩,ct (c:=3) hall hz (nX.all (fI (z:=bI ((3:Nat):Int) (partsOf plies)) h eE))⟩,rfl,rfl,by omega⟩)
  |(apply gn [6,18,19,20] [(6,0),(6,1),(6,2),(6,3)] [20] (Og Zz plies) (plies.length) [iV .i64 0] (dP.trans (dP.fD 24 0 0 2 rfl rfl rfl) (dP.trans (dP.fD 24 1 0 2 rfl rfl rfl) (dP.trans (dP.fD 24 2 0 2 rfl rfl rfl) (dP.fD 24 3 0 2 rfl rfl rfl))));(conv=>whnf);exact⟨rfl,rfl,rfl,rfl⟩;exact rfl;exact rfl;exact⟨0,by omega,rfl,rfl,⟨_,_,_,_,_,_,_,_,rfl,⟨rfl,rfl⟩,⟨rfl,rfl⟩,⟨rfl,rfl⟩,⟨rfl,rfl⟩⟩⟩;rintro _ _ _ ⟨i,hi,rfl,rfl,⟨k0,k1,k2,k3,y0,y1,y2,y3,rfl,p0,p1,p2,p3⟩⟩)
  |(have hgd:=hj;clear hgd;refine aj [6,18,19,20] [(6,0),(6,1),(6,2),(6,3)] ?_;(conv=>whnf);exact⟨rfl,_,[_],⟨i+1,by omega,rfl,by rw[bj (by omega) (by omega)];rfl,⟨_,_,_,_,_,_,_,_,rfl,p0.qk hs (by omega) _,p1.qk hs (by omega) _,p2.qk hs (by omega) _,p3.qk hs (by omega) _⟩⟩,rfl,rfl,by omega⟩))
 all_goals (conv=>whnf)
end Go.aS.Cd
end
