import Derived.Test.YtcaeamnhfodfoaaGreatEC
set_option linter.all false
section
namespace Go.aT.Cd
open Go Go.Proofs
set_option maxRecDepth 100000
set_option maxHeartbeats 1000000
theorem Hw (x r:Nat) (hr:FloatKind.f64.format.sqrt x=some r): ∃ts,Fn Tryz.prog 209 [oF x] [] (aL ts) []∧(aL ts).bL=true∧(fun ts=>ts=[oF r]) ts:=by
 refine aJ ?_
 refine ah Tryz.func209 ?_
 repeat' (conv=>whnf
          first
  |(refine P3 rfl hr ?_)
  |exact oP rfl (bS rfl) rfl)
 all_goals (conv=>whnf)
theorem El {r n:Int} (h0:0≤r) (h1:r≤4294967296) (hn:0≤n) (h:IntKind.i64.wrap (r * r) > n):1≤r:=by
 rcases Int.lt_or_le 0 r with hr|hr
 · omega
 · have:r=0:=by omega
   subst this
   rw[bh (by omega) (by omega)]at h
   omega
theorem Ek {r n:Int} (h0:0≤r) (h1:r≤1073741824) (hn:n≤1125899906842624) (h:IntKind.i64.wrap (IntKind.i64.wrap (r+1) * IntKind.i64.wrap (r+1))≤n):r+1≤33554432:=by
 rw[bh (n:=r+1) (by omega) (by omega)]at h
 have hb:=JB (k:=r+1) (s:=r+1) (B:=1073741825) (C:=1073741825) (by omega) (by omega) (by omega) (by omega) (by omega)
 rw[bh (by omega) (by omega)]at h
 apply Int.not_lt.1
 intro hlt
 have h3:(33554433:Int) * 33554433≤(r+1) * (r+1):=Int.mul_le_mul (by omega) (by omega) (by omega) (by omega)
 omega
theorem Jj {r n:Int} (h0:0≤r) (hn:1≤n) (h:¬IntKind.i64.wrap (IntKind.i64.wrap (r+1) * IntKind.i64.wrap (r+1))≤n):1≤r:=by
 rcases Int.lt_or_le 0 r with hr|hr
 · omega
 · have:r=0:=by omega
   subst this
   exfalso
   apply h
   have e:IntKind.i64.wrap (IntKind.i64.wrap (0+1) * IntKind.i64.wrap (0+1))=1:=by decide
   rw[e];exact hn
theorem xW (n:Int) (h0:0≤n) (h1:n≤1125899906842624):Tg 187 [oI n] (kZ (fun r=>(0≤r∧r≤1073741824)∧(1≤n→1≤r))):=by
 obtain⟨sq,hsq,Xx⟩:=G0 (n:=n.natAbs) (by rw[show(2:Nat) ^ 53=9007199254740992 by decide];omega)
 obtain⟨r0,hr,td,kC⟩:=JO Xx
 have hneg:decide (n < 0)=false:=by simp;omega
 have aeT:FloatKind.f64.format.sqrt (FloatKind.f64.nearest n)=some sq:=by(unfold FloatKind.nearest;rw[hneg];exact hsq)
 refine ah Tryz.func187 ?_
 repeat' (conv=>whnf
          first
  |(refine au (fun h=>?_) (fun h=>?_))
  |(refine VH rfl ?_)
  |(have fS:=El Zs (by omega) h0 h;clear h)
  |(have MR:=Ek hrc hrd h1 h;clear h)
  |(refine ai rfl (Hw _ sq aeT) ?_;rintro _ rfl)
  |(refine VI rfl hr td (by omega) ?_)
  |exact gi rfl rfl ⟨⟨hrc,hrd⟩,fun hn=>Jj hrc hn h⟩
  |(apply aM [0,3] [] [3] (fun m vs=> ∃r:Int,0≤r∧r≤1073741824∧m=(1073741824 - r).toNat∧vs=[iV .i64 r]) ((1073741824 - r).toNat) [iV .i64 r];(conv=>whnf);exact⟨rfl,rfl,rfl,rfl⟩;exact rfl;exact rfl;exact⟨r,Zs,hrb,rfl,rfl⟩;rintro _ _ ⟨r2,hrc,hrd,rfl,rfl⟩)
  |(refine ak [0,3] [] ?_;(conv=>whnf);exact⟨rfl,_,[_],⟨r2+1,by omega,by omega,rfl,by rw[bh (by omega) (by omega)]⟩,rfl,rfl,rfl,by omega⟩)
  |(apply aM [0,3] [] [3] (fun m vs=> ∃r:Int,0≤r∧r≤1073741824∧m=r.toNat∧vs=[iV .i64 r]) (r0.toNat) [iV .i64 r0];(conv=>whnf);exact⟨rfl,rfl,rfl,rfl⟩;exact rfl;exact rfl;exact⟨r0,td,kC,rfl,rfl⟩;rintro _ _ ⟨r,Zs,hrb,rfl,rfl⟩)
  |(refine ak [0,3] [] ?_;(conv=>whnf);exact⟨rfl,_,[_],⟨r - 1,by omega,by omega,rfl,by rw[bh (by omega) (by omega)]⟩,rfl,rfl,rfl,by omega⟩))
 all_goals (conv=>whnf)
end Go.aT.Cd
end
section
namespace Go.aT.Cd
open Go Go.Proofs
set_option maxRecDepth 100000
set_option maxHeartbeats 1000000
def Wd (e:List T):Prop:= ∃w,e=[tI w]∧0≤w∧w≤500
abbrev NF (xs:Lz):Prop:= ∀e,e∈xs→Wd e
theorem NF.snoc {xs:Lz} (h:NF xs) {w:Int} (h0:0≤w) (h1:w≤500):NF (xs++[[tI w]]):=by
 intro e he
 simp only[List.mem_append,List.mem_singleton]at he
 rcases he with he|rfl
 · exact h e he
 · exact⟨w,rfl,h0,h1⟩
def Z0 (es:Lz) (m:Nat) (ws:List V) (xss:List (Lz)):Prop:= ∃ (i:Nat) (zs:Lz),i≤es.length∧m=es.length - i∧ws=[bD 4 1 zs.length,iV .i64 (i:Int)]∧xss=[zs]∧zs.length=iJ (es.take i)∧NF zs
def Z1 (N L:Nat) (m:Nat) (ws:List V) (xss:List (Lz)):Prop:= ∃ (j:Nat) (zs:Lz),j≤L∧m=L - j∧ws=[bD 4 1 zs.length,iV .i64 (j:Int)]∧xss=[zs]∧zs.length=N+j∧NF zs
theorem V0 {xs:Lz} {j:Nat} (hL:eS xs) (hj:(j:Int) < IntKind.i64.wrap ((xs.length:Int) - 1)):j < xs.length - 1:=by
 have a:=hL.1
 have b:=hL.2.1
 rw[bh (by omega) (by omega)]at hj
 omega
theorem Z1.next {N L j k:Nat} {zs:Lz} {w:Int} {xs:Lz} (hL:eS xs) (hl:L=xs.length - 1) (hj:j < xs.length - 1) (hz:zs.length=N+j) (hW:NF zs) (h0:0≤w) (h1:w≤500) (hk:k=zs.length+1):Z1 N L (L - (j+1)) [bD 4 1 k,iV .i64 (IntKind.i64.wrap ((j:Int)+1))] [zs++[[tI w]]]:=by
 have a:=hL.1
 have b:=hL.2.1
 exact⟨j+1,_,by omega,rfl,by rw[bh (by omega) (by omega),hk];simp,rfl,by simp;omega,hW.snoc h0 h1⟩
theorem Z0.next {es zs xs:Lz} {i j:Nat} {s:ByteArray} (hi:(i:Int) < (es.length:Int)) (he:es.length≤16) (hs:es[((i:Int)).toNat]? =some [.val (.string s), .aB 2 xs]) (hL:eS xs) (hz:zs.length=iJ (es.take i)+j) (hW:NF zs) (hj:j≤xs.length - 1) (hx:¬ (j:Int) < IntKind.i64.wrap ((xs.length:Int) - 1)):Z0 es (es.length - (i+1)) [bD 4 1 zs.length,iV .i64 (IntKind.i64.wrap ((i:Int)+1))] [zs]:=by
 have a:=hL.1
 have b:=hL.2.1
 rw[bh (n:=(xs.length:Int) - 1) (by omega) (by omega)]at hx
 refine⟨i+1,zs,by omega,rfl,by rw[bh (by omega) (by omega)];rfl,rfl,?_,hW⟩
 rw[zI (by simpa using hs)]
 simp only[ln]
 omega
theorem ic (es ws:Lz) (he: ∀e,e∈es→DK e) (hl:es.length≤16) (hw:NF ws) (yg:ws.length=es.length):Tg 166 [oL 2 es,oL 1 ws] (GL 1 (fun zs=>zs.length=iJ es∧NF zs)):=by
 refine aJ ?_
 refine ah Tryz.func166 ?_
 repeat' (conv=>whnf
          first
  |(refine au (fun h=>?_) (fun h=>?_))
  |(refine aq he (by omega) (by omega) ?_;rintro _ ⟨s,xs,rfl,hL⟩ hs)
  |(have RN:=V0 hL h;clear h)
  |(refine aq hw (by omega) (by omega) ?_;rintro _ ⟨w,rfl,LH,HK⟩ hsw)
  |(refine And.intro ⟨by simp[tr],by have:=sY he i hl;have:=hL.2.1;simp[tr,aW];omega,by have:=sY he i hl;have:=hL.2.1;simp[tr,maxLen];omega⟩ ?_)
  |exact oP rfl (fz rfl rfl (xs:=zs) rfl (by omega)) ⟨_,rfl,by rw[Gz];exact⟨by rw[List.take_of_length_le (by omega)]at hz;exact hz,hW⟩⟩
  |(apply bp [1,5,6,8,9,10,18,19] [] [5,19] [(4,1)] (Z1 (iJ (es.take i)) (xs.length - 1)) (xs.length - 1) [bD 4 1 zs.length,iV .i64 0];(conv=>whnf);exact⟨rfl,rfl,rfl,rfl⟩;exact rfl;exact rfl;exact .cons (az.av (xs:=zs) rfl _) .nil;exact⟨0,zs,by omega,rfl,rfl,rfl,by omega,hW⟩;rintro _ _ _ ⟨j,Ob,hj,rfl,rfl,rfl,EG,hW2⟩)
  |(refine ak [1,5,6,8,9,10,18,19] [] ?_;(conv=>whnf);exact⟨rfl,_,[_,_],_, .cons (az.av (az.snoc (xs:=Ob) rfl [tI _]) _) .nil,Z1.next hL rfl RN EG hW2 LH HK (by simp[tr]),rfl,rfl,by omega⟩)
  |(apply dQ [1,5,8,9,10] [] [5,10] [(4,1)] (Z0 es) (es.length) [bD 4 1 0,iV .i64 0] (dK.jq 5 1 rfl);(conv=>whnf);exact⟨rfl,rfl,rfl,rfl⟩;exact rfl;exact rfl;exact .cons (az.av az.nil _) .nil;exact⟨0,[],by omega,rfl,rfl,rfl,by simp[iJ],(fun e he=>by simp at he)⟩;rintro _ _ _ ⟨i,zs,hi,rfl,rfl,rfl,hz,hW⟩)
  |(refine ak [1,5,8,9,10] [] ?_;(conv=>whnf);exact⟨rfl,_,[_,_],_, .cons (az.av (xs:=Ob) rfl _) .nil,Z0.next (by omega) hl hs hL EG hW2 hj h,rfl,rfl,by omega⟩))
 all_goals (conv=>whnf)
theorem Lv (a b:Int):Tg 65 [oI a,oI b] (kZ (fun n=> -1≤n∧n≤1)):=by
 refine ah Tryz.func65 ?_
 repeat' (conv=>whnf
          first
  |(refine au (fun h=>?_) (fun h=>?_))
  |(refine aF (fun h=>?_) (fun h=>?_))
  |(refine ai rfl (EF _) ?_;rintro _ ⟨c,rfl,hc⟩)
  |(refine gi rfl rfl ?_;omega))
 all_goals (conv=>whnf)
theorem fq (xs:Lz) (hx:bG xs) (hl:xs.length≤1000000):Tg 170 [oL 2 xs] (kZ (fun n=> -1≤n∧n≤1)):=by
 refine ah Tryz.func170 ?_
 repeat' (conv=>whnf
          first
  |(refine ai rfl (yC xs hx hl) ?_;rintro _ ⟨n,rfl⟩)
  |(refine ai rfl (Lv _ _) ?_;rintro _ ⟨c,rfl,hc⟩)
  |exact gi rfl rfl hc)
 all_goals (conv=>whnf)
theorem vG (s:Sp):Tg 190 [eo s] (T9 2):=by
 refine aJ ?_
 refine ah Tryz.func190 ?_
 repeat' (conv=>whnf
          first
  |(refine ai rfl (Jq _ _) ?_;rintro _ ⟨b,xs,ds,c,ys,es,rfl,h1,h2⟩)
  |exact oP rfl (bE PJ Od rfl rfl (Nat.le_refl _) rfl (cS.refl _)) ⟨_,xs,ds,_,ys,es,rfl,h1,h2⟩)
 all_goals (conv=>whnf)
end Go.aT.Cd
end
section
namespace Go.aT.Cd
open Go Go.Proofs
set_option maxRecDepth 100000
set_option maxHeartbeats 1000000
def NT (ws:Lz) (i:Nat):Prop:= ∀j e,j < i→ws[j]? =some e→Wd e
theorem NT.all {ws:Lz} {i:Nat} (h:NT ws i) (hi:ws.length≤i): ∀e,e∈ws→Wd e:=by
 intro e he
 obtain⟨j,hj,rfl⟩:=List.getElem_of_mem he
 exact h j _ (by omega) (by simp[hj])
def ZV (ws:Lz) (m:Nat) (vs:List V):Prop:= ∃i:Nat,i≤ws.length∧NT ws i∧m=ws.length - i∧vs=[iV .i64 (i:Int)]
theorem ZV.next {ws:Lz} {i:Nat} {w:Int} (hi:(i:Int) < (ws.length:Int)) (hl:ws.length≤maxLen) (h:NT ws i) (hs:ws[((i:Int)).toNat]? =some [tI w]) (h0:0≤w) (h1:w≤500):ZV ws (ws.length - (i+1)) [iV .i64 (IntKind.i64.wrap ((i:Int)+1))]:=by
 refine⟨i+1,by omega,fun j e hj he=>?_,rfl,by simp only[maxLen]at hl;rw[bh (by omega) (by omega)];rfl⟩
 by_cases fT:j=i
 · subst fT
   have hs':ws[j]? =some [tI w]:=by simpa using hs
   rw[hs']at he
   exact⟨w,(Option.some.inj he).symm,h0,h1⟩
 · exact h j e (by omega) he
theorem kS {es vs:Lz} (h:vs=ir es∧uQ es):bG vs∧(3≤vs.length∧vs.length≤40)∧GQ vs vs.length∧(∀e,e∈vs→IK e)∧vs.length=iJ es:=by
 obtain⟨rfl,h1,h2,⟨⟨h3,h4,h5⟩,h6⟩,h7⟩:=h
 exact⟨fun e he=>by obtain⟨a,b,r,_⟩:=h5 e he;exact⟨a,b,r⟩,⟨h3,h4⟩,h6,h5,h7⟩
theorem CE {xs:Lz} {i j:Nat} {e:List T} (hi:xs[i]? =some e) (hij:i < j):e∈xs.take j:=
 List.mem_of_getElem? (i:=i) (by rw[List.getElem?_take,if_pos hij];exact hi)
theorem Sx {xs:Lz} (h:GQ xs xs.length) {i j:Nat} {e e':List T} (hi:xs[i]? =some e) (hj:xs[j]? =some e') (hij:i≠j):e≠e':=by
 rintro rfl
 have DU:=(List.getElem?_eq_some_iff.1 hi).1
 have DT:=(List.getElem?_eq_some_iff.1 hj).1
 rcases Nat.lt_or_gt_of_ne hij with hlt|hlt
 · exact h j e DT hj (CE hi hlt)
 · exact h i e DU hi (CE hj hlt)
theorem Wx {i N:Nat} (hi:(i:Int) < (N:Int)) (hN:2≤N) (hb:N≤1000000):((i:Int)).toNat≠ ((IntKind.i64.wrap ((i:Int)+1)).tmod (N:Int)).toNat:=by
 rw[bh (by omega) (by omega)]
 by_cases h:(i:Int)+1 < (N:Int)
 · rw[Int.tmod_eq_of_lt (by omega) h];omega
 · have e:(i:Int)+1=(N:Int):=by omega
   rw[e,Int.tmod_self];omega
theorem Ox {vs:Lz} {i:Nat} {a b c d:Int} (h:GQ vs vs.length) (hi:(i:Int) < (vs.length:Int)) (hN:3≤vs.length∧vs.length≤40) (h1:vs[((i:Int)).toNat]? =some [tI a,tI b]) (h2:vs[((IntKind.i64.wrap ((i:Int)+1)).tmod (vs.length:Int)).toNat]? =some [tI c,tI d]):a≠c∨b≠d:=by
 have:=Sx h h1 h2 (Wx hi (by omega) (by omega))
 by_cases hac:a=c
 · by_cases hbd:b=d
   · subst hac;subst hbd;exact absurd rfl this
   · exact .inr hbd
 · exact .inl hac
theorem sqr {x:Int} (h1: -2097152≤x) (h2:x≤2097152):0≤x * x∧x * x≤4398046511104∧(x≠0→1≤x * x):=by
 have:=Hv (m:=x) (s:=x) (B:=2097152) (C:=2097152) h1 h2 h1 h2 (by omega)
 have e:((x.natAbs * x.natAbs:Nat):Int)=x * x:=Int.natAbs_mul_self
 refine⟨by omega,by omega,fun hx=>?_⟩
 have:0 < x.natAbs * x.natAbs:=Nat.mul_pos (by omega) (by omega)
 omega
theorem FJ {a b c d:Int} (h1:gJ (a,b)) (h2:gJ (c,d)):0≤IntKind.i64.wrap (IntKind.i64.wrap (IntKind.i64.wrap (c - a) * IntKind.i64.wrap (c - a))+IntKind.i64.wrap (IntKind.i64.wrap (d - b) * IntKind.i64.wrap (d - b)))∧
 IntKind.i64.wrap (IntKind.i64.wrap (IntKind.i64.wrap (c - a) * IntKind.i64.wrap (c - a))+IntKind.i64.wrap (IntKind.i64.wrap (d - b) * IntKind.i64.wrap (d - b)))≤1125899906842624∧
 (a≠c∨b≠d→1≤IntKind.i64.wrap (IntKind.i64.wrap (IntKind.i64.wrap (c - a) * IntKind.i64.wrap (c - a))+IntKind.i64.wrap (IntKind.i64.wrap (d - b) * IntKind.i64.wrap (d - b)))):=by
 obtain⟨⟨a1,a2⟩,b1,b2⟩:=h1
 obtain⟨⟨c1,c2⟩,d1,d2⟩:=h2
 simp only at a1 a2 b1 b2 c1 c2 d1 d2
 rw[bh (n:=c - a) (by omega) (by omega),bh (n:=d - b) (by omega) (by omega)]
 have e1:=sqr (x:=c - a) (by omega) (by omega)
 have e2:=sqr (x:=d - b) (by omega) (by omega)
 rw[bh (n:=(c - a) * (c - a)) (by omega) (by omega),bh (n:=(d - b) * (d - b)) (by omega) (by omega),bh (by omega) (by omega)]
 refine⟨by omega,by omega,fun h=>?_⟩
 rcases h with h|h
 · have:=e1.2.2 (by omega);omega
 · have:=e2.2.2 (by omega);omega
theorem Og {a b c d s w:Int} (hs: -1≤s∧s≤1) (LH:0≤w) (HK:w≤500) (h1:gJ (a,b)) (h2:gJ (c,d)): -1000000000000000≤IntKind.i64.wrap (IntKind.i64.wrap (s * w) * IntKind.i64.wrap (d - b))∧
 -1000000000000000≤IntKind.i64.wrap (IntKind.i64.wrap (0 - IntKind.i64.wrap (s * w)) * IntKind.i64.wrap (c - a)):=by
 obtain⟨⟨a1,a2⟩,b1,b2⟩:=h1
 obtain⟨⟨c1,c2⟩,d1,d2⟩:=h2
 simp only at a1 a2 b1 b2 c1 c2 d1 d2
 have e:=Hv (m:=s) (s:=w) (B:=500) (C:=1) hs.1 hs.2 (by omega) HK (by omega)
 rw[bh (n:=c - a) (by omega) (by omega),bh (n:=d - b) (by omega) (by omega),bh (n:=s * w) (by omega) (by omega),bh (n:=0 - s * w) (by omega) (by omega)]
 have e1:=Hv (m:=s * w) (s:=d - b) (B:=2097152) (C:=500) (by omega) (by omega) (by omega) (by omega) (by omega)
 have e2:=Hv (m:=0 - s * w) (s:=c - a) (B:=2097152) (C:=500) (by omega) (by omega) (by omega) (by omega) (by omega)
 rw[bh (by omega) (by omega),bh (by omega) (by omega)]
 omega
theorem bG.set {xs:Lz} (h:bG xs) (j:Nat) (a b:Int):bG (xs.set j [tI a,tI b]):=by
 intro e he
 rcases List.mem_or_eq_of_mem_set he with he|rfl
 · exact h e he
 · exact⟨a,b,rfl⟩
theorem bG.QG (n:Nat):bG (List.replicate n [tI 0,tI 0]):=by
 intro e he
 obtain⟨_,rfl⟩:=List.mem_replicate.1 he
 exact⟨0,0,rfl⟩
theorem bG.snoc {xs:Lz} (h:bG xs) (a b:Int):bG (xs++[[tI a,tI b]]):=by
 intro e he
 simp only[List.mem_append,List.mem_singleton]at he
 rcases he with he|rfl
 · exact h e he
 · exact⟨a,b,rfl⟩
theorem fG {zs:Lz} {n:Nat} (h:n=zs.length):(zs.drop 0).take n=zs:=by subst h;simp
def Z3 (N:Nat) (m:Nat) (vs:List V) (xss:List (Lz)):Prop:= ∃ (i:Nat) (zs:Lz),i≤N∧m=N - i∧vs=[iV .i64 (i:Int)]∧xss=[zs]∧zs.length=N∧bG zs
theorem Z3.next {N i j:Nat} {zs:Lz} {a b:Int} (h:(i:Int) < (N:Int)) (hN:N≤1000000) (hl:zs.length=N) (hU:bG zs):Z3 N (N - (i+1)) [iV .i64 (IntKind.i64.wrap ((i:Int)+1))] [zs.set j [tI a,tI b]]:=
 ⟨i+1,_,by omega,rfl,by rw[bh (by omega) (by omega)];rfl,rfl,by simp[hl],hU.set j a b⟩
theorem tO (es ws:Lz) (he:j7 es) (hm:es.length≤maxLen) (hw:Is ws) (yg:ws.length≤maxLen):Tg 164 [oL 2 es,oL 1 ws] (N2 2 (fun ss=>(bG ss∧ss.length=iJ es)∧uQ es∧(∀e,e∈ws→Wd e)∧ws.length=es.length)):=by
 refine aJ ?_
 refine ah Tryz.func164 ?_
 repeat' (conv=>whnf
          first
  |(refine au (fun h=>?_) (fun h=>?_))
  |(refine ca (fun h=>?_) (fun h=>?_))
  |(refine aq (xs:=vs) (n:=(i:Int)) (kS (hP (by omega))).2.2.2.1 (by omega) (by omega) ?_;rintro _ ⟨a,b,rfl,TR⟩ hs1)
  |(refine aq (xs:=vs) (kS (hP (by omega))).2.2.2.1 (bF (by have:=(kS (hP (by omega))).2.1;rw[bh (by omega) (by omega)];omega)) (bq (by have:=(kS (hP (by omega))).2.1;omega)) ?_;rintro _ ⟨c,d,rfl,TQ⟩ bW)
  |(refine aq (xs:=ws) hw (by omega) (by omega) ?_;rintro _ ⟨w,rfl⟩ hs)
  |(refine aq (xs:=ys) hyW (by omega) (by have:=(kS (hP (by omega))).2.2.2.2;omega) ?_;rintro _ ⟨w2,rfl,LH,HK⟩ hsw)
  |(refine And.intro ⟨by omega,by omega,by have:=(kS (hP (by omega))).2.1;omega,by have:=(kS (hP (by omega))).2.1;omega⟩ ?_)
  |(refine And.intro (show((vs.length:Nat):Int)≠0 by have:=(kS (hP (by omega))).2.1;omega) ?_)
  |(refine And.intro ⟨by omega,by omega⟩ ?_)
  |(refine And.intro (by kernel_rfl) ?_)
  |(refine ai rfl (mT es he hm) ?_;rintro _ ⟨vs,e,rfl,hP⟩)
  |(refine ai rfl (fq vs (kS (hP (by omega))).1 (by have:=(kS (hP (by omega))).2.1;omega)) ?_;rintro _ ⟨sg,rfl,Xo⟩)
  |(refine ai rfl (ic es ws (hP (by omega)).2.2.1 (hP (by omega)).2.1.2 (hp.all (by omega)) (by omega)) ?_;rintro _ ⟨ys,rfl,j8,hyW⟩)
  |(refine bJ (xs:=zs) rfl hU (by omega) ?_;rintro _ ⟨x,y,rfl⟩ CU)
  |(refine ai rfl (xW _ (FJ TR TQ).1 (FJ TR TQ).2.1) ?_;rintro _ ⟨r,rfl,hr,kC⟩)
  |(refine ai rfl (kM _ _ (Og Xo LH HK TR TQ).1 (by have:=kC ((FJ TR TQ).2.2 (Ox (kS (hP (by omega))).2.2.1 (by omega) (kS (hP (by omega))).2.1 hs1 bW));omega) (by omega)) ?_;rintro _ ⟨n,rfl⟩)
  |(refine ai rfl (kM _ _ (Og Xo LH HK TR TQ).2 (by have:=kC ((FJ TR TQ).2.2 (Ox (kS (hP (by omega))).2.2.1 (by omega) (kS (hP (by omega))).2.1 hs1 bW));omega) (by omega)) ?_;rintro _ ⟨n,rfl⟩)
  |exact dg rfl (bR 2 rfl) (bS rfl) ⟨_,_,rfl,fun h0=>absurd h0 (by omega)⟩
  |exact dg rfl (fz rfl rfl (xs:=zs) rfl (by omega)) (bS rfl) ⟨_,_,rfl,fun _=>by rw[fG (by omega)];exact⟨⟨hU,by have:=(kS (hP (by omega))).2.2.2.2;omega⟩,(hP (by omega)).2,hp.all (by omega),by omega⟩⟩
  |(apply bp [6,10,11,12,54,55,56] [] [56] [(4,2)] (Z3 vs.length) (vs.length) [iV .i64 0];(conv=>whnf);exact⟨rfl,rfl,rfl,rfl⟩;exact rfl;exact rfl;exact .cons (az.av (az.replicate _ [tI 0,tI 0]) _) .nil;exact⟨0,_,by omega,rfl,rfl,rfl,by simp,bG.QG _⟩;rintro _ _ _ ⟨i,zs,hi,rfl,rfl,rfl,hz,hU⟩)
  |(refine ak [6,10,11,12,54,55,56] [] ?_;(conv=>whnf);exact⟨rfl,_,[_],_, .cons (az.av (az.set (xs:=zs) rfl _ [tI _,tI _]) _) .nil,Z3.next (by omega) (by have:=(kS (hP (by omega))).2.1;omega) hz hU,rfl,rfl,by omega⟩)
  |(apply aM [0,1,6,33,34,35] [] [35] (ZV ws) (ws.length) [iV .i64 0];(conv=>whnf);exact⟨rfl,rfl,rfl,rfl⟩;exact rfl;exact rfl;exact⟨0,by omega,fun j e hj=>by omega,rfl,rfl⟩;rintro _ _ ⟨i,hi,hp,rfl,rfl⟩)
  |(refine ak [0,1,6,33,34,35] [] ?_;(conv=>whnf);exact⟨rfl,_,[_],ZV.next (by omega) yg hp hs (by omega) (by omega),rfl,rfl,rfl,by omega⟩))
 all_goals (conv=>whnf)
abbrev Wr (a b:Sp) (w:Int):W:= .agg [.t (tI a.1), .t (tI a.2), .t (tI b.1), .t (tI b.2), .t (tI w)]
theorem acI (a b:Int):bG ((([[tI a,tI b]]:Lz).drop 0).take 1):=by
 intro e he
 simp at he
 exact⟨a,b,he⟩
theorem acH (a b c d:Int):bG ((([[tI a,tI b],[tI c,tI d]]:Lz).drop 0).take 2):=by
 intro e he
 simp at he
 rcases he with he|he
 · exact⟨a,b,he⟩
 · exact⟨c,d,he⟩
theorem tN (v a1 a2 b1 b2:Sp) (wa wb:Int):Tg 168 [eo v,Wr a1 a2 wa,Wr b1 b2 wb] (GL 2 (fun ps=>bG ps∧ps.length≤2)):=by
 refine aJ ?_
 refine ah Tryz.func168 ?_
 repeat' (conv=>whnf
          first
  |(refine au (fun h=>?_) (fun h=>?_))
  |(refine aF (fun h=>?_) (fun h=>?_))
  |(refine And.intro (by kernel_rfl) ?_)
  |(refine aC rfl (vG (_,_)) ?_;rintro _ ⟨b,xs,ds,c,ys,es,rfl,h1,h2⟩)
  |(refine aC rfl (Ep _ _ _ _ _ _ _ _ _ _ _ _ _ _ _ _ _ _ _ _ _ _ _ _ (by assumption) (by assumption) (by assumption) (by assumption) (by assumption) (by assumption) (by assumption) (by assumption)) ?_;rintro _ ⟨b,xs,ds,c,ys,es,n,rfl,h1,h2⟩)
  |(refine aC rfl (lE 341 _ _ _ _ _ _ _ _ _ _ _ _ (by assumption) (by assumption) (iA (k:=2) (by assumption) (by omega)) (iA (k:=2) (by assumption) (by omega)) (by omega) (by omega)) ?_;rintro _ ⟨b,xs,ds,c,ys,es,rfl,h1,h2⟩)
  |(refine aC rfl (Er 683 _ _ _ _ _ _ (by assumption) (by assumption) (by omega) (by omega)) ?_;rintro _ ⟨⟨x,y⟩,n,rfl⟩)
  |(refine ai rfl (lS (_,_) _) ?_;rintro _ ⟨q,rfl⟩)
  |(refine ai rfl (pY (_,_) (_,_)) ?_;rintro _ ⟨x,y,rfl,_⟩)
  |exact oP rfl (fz rfl rfl (xs:=[[tI _,tI _]]) rfl (by simp)) ⟨_,rfl,acI _ _,by simp⟩
  |exact oP rfl (fz rfl rfl (xs:=[[tI _,tI _],[tI _,tI _]]) rfl (by simp)) ⟨_,rfl,acH _ _ _ _,by simp⟩)
 all_goals (conv=>whnf)
end Go.aT.Cd
end
section
namespace Go.aT.Cd
open Go Go.Proofs
set_option maxRecDepth 100000
set_option maxHeartbeats 2000000
def Sg (e:List T):Prop:= ∃a b c d w,e=[tI a,tI b,tI c,tI d,tI w]
abbrev PM (xs:Lz):Prop:= ∀e,e∈xs→Sg e
theorem PM.set {xs:Lz} (h:PM xs) (j:Nat) (a b c d w:Int):PM (xs.set j [tI a,tI b,tI c,tI d,tI w]):=by
 intro e he
 rcases List.mem_or_eq_of_mem_set he with he|rfl
 · exact h e he
 · exact⟨a,b,c,d,w,rfl⟩
theorem PM.QG (n:Nat):PM (List.replicate n [tI 0,tI 0,tI 0,tI 0,tI 0]):=by
 intro e he
 obtain⟨_,rfl⟩:=List.mem_replicate.1 he
 exact⟨0,0,0,0,0,rfl⟩
def Z2 (N:Nat) (m:Nat) (vs:List V) (xss:List (Lz)):Prop:= ∃ (i:Nat) (zs:Lz),i≤N∧m=N - i∧vs=[iV .i64 (i:Int)]∧xss=[zs]∧zs.length=N∧PM zs
theorem Z2.next {N i j:Nat} {zs:Lz} {a b c d w:Int} (h:(i:Int) < (N:Int)) (hN:N≤1000000) (hl:zs.length=N) (hU:PM zs):Z2 N (N - (i+1)) [iV .i64 (IntKind.i64.wrap ((i:Int)+1))] [zs.set j [tI a,tI b,tI c,tI d,tI w]]:=
 ⟨i+1,_,by omega,rfl,by rw[bh (by omega) (by omega)];rfl,rfl,by simp[hl],hU.set j a b c d w⟩
def Z7 (zs:Lz) (N:Nat) (m:Nat) (ws:List V) (xss:List (Lz)):Prop:= ∃ (i:Nat) (ps:Lz),i≤N∧m=N - i∧ws=[bD 8 2 ps.length,iV .i64 (i:Int)]∧xss=[zs,ps]∧ps.length≤2 * i∧bG ps
theorem Z7.next {N i:Nat} {zs ps:Lz} (h:(i:Int) < (N:Int)) (hN:N≤1000000) (hp:ps.length≤2 * (i+1)) (hS:bG ps):Z7 zs N (N - (i+1)) [bD 8 2 ps.length,iV .i64 (IntKind.i64.wrap ((i:Int)+1))] [zs,ps]:=
 ⟨i+1,_,by omega,rfl,by rw[bh (by omega) (by omega)];rfl,rfl,hp,hS⟩
def S7 (zs:Lz) (b L:Nat) (m:Nat) (ws:List V) (xss:List (Lz)):Prop:= ∃ (j:Nat) (ps:Lz),j≤L∧m=L - j∧ws=[bD 8 2 ps.length,iV .i64 (j:Int)]∧xss=[zs,ps]∧ps.length≤b+j∧bG ps
theorem S7.same {b L j:Nat} {zs ps:Lz} (h:(j:Int) < (L:Int)) (hL:L≤2) (hp:ps.length≤b+j) (hS:bG ps):S7 zs b L (L - (j+1)) [bD 8 2 ps.length,iV .i64 (IntKind.i64.wrap ((j:Int)+1))] [zs,ps]:=
 ⟨j+1,_,by omega,rfl,by rw[bh (by omega) (by omega)];rfl,rfl,by omega,hS⟩
theorem S7.Fc {b L j k:Nat} {zs ps:Lz} {x y:Int} (h:(j:Int) < (L:Int)) (hL:L≤2) (hp:ps.length≤b+j) (hS:bG ps) (hk:k=ps.length+1):S7 zs b L (L - (j+1)) [bD 8 2 k,iV .i64 (IntKind.i64.wrap ((j:Int)+1))] [zs,ps++[[tI x,tI y]]]:=
 ⟨j+1,_,by omega,rfl,by rw[bh (by omega) (by omega),hk];simp,rfl,by simp;omega,hS.snoc x y⟩
def ZY (ps:Lz) (m:Nat) (vs:List V) (xss:List (Lz)):Prop:= ∃k:Nat,k≤ps.length∧m=k∧vs=[bD 4 2 k]∧xss=[ps]
theorem ZY.next {ps:Lz} {k:Nat} (hk:k≤ps.length) (h2:(k:Int)≥2) (hb:ps.length≤1000):ZY ps (k - 1) [bD 4 2 ((IntKind.i64.wrap ((k:Int) - 1)).toNat - 0)] [ps]:=by
 have e:(IntKind.i64.wrap ((k:Int) - 1)).toNat - 0=k - 1:=by rw[bh (by omega) (by omega)];omega
 rw[e]
 exact⟨k - 1,by omega,rfl,rfl,rfl⟩
def Z9 (ps:Lz) (k:Nat) (m:Nat) (vs:List V) (xss:List (Lz)):Prop:= ∃i:Nat,i≤k∧m=k - i∧vs=[iV .i64 (i:Int)]∧xss=[ps]
theorem Z9.next {ps:Lz} {i k:Nat} (h:(i:Int) < (k:Int)) (hk:k≤1000):Z9 ps k (k - (i+1)) [iV .i64 (IntKind.i64.wrap ((i:Int)+1))] [ps]:=
 ⟨i+1,by omega,rfl,by rw[bh (by omega) (by omega)];rfl,rfl⟩
theorem OJ {hp:HS} {id sz len:Nat} {rows:List (List C)} {xs:Lz} (hf:find hp id=some (.row sz rows)) (hR:az rows xs) (hl:len≤xs.length):bM (bY hp) [.one (.own id sz 0 len)]=some [.one (.t (.aB sz (xs.take len)))]:=by
 have:=kE (hp:=hp) (i:=0) hf hR (by omega:0+len≤xs.length)
 simp only[bM,this]
 simp
theorem bG.take {xs:Lz} (h:bG xs) (n:Nat):bG (xs.take n):=fun e he=>h e (List.mem_of_mem_take he)
theorem FF {xs:Lz} {n B:Nat} (h:xs.length≤B):(xs.take n).length≤B:=by simp;omega
theorem Ql {i N:Nat} (hN:1≤N) (hb:N≤1000000) (hi:i < N):0≤(IntKind.i64.wrap (IntKind.i64.wrap ((i:Int)+(N:Int)) - 1)).tmod (N:Int)∧(IntKind.i64.wrap (IntKind.i64.wrap ((i:Int)+(N:Int)) - 1)).tmod (N:Int) < (N:Int):=
 ⟨bF (by rw[bh (n:=(i:Int)+(N:Int)) (by omega) (by omega),bh (by omega) (by omega)];omega),bq (by omega)⟩
theorem sx {es vs:Lz} (h:vs=ir es∧uQ es):(3≤vs.length∧vs.length≤40)∧vs.length=iJ es:=⟨(kS h).2.1,(kS h).2.2.2.2⟩
theorem vH (es ws:Lz) (he:j7 es) (hm:es.length≤maxLen) (hw:Is ws) (yg:ws.length≤maxLen):Tg 135 [oL 2 es,oL 1 ws] (N2 2 Ap):=by
 refine aJ ?_
 refine ah Tryz.func135 ?_
 repeat' (conv=>whnf
          first
  |(refine au (fun h=>?_) (fun h=>?_))
  |(refine ca (fun h=>?_) (fun h=>?_))
  |(refine aF (fun h=>?_) (fun h=>?_))
  |(refine aq (xs:=ss) (hS (by omega)).1.1 (by omega) (by omega) ?_;rintro _ ⟨x0,y0,rfl⟩ hs0;have hi2:(i:Int) < (vs.length:Int):=by(have:=(hS (by omega)).1.2;have:=(sx (hP (by omega))).2;omega))
  |(refine aq (xs:=vs) (n:=(i:Int)) (kS (hP (by omega))).1 (by omega) (by first|omega|(have:=(hS (by omega)).1.2;have:=(sx (hP (by omega))).2;omega)) ?_;rintro _ ⟨a,b,rfl⟩ hs1)
  |(refine aq (xs:=vs) (kS (hP (by omega))).1 (bF (by have:=(sx (hP (by omega))).1;rw[bh (by omega) (by omega)];omega)) (bq (by have:=(sx (hP (by omega))).1;omega)) ?_;rintro _ ⟨c,d,rfl⟩ bW)
  |(refine aq (xs:=ys) hyW (by omega) (by have:=(sx (hP (by omega))).2;have:=(hS (by omega)).1.2;omega) ?_;rintro _ ⟨w2,rfl,LH,HK⟩ hsw)
  |(refine aq (xs:=cs) hcs (by omega) (by omega) ?_;rintro _ ⟨cx,cy,rfl⟩ hsc)
  |(refine And.intro ⟨by omega,by omega,by have:=(sx (hP (by omega))).1;omega,by have:=(sx (hP (by omega))).1;omega⟩ ?_)
  |(refine And.intro (show((vs.length:Nat):Int)≠0 by have:=(sx (hP (by omega))).1;omega) ?_)
  |(refine And.intro ⟨by simp[tr],by have:=(sx (hP (by omega))).1;simp[tr,aW];omega,by have:=(sx (hP (by omega))).1;simp[tr,maxLen];omega⟩ ?_)
  |(refine lX (Nat.zero_le _) (by have:=(sx (hP (by omega))).1;rw[bh (by omega) (by omega)];omega) (.inr rfl) ?_)
  |(refine And.intro (show(0:Int)≤IntKind.i64.wrap ((k:Int) - 1) by rw[bh (by omega) (by have:=(sx (hP (by omega))).1;omega)];omega) ?_)
  |(refine And.intro ⟨bF (by have:=(sx (hP (by omega))).1;rw[bh (n:=(i:Int)+(vs.length:Int)) (by omega) (by omega),bh (by omega) (by omega)];omega),bq (by have:=(sx (hP (by omega))).1;omega)⟩ ?_)
  |(refine And.intro ⟨by omega,by omega⟩ ?_)
  |(refine And.intro ⟨by have:=(sx (hP (by omega))).1;rw[bh (by omega) (by omega)];omega,by have:=(sx (hP (by omega))).1;rw[bh (by omega) (by omega)];omega⟩ ?_)
  |(refine And.intro (by kernel_rfl) ?_)
  |(refine ai rfl (tO es ws he hm hw yg) ?_;rintro _ ⟨ss,e1,rfl,hS⟩)
  |(refine ai rfl (mT es he hm) ?_;rintro _ ⟨vs,e,rfl,hP⟩)
  |(refine ai rfl (ic es ws (hP (by omega)).2.2.1 (hP (by omega)).2.1.2 (hS (by omega)).2.2.1 (hS (by omega)).2.2.2) ?_;rintro _ ⟨ys,rfl,j8,hyW⟩)
  |(refine bJ (xs:=zs) rfl hU (by first|omega|(have:=Ql (i:=i) (N:=vs.length) (by have:=(sx (hP (by omega))).1;omega) (by have:=(sx (hP (by omega))).1;omega) (by omega);omega)) ?_;rintro _ ⟨s1,s2,s3,s4,s5,rfl⟩ CU)
  |(refine bJ (xs:=TB) rfl MP (by first|omega|(have:=(sx (hP (by omega))).1;rw[bh (by omega) (by omega)];omega)) ?_;rintro _ ⟨x,y,rfl⟩ CU)
  |(refine bJ (xs:=ps) rfl hps (by first|omega|(have:=(sx (hP (by omega))).1;rw[bh (by omega) (by omega)];omega)) ?_;rintro _ ⟨x,y,rfl⟩ CU)
  |(refine aC rfl (pY (_,_) (_,_)) ?_;rintro _ ⟨x,y,rfl,_⟩)
  |(refine aC rfl (tN (_,_) (_,_) (_,_) (_,_) (_,_) _ _) ?_;rintro _ ⟨cs,rfl,hcs,eF⟩)
  |(refine ai rfl (lS (_,_) _) ?_;rintro _ ⟨q,rfl⟩)
  |(refine sE (OJ (xs:=ps) rfl rfl (by omega)) (fJ _ (hps.take _) (FF (by have:=(sx (hP (by omega))).1;omega))) ?_ ?_;(rintro _ ⟨d,rfl,hd⟩;rfl);rintro _ ⟨d,rfl,hd⟩)
  |(refine sE (OJ (xs:=ps) rfl rfl (by omega)) (fq _ (hps.take _) (FF (by have:=(sx (hP (by omega))).1;omega))) ?_ ?_;(rintro _ ⟨o1,rfl,_⟩;rfl);rintro _ ⟨o1,rfl,_⟩)
  |(refine ai rfl (fq vs (kS (hP (by omega))).1 (by have:=(sx (hP (by omega))).1;omega)) ?_;rintro _ ⟨o2,rfl,_⟩)
  |exact dg rfl (bR 2 rfl) (bS rfl) ⟨_,_,rfl,fun h0=>absurd h0 (by omega)⟩
  |exact dg rfl (fz rfl rfl (xs:=ps) rfl (by omega)) (bS rfl) ⟨_,_,rfl,fun _=>by simpa using hd (by omega)⟩
  |(apply bp [8,14,143,144,145] [] [145] [(4,2)] (Z9 ps k) (k) [iV .i64 0];(conv=>whnf);exact⟨rfl,rfl,rfl,rfl⟩;exact rfl;exact rfl;exact .cons (az.av (xs:=ps) rfl _) .nil;exact⟨0,by omega,rfl,rfl,rfl⟩;rintro _ _ _ ⟨q,hq,rfl,rfl,rfl⟩)
  |(refine ak [8,14,143,144,145] [] ?_;(conv=>whnf);exact⟨rfl,_,[_],_, .cons (az.av (xs:=ps) rfl _) .nil,Z9.next (by omega) (by have:=(sx (hP (by omega))).1;omega),rfl,rfl,by omega⟩)
  |(apply bp [8,10,11,14,77,78,79,98,99,100] [] [14,100] [(4,5),(8,2)] (S7 zs (2 * i) cs.length) (cs.length) [bD 8 2 ps.length,iV .i64 0];(conv=>whnf);exact⟨rfl,rfl,rfl,rfl⟩;exact rfl;exact rfl;exact .cons (az.av (xs:=zs) rfl _) (.cons (az.av (xs:=ps) rfl _) .nil);exact⟨0,ps,by omega,rfl,rfl,rfl,by omega,hps⟩;rintro _ _ _ ⟨j,TB,hj,rfl,rfl,rfl,Xu,MP⟩)
  |(refine ak [8,10,11,14,77,78,79,98,99,100] [] ?_;(conv=>whnf);first|exact⟨rfl,_,[_,_],_, .cons (az.av (xs:=zs) rfl _) (.cons (az.av (xs:=TB) rfl _) .nil),S7.same (by omega) eF Xu MP,rfl,rfl,by omega⟩|exact⟨rfl,_,[_,_],_, .cons (az.av (xs:=zs) rfl _) (.cons (az.av (az.snoc (xs:=TB) rfl [tI _,tI _]) _) .nil),S7.Fc (by omega) eF Xu MP (by simp[tr]),rfl,rfl,by omega⟩)
  |(apply bp [8,14] [] [14] [(4,2)] (ZY ps) (ps.length) [bD 4 2 ps.length];(conv=>whnf);exact⟨rfl,rfl,rfl,rfl⟩;exact rfl;exact rfl;exact .cons (az.av (xs:=ps) rfl _) .nil;exact⟨ps.length,by omega,rfl,rfl,rfl⟩;rintro _ _ _ ⟨k,hk,hmk,rfl,rfl⟩)
  |(refine ak [8,14] [] ?_;(conv=>whnf);exact⟨rfl,_,[_],_, .cons (az.av (xs:=ps) rfl _) .nil,ZY.next hk (by omega) (by have:=(sx (hP (by omega))).1;omega),rfl,rfl,by omega⟩)
  |(apply dQ [8,10,11,14,77,78,79] [] [14,79] [(4,5),(8,2)] (Z7 zs vs.length) (vs.length) [bD 8 2 0,iV .i64 0] (dK.jq 14 2 rfl);(conv=>whnf);exact⟨rfl,rfl,rfl,rfl⟩;exact rfl;exact rfl;exact .cons (az.av (xs:=zs) rfl _) (.cons (az.av az.nil _) .nil);exact⟨0,[],by omega,rfl,rfl,rfl,by simp,fun e he=>by simp at he⟩;rintro _ _ _ ⟨i,ps,hi,rfl,rfl,rfl,jo,hps⟩)
  |(refine ak [8,10,11,14,77,78,79] [] ?_;(conv=>whnf);exact⟨rfl,_,[_,_],_, .cons (az.av (xs:=zs) rfl _) (.cons (az.av (xs:=TB) rfl _) .nil),Z7.next (by omega) (by have:=(sx (hP (by omega))).1;omega) (by omega) MP,rfl,rfl,by omega⟩)
  |(apply bp [8,9,10,11,46,47,48] [] [48] [(4,5)] (Z2 vs.length) (vs.length) [iV .i64 0];(conv=>whnf);exact⟨rfl,rfl,rfl,rfl⟩;exact rfl;exact rfl;exact .cons (az.av (az.replicate _ [tI 0,tI 0,tI 0,tI 0,tI 0]) _) .nil;exact⟨0,_,by omega,rfl,rfl,rfl,by simp,PM.QG _⟩;rintro _ _ _ ⟨i,zs,hi,rfl,rfl,rfl,hz,hU⟩)
  |(refine ak [8,9,10,11,46,47,48] [] ?_;(conv=>whnf);exact⟨rfl,_,[_],_, .cons (az.av (az.set (xs:=zs) rfl _ [tI _,tI _,tI _,tI _,tI _]) _) .nil,Z2.next (by have:=(hS (by omega)).1.2;have:=(sx (hP (by omega))).2;omega) (by have:=(sx (hP (by omega))).1;omega) hz hU,rfl,rfl,by omega⟩))
 all_goals (conv=>whnf)
end Go.aT.Cd
end
section
namespace Go.aT
open Go
variable {P:Program} {M A:Nat→Prop} {ρ:Env} {F:Nat→Prop} {st:St} {a:Act} {w:World}
abbrev fD:=List (Value×C×Nat)
structure jz (P:Program) (kt:TypeId) (Kd:Value→Prop):Prop where
 at_: ∀ (es:fD) (kv:Value) (empty:Bool),(∀p,p∈es→Kd p.1)→Kd kv→
  (jg P empty kt kv es=some none∧ ∀p,p∈es→p.1≠kv)∨ ∃i p,jg P empty kt kv es=some (some i)∧es[i]? =some p∧p.1=kv
 same: ∀kv,Kd kv→Instr.sameBits 10000 kv kv=true
theorem xy {d:TypeDesc} {Kd:Value→Prop} {kv:Value} (hs: ∀b,Kd b→ ∃q,Instr.sameNow d kv b=some q∧(q=true↔b=kv)): ∀ (es:fD) (i0:Nat),(∀p,p∈es→Kd p.1)→
 (Instr.findNow d kv (cV es) i0=some none∧ ∀p,p∈es→p.1≠kv)∨ ∃i p v,Instr.findNow d kv (cV es) i0=some (some (i0+i,v))∧es[i]? =some p∧p.1=kv
 | [],i0,_=> .inl ⟨rfl,fun p hp=>by simp at hp⟩
 |e::es,i0,h=>by
  obtain⟨q,h1,h2⟩:=hs e.1 (h e List.mem_cons_self)
  have IG:Instr.sameNow d kv (⟨e.1, .bool false,0⟩:MapEntry).key=some q:=h1
  show((match Instr.sameNow d kv (⟨e.1, .bool false,0⟩:MapEntry).key with
   |some true=>some (some (i0,(⟨e.1, .bool false,0⟩:MapEntry).val))
   |some false=>Instr.findNow d kv (cV es) (i0+1)
   |none=>none)=some none∧_)∨ ∃i p v,(match Instr.sameNow d kv (⟨e.1, .bool false,0⟩:MapEntry).key with
   |some true=>some (some (i0,(⟨e.1, .bool false,0⟩:MapEntry).val))
   |some false=>Instr.findNow d kv (cV es) (i0+1)
   |none=>none)=some (some (i0+i,v))∧_
  rw[IG]
  cases q with
  |true=>exact .inr ⟨0,e,_,rfl,rfl,h2.1 rfl⟩
  |false=>
   have hne:e.1≠kv:=fun he=>by have:=h2.2 he;simp at this
   rcases xy hs es (i0+1) (fun p hp=>h p (List.mem_cons_of_mem _ hp))with⟨h3,h4⟩|⟨i,p,v,h3,h4,h5⟩
   · refine .inl ⟨h3,fun p hp=>?_⟩
     rcases List.mem_cons.1 hp with rfl|hp
     · exact hne
     · exact h4 p hp
   · exact .inr ⟨i+1,p,v,by rw[show i0+(i+1)=i0+1+i by omega];exact h3,by simpa using h4,h5⟩
theorem pV {kt:TypeId} {Kd:Value→Prop} {kv:Value} (hs: ∀b,Kd b→ ∃q,aH P (Op.equal kt kv b)=some q∧(q=true↔b=kv)): ∀ (es:fD) (i0:Nat),(∀p,p∈es→Kd p.1)→
 (aH P (Instr.findAsking kt kv (cV es) i0)=some none∧ ∀p,p∈es→p.1≠kv)∨ ∃i p v,aH P (Instr.findAsking kt kv (cV es) i0)=some (some (i0+i,v))∧es[i]? =some p∧p.1=kv
 | [],i0,_=> .inl ⟨rfl,fun p hp=>by simp at hp⟩
 |e::es,i0,h=>by
  obtain⟨q,h1,h2⟩:=hs e.1 (h e List.mem_cons_self)
  have hd:cV (e::es)=⟨e.1, .bool false,0⟩::cV es:=rfl
  simp only[hd,Instr.findAsking,aI,h1,Option.bind_some]
  cases q with
  |true=>exact .inr ⟨0,e,_,rfl,rfl,h2.1 rfl⟩
  |false=>
   have hne:e.1≠kv:=fun he=>by have:=h2.2 he;simp at this
   simp only[Bool.false_eq_true,if_false]
   rcases pV hs es (i0+1) (fun p hp=>h p (List.mem_cons_of_mem _ hp))with⟨h3,h4⟩|⟨i,p,v,h3,h4,h5⟩
   · refine .inl ⟨h3,fun p hp=>?_⟩
     rcases List.mem_cons.1 hp with rfl|hp
     · exact hne
     · exact h4 p hp
   · exact .inr ⟨i+1,p,v,by rw[show i0+(i+1)=i0+1+i by omega];exact h3,by simpa using h4,h5⟩
theorem HC {kt:TypeId} {d:TypeDesc} {Kd:Value→Prop} (hu:P.underlying kt=some d) (hck: ∀e kv,Kd kv→ ∃u,aH P (Instr.checkKey e 10000 kt kv)=some u)
 (hs: ∀a b,Kd a→Kd b→ ∃q,Instr.sameNow d a b=some q∧(q=true↔b=a)) (lV: ∀kv,Kd kv→Instr.sameBits 10000 kv kv=true):jz P kt Kd:=by
 refine⟨fun es kv empty he hk=>?_,lV⟩
 obtain⟨u,uw⟩:=hck empty kv hk
 rcases xy (fun b hb=>hs kv b hk hb) es 0 he with⟨h3,h4⟩|⟨i,p,v,h3,h4,h5⟩
 · refine .inl ⟨?_,h4⟩
   have:aH P (Instr.findKey kt kv (cV es))=some none:=by simp only[Instr.findKey,aI,aO hu,Option.bind_some,h3,aD]
   simp only[jg,uw,this]
 · refine .inr ⟨i,p,?_,h4,h5⟩
   have:aH P (Instr.findKey kt kv (cV es))=some (some (i,v)):=by simp only[Instr.findKey,aI,aO hu,Option.bind_some,h3,aD,Nat.zero_add]
   simp only[jg,uw,this]
theorem HD {kt:TypeId} {d:TypeDesc} {Kd:Value→Prop} (hu:P.underlying kt=some d) (hck: ∀e kv,Kd kv→ ∃u,aH P (Instr.checkKey e 10000 kt kv)=some u)
 (hn: ∀a b,Kd a→Kd b→Instr.sameNow d a b=none) (hs: ∀a b,Kd a→Kd b→ ∃q,aH P (Op.equal kt a b)=some q∧(q=true↔b=a)) (lV: ∀kv,Kd kv→Instr.sameBits 10000 kv kv=true):jz P kt Kd:=by
 refine⟨fun es kv empty he hk=>?_,lV⟩
 obtain⟨u,uw⟩:=hck empty kv hk
 cases es with
 |nil=>
  refine .inl ⟨?_,fun p hp=>by simp at hp⟩
  have:aH P (Instr.findKey kt kv (cV []))=some none:=by simp only[Instr.findKey,aI,aO hu,Option.bind_some,cV,List.map_nil,Instr.findNow,aD]
  simp only[jg,uw,this]
 |cons e es=>
  have hfn:Instr.findNow d kv (cV (e::es)) 0=none:=by
   show(match Instr.sameNow d kv (⟨e.1, .bool false,0⟩:MapEntry).key with
    |some true=>some (some (0,(⟨e.1, .bool false,0⟩:MapEntry).val))
    |some false=>Instr.findNow d kv (cV es) (0+1)
    |none=>none)=none
   have:=hn kv e.1 hk (he e List.mem_cons_self)
   rw[show(⟨e.1, .bool false,0⟩:MapEntry).key=e.1 from rfl,this]
  rcases pV (P:=P) (kt:=kt) (fun b hb=>hs kv b hk hb) (e::es) 0 he with⟨h3,h4⟩|⟨i,p,v,h3,h4,h5⟩
  · refine .inl ⟨?_,h4⟩
    have:aH P (Instr.findKey kt kv (cV (e::es)))=some none:=by simp only[Instr.findKey,aI,aO hu,Option.bind_some,hfn,h3]
    simp only[jg,uw,this]
  · refine .inr ⟨i,p,?_,h4,h5⟩
    have:aH P (Instr.findKey kt kv (cV (e::es)))=some (some (i,v)):=by simp only[Instr.findKey,aI,aO hu,Option.bind_some,hfn,h3,Nat.zero_add]
    simp only[jg,uw,this]
theorem bytes_beq (a b:ByteArray):(a==b)=true↔a=b:=by
 cases a;cases b
 show ByteArray.beq _ _=true↔_
 rw[ByteArray.beq.eq_def]
 simp
theorem SG {kt:TypeId} (hu:P.underlying kt=some .string) (k:Nat) (e:Bool) (m:ByteArray):aH P (Instr.checkKey e (k+1) kt (.string m))=some ():=by
 simp only[Instr.checkKey,aI,aO hu,Option.bind_some,aD]
def YK (v:Value):Prop:= ∃n,v= .int .i64 n
def Tj (v:Value):Prop:= ∃s,v= .string s
theorem HA {kt:TypeId} (hu:P.underlying kt=some .string):jz P kt Tj:=by
 refine HC hu ?_ ?_ ?_
 · rintro e _ ⟨n,rfl⟩
   exact⟨(),SG hu 9999 e n⟩
 · rintro _ _ ⟨n,rfl⟩ ⟨m,rfl⟩
   refine⟨n==m,by simp[Instr.sameNow],?_⟩
   rw[bytes_beq,Value.string.injEq]
   exact⟨fun h=>h.symm,fun h=>h.symm⟩
 · rintro _ ⟨n,rfl⟩
   show(n==n)=true
   rw[bytes_beq]
def mO (Kd:Value→Prop) (Pc:C→Prop) (es:fD):Prop:= ∀p,p∈es→Kd p.1∧Pc p.2.1
theorem mO.nil {Kd:Value→Prop} {Pc:C→Prop}:mO Kd Pc []:=fun p hp=>by simp at hp
theorem mO.keys {Kd:Value→Prop} {Pc:C→Prop} {es:fD} (h:mO Kd Pc es): ∀p,p∈es→Kd p.1:=fun p hp=>(h p hp).1
abbrev Gt (n:Nat) (tm:TS) (x:Operand):V:=St.get ⟨n,tm,[]⟩ x
theorem lM {n:Nat} {tm:TS} {hp:HS} (x:Operand):St.get ⟨n,tm,hp⟩ x=Gt n tm x:=by cases x<;>rfl
theorem zf {n ctr:Nat} {t ty:TypeId} {tm:TS} {hp:HS} {K:V→HS→Prop} (hk:K (.w (.one (.map ctr))) ((ctr, .mp [] 0)::hp)):
 ∃v aG,j6 P n (.makeMap t none) ty tm hp ctr v aG∧K v aG:=by
 refine⟨_,_,?_,hk⟩
 rintro⟨dst',op',ty',pos',after',guard'⟩ rfl rfl
 intro M A ρ a w hr
 obtain⟨r1,r2⟩:=Rel.Jz (st:=⟨n,tm,hp⟩) hr (Nat.le_refl ctr)
 refine⟨.map (some w.heap.size),w.alloc (.map #[] 0),_,_, .inl ?_,r1.sub iw,⟨⟨w.heap.size,by simp[dl],rfl⟩,rfl⟩,dj.alloc M w _,r2,bH.new A w⟩
 simp[execOp,Instr.makeMap]
theorem CF {n ctr:Nat} {t ty kt et:TypeId} {m k:Operand} {ok:Bool} {tm:TS} {hp:HS} {id clock i:Nat} {es:fD} {kv k0:Value} {c:C} {born:Nat} (hm:Gt n tm m= .w (.one (.map id))) (hk:(Gt n tm k).val? =some kv) (hu:P.underlying t=some (.map kt et)) (hf:find hp id=some (.mp es clock))
 (rJ:jg P es.isEmpty kt kv es=some (some i)) (Bp:es[i]? =some (k0,c,born)):j6 P n (.lookup t m k ok) ty tm hp ctr (if ok=true then .eW [cw c,bT true]else .w (cw c)) hp:=by
 rintro⟨dst',op',ty',pos',after',guard'⟩ rfl rfl
 intro M A ρ a w hr
 have vm:=hr.get m
 rw[lM,hm]at vm
 have vk:=V.bk hk (by have:=hr.get k;rw[lM]at this;exact this)
 obtain⟨b,en,q1,q2,q3,q4,q5⟩:=iR hr hf vm
 obtain⟨c1,o2,c2,c3,c4⟩:=dP rJ (gG (id:=id) (clock:=clock) q4 q5) w
 cases o2 with
 |none=>simp at c3
 |some p=>
  obtain⟨j,v⟩:=p
  simp only[Option.map_some,Option.some.injEq]at c3
  subst c3
  obtain⟨e0,e1,e2,e3,e4,e5⟩:=q5 j k0 c born Bp
  obtain⟨e',g1,rfl⟩:=c4 j v rfl
  rw[e1]at g1
  simp only[Option.some.injEq]at g1
  subst g1
  have hrun:(execOp a.eval ⟨dst', .lookup t m k ok,ty',pos',after',guard'⟩).run P w= .ok (.value (if ok then .tuple #[e0.val, .bool true]else e0.val)) w:=by
   simp only[execOp,Instr.lookup,Sem.run_bind,run_underlying hu,Result.andThen_ok,q2,qw q3,Sem.run_pure,vk,fP q4,c1,c2]
  refine⟨_,w,A,ρ, .inl hrun,hr.sub cP,?_,dj.refl _ _,cZ.refl _,bH.refl _ _⟩
  cases ok with
  |true=>exact GW (e5.rw e4)
  |false=>exact e5.rw e4
theorem zL {n ctr:Nat} {t ty kt et:TypeId} {m k:Operand} {ok:Bool} {tm:TS} {hp:HS} {id clock:Nat} {es:fD} {kv z:Value} (hm:Gt n tm m= .w (.one (.map id))) (hk:(Gt n tm k).val? =some kv) (hu:P.underlying t=some (.map kt et)) (hf:find hp id=some (.mp es clock))
 (rJ:jg P es.isEmpty kt kv es=some none) (hz:nq P et=some z):j6 P n (.lookup t m k ok) ty tm hp ctr (if ok=true then .eW [.one (.t (.val z)),bT false]else .w (.one (.t (.val z)))) hp:=by
 rintro⟨dst',op',ty',pos',after',guard'⟩ rfl rfl
 intro M A ρ a w hr
 have vm:=hr.get m
 rw[lM,hm]at vm
 have vk:=V.bk hk (by have:=hr.get k;rw[lM]at this;exact this)
 obtain⟨b,en,q1,q2,q3,q4,q5⟩:=iR hr hf vm
 obtain⟨c1,o2,c2,c3,c4⟩:=dP rJ (gG (id:=id) (clock:=clock) q4 q5) w
 cases o2 with
 |some p=>simp at c3
 |none=>
  obtain⟨W7,w6⟩:=sC hz w
  have hrun:(execOp a.eval ⟨dst', .lookup t m k ok,ty',pos',after',guard'⟩).run P w= .ok (.value (if ok then .tuple #[z, .bool false]else z)) w:=by
   simp only[execOp,Instr.lookup,Sem.run_bind,run_underlying hu,Result.andThen_ok,q2,qw q3,Sem.run_pure,vk,fP q4,c1,c2,W7]
  refine⟨_,w,A,ρ, .inl hrun,hr.sub cP,?_,dj.refl _ _,cZ.refl _,bH.refl _ _⟩
  cases ok with
  |true=>exact GW (u0:= .one (.t (.val z))) ⟨RT.val w6,w6⟩
  |false=>exact⟨RT.val w6,w6⟩
theorem P7 {n ctr:Nat} {t ty kt et:TypeId} {m k:Operand} {tm:TS} {hp:HS} {id clock:Nat} {es:fD} {kv z:Value} {Kd:Value→Prop} {K:V→HS→Prop} (hm:Gt n tm m= .w (.one (.map id))) (hf:find hp id=some (.mp es clock)) (hk:(Gt n tm k).val? =some kv) (hu:P.underlying t=some (.map kt et))
 (hz:nq P et=some z) (hK:jz P kt Kd) (hkv:Kd kv) (j9: ∀p,p∈es→Kd p.1) (h1: ∀ (i:Nat) (p:Value×C×Nat),es[i]? =some p→p.1=kv→K (.w (cw p.2.1)) hp) (h2:(∀p,p∈es→p.1≠kv)→K (.w (.one (.t (.val z)))) hp):
 ∃v aG,j6 P n (.lookup t m k false) ty tm hp ctr v aG∧K v aG:=by
 rcases hK.at_ es kv es.isEmpty j9 hkv with⟨h3,h4⟩|⟨i,⟨k0,c,born⟩,h3,h4,h5⟩
 · exact⟨_,_,zL hm hk hu hf h3 hz,by simpa using h2 h4⟩
 · exact⟨_,_,CF hm hk hu hf h3 h4,by simpa using h1 i _ h4 h5⟩
theorem L7 {n ctr:Nat} {t ty kt et:TypeId} {m k:Operand} {tm:TS} {hp:HS} {id clock:Nat} {es:fD} {kv z:Value} {Kd:Value→Prop} {K:V→HS→Prop} (hm:Gt n tm m= .w (.one (.map id))) (hf:find hp id=some (.mp es clock)) (hk:(Gt n tm k).val? =some kv) (hu:P.underlying t=some (.map kt et))
 (hz:nq P et=some z) (hK:jz P kt Kd) (hkv:Kd kv) (j9: ∀p,p∈es→Kd p.1) (h1: ∀ (i:Nat) (p:Value×C×Nat),es[i]? =some p→p.1=kv→K (.eW [cw p.2.1,bT true]) hp) (h2:(∀p,p∈es→p.1≠kv)→K (.eW [.one (.t (.val z)),bT false]) hp):
 ∃v aG,j6 P n (.lookup t m k true) ty tm hp ctr v aG∧K v aG:=by
 rcases hK.at_ es kv es.isEmpty j9 hkv with⟨h3,h4⟩|⟨i,⟨k0,c,born⟩,h3,h4,h5⟩
 · exact⟨_,_,zL hm hk hu hf h3 hz,by simpa using h2 h4⟩
 · exact⟨_,_,CF hm hk hu hf h3 h4,by simpa using h1 i _ h4 h5⟩
theorem L5 {n ctr:Nat} {t ty kt et:TypeId} {m k:Operand} {tm:TS} {hp:HS} {id clock:Nat} {es:fD} {kv z:Value} {Kd:Value→Prop} {Pc:C→Prop} {K:V→HS→Prop} (hm:Gt n tm m= .w (.one (.map id))) (hf:find hp id=some (.mp es clock)) (hk:(Gt n tm k).val? =some kv) (hu:P.underlying t=some (.map kt et))
 (hz:nq P et=some z) (hK:jz P kt Kd) (hkv:Kd kv) (j9:mO Kd Pc es) (hzP:Pc (.t (.val z))) (h: ∀c,Pc c→K (.w (cw c)) hp):
 ∃v aG,j6 P n (.lookup t m k false) ty tm hp ctr v aG∧K v aG:=
 P7 hm hf hk hu hz hK hkv j9.keys (fun i p hp _=>h _ (j9 p (List.mem_of_getElem? hp)).2) (fun _=>h _ hzP)
def DG (v:V) (c:C):Prop:=v= .w (.one c)∨ ∃ts,v= .w (.agg (ts.map .t))∧c= .pk ts
theorem DG.spec {v:V} {c:C} {x:Value} (h:DG v c) (hr:RV w A ρ v x):RC w A ρ c x∧Av c x:=by
 rcases h with rfl|⟨ts,rfl,rfl⟩
 · exact⟨hr.1, .inl hr.2⟩
 · exact Av.pk hr
theorem Mr {n ctr:Nat} {t ty kt et:TypeId} {m k x:Operand} {tm:TS} {hp:HS} {id clock i:Nat} {es:fD} {kv:Value} {c c0:C} {born:Nat} (hm:Gt n tm m= .w (.one (.map id))) (hk:(Gt n tm k).val? =some kv) (hx:DG (Gt n tm x) c) (hu:P.underlying t=some (.map kt et)) (hf:find hp id=some (.mp es clock))
 (rJ:jg P false kt kv es=some (some i)) (Bp:es[i]? =some (kv,c0,born)) (lV:Instr.sameBits 10000 kv kv=true):j6 P n (.mapUpdate t m k x) ty tm hp ctr .undef (jN hp id (.mp (es.set i (kv,c,born)) clock)):=by
 rintro⟨dst',op',ty',pos',after',guard'⟩ rfl rfl
 intro M A ρ a w hr
 have vm:=hr.get m
 rw[lM,hm]at vm
 have vk:=V.bk hk (by have:=hr.get k;rw[lM]at this;exact this)
 have vx:=hx.spec (by have:=hr.get x;rw[lM]at this;exact this)
 obtain⟨b,en,q1,q2,q3,q4,q5⟩:=iR hr hf vm
 obtain⟨c1,o2,c2,c3,c4⟩:=dP rJ (gG (id:=id) (clock:=clock) q4 q5) w
 cases o2 with
 |none=>simp at c3
 |some p=>
  obtain⟨j,v⟩:=p
  simp only[Option.map_some,Option.some.injEq]at c3
  subst c3
  obtain⟨e0,e1,e2,e3,_⟩:=q5 j kv c0 born Bp
  have hi:j < en.size:=(Array.getElem?_eq_some_iff.1 e1).1
  obtain⟨r1,r2⟩:=Rel.wx (st:=⟨n,tm,hp⟩) (clock':=clock) (es':=es.set j (kv,c,born)) (en':=en.modify j fun e=>{e with key:=kv,val:=a.eval x}) hr hf q1 q3 (by simp[q4]) (fun i k' c' n' hi'=>by
   by_cases hij:j=i
   · subst hij
     rw[List.getElem?_set_self (by rw[←q4];exact hi)]at hi'
     simp only[Option.some.injEq,Prod.mk.injEq]at hi'
     obtain⟨rfl,rfl,rfl⟩:=hi'
     refine⟨{e0 with key:=kv,val:=a.eval x},by simp[Array.getElem?_modify,e1],rfl,e3,vx.1,vx.2⟩
   · rw[List.getElem?_set_ne hij]at hi'
     obtain⟨e,g1,g2,g3,g4,g5⟩:=q5 i k' c' n' hi'
     exact⟨e,by simp[Array.getElem?_modify,hij,g1],g2,g3,g4,g5⟩)
  refine⟨undef,_,A,ρ, .inr ⟨?_,rfl⟩,r1.sub cP,trivial,r2,cZ.refl _,bH.refl _ _⟩
  have hks:(Instr.keyThatStays (((en[j]?).map (·.key)).getD kv) kv).run P w= .ok kv w:=by
   simp[Instr.keyThatStays,e1,e2,lV]
  simp only[execOp,Instr.mapUpdate,Sem.run_bind,run_underlying hu,Result.andThen_ok,q2,qw q3,vk,c1,c2,hks,Ho _ q3,Sem.run_pure]
theorem Jo {n ctr:Nat} {t ty kt et:TypeId} {m k x:Operand} {tm:TS} {hp:HS} {id clock:Nat} {es:fD} {kv:Value} {c:C} (hm:Gt n tm m= .w (.one (.map id))) (hk:(Gt n tm k).val? =some kv) (hx:DG (Gt n tm x) c) (hu:P.underlying t=some (.map kt et)) (hf:find hp id=some (.mp es clock))
 (rJ:jg P false kt kv es=some none):j6 P n (.mapUpdate t m k x) ty tm hp ctr .undef (jN hp id (.mp (es++[(kv,c,clock)]) (clock+1))):=by
 rintro⟨dst',op',ty',pos',after',guard'⟩ rfl rfl
 intro M A ρ a w hr
 have vm:=hr.get m
 rw[lM,hm]at vm
 have vk:=V.bk hk (by have:=hr.get k;rw[lM]at this;exact this)
 have vx:=hx.spec (by have:=hr.get x;rw[lM]at this;exact this)
 obtain⟨b,en,q1,q2,q3,q4,q5⟩:=iR hr hf vm
 obtain⟨c1,o2,c2,c3,c4⟩:=dP rJ (gG (id:=id) (clock:=clock) q4 q5) w
 cases o2 with
 |some p=>simp at c3
 |none=>
  obtain⟨r1,r2⟩:=Rel.wx (st:=⟨n,tm,hp⟩) (clock':=clock+1) (es':=es++[(kv,c,clock)]) (en':=en.push {key:=kv,val:=a.eval x,born:=clock}) hr hf q1 q3 (by simp[q4]) (fun i k' c' n' hi'=>by
   by_cases hlt:i < es.length
   · rw[List.getElem?_append_left hlt]at hi'
     obtain⟨e,g1,g2,g3,g4,g5⟩:=q5 i k' c' n' hi'
     exact⟨e,by rw[Array.getElem?_push,if_neg (by omega)];exact g1,g2,g3,g4,g5⟩
   · rw[List.getElem?_append_right (by omega)]at hi'
     have hz:i - es.length=0:=by
      have:=(List.getElem?_eq_some_iff.1 hi').1
      simp at this
      omega
     rw[hz]at hi'
     simp only[List.getElem?_cons_zero,Option.some.injEq,Prod.mk.injEq]at hi'
     obtain⟨rfl,rfl,rfl⟩:=hi'
     exact⟨⟨kv,a.eval x,clock⟩,by rw[Array.getElem?_push,if_pos (by omega)],rfl,rfl,vx.1,vx.2⟩)
  refine⟨undef,_,A,ρ, .inr ⟨?_,rfl⟩,r1.sub cP,trivial,r2,cZ.refl _,bH.refl _ _⟩
  simp only[execOp,Instr.mapUpdate,Sem.run_bind,run_underlying hu,Result.andThen_ok,q2,qw q3,vk,c1,c2,Ho _ q3,Sem.run_pure]
def DI (es:fD) (clock:Nat) (kv:Value) (c:C) (es':fD) (clock':Nat):Prop:=
 (∃i p,es[i]? =some p∧p.1=kv∧es'=es.set i (kv,c,p.2.2)∧clock'=clock)∨((∀p,p∈es→p.1≠kv)∧es'=es++[(kv,c,clock)]∧clock'=clock+1)
theorem P6 {n ctr:Nat} {t ty kt et:TypeId} {m k x:Operand} {tm:TS} {hp:HS} {id clock:Nat} {es:fD} {kv:Value} {c:C} {Kd:Value→Prop} {K:V→HS→Prop} (hm:Gt n tm m= .w (.one (.map id))) (hf:find hp id=some (.mp es clock)) (hk:(Gt n tm k).val? =some kv) (hx:DG (Gt n tm x) c) (hu:P.underlying t=some (.map kt et))
 (hK:jz P kt Kd) (hkv:Kd kv) (j9: ∀p,p∈es→Kd p.1) (h: ∀es' clock',DI es clock kv c es' clock'→K .undef (jN hp id (.mp es' clock'))):
 ∃v aG,j6 P n (.mapUpdate t m k x) ty tm hp ctr v aG∧K v aG:=by
 rcases hK.at_ es kv false j9 hkv with⟨h3,h4⟩|⟨i,⟨k0,c0,born⟩,h3,h4,h5⟩
 · exact⟨_,_,Jo hm hk hx hu hf h3,h _ _ (.inr ⟨h4,rfl,rfl⟩)⟩
 · simp only at h5
   subst h5
   exact⟨_,_,Mr hm hk hx hu hf h3 h4 (hK.same _ hkv),h _ _ (.inl ⟨i,_,h4,rfl,rfl,rfl⟩)⟩
theorem VG {n ctr:Nat} {t ty kt et:TypeId} {m k x:Operand} {tm:TS} {hp:HS} {id clock:Nat} {es:fD} {kv:Value} {c:C} {Kd:Value→Prop} {K:V→HS→Prop} (hm:Gt n tm m= .w (.one (.map id))) (hf:find hp id=some (.mp es clock)) (hk:(Gt n tm k).val? =some kv) (hx:Gt n tm x= .w (.one c)) (hu:P.underlying t=some (.map kt et))
 (hK:jz P kt Kd) (hkv:Kd kv) (j9: ∀p,p∈es→Kd p.1) (h: ∀es' clock',DI es clock kv c es' clock'→K .undef (jN hp id (.mp es' clock'))):
 ∃v aG,j6 P n (.mapUpdate t m k x) ty tm hp ctr v aG∧K v aG:=P6 hm hf hk (.inl hx) hu hK hkv j9 h
theorem DI.all {es es':fD} {clock clock':Nat} {kv:Value} {c:C} {Kd:Value→Prop} {Pc:C→Prop} (h:DI es clock kv c es' clock') (j9:mO Kd Pc es) (hk:Kd kv) (hc:Pc c):mO Kd Pc es':=by
 rcases h with⟨i,p,_,_,rfl,_⟩|⟨_,rfl,_⟩
 · intro p hp
   rcases List.mem_or_eq_of_mem_set hp with hp|rfl
   · exact j9 p hp
   · exact⟨hk,hc⟩
 · intro p hp
   simp only[List.mem_append,List.mem_singleton]at hp
   rcases hp with hp|rfl
   · exact j9 p hp
   · exact⟨hk,hc⟩
theorem IP {n ctr:Nat} {t ty kt et:TypeId} {m k x:Operand} {tm:TS} {hp:HS} {id clock:Nat} {es:fD} {kv:Value} {c:C} {Kd:Value→Prop} {Pc:C→Prop} {K:V→HS→Prop} (hm:Gt n tm m= .w (.one (.map id))) (hf:find hp id=some (.mp es clock)) (hk:(Gt n tm k).val? =some kv) (hx:Gt n tm x= .w (.one c)) (hu:P.underlying t=some (.map kt et))
 (hK:jz P kt Kd) (hkv:Kd kv) (j9:mO Kd Pc es) (hc:Pc c) (h: ∀es' clock',mO Kd Pc es'→K .undef (jN hp id (.mp es' clock'))):
 ∃v aG,j6 P n (.mapUpdate t m k x) ty tm hp ctr v aG∧K v aG:=
 VG hm hf hk hx hu hK hkv j9.keys (fun es' clock' hp=>h es' clock' (hp.all j9 hkv hc))
theorem mO.av {Kd:Value→Prop} {Pc:C→Prop} {es:fD} (h:mO Kd Pc es) {f:C→C} (hf: ∀c,Pc c→Pc (f c)):mO Kd Pc (es.map fun p=>(p.1,f p.2.1,p.2.2)):=by
 intro p hp
 simp only[List.mem_map]at hp
 obtain⟨q,hq,rfl⟩:=hp
 exact⟨(h q hq).1,hf _ (h q hq).2⟩
def DJ (c:C):Prop:= ∃b,c= .t (.val (.bool b))
end Go.aT
end
section
namespace Go.aT.Cd
open Go Go.Proofs
set_option maxRecDepth 100000
set_option maxHeartbeats 1000000
theorem uSB:Tryz.prog.underlying 250=some (.map 9 4):=by kernel_rfl
theorem zBo:nq Tryz.prog 4=some (.bool false):=by kernel_rfl
theorem kSt:jz Tryz.prog 9 Tj:=HA (by kernel_rfl)
theorem DJ.av {c:C} (h:DJ c) (f:Nat→Option Nat):DJ (c.av f):=by
 obtain⟨b,rfl⟩:=h
 exact⟨b,rfl⟩
theorem qY (xs:Lz) (a:Int) (hx:Is xs) (hl:xs.length≤maxLen):Tg 158 [oL 1 xs,oI a] GI:=by
 refine ah Tryz.func158 ?_
 repeat' (conv=>whnf
          first
  |(refine au (fun h=>?_) (fun h=>?_))
  |(refine aq hx (by first|omega|exact bF (by first|omega|(simp (disch:=omega) only[aa];omega))|(simp (disch:=omega) only[aa];omega)) (by first|omega|exact bq (by omega)|(simp (disch:=omega) only[aa];omega)) ?_;rintro _ ⟨b,rfl⟩ hs)
  |exact gI rfl rfl
  |(apply aM [0,1,7,8] [] [8] (RI xs.length) (xs.length) [iV .i64 0];(conv=>whnf);exact⟨rfl,rfl,rfl,rfl⟩;exact rfl;exact rfl;exact RI.zero;rintro _ _ ⟨i,hi,rfl,rfl⟩)
  |(refine ak [0,1,7,8] [] ?_;(conv=>whnf);exact⟨rfl,_,[_],RI.succ (N:=xs.length) (i:=i) (by omega) hl,rfl,rfl,rfl,by omega⟩))
 all_goals (conv=>whnf)
theorem nK (xs:Lz) (a:Int) (hx:Is xs) (hl:xs.length≤maxLen):Tg 131 [oL 1 xs,oI a] GB:=by
 refine ah Tryz.func131 ?_
 repeat' (conv=>whnf
          first
  |(refine ai rfl (qY xs _ hx hl) ?_;rintro _ ⟨n,rfl⟩)
  |exact gB rfl rfl)
 all_goals (conv=>whnf)
def YL (e:List T):Prop:= ∃a b c,e=[tI a,tI b,tB c]
def YN (e:List T):Prop:= ∃a b c d q f,e=[tI a,tI b,tI c,tI d,tB q,tI f]
def YP (e:List T):Prop:= ∃nm m t af us,e=[.val (.string nm),tI m,tI t, .aB 1 af, .aB 1 us]∧nm.size≤maxLen∧(Is af∧af.length≤maxLen)∧Is us∧us.length≤maxLen
abbrev mA (sn:ByteArray) (bK ms ps us ss os:Lz):W:= .agg [.t (.val (.string sn)), .t (.aB 1 bK), .t (.aB 1 ms), .t (.aB 7 ps), .t (.aB 3 us), .t (.aB 6 ss), .t (.aB 5 os)]
structure jy (sn:ByteArray) (bK ms ps us ss os:Lz):Prop where
 JX:sn.size≤maxLen
 JW:YE bK
 Xg:bK.length≤maxLen
 hms:Is ms
 hml:ms.length≤maxLen
 hps: ∀e,e∈ps→N0 e
 jo:ps.length≤maxLen
 gO: ∀e,e∈us→YL e
 LI:us.length≤maxLen
 hss: ∀e,e∈ss→YN e
 MO:ss.length≤maxLen
 hos: ∀e,e∈os→YP e
 Xw:os.length≤maxLen
def RMs (row:List C) (N:Nat) (m:Nat) (vs:List V) (hq:HS):Prop:= ∃ (i:Nat) (es:fD) (c:Nat),i≤N∧mO Tj DJ es∧m=N - i∧vs=[iV .i64 (i:Int)]∧hq=[(4, .row 7 [row]),(8, .mp es c)]
abbrev YB (bK ms ps us ss os:Lz):Prop:=(ms.length=bK.length∧1≤bK.length)∧(bK.length≤12∧ps.length≤12∧us.length≤12)∧ss.length≤24∧os.length≤16
theorem sJ (sn:ByteArray) (bK ms ps us ss os:Lz) (hS:jy sn bK ms ps us ss os):Tg 97 [mA sn bK ms ps us ss os] (kZ (fun n=>n=0→YB bK ms ps us ss os)):=by
 have w6:=hS.Xg
 have EG:=hS.hml
 refine ah Tryz.func97 ?_
 repeat' (conv=>whnf
          first
  |(refine au (fun h=>?_) (fun h=>?_))
  |(refine ca (fun h=>?_) (fun h=>?_))
  |(refine aF (fun h=>?_) (fun h=>?_))
  |(refine aq (xs:=bK) hS.JW (by omega) (by omega) ?_;rintro _ ⟨s,rfl,hsz⟩ hs)
  |(refine aq (xs:=ms) hS.hms (by omega) (by omega) ?_;rintro _ ⟨a,rfl⟩ hs)
  |(refine ai rfl (qW sn hS.JX) ?_;rintro _ ⟨b,rfl⟩)
  |(refine ai rfl (AE s hsz) ?_;rintro _ ⟨b,rfl⟩)
  |(refine ai rfl (nK ms _ hS.hms EG) ?_;rintro _ ⟨b,rfl⟩)
  |(refine zf ?_)
  |(refine L5 rfl rfl rfl uSB zBo kSt ⟨_,rfl⟩ hM ⟨false,rfl⟩ ?_;rintro _ ⟨b,rfl⟩)
  |(refine IP rfl rfl rfl rfl uSB kSt ⟨_,rfl⟩ hM ⟨true,rfl⟩ ?_;rintro Yc c2 hM2)
  |(refine gi rfl rfl (fun h0=>?_);first|(exfalso;omega)|omega|exact⟨⟨by omega,by omega⟩,⟨by omega,by omega,by omega⟩,by omega,by omega⟩)
  |(apply aM [85,86,87] [] [87] (RI ms.length) (ms.length) [iV .i64 0];(conv=>whnf);exact⟨rfl,rfl,rfl,rfl⟩;exact rfl;exact rfl;exact RI.zero;rintro _ _ ⟨i,hi,rfl,rfl⟩)
  |(refine ak [85,86,87] [] ?_;(conv=>whnf);exact⟨rfl,_,[_],RI.succ (N:=ms.length) (i:=i) (by omega) EG,rfl,rfl,rfl,by omega⟩)
  |(apply bX [1,5,46,47,48] [] [48] (RMs [.t (.val (.string sn)), .t (.aB 1 bK), .t (.aB 1 ms), .t (.aB 7 ps), .t (.aB 3 us), .t (.aB 6 ss), .t (.aB 5 os)] bK.length) (bK.length) [iV .i64 0];(conv=>whnf);exact⟨rfl,rfl,rfl,rfl⟩;exact rfl;exact rfl;exact⟨0,_,_,by omega,mO.nil,rfl,rfl,rfl⟩;rintro _ _ _ ⟨i,es,c,hi,hM,rfl,rfl,rfl⟩)
  |(refine ak [1,5,46,47,48] [] ?_;(conv=>whnf);exact⟨rfl,_,[_],⟨i+1,_,_,by omega,hM2.av (fun c hc=>DJ.av hc _),rfl,by simp only[maxLen]at w6;rw[bh (by omega) (by omega)];rfl,rfl⟩,rfl,rfl,by omega⟩)
  |(apply aM [1,21,22,23] [] [23] (RI bK.length) (bK.length) [iV .i64 0];(conv=>whnf);exact⟨rfl,rfl,rfl,rfl⟩;exact rfl;exact rfl;exact RI.zero;rintro _ _ ⟨i,hi,rfl,rfl⟩)
  |(refine ak [1,21,22,23] [] ?_;(conv=>whnf);exact⟨rfl,_,[_],RI.succ (N:=bK.length) (i:=i) (by omega) w6,rfl,rfl,rfl,by omega⟩))
 all_goals (conv=>whnf)
def ZT (N:Nat) (e:List T):Prop:= ∃a b c,e=[tI a,tI b,tB c]∧(0≤a∧a < (N:Int))∧1≤b∧b≤4
def NU (us:Lz) (N i:Nat):Prop:= ∀j e,j < i→us[j]? =some e→ZT N e
theorem NU.all {us:Lz} {N i:Nat} (h:NU us N i) (hi:us.length≤i): ∀e,e∈us→ZT N e:=by
 intro e he
 obtain⟨j,hj,rfl⟩:=List.getElem_of_mem he
 exact h j _ (by omega) (by simp[hj])
def ZX (us:Lz) (N:Nat) (m:Nat) (vs:List V):Prop:= ∃i:Nat,i≤us.length∧NU us N i∧m=us.length - i∧vs=[iV .i64 (i:Int)]
theorem ZX.next {us:Lz} {N i:Nat} {a b:Int} {c:Bool} (hi:(i:Int) < (us.length:Int)) (hl:us.length≤maxLen) (h:NU us N i) (hs:us[((i:Int)).toNat]? =some [tI a,tI b,tB c]) (ha:0≤a) (ha2:a < (N:Int)) (hb:1≤b) (nj:b≤4):ZX us N (us.length - (i+1)) [iV .i64 (IntKind.i64.wrap ((i:Int)+1))]:=by
 refine⟨i+1,by omega,fun j e hj he=>?_,rfl,by simp only[maxLen]at hl;rw[bh (by omega) (by omega)];rfl⟩
 by_cases fT:j=i
 · subst fT
   have hs':us[j]? =some [tI a,tI b,tB c]:=by simpa using hs
   rw[hs']at he
   exact⟨a,b,c,(Option.some.inj he).symm,⟨ha,ha2⟩,hb,nj⟩
 · exact h j e (by omega) he
theorem AF (sn:ByteArray) (bK ms ps us ss os:Lz) (hp: ∀e,e∈ps→N0 e) (a b:Int):Tg 99 [mA sn bK ms ps us ss os,oI a,oI b] GB:=by
 refine ah Tryz.func99 ?_
 repeat' (conv=>whnf
          first
  |(refine au (fun h=>?_) (fun h=>?_))
  |(refine aq (xs:=ps) hp (by omega) (by omega) ?_;rintro _ ⟨nm,es,g,ns,cs,ws,mt,rfl,hnm,⟨he,hm⟩,⟨hn,_⟩,⟨hc,eF⟩,hw,yg⟩ hs)
  |exact gB rfl rfl)
 all_goals (conv=>whnf)
abbrev ajJ (bK ms ps us ss os:Lz):Prop:=YB bK ms ps us ss os∧ ∀e,e∈us→ZT ps.length e
theorem nE (sn:ByteArray) (bK ms ps us ss os:Lz) (hS:jy sn bK ms ps us ss os):Tg 74 [mA sn bK ms ps us ss os] (kZ (fun n=>n=0→ajJ bK ms ps us ss os)):=by
 have w6:=hS.jo
 have EG:=hS.LI
 have hz3:=hS.MO
 refine ah Tryz.func74 ?_
 repeat' (conv=>whnf
          first
  |(refine au (fun h=>?_) (fun h=>?_))
  |(refine ca (fun h=>?_) (fun h=>?_))
  |(refine aF (fun h=>?_) (fun h=>?_))
  |(refine gK (Nat.zero_le _) (by omega) ?_)
  |(refine aq (xs:=ps) hS.hps (by omega) (by omega) ?_;rintro _ ⟨nm,es,g,ns,cs,ws,mt,rfl,hnm,⟨he,hm⟩,⟨hn,_⟩,⟨hc,eF⟩,hw,yg⟩ hs)
  |(refine aq (xs:=us) hS.gO (by omega) (by omega) ?_;rintro _ ⟨a,b,c,rfl⟩ hs)
  |(refine aq (xs:=ss) hS.hss (by omega) (by omega) ?_;rintro _ ⟨a,b,c,d,q,f,rfl⟩ hs)
  |(refine And.intro (by kernel_rfl) ?_)
  |(refine And.intro (by omega) ?_)
  |(refine ai rfl (sJ sn bK ms ps us ss os hS) ?_;rintro _ ⟨e,rfl,hW⟩)
  |(refine aC rfl (sK _ (cE hS.hps _ _) (oO w6 _ _) nm es g ns cs ws mt hnm he hm hn hc eF hw yg) ?_;rintro _ ⟨e,rfl⟩)
  |(refine ai rfl (AF sn bK ms ps us ss os hS.hps _ _) ?_;rintro _ ⟨b,rfl⟩)
  |(refine gi rfl rfl (fun h0=>?_);first|(exfalso;omega)|exact⟨hW (by omega),hp.all (by omega)⟩)
  |(apply aM [1,64,65,66] [] [66] (RI ss.length) (ss.length) [iV .i64 0];(conv=>whnf);exact⟨rfl,rfl,rfl,rfl⟩;exact rfl;exact rfl;exact RI.zero;rintro _ _ ⟨i,hi,rfl,rfl⟩)
  |(refine ak [1,64,65,66] [] ?_;(conv=>whnf);exact⟨rfl,_,[_],RI.succ (N:=ss.length) (i:=i) (by omega) hz3,rfl,rfl,rfl,by omega⟩)
  |(apply aM [1,35,36,37] [] [37] (ZX us ps.length) (us.length) [iV .i64 0];(conv=>whnf);exact⟨rfl,rfl,rfl,rfl⟩;exact rfl;exact rfl;exact⟨0,by omega,fun j e hj=>by omega,rfl,rfl⟩;rintro _ _ ⟨i,hi,hp,rfl,rfl⟩)
  |(refine ak [1,35,36,37] [] ?_;(conv=>whnf);exact⟨rfl,_,[_],ZX.next (by omega) EG hp hs (by omega) (by omega) (by omega) (by omega),rfl,rfl,rfl,by omega⟩)
  |(apply aM [1,17,18,19] [] [19] (RI ps.length) (ps.length) [iV .i64 0];(conv=>whnf);exact⟨rfl,rfl,rfl,rfl⟩;exact rfl;exact rfl;exact RI.zero;rintro _ _ ⟨i,hi,rfl,rfl⟩)
  |(refine ak [1,17,18,19] [] ?_;(conv=>whnf);exact⟨rfl,_,[_],RI.succ (N:=ps.length) (i:=i) (by omega) w6,rfl,rfl,rfl,by omega⟩))
 all_goals (conv=>whnf)
end Go.aT.Cd
end
section
namespace Go.aT.Cd
open Go Go.Proofs
set_option maxRecDepth 100000
set_option maxHeartbeats 2000000
theorem aPc:ju Tryz.prog 148=some true:=by kernel_rfl
theorem zPc:cF Tryz.prog 148=some 7:=by kernel_rfl
abbrev YC (us:Lz) (N:Nat) (FC:Int):Prop:=(0≤FC∧FC < (us.length:Int))∧ ∀e,e∈us→ZT N e
def GOl (us:Lz) (N:Nat) (FC:Int) (ts:List W):Prop:= ∃gs nm es g ns cs ws mt e,ts=[oL 2 gs,Ws nm es g ns cs ws mt,oI e]∧(e=0→(uQ gs∧j7 gs∧gs.length≤maxLen)∧(Is ws∧ws.length≤maxLen)∧YC us N FC)
theorem mP (sn:ByteArray) (bK ms ps us ss os:Lz) (hS:jy sn bK ms ps us ss os) (size FC:Int):Tg 134 [mA sn bK ms ps us ss os,oI size,oI FC] (GOl us ps.length FC):=by
 refine aJ ?_
 refine ah Tryz.func134 ?_
 repeat' (conv=>whnf
          first
  |(refine au (fun h=>?_) (fun h=>?_))
  |(refine ca (fun h=>?_) (fun h=>?_))
  |(refine aq (xs:=us) (hC (by omega)).2 (by omega) (by omega) ?_;rintro _ ⟨a,b,c,rfl,⟨ha,ha2⟩,hb⟩ hs)
  |(refine aq (xs:=ps) hS.hps ha ha2 ?_;rintro _ ⟨nm,es,g,ns,cs,ws,mt,rfl,hnm,⟨he,hm⟩,⟨hn,_⟩,⟨hc,eF⟩,hw,yg⟩ bW)
  |(refine aq (xs:=ms) hS.hms (by omega) (by have:=(hC (by omega)).1.1.1;omega) ?_;rintro _ ⟨m,rfl⟩ CU)
  |(refine And.intro (by kernel_rfl) ?_)
  |(refine ai rfl (nE sn bK ms ps us ss os hS) ?_;rintro _ ⟨e,rfl,hC⟩)
  |(refine aC rfl (mE (.val (.string nm)) es (tI g) ns cs ws (tB mt) _ he hm hc eF) ?_;rintro _ ⟨gs,e2,rfl,hG⟩)
  |exact H6 rfl (bR 2 rfl) (bE aPc zPc rfl rfl (Nat.le_refl _) rfl (fO (.cons (.nil 2) (fO (.cons (.nil 2) (.cons (.nil 2) (.cons (.nil 1) (fO .nil)))))))) (bS rfl) ⟨_,_,_,_,_,_,_,_,_,rfl,fun h0=>absurd h0 (by omega)⟩
  |exact H6 rfl (bS rfl) (bE aPc zPc rfl rfl (Nat.le_refl _) rfl (cS.refl _)) (bS rfl) ⟨gs,_,es,_,ns,cs,ws,_,_,rfl,fun h0=>⟨⟨(hG h0).1.1,(hG h0).1.2.1,by have:=(hG h0).1.2.2;omega⟩,⟨hw,yg⟩,⟨by omega,by omega⟩,(hC (by omega)).2⟩⟩)
 all_goals (conv=>whnf)
theorem GZ (sn:ByteArray) (bK ms ps us ss os:Lz) (hS:jy sn bK ms ps us ss os) (size FC:Int):Tg 100 [mA sn bK ms ps us ss os,oI size,oI FC] (N2 2 (fun xs=>Ap xs∧YC us ps.length FC)):=by
 refine aJ ?_
 refine ah Tryz.func100 ?_
 repeat' (conv=>whnf
          first
  |(refine ca (fun h=>?_) (fun h=>?_))
  |(refine ai rfl (mP sn bK ms ps us ss os hS size FC) ?_;rintro _ ⟨gs,nm,es,g,ns,cs,ws,mt,e,rfl,hO⟩)
  |(refine ai rfl (vH gs ws (hO (by omega)).1.2.1 (hO (by omega)).1.2.2 (hO (by omega)).2.1.1 (hO (by omega)).2.1.2) ?_;rintro _ ⟨xs,e2,rfl,hA⟩)
  |exact dg rfl (bR 2 rfl) (bS rfl) ⟨_,_,rfl,fun h0=>absurd h0 (by omega)⟩
  |exact dg rfl (bS rfl) (bS rfl) ⟨xs,e2,rfl,fun h0=>⟨hA h0,(hO (by omega)).2.2⟩⟩)
 all_goals (conv=>whnf)
theorem AH (sn:ByteArray) (bK ms ps us ss os:Lz) (hS:jy sn bK ms ps us ss os) (size FC:Int):Tg 101 [mA sn bK ms ps us ss os,oI size,oI FC] YR:=by
 refine aJ ?_
 refine ah Tryz.func101 ?_
 repeat' (conv=>whnf
          first
  |(refine ca (fun h=>?_) (fun h=>?_))
  |(refine aq (xs:=gs) (hO (by omega)).1.1.2.1 (by omega) (by have:=(hO (by omega)).1.1.1;omega) ?_;rintro _ ⟨s,xs,rfl,hL⟩ hs)
  |(refine aq (xs:=xs) hL.wo (by omega) (by have:=hL.1;omega) ?_;rintro _ ⟨a,b,rfl⟩ hs)
  |(refine ai rfl (mP sn bK ms ps us ss os hS size FC) ?_;rintro _ ⟨gs,nm,es,g,ns,cs,ws,mt,e,rfl,hO⟩)
  |exact dg rfl (bE aSp Zc rfl rfl (Nat.le_refl _) rfl (cS.refl _)) (bS rfl) ⟨(_,_),_,rfl⟩)
 all_goals (conv=>whnf)
def ajH (N:Nat) (e:List T):Prop:= ∃g u k f q x y,e=[tI g,tI u,tI k,tB f,tI q,tI x,tI y]∧0≤u∧u < (N:Int)
abbrev GR (N:Nat) (xs:Lz):Prop:= ∀e,e∈xs→ajH N e
theorem GR.snoc {N:Nat} {xs:Lz} (h:GR N xs) (g u k q x y:Int) (f:Bool) (h0:0≤u) (h1:u < (N:Int)):GR N (xs++[[tI g,tI u,tI k,tB f,tI q,tI x,tI y]]):=by
 intro e he
 simp only[List.mem_append,List.mem_singleton]at he
 rcases he with he|rfl
 · exact h e he
 · exact⟨g,u,k,f,q,x,y,rfl,h0,h1⟩
def RCo (N:Nat) (m:Nat) (ws:List V) (xss:List (Lz)):Prop:= ∃ (i:Nat) (zs:Lz),i≤N∧m=N - i∧ws=[bD 4 7 zs.length,iV .i64 (i:Int)]∧xss=[zs]∧zs.length≤4 * i∧GR N zs
theorem RCo.next {N i:Nat} {zs:Lz} (h:(i:Int) < (N:Int)) (hN:N≤12) (hp:zs.length≤4 * (i+1)) (hS:GR N zs):RCo N (N - (i+1)) [bD 4 7 zs.length,iV .i64 (IntKind.i64.wrap ((i:Int)+1))] [zs]:=
 ⟨i+1,_,by omega,rfl,by rw[bh (by omega) (by omega)];rfl,rfl,hp,hS⟩
def RCi (N:Nat) (row:List T) (b L:Nat) (m:Nat) (ws:List V) (xss:List (Lz)):Prop:= ∃ (j:Nat) (zs:Lz),j≤L∧m=L - j∧ws=[bD 4 7 zs.length,iV .i64 (j:Int)]∧xss=[zs,[row]]∧zs.length≤b+j∧GR N zs
theorem RCi.next {N b L j k:Nat} {row:List T} {zs:Lz} {u:Int} {g q x y:Int} {f:Bool} (h:j < L) (hL:L≤4) (hp:zs.length≤b+j) (hS:GR N zs) (h0:0≤u) (h1:u < (N:Int)) (hk:k=zs.length+1):RCi N row b L (L - (j+1)) [bD 4 7 k,iV .i64 (IntKind.i64.wrap ((j:Int)+1))] [zs++[[tI g,tI u,tI (j:Int),tB f,tI q,tI x,tI y]],[row]]:=
 ⟨j+1,_,by omega,rfl,by rw[bh (by omega) (by omega),hk];simp,rfl,by simp;omega,hS.snoc g u _ q x y f h0 h1⟩
theorem AG (sn:ByteArray) (bK ms ps us ss os:Lz) (hS:jy sn bK ms ps us ss os):Tg 75 [mA sn bK ms ps us ss os] (GL 7 (fun zs=>GR us.length zs∧zs.length≤48)):=by
 refine aJ ?_
 refine ah Tryz.func75 ?_
 repeat' (conv=>whnf
          first
  |(refine au (fun h=>?_) (fun h=>?_))
  |(refine ca (fun h=>?_) (fun h=>?_))
  |(refine aF (fun h=>?_) (fun h=>?_))
  |(refine aq (xs:=us) (hC (by omega)).2 (by omega) (by omega) ?_;rintro _ ⟨a,b,c,rfl,⟨ha,ha2⟩,hb,nj⟩ hs)
  |(refine And.intro ⟨by simp[tr],by have:=(hC (by omega)).1.2.1;simp[tr,aW];omega,by have:=(hC (by omega)).1.2.1;simp[tr,maxLen];omega⟩ ?_)
  |(refine And.intro (by omega) ?_)
  |(refine ai rfl (nE sn bK ms ps us ss os hS) ?_;rintro _ ⟨e,rfl,hC⟩)
  |exact oP rfl (bR 7 rfl) ⟨[],rfl,fun e he=>by simp at he,by simp⟩
  |exact oP rfl (fz rfl rfl (xs:=zs) rfl (by omega)) ⟨_,rfl,by rw[fG rfl];exact⟨hz,by have:=(hC (by omega)).1.2.1;omega⟩⟩
  |(apply bp [3,4,5,12,13,14,20,21] [] [3,21] [(4,7),(8,3)] (RCi us.length [tI a,tI b,tB c] (4 * i) b.toNat) (b.toNat) [bD 4 7 zs.length,iV .i64 0];(conv=>whnf);exact⟨rfl,rfl,rfl,rfl⟩;exact rfl;exact rfl;exact .cons (az.av (xs:=zs) rfl _) (.cons (az.av (xs:=[[tI a,tI b,tB c]]) rfl _) .nil);exact⟨0,zs,by omega,rfl,rfl,rfl,by omega,hz⟩;rintro _ _ _ ⟨j,Ob,hj,rfl,rfl,rfl,adX,EG⟩)
  |(refine ak [3,4,5,12,13,14,20,21] [] ?_;(conv=>whnf);exact⟨rfl,_,[_,_],_, .cons (az.av (az.snoc (xs:=Ob) rfl [tI _,tI _,tI _,tB _,tI _,tI _,tI _]) _) (.cons (az.av (xs:=[[tI a,tI b,tB c]]) rfl _) .nil),RCi.next (by omega) (by omega) adX EG (by omega) (by omega) (by simp[tr]),rfl,rfl,by omega⟩)
  |(apply dQ [3,12,13,14] [] [3,14] [(4,7)] (RCo us.length) (us.length) [bD 4 7 0,iV .i64 0] (dK.jq 3 7 rfl);(conv=>whnf);exact⟨rfl,rfl,rfl,rfl⟩;exact rfl;exact rfl;exact .cons (az.av az.nil _) .nil;exact⟨0,[],by omega,rfl,rfl,rfl,by simp,fun e he=>by simp at he⟩;rintro _ _ _ ⟨i,zs,hi,rfl,rfl,rfl,jn,hz⟩)
  |(refine ak [3,12,13,14] [] ?_;(conv=>whnf);exact⟨rfl,_,[_,_],_, .cons (az.av (xs:=Ob) rfl _) .nil,RCo.next (by omega) (by have:=(hC (by omega)).1.2.1;omega) (by omega) EG,rfl,rfl,by omega⟩))
 all_goals (conv=>whnf)
end Go.aT.Cd
end
section
namespace Go.aT
open Go
variable {P:Program}
theorem Kh {ids:List Nat} {ctr:Nat} (hlt: ∀id,id∈ids→id < ctr) (HM:ids.Nodup): ∀i j k,gP ids ctr i=some k→gP ids ctr j=some k→i=j:=by
 intro i j k hi hj
 unfold gP at hi hj
 split at hi
 · split at hj
   · simp only[Option.some.injEq]at hi hj
     cases h1:ids[i]? with
     |none=>
      rw[h1]at hi
      simp only[Option.getD_none]at hi
      cases h2:ids[j]? with
      |none=>
       rw[h2]at hj
       simp only[Option.getD_none]at hj
       omega
      |some b=>
       rw[h2]at hj
       simp only[Option.getD_some]at hj
       have:=hlt b (List.mem_of_getElem? h2)
       omega
     |some a=>
      rw[h1]at hi
      simp only[Option.getD_some]at hi
      cases h2:ids[j]? with
      |none=>
       rw[h2]at hj
       simp only[Option.getD_none]at hj
       have:=hlt a (List.mem_of_getElem? h1)
       omega
      |some b=>
       rw[h2]at hj
       simp only[Option.getD_some]at hj
       obtain⟨p1,e1⟩:=List.getElem?_eq_some_iff.1 h1
       obtain⟨p2,e2⟩:=List.getElem?_eq_some_iff.1 h2
       exact(List.getElem_inj HM).1 (by rw[e1,e2,hi,hj])
   · simp at hj
 · simp at hi
theorem jZ {ids:List Nat} {k:Nat} (hn:bt ids k=none): ∀ (hp:HS),find (jt ids hp) k=find hp k
 | []=>rfl
 |(q,c)::r=>by
  simp only[jt]
  split
  · rename_i j hj
    rw[aA,if_neg,jZ hn r]
    intro e
    subst e
    rw[hn]at hj
    simp at hj
  · rw[aA,aA,jZ hn r]
theorem qE {g:Nat→Option Nat}: ∀ {hout:HS} {k:Nat} {b:bA},find (fm g hout) k=some b→ ∃j b',find hout j=some b'∧g j=some k
 | [],k,b,h=>by simp[fm,find]at h
 |(q,c)::r,k,b,h=>by
  simp only[fm]at h
  split at h
  · rename_i k' hk'
    rw[aA]at h
    split at h
    · rename_i e
      subst e
      exact⟨q,c,by rw[aA,if_pos rfl],hk'⟩
    · obtain⟨j,b',h1,h2⟩:=qE h
      by_cases e:q=j
      · subst e
        exact⟨q,c,by rw[aA,if_pos rfl],h2⟩
      · exact⟨j,b',by rw[aA,if_neg e];exact h1,h2⟩
  · obtain⟨j,b',h1,h2⟩:=qE h
    by_cases e:q=j
    · subst e
      exact⟨q,c,by rw[aA,if_pos rfl],h2⟩
    · exact⟨j,b',by rw[aA,if_neg e];exact h1,h2⟩
theorem ux {g:Nat→Option Nat} {k:Nat}: ∀ {hout:HS} {j:Nat} {b:bA},find hout j=some b→g j=some k→ ∃b',find (fm g hout) k=some b'
 | [],j,b,h,_=>by simp[find]at h
 |(q,c)::r,j,b,h,hg=>by
  rw[aA]at h
  split at h
  · rename_i e
    subst e
    simp only[fm,hg]
    exact⟨_,by rw[aA,if_pos rfl]⟩
  · obtain⟨b',h'⟩:=ux h hg
    simp only[fm]
    split
    · rw[aA]
      split
      · exact⟨_,rfl⟩
      · exact⟨b',h'⟩
    · exact⟨b',h'⟩
theorem xa {f:Nat→Option Nat} {hp:HS}: ∀ {ids:List Nat} {j i id:Nat} {b:bA},ids[i]? =some id→(∀ (i' id':Nat),ids[i']? =some id'→ ∃b',find hp id'=some b')→find hp id=some b→find (cM f hp j ids) (j+i)=some (b.av f)
 | [],j,i,id,b,h,_,_=>by simp at h
 |x::r,j,i,id,b,h,hall,hb=>by
  simp only[cM]
  obtain⟨bx,ZB⟩:=hall 0 x rfl
  rw[ZB]
  cases i with
  |zero=>
   simp only[List.getElem?_cons_zero,Option.some.injEq]at h
   subst h
   rw[hb]at ZB
   simp only[Option.some.injEq]at ZB
   subst ZB
   simp[find]
  |succ i=>
   have:find (cM f hp (j+1) r) (j+1+i)=some (b.av f):=xa (by simpa using h) (fun i' id' h'=>hall (i'+1) id' (by simpa using h')) hb
   rw[show j+(i+1)=j+1+i by omega,aA,if_neg (by omega)]
   exact this
theorem BQ {f:FuncId} {us args:List W} {hp hin:HS} {ctr:Nat} {res:V} (ids:List Nat) (hok:w4 ids ctr=true) (hfn:Fn P f args hin res hin)
 (ha:us.map (W.av (bt ids))=args) (hh:cM (bt ids) hp 0 ids=hin) (C4: ∀id,id∈ids→ ∃b,find hp id=some b∧(b.av (bt ids)).av (gP ids ctr)=b):
 gh P f us hp ctr (res.av (gP ids ctr)) hp (ctr+4):=by
 have vp:=hok
 simp only[w4,Bool.and_eq_true,decide_eq_true_eq,List.all_eq_true]at vp
 obtain⟨⟨hlen,hlt⟩,HM⟩:=vp
 have hinj:=Kh (ids:=ids) (ctr:=ctr) hlt HM
 intro M A ρ a w n L xs hr hx
 refine(uN ids hok hfn ha hh M A ρ a w n L xs hr hx).mono ?_
 rintro e w' ⟨x,A',ρ',rfl,r1,r2,r3,r4,r5⟩
 refine⟨x,A',ρ',rfl,r1.forget rfl (fun _ _ h=>h) (fun k b hb=>?_),r2,r3,r4,r5⟩
 simp only at hb⊢
 cases hk:bt ids k with
 |none=>
  have hnone:find (fm (gP ids ctr) hin) k=none:=by
   cases hq:find (fm (gP ids ctr) hin) k with
   |none=>rfl
   |some b2=>
    obtain⟨j,b',h1,h2⟩:=qE hq
    rw[←hh]at h1
    obtain⟨i,id,b3,rfl,h3,h4,_⟩:=cu h1
    have hi4:0+i < 4:=by have:=(List.getElem?_eq_some_iff.1 h3).1;omega
    have agB:i < 4:=by omega
    simp only[gP,Nat.zero_add,h3,Option.getD_some,if_pos agB,Option.some.injEq]at h2
    subst h2
    exact absurd h3 (iS hk i)
  rw[cO,hnone,Option.none_or,jZ hk]
  exact hb
 |some j=>
  have hj:=eE hk
  have hj4:j < 4:=by have:=(List.getElem?_eq_some_iff.1 hj).1;omega
  have hg:gP ids ctr j=some k:=by simp only[gP,if_pos hj4,hj,Option.getD_some]
  have XK:find hin j=some (b.av (bt ids)):=by
   rw[←hh]
   have:=xa (f:=bt ids) (hp:=hp) (j:=0) hj (fun i' id' h'=>by
    obtain⟨b',h1,_⟩:=C4 id' (List.mem_of_getElem? h')
    exact⟨b',h1⟩) hb
   simpa using this
  obtain⟨b2,nj⟩:=ux XK hg
  obtain⟨j',b',g1,g2,g3⟩:=jk hinj nj
  have:=hinj _ _ _ g1 hg
  subst this
  rw[XK]at g2
  simp only[Option.some.injEq]at g2
  subst g2
  obtain⟨b4,h4,h5⟩:=C4 k (List.mem_of_getElem? hj)
  rw[hb]at h4
  simp only[Option.some.injEq]at h4
  subst h4
  rw[cO,nj,Option.some_or,g3,h5]
end Go.aT
end
section
namespace Go.aT
open Go
variable {P:Program} {M A:Nat→Prop} {ρ:Env} {F:Nat→Prop} {st:St} {a:Act} {w:World}
theorem dK.cut {tm:TS} {hp:HS} {ctr sz:Nat} {rows:List (List C)} (id k:Nat) (hf:find hp id=some (.row sz rows)):dK tm hp ctr tm (jN hp id (.row sz (rows.take k))) ctr:=by
 intro M A ρ n a w hr
 refine⟨A,ρ,⟨hr.size,hr.defers,hr.tmps,fun q blk hb=>?_,fun W5 HH b1 b2 b h1 h2 r1 r2=>?_,hr.fresh,hr.bound,hr.may,hr.ep⟩,iZ.refl _,gD.refl M A w⟩
 · simp only[bO]at hb
   split at hb
   · rename_i e
     subst e
     rw[hf]at hb
     simp only[Option.map_some,Option.some.injEq]at hb
     subst hb
     obtain⟨h1,h2⟩:=hr.heap q _ hf
     refine⟨fun e he=>h1 e (List.mem_of_mem_take he),?_⟩
     rcases h2 with⟨b,c,e,k1,k2,k3,k4,k5,k6⟩|⟨k1,k2⟩
     · refine .inl ⟨b,c,e,k1,k2,k3,k4,?_,fun i el j q' hi hj=>k6 i el j q' (Cc hi) hj⟩
       refine Nat.le_trans (Nat.mul_le_mul_right _ ?_) k5
       simp only[List.length_take]
       omega
     · exact .inr ⟨k1,by rw[k2];simp⟩
   · exact hr.heap q blk hb
 · have old: ∀ {q:Nat} {bl:bA},find (jN hp id (.row sz (rows.take k))) q=some bl→ ∃Ah,find hp q=some Ah:=by
    intro q bl hq
    simp only[bO]at hq
    split at hq
    · rename_i e
      subst e
      exact⟨_,hf⟩
    · exact⟨_,hq⟩
   obtain⟨c1,g1⟩:=old h1
   obtain⟨c2,g2⟩:=old h2
   exact hr.inj W5 HH c1 c2 b g1 g2 r1 r2
end Go.aT
end
section
namespace Go.aT
open Go
variable {P:Program} {M A:Nat→Prop} {ρ:Env} {F:Nat→Prop} {st:St} {a:Act} {w:World}
theorem D4 {n ctr:Nat} {op:Op} {ty:TypeId} {tm:TS} {hp:HS} {v:V} {K:V→HS→Prop} (h:aY P (St.get ⟨n,tm,[]⟩) ⟨none,op,ty, "", #[],none⟩=some v) (hk:K v hp):
 ∃v aG,j6 P n op ty tm hp ctr v aG∧K v aG:=by
 refine⟨_,_,?_,hk⟩
 rintro⟨dst',op',ty',pos',after',guard'⟩ rfl rfl
 intro M A ρ a w hr
 have hg:St.get ⟨n,tm,hp⟩=St.get ⟨n,tm,[]⟩:=by
  funext x
  exact lM x
 refine iE (st:=⟨n,tm,hp⟩) ?_ hr cP
 rw[hg]
 exact h
theorem P9 {n ctr m size bytes:Nat} {t t' ty e:TypeId} {ik:IntKind} {s x:Operand} {tm:TS} {hp:HS} {z:List C} {N:Int} {K:V→HS→Prop} (hs:Gt n tm s= .w (.one (.t iK))) (hx:(Gt n tm x).gb =some (.i64,N)) (hN:N=((m+1:Nat):Int))
 (hu:P.underlying t=some (.slice e)) (Bl:P.underlying t'=some (.int ik)) (hT:ov P e=some (size,bytes)) (hz:jL P e=some z) (hsz:z.length=size) (hb:(m+1) * bytes≤70368744177664) (hm:m+1≤70368744177664)
 (hk:K (.w (.one (.own ctr size 0 (m+1)))) ((ctr, .row size (List.replicate (m+1) z))::hp)):
 ∃v aG,j6 P n (.call ⟨.builtin .append, #[s,x], #[t,t']⟩) ty tm hp ctr v aG∧K v aG:=by
 refine⟨_,_,?_,hk⟩
 rintro⟨dst',op',ty',pos',after',guard'⟩ rfl rfl
 intro M A ρ a w hr
 have vs:=hr.get s
 rw[lM,hs]at vs
 have vx:=V.iT hx (by have:=hr.get x;rw[lM]at this;exact this)
 have Xj:a.eval s= .slice none 0 0:=V.bk (v:= .slice none 0 0) rfl vs
 obtain⟨inf,zv,z1,z2,z3,z4,z5,z6⟩:=mJ hT
 obtain⟨adV,zv',y1,y2,y3,y4,y5⟩:=fE hz w A ρ
 rw[z1]at y1
 simp only[Option.some.injEq]at y1
 subst y1
 rw[z2]at y2
 simp only[Option.some.injEq]at y2
 subst y2
 have hrun:=lu (P:=P) (ty:=ty') hu Bl z1 z2 (m+1) (by omega) (by omega) hm (by rw[z4];exact hb) w
 have hge:=grownCap_ge w (m+1) 0 e
 obtain⟨e1,e2,e3⟩:=nn y5 (m+1)
 have hlen:(List.replicate (m+1) z).length=m+1:=by simp
 obtain⟨A',ρ',r1,r2,r3,r4,r5⟩:=jX (st:=⟨n,tm,hp⟩) (e:=e) (z:=zv.cells) (cap:=grownCap w (m+1) 0 e) (zs:=List.replicate (m+1) z) (vs:=(Builtin.zeroCells zv.cells (m+1)).toList) (size:=size) hr (Nat.le_refl ctr) z5
  (fun el hel=>by rw[List.eq_of_mem_replicate hel];exact hsz)
  (by rw[Array.length_toList,size_zeroCells,z5,hlen]) (by rw[hlen];exact hge)
  (fun i el j k hi hj=>by
    obtain⟨y,hy,kC,w7⟩:=e3 i el j k hi hj
    refine⟨y,?_,kC,w7⟩
    rw[Array.getElem?_toList, ←hsz]
    have ez:Builtin.zeroCells zv.cells (m+1)=(Array.range ((m+1) * z.length)).map fun k=>zv.cells[k % zv.cells.size]! :=by
     unfold Builtin.zeroCells
     have:zv.cells.size=z.length:=by rw[y3,y4]
     rw[this]
    rw[ez]
    exact hy)
 rw[hlen]at r1 r2 r3
 simp only[Array.toArray_toList]at r1 r2 r3
 refine⟨_,_,A',ρ', .inl ?_,r1.sub iw,r2,r3,r4,r5⟩
 have Xa:a.eval x= .int .i64 ((m+1:Nat):Int):=by rw[vx,hN]
 have RZ:(execOp a.eval ⟨dst',Op.call ⟨.builtin .append, #[s,x], #[t,t']⟩,ty',pos',after',guard'⟩).run P w=((Builtin.append_ #[t,t'] ty' #[a.eval s,a.eval x]).run P w).andThen fun v w'=> .ok (.value v) w':=by
  simp[execOp,resolve,invoke,builtin]
 rw[RZ,Xj,Xa,hrun]
 rfl
theorem lW {f:FuncId} {us ts:List W} {hp:HS} {ctr sz:Nat} {K:V→HS→Prop} {p:Lz→Prop} (hl:jr hp us=some ts) (hfl: ∀xs,p xs→(bA.row sz (tr xs)).flat=true) (h: ∃rs hout,Ar P f ts (aL rs) hout∧GN sz p rs hout)
 (hk: ∀xs,p xs→K (.w (.one (.own (0+ctr) sz 0 xs.length))) ((0+ctr, .row sz (tr xs))::hp)): ∃v aG,eU P hp ctr f us v aG∧K v aG:=by
 obtain⟨rs,hout,h1,xs,rfl,rfl,h2⟩:=h
 have iN:eU P hp ctr f us ((aL [.one (.own 0 sz 0 xs.length)]).up ctr) (gj ctr [(0, .row sz (tr xs))]++hp):=
  .inl ⟨_,_,ts,h1,rfl,rfl, .inr ⟨hl,rfl,fun id blk hf=>by
   simp only[find]at hf
   split at hf
   · simp only[Option.some.injEq]at hf
     subst hf
     exact hfl xs h2
   · simp at hf⟩⟩
 refine⟨_,_,iN,?_⟩
 have:=hk xs h2
 simp only[aL,V.up,W.up,C.up,gj,bA.up,Nat.zero_lt_succ,if_true,Oh]at this⊢
 exact this
end Go.aT
end
section
namespace Go.aT
open Go
variable {P:Program} {M A:Nat→Prop} {ρ:Env} {F:Nat→Prop} {st:St} {a:Act} {w:World}
theorem Rel.cut {hp:HS} {n:Nat} {tm:TS} {sz:Nat} {rows:List (List C)} (hr:Rel M A ρ F ⟨n,tm,hp⟩ a w) (id k:Nat) (hf:find hp id=some (.row sz rows)):Rel M A ρ F ⟨n,tm,jN hp id (.row sz (rows.take k))⟩ a w:=by
 refine⟨hr.size,hr.defers,hr.tmps,fun q blk hb=>?_,fun W5 HH b1 b2 b h1 h2 r1 r2=>?_,hr.fresh,hr.bound,hr.may,hr.ep⟩
 · simp only[bO]at hb
   split at hb
   · rename_i e
     subst e
     rw[hf]at hb
     simp only[Option.map_some,Option.some.injEq]at hb
     subst hb
     obtain⟨h1,h2⟩:=hr.heap q _ hf
     refine⟨fun e he=>h1 e (List.mem_of_mem_take he),?_⟩
     rcases h2 with⟨b,c,e,k1,k2,k3,k4,k5,k6⟩|⟨k1,k2⟩
     · refine .inl ⟨b,c,e,k1,k2,k3,k4,?_,fun i el j q' hi hj=>k6 i el j q' (Cc hi) hj⟩
       refine Nat.le_trans (Nat.mul_le_mul_right _ ?_) k5
       simp only[List.length_take]
       omega
     · exact .inr ⟨k1,by rw[k2];simp⟩
   · exact hr.heap q blk hb
 · have old: ∀ {q:Nat} {bl:bA},find (jN hp id (.row sz (rows.take k))) q=some bl→ ∃Ah,find hp q=some Ah:=by
    intro q bl hq
    simp only[bO]at hq
    split at hq
    · rename_i e
      subst e
      exact⟨_,hf⟩
    · exact⟨_,hq⟩
   obtain⟨c1,g1⟩:=old h1
   obtain⟨c2,g2⟩:=old h2
   exact hr.inj W5 HH c1 c2 b g1 g2 r1 r2
theorem Ar.cut {f:FuncId} {args:List W} {v:V} {sz:Nat} {rows:List (List C)} (k:Nat) (h:Ar P f args v [(0, .row sz rows)]):Ar P f args v [(0, .row sz (rows.take k))]:=by
 intro w A xs hH hx
 refine(h w A xs hH hx).mono ?_
 rintro e w' ⟨x,A',ρ',F',h1,h2,h3,h4,h5⟩
 refine⟨x,A',ρ',F',h1,h2,?_,h4,h5⟩
 have:=Rel.cut (sz:=sz) (rows:=rows) h3 0 k (by simp[find])
 exact this
def AW (v:V):List Nat→TS→TS
 | [],tm=>tm
 |t::ts,tm=>(t,v)::AW v ts tm
theorem uD {v u:V} {tm:TS} {k:Nat}: ∀ {ts:List Nat},find (AW v ts tm) k=some u→(k∈ts∧u=v)∨find tm k=some u
 | [],h=> .inr h
 |t::ts,h=>by
  simp only[AW,aA]at h
  split at h
  · rename_i e
    subst e
    simp only[Option.some.injEq]at h
    exact .inl ⟨List.mem_cons_self,h.symm⟩
  · rcases uD h with⟨h1,h2⟩|h
    · exact .inl ⟨List.mem_cons_of_mem _ h1,h2⟩
    · exact .inr h
theorem dK.Kj {tm:TS} {hp:HS} {ctr sz len:Nat} {rows:List (List C)} {xs:Lz} (ts:List Nat) (id:Nat) (h: ∀t,t∈ts→find tm t=some (.w (.one (.own id sz 0 len)))) (hf:find hp id=some (.row sz rows)) (hR:az rows xs) (hl:len≤xs.length):
 dK tm hp ctr (AW (.w (.one (.t (.aB sz (xs.take len))))) ts tm) (del hp id) ctr:=by
 intro M A ρ n a w hr
 have h0:=Rel.forget hr (st':=⟨n,tm,[(id, .row sz rows)]⟩) rfl (fun _ _ h=>h) (fun k b hb=>by
  simp only[aA]at hb
  split at hb
  · rename_i e
    subst e
    rw[←hb]
    exact hf
  · simp[find]at hb)
 let B:Nat→Prop:=fun b=>A b∧ρ id≠some (.gz b)
 have hfz:bY [(id,bA.row sz rows)] (.one (.own id sz 0 len))=some (.one (.t (.aB sz ((xs.drop 0).take len)))):=kE (hp:=[(id,bA.row sz rows)]) (by simp[find]) hR (by omega)
 have hnew: ∀t,t∈ts→RW w B ρ (.one (.t (.aB sz ((xs.drop 0).take len)))) (a.tmps.getD t undef):=fun t ht=>
  jY h0 (B:=B) (fun b hb=>hb.1) (fun k blk b hk hρ hB=>by
   simp only[aA]at hk
   split at hk
   · rename_i e
     subst e
     exact hB.2 hρ
   · simp[find]at hk) hfz (hr.tmps t _ (h t ht)) ρ
 have hs:Rel M B ρ (bu ctr) ⟨n,tm,del hp id⟩ a w:=Rel.shrink (hp:=del hp id) hr (fun b hb=>hb.1) (fun k b hk=>by
  rw[dh]at hk
  split at hk
  · simp at hk
  · exact hk) (fun k blk b hk hρ=>by
  rw[dh]at hk
  split at hk
  · simp at hk
  · rename_i hne
    refine⟨(ES (hr.heap k blk hk) hρ).1,fun h2=>?_⟩
    exact hne (hr.inj k id blk _ b hk hf hρ h2))
 refine⟨B,ρ,⟨hs.size,hs.defers,fun u v hv=>?_,hs.heap,hs.inj,hs.fresh,hs.bound,hs.may,hs.ep⟩,iZ.refl _,fun b hA hM=>⟨hA,fun h2=>hM ((hr.heap id _ hf).lt h2).2.1⟩,fun b _ hb=>hb.1⟩
 rcases uD hv with⟨h1,rfl⟩|hv
 · have e:(xs.drop 0).take len=xs.take len:=by simp
   have:=hnew u h1
   rw[e]at this
   exact this
 · exact hs.tmps u v hv
theorem JE {p:Nat→Prop} {a b:Nat} (ha:p a) (hb:p b): ∀t,t∈ [a,b]→p t:=by
 intro t ht
 simp only[List.mem_cons,List.not_mem_nil,or_false]at ht
 rcases ht with rfl|rfl
 · exact ha
 · exact hb
theorem adN {p:Nat→Prop} {a:Nat} (ha:p a): ∀t,t∈ [a]→p t:=by
 intro t ht
 simp only[List.mem_singleton]at ht
 subst ht
 exact ha
def Ue (sz:Nat) (ts:List W) (hout:HS):Prop:= ∃rows,ts=[.one (.own 0 sz 0 0)]∧hout=[(0, .row sz rows)]
theorem gNc {hp:HS} {tm:TS} {rs:List ResultVar} {t id sz:Nat} {rows:List (List C)} (hr:rs=[.tmp t]) (h:find tm t=some (.w (.one (.own id sz 0 0)))) (hf:find hp id=some (.row sz rows)):
 ∃us ids,aN P hp tm rs=some us∧(ids.length≤4∧ids.Nodup)∧Ue sz (us.map (W.av (bt ids))) (cM (bt ids) hp 0 ids):=by
 subst hr
 refine⟨[.one (.own id sz 0 0)],[id],by simp only[aN,cz,h],⟨by simp,by simp⟩,rows.map fun e=>e.map (C.av (bt [id])),?_,?_⟩
 · simp[W.av,C.av,bt]
 · simp only[cM,hf,bA.av]
theorem Ue.new {f:FuncId} {args:List W} {sz:Nat} (h: ∃ts hout,Ar P f args (aL ts) hout∧Ue sz ts hout): ∃ts hout,Ar P f args (aL ts) hout∧GN sz (fun xs=>xs=[]) ts hout:=by
 obtain⟨ts,hout,h1,rows,rfl,rfl⟩:=h
 have:=h1.cut 0
 rw[List.take_zero]at this
 exact⟨_,_,this,[],rfl,rfl,rfl⟩
theorem jU {hp:HS} {id sz:Nat} {rows:List (List C)} {xs:Lz} (hf:find hp id=some (.row sz rows)) (hR:az rows xs):cM (bt [id]) hp 0 [id]=[(0, .row sz (tr xs))]:=by
 simp only[cM,hf,bA.av]
 rw[hR,eu]
theorem vK {f:FuncId} {us ts:List W} {hp:HS} {ctr:Nat} {K:V→HS→Prop} {Good:List W→Prop} (hl:jr hp us=some ts) (h: ∃rs,Fn P f ts [] (aL rs) []∧(aL rs).bL=true∧Good rs) (hf: ∀rs,Good rs→(aL rs).flat=true) (hk: ∀rs,Good rs→K (aL rs) hp): ∃v aG,eU P hp ctr f us v aG∧K v aG:=by
 obtain⟨rs,h1,h2,h3⟩:=h
 refine⟨aL rs,hp, .inl ⟨aL rs,[],ts,h1.toF,(V.qi h2).symm,rfl, .inr ⟨hl,hf rs h3,fun id blk h=>by simp[find]at h⟩⟩,hk rs h3⟩
end Go.aT
end
section
namespace Go.aT.Cd
open Go Go.Proofs
set_option maxRecDepth 100000
set_option maxHeartbeats 1000000
def Z5 (n:Nat) (m:Nat) (ws:List V) (xss:List (Lz)):Prop:= ∃ (i q:Int) (zs:Lz),(0≤i∧i≤(n:Int)∧q < (n:Int)∧ -1≤q)∧m=(q+1 - i).toNat∧ws=[iV .i64 i,iV .i64 q]∧xss=[zs]∧zs.length=n∧bG zs
theorem Z5.next {n:Nat} {i q:Int} {zs:Lz} (hb:0≤i∧i≤(n:Int)∧q < (n:Int)∧ -1≤q) (h:i < q) (hn:n≤1000000) (hz:zs.length=n) (hS:bG zs) (j1 j2:Nat) (a b c d:Int):
 Z5 n (q - 1+1 - (i+1)).toNat [iV .i64 (IntKind.i64.wrap (i+1)),iV .i64 (IntKind.i64.wrap (q - 1))] [(zs.set j1 [tI a,tI b]).set j2 [tI c,tI d]]:=
 ⟨i+1,q - 1,_,by omega,rfl,by rw[bh (by omega) (by omega),bh (by omega) (by omega)],rfl,by simp[hz],(hS.set j1 a b).set j2 c d⟩
def GRv (n:Nat) (ts:List W) (hout:HS):Prop:=ts=[]∧ ∃ys,hout=[(0, .row 2 (tr ys))]∧ys.length=n∧bG ys
theorem nH (xs:Lz) (hx:bG xs) (hl:xs.length≤1000000): ∃ts hout,Fn Tryz.prog 150 [.one (.own 0 2 0 xs.length)] [(0, .row 2 (tr xs))] (aL ts) hout∧GRv xs.length ts hout:=by
 refine dD Tryz.func150 ?_
 repeat' (conv=>whnf
          first
  |(refine au (fun h=>?_) (fun h=>?_))
  |(refine And.intro ⟨by omega,by omega⟩ ?_)
  |(refine And.intro (by kernel_rfl) ?_)
  |(refine bJ (xs:=zs) rfl hU (by omega) ?_;rintro _ ⟨a,b,rfl⟩ hs)
  |(refine bJ (xs:=zs.set _ [tI _,tI _]) (az.set (xs:=zs) rfl _ [tI _,tI _]) (hU.set _ _ _) (by simp;omega) ?_;rintro _ ⟨a,b,rfl⟩ hs)
  |exact⟨[],[],_,rfl,rfl,Bh rfl (xs:=xs) (ys:=zs) rfl,rfl,zs,rfl,hz,hU⟩
  |(apply bp [0,2,3] [] [2,3] [(0,2)] (Z5 xs.length) (xs.length) [iV .i64 0,iV .i64 (IntKind.i64.wrap ((xs.length:Int) - 1))];(conv=>whnf);exact⟨rfl,rfl,rfl,rfl⟩;exact rfl;exact rfl;exact .cons (az.av (xs:=xs) rfl _) .nil;exact⟨0,(xs.length:Int) - 1,xs,by omega,by omega,by rw[bh (by omega) (by omega)],rfl,rfl,hx⟩;rintro _ _ _ ⟨i,q,zs,hb,rfl,rfl,rfl,hz,hU⟩)
  |(refine ak [0,2,3] [] ?_;(conv=>whnf);exact⟨rfl,_,[_,_],_, .cons (az.av (az.set (az.set (xs:=zs) rfl _ [tI _,tI _]) _ [tI _,tI _]) _) .nil,Z5.next hb (by omega) hl hz hU _ _ _ _ _ _,rfl,rfl,by omega⟩))
 all_goals (conv=>whnf)
def N1 (ts:List W):Prop:=ts=[.one (.t iK)]
theorem X5 (_u:Unit):Tg 173 [.one (.t iK),oI 0] N1:=by
 refine ah Tryz.func173 ?_
 repeat' (conv=>whnf
          first
  |(refine D4 (op:= .call ⟨.builtin .cap, #[.tmp _], #[77]⟩) (v:=iV .i64 0) (by kernel_rfl) ?_)
  |exact g1 rfl rfl rfl)
 all_goals (conv=>whnf)
theorem Qn:Tryz.prog.underlying 77=some (.slice 57):=by kernel_rfl
theorem uIn:Tryz.prog.underlying 3=some (.int .i64):=by kernel_rfl
theorem ahQ:ov Tryz.prog 57=some (2,16):=by kernel_rfl
theorem abG:jL Tryz.prog 57=some [.t (tI 0), .t (tI 0)]:=by kernel_rfl
theorem Ke {n:Nat} (hn:n≤1000000):IntKind.i64.wrap ((n:Int) - IntKind.i64.wrap (0 - ((0:Nat):Int)))=(n:Int):=by
 rw[bh (n:=0 - ((0:Nat):Int)) (by omega) (by omega),bh (by omega) (by omega)]
 omega
theorem Sa {n:Nat} (h1:1≤n) (hn:n≤1000000):IntKind.i64.wrap ((n:Int) - IntKind.i64.wrap (0 - ((0:Nat):Int)))=((n - 1+1:Nat):Int):=by
 rw[Ke hn]
 omega
theorem O0 (n:Nat) (h1:1≤n) (hn:n≤1000000): ∃ts hout,Ar Tryz.prog 173 [.one (.t iK),oI n] (aL ts) hout∧Ue 2 ts hout:=by
 refine rN Tryz.func173 ?_
 repeat' (conv=>whnf
          first
  |(refine au (fun h=>?_) (fun h=>?_))
  |(refine lX (Nat.zero_le _) (by omega) (.inr rfl) ?_)
  |(refine And.intro (by omega) ?_)
  |(refine D4 (op:= .call ⟨.builtin .cap, #[.tmp _], #[77]⟩) (v:=iV .i64 0) (by kernel_rfl) ?_)
  |(refine D4 (op:= .slice 77 (.tmp 17) none (some (.tmp 19)) none) (v:=Hu) (by kernel_rfl) ?_)
  |(refine P9 (m:=n - 1) rfl rfl (Sa h1 hn) Qn uIn ahQ abG rfl (by omega) (by omega) ?_)
  |exact gNc rfl rfl rfl
  |(exfalso;rw[Ke hn]at h;omega))
 all_goals (conv=>whnf)
theorem Sb (n:Nat) (h:n=0):LR 173 [.one (.t iK),oI n] N1:=by subst h;exact X5 ()
def tl (e:List T):Nat:=
 match e with
 | [.aB _ xs]=>xs.length
 |_=>0
def eX:Lz→Nat
 | []=>0
 |e::r=>tl e+eX r
theorem zj: ∀ (es:Lz) (e:List T),eX (es++[e])=eX es+tl e
 | [],e=>by simp[eX]
 |x::r,e=>by simp only[List.cons_append,eX,zj r e];omega
theorem lj {es:Lz} {i:Nat} {e:List T} (h:es[i]? =some e):eX (es.take (i+1))=eX (es.take i)+tl e:=by
 rw[fW h,zj]
def DL (e:List T):Prop:= ∃ys,e=[.aB 2 ys]∧bG ys∧ys.length≤100000
theorem FD: ∀ {es:Lz},(∀e,e∈es→DL e)→eX es≤100000 * es.length
 | [],_=>by simp[eX]
 |e::r,h=>by
  obtain⟨ys,rfl,_,hl⟩:=h e List.mem_cons_self
  have:=FD (es:=r) (fun q hq=>h q (List.mem_cons_of_mem _ hq))
  simp only[eX,tl,List.length_cons]
  omega
theorem tb {es:Lz} (h: ∀e,e∈es→DL e) (hl:es.length≤4) (i:Nat):eX (es.take i)≤400000:=by
 have:=FD (es:=es.take i) (fun e he=>h e (List.mem_of_mem_take he))
 have h2:(es.take i).length≤es.length:=by simp;omega
 omega
theorem Ma {es:Lz} {i:Nat} {y:List T} {ys:Lz} (h0:eX es=0) (hs:es[i]? =some [.aB 2 (y::ys)]):False:=by
 have h1: ∀ (l:Lz),[T.aB 2 (y::ys)]∈l→1≤eX l:=by
  intro l
  induction l with
  |nil=>intro h;simp at h
  |cons a r ih=>
   intro h
   rcases List.mem_cons.1 h with rfl|h
   · simp only[eX,tl,List.length_cons];omega
   · have:=ih h;simp only[eX];omega
 have:=h1 es (List.mem_of_getElem? hs)
 omega
def PR (ls:Lz) (m:Nat) (vs:List V):Prop:= ∃i:Nat,i≤ls.length∧m=ls.length - i∧vs=[iV .i64 (eX (ls.take i):Int),iV .i64 (i:Int)]
theorem PR.next {ls:Lz} {i:Nat} {ys:Lz} {n:Int} (hls: ∀e,e∈ls→DL e) (hl:ls.length≤4) (hi:(i:Int) < (ls.length:Int)) (hs:ls[((i:Int)).toNat]? =some [.aB 2 ys]) (hn:n=(ys.length:Int)):PR ls (ls.length - (i+1)) [iV .i64 (IntKind.i64.wrap ((eX (ls.take i):Int)+n)),iV .i64 (IntKind.i64.wrap ((i:Int)+1))]:=by
 have h1:=lj (es:=ls) (i:=i) (by simpa using hs)
 have h2:=tb hls hl (i+1)
 simp only[tl]at h1
 refine⟨i+1,by omega,rfl,?_⟩
 rw[hn,bh (by omega) (by omega),bh (by omega) (by omega),h1]
 simp
theorem KQ {ls:Lz} {i:Nat} {n:Nat} (hls: ∀e,e∈ls→DL e) (hl:ls.length≤4) (hn:n≤100000) (h:IntKind.i64.wrap ((eX (ls.take i):Int)+(n:Int)) < 0):False:=by
 have:=tb hls hl i
 rw[bh (by omega) (by omega)]at h
 omega
def PP (ls:Lz) (m:Nat) (ws:List V) (xss:List (Lz)):Prop:= ∃ (i:Nat) (zs:Lz),i≤ls.length∧m=ls.length - i∧ws=[bD 4 2 zs.length,iV .i64 (i:Int)]∧xss=[zs]∧zs.length=eX (ls.take i)∧bG zs
theorem PP.same {ls zs:Lz} {i:Nat} (hl:ls.length≤4) (hi:(i:Int) < (ls.length:Int)) (hs:ls[((i:Int)).toNat]? =some [.aB 2 []]) (hz:zs.length=eX (ls.take i)) (hS:bG zs):PP ls (ls.length - (i+1)) [bD 4 2 zs.length,iV .i64 (IntKind.i64.wrap ((i:Int)+1))] [zs]:=by
 have h1:=lj (es:=ls) (i:=i) (by simpa using hs)
 simp only[tl,List.length_nil,Nat.add_zero]at h1
 exact⟨i+1,zs,by omega,rfl,by rw[bh (by omega) (by omega)];rfl,rfl,by omega,hS⟩
theorem PP.Fc {ls zs ys:Lz} {y:List T} {i k:Nat} (hl:ls.length≤4) (hi:(i:Int) < (ls.length:Int)) (hs:ls[((i:Int)).toNat]? =some [.aB 2 (y::ys)]) (hy:bG (y::ys)) (hz:zs.length=eX (ls.take i)) (hS:bG zs) (hk:k=zs.length+(ys.length+1)):PP ls (ls.length - (i+1)) [bD 4 2 k,iV .i64 (IntKind.i64.wrap ((i:Int)+1))] [zs++y::ys]:=by
 have h1:=lj (es:=ls) (i:=i) (by simpa using hs)
 simp only[tl,List.length_cons]at h1
 refine⟨i+1,_,by omega,rfl,by rw[bh (by omega) (by omega),hk];simp,rfl,by simp;omega,?_⟩
 intro e he
 simp only[List.mem_append]at he
 rcases he with he|he
 · exact hS e he
 · exact hy e he
theorem Yt {zs ys:Lz} (h1:zs.length≤400000) (h2:ys.length≤100000):zs.length=(tr zs).length∧((tr zs).length+((ys.map fun e=>e.map C.t).length+1)) * 16≤aW∧(tr zs).length+((ys.map fun e=>e.map C.t).length+1)≤maxLen:=by
 refine⟨by simp[tr],?_,?_⟩
 · simp only[tr,List.length_map,aW];omega
 · simp only[tr,List.length_map,maxLen];omega
theorem Nl (ls:Lz) (hls: ∀e,e∈ls→DL e) (hl:ls.length≤4) (h1:1≤eX ls): ∃ts hout,Ar Tryz.prog 151 [oL 1 ls] (aL ts) hout∧GN 2 (fun zs=>zs.length=eX ls∧bG zs) ts hout:=by
 refine rN Tryz.func151 ?_
 repeat' (conv=>whnf
          first
  |(refine au (fun h=>?_) (fun h=>?_))
  |(refine aq (xs:=ls) (n:=(i:Int)) hls (by omega) (by omega) ?_;rintro _ ⟨ys,rfl,hys,j8⟩ hs)
  |(refine aq (xs:=ls) (n:=(q:Int)) hls (by omega) (by omega) ?_;rintro _ ⟨_|⟨y,ys⟩,rfl,hys,j8⟩ hs)
  |(exfalso;exact KQ hls hl j8 h)
  |(refine And.intro (Yt (by have:=tb hls hl q;omega) (by simp at j8;omega)) ?_)
  |(refine Of rfl (Ue.new (O0 (eX (ls.take i)) (by rw[List.take_of_length_le (by omega)];exact h1) (by have:=tb hls hl i;omega))) ?_;rintro _ rfl)
  |exact gN rfl rfl rfl (xs:=zs) rfl rfl ⟨by rw[List.take_of_length_le (by omega)]at hz;exact hz,hS⟩
  |(apply bp [6,25,26,27] [] [6,27] [(4,2)] (PP ls) (ls.length) [bD 4 2 0,iV .i64 0];(conv=>whnf);exact⟨rfl,rfl,rfl,rfl⟩;exact rfl;exact rfl;exact .cons (az.av (xs:=[]) rfl _) .nil;exact⟨0,[],by omega,rfl,rfl,rfl,by simp[eX],fun e he=>by simp at he⟩;rintro _ _ _ ⟨q,zs,hq,rfl,rfl,rfl,hz,hS⟩)
  |(refine ak [6,25,26,27] [] ?_;(conv=>whnf);first|exact⟨rfl,_,[_,_],_, .cons (az.av (xs:=zs) rfl _) .nil,PP.same hl (by omega) hs hz hS,rfl,rfl,by omega⟩|exact⟨rfl,_,[_,_],_, .cons (az.av (az.Fc (xs:=zs) rfl (y::ys)) _) .nil,PP.Fc hl (by omega) hs hys hz hS (by simp[tr]),rfl,rfl,by omega⟩)
  |(apply aM [0,3,9,10,11] [] [3,11] (PR ls) (ls.length) [iV .i64 0,iV .i64 0];(conv=>whnf);exact⟨rfl,rfl,rfl,rfl⟩;exact rfl;exact rfl;exact⟨0,by omega,rfl,by simp[eX]⟩;rintro _ _ ⟨i,hi,rfl,rfl⟩)
  |(refine ak [0,3,9,10,11] [] ?_;(conv=>whnf);exact⟨rfl,_,[_,_],PR.next hls hl (by omega) hs (by simp),rfl,rfl,rfl,by omega⟩))
 all_goals (conv=>whnf)
def RCn (ls:Lz) (m:Nat) (vs:List V):Prop:= ∃i:Nat,i≤ls.length∧m=ls.length - i∧vs=[Hu,iV .i64 (i:Int)]
theorem RCn.next {ls:Lz} {i:Nat} (hl:ls.length≤4) (hi:(i:Int) < (ls.length:Int)):RCn ls (ls.length - (i+1)) [Hu,iV .i64 (IntKind.i64.wrap ((i:Int)+1))]:=
 ⟨i+1,by omega,rfl,by rw[bh (by omega) (by omega)];rfl⟩
theorem Nn (ls:Lz) (hls: ∀e,e∈ls→DL e) (hl:ls.length≤4) (h0:eX ls=0):Tg 151 [oL 1 ls] N1:=by
 refine ah Tryz.func151 ?_
 repeat' (conv=>whnf
          first
  |(refine au (fun h=>?_) (fun h=>?_))
  |(refine aq (xs:=ls) (n:=(i:Int)) hls (by omega) (by omega) ?_;rintro _ ⟨ys,rfl,hys,j8⟩ hs)
  |(refine aq (xs:=ls) (n:=(q:Int)) hls (by omega) (by omega) ?_;rintro _ ⟨_|⟨y,ys⟩,rfl,hys,j8⟩ hs)
  |(exfalso;exact KQ hls hl j8 h)
  |(exfalso;exact Ma h0 hs)
  |(refine ai rfl (Sb (eX (ls.take i)) (by rw[List.take_of_length_le (by omega)];exact h0)) ?_;rintro _ rfl)
  |exact g1 rfl rfl rfl
  |(apply aM [6,25,26,27] [] [6,27] (RCn ls) (ls.length) [Hu,iV .i64 0];(conv=>whnf);exact⟨rfl,rfl,rfl,rfl⟩;exact rfl;exact rfl;exact⟨0,by omega,rfl,rfl⟩;rintro _ _ ⟨q,hq,rfl,rfl⟩)
  |(refine ak [6,25,26,27] [] ?_;(conv=>whnf);exact⟨rfl,_,[_,_],RCn.next hl (by omega),rfl,rfl,rfl,by omega⟩)
  |(apply aM [0,3,9,10,11] [] [3,11] (PR ls) (ls.length) [iV .i64 0,iV .i64 0];(conv=>whnf);exact⟨rfl,rfl,rfl,rfl⟩;exact rfl;exact rfl;exact⟨0,by omega,rfl,by simp[eX]⟩;rintro _ _ ⟨i,hi,rfl,rfl⟩)
  |(refine ak [0,3,9,10,11] [] ?_;(conv=>whnf);exact⟨rfl,_,[_,_],PR.next hls hl (by omega) hs (by simp),rfl,rfl,rfl,by omega⟩))
 all_goals (conv=>whnf)
end Go.aT.Cd
end
section
namespace Go.aT.Cd
open Go Go.Proofs
set_option maxRecDepth 100000
set_option maxHeartbeats 1000000
theorem D8 {A B:Lz} (hA:bG A) (hB:bG B) (h:A.length+B.length≤100000): ∀e,e∈ ([[.aB 2 A],[.aB 2 B]]:Lz)→DL e:=by
 intro e he
 simp only[List.mem_cons,List.not_mem_nil,or_false]at he
 rcases he with rfl|rfl
 · exact⟨A,rfl,hA,by omega⟩
 · exact⟨B,rfl,hB,by omega⟩
theorem vM (A B:Lz):eX [[.aB 2 A],[.aB 2 B]]=A.length+B.length:=by simp[eX,tl]
theorem Gn {A B:Lz} (hA:bG A) (hB:bG B) (h1:1≤A.length+B.length) (h:A.length+B.length≤100000): ∃ts hout,Ar Tryz.prog 151 [oL 1 [[.aB 2 A],[.aB 2 B]]] (aL ts) hout∧GN 2 (fun zs=>zs.length=A.length+B.length∧bG zs) ts hout:=by
 have:=Nl [[.aB 2 A],[.aB 2 B]] (D8 hA hB h) (by simp) (by rw[vM];exact h1)
 rw[vM]at this
 exact this
theorem vX {A B:Lz} (hA:bG A) (hB:bG B) (h:A.length+B.length=0):LR 151 [oL 1 [[.aB 2 A],[.aB 2 B]]] N1:=
 Nn [[.aB 2 A],[.aB 2 B]] (D8 hA hB (by omega)) (by simp) (by rw[vM];exact h)
theorem flN {n:Nat}: ∀xs:Lz,xs.length=n∧bG xs→(bA.row 2 (tr xs)).flat=true:=by
 rintro xs ⟨_,h⟩
 simp only[bA.flat,tr,List.all_eq_true,List.mem_map]
 rintro r ⟨e,he,rfl⟩
 obtain⟨a,b,rfl⟩:=h e he
 intro c hc
 simp only[List.map_cons,List.map_nil,List.mem_cons,List.not_mem_nil,or_false]at hc
 rcases hc with rfl|rfl<;>rfl
def S8 (N:Nat) (m:Nat) (ws:List V) (xss:List (Lz)):Prop:= ∃ (i:Nat) (zs:Lz),i≤N∧m=N - i∧ws=[bD 4 2 zs.length,iV .i64 (i:Int)]∧xss=[zs]∧zs.length≤i∧bG zs
theorem S8.same {N i:Nat} {zs:Lz} (h:(i:Int) < (N:Int)) (hN:N≤1000000) (hz:zs.length≤i) (hS:bG zs):S8 N (N - (i+1)) [bD 4 2 zs.length,iV .i64 (IntKind.i64.wrap ((i:Int)+1))] [zs]:=
 ⟨i+1,zs,by omega,rfl,by rw[bh (by omega) (by omega)];rfl,rfl,by omega,hS⟩
theorem S8.Fc {N i k:Nat} {zs:Lz} {x y:Int} (h:(i:Int) < (N:Int)) (hN:N≤1000000) (hz:zs.length≤i) (hS:bG zs) (hk:k=zs.length+1):S8 N (N - (i+1)) [bD 4 2 k,iV .i64 (IntKind.i64.wrap ((i:Int)+1))] [zs++[[tI x,tI y]]]:=
 ⟨i+1,_,by omega,rfl,by rw[bh (by omega) (by omega),hk];simp,rfl,by simp;omega,hS.snoc x y⟩
def GD (N:Nat) (m:Nat) (ws:List V) (xss:List (Lz)):Prop:= ∃ (i f:Nat),i≤N∧(f < N∨N=0∧f=0)∧m=N - i∧ws=[iV .i64 (f:Int),iV .i64 (i:Int)]∧xss=[]
theorem GD.zero {N:Nat}:GD N N [iV .i64 0,iV .i64 0] []:=⟨0,0,by omega,by omega,rfl,rfl,rfl⟩
theorem GD.keep {N i f:Nat} (h:(i:Int) < (N:Int)) (hN:N≤1000000) (hf:f < N):GD N (N - (i+1)) [iV .i64 (f:Int),iV .i64 (IntKind.i64.wrap ((i:Int)+1))] []:=
 ⟨i+1,f,by omega, .inl hf,rfl,by rw[bh (by omega) (by omega)];rfl,rfl⟩
theorem wN (xs:Lz) (hx:bG xs) (hl:xs.length≤1000000):Tg 119 [oL 2 xs] (N2 2 (fun zs=>bG zs∧zs.length≤40)):=by
 refine aJ ?_
 refine ah Tryz.func119 ?_
 repeat' (conv=>whnf
          first
  |(refine au (fun h=>?_) (fun h=>?_))
  |(refine ca (fun h=>?_) (fun h=>?_))
  |(refine aq (xs:=xs) hx (by omega) (by omega) ?_;rintro _ ⟨a,b,rfl⟩ hs)
  |(refine aq (xs:=zs.take zs.length) (hz.take _) (by omega) (by simp;omega) ?_;rintro _ ⟨a,b,rfl⟩ hs)
  |(refine aq (xs:=ys.take zs.length) (hys.take _) (by omega) (by simp;omega) ?_;rintro _ ⟨a,b,rfl⟩ hs)
  |(refine And.intro ⟨by simp[tr],by simp[tr,aW];omega,by simp[tr,maxLen];omega⟩ ?_)
  |(refine gK (Nat.zero_le _) (by simp;omega) ?_)
  |(refine gK (by simp;omega) (by simp) ?_)
  |(refine gK (by omega) (by omega) ?_)
  |(refine And.intro (by kernel_rfl) ?_)
  |(refine And.intro (by omega) ?_)
  |(refine ai rfl (fJ xs hx hl) ?_;rintro _ ⟨e,rfl,hP⟩)
  |(refine ai rfl (AX xs i hx hl (by omega)) ?_;rintro _ ⟨n,rfl⟩)
  |(refine ai rfl (rh xs hx hl) ?_;rintro _ ⟨n,rfl⟩)
  |(refine fu [4] rfl (nH zs hz (by omega)) rfl (jU rfl rfl) ?_;rintro _ _ ⟨rfl,ys,rfl,j8,hys⟩)
  |(refine lW rfl flN (Gn (cE (hz.take _) _ _) (cE (hz.take _) _ _) (by simp;omega) (by have:=(hP (by omega)).1.2.1;simp;omega)) ?_;rintro ws ⟨yg,EI⟩)
  |(refine lW rfl flN (Gn (cE (hys.take _) _ _) (cE (hys.take _) _ _) (by simp;omega) (by have:=(hP (by omega)).1.2.1;simp;omega)) ?_;rintro ws ⟨yg,EI⟩)
  |(refine vK rfl (vX (cE (hz.take _) _ _) (cE (hz.take _) _ _) (by simp only[List.length_take,List.length_drop];omega)) (fun rs h=>by subst h;rfl) ?_;rintro _ rfl)
  |(refine vK rfl (vX (cE (hys.take _) _ _) (cE (hys.take _) _ _) (by simp only[List.length_take,List.length_drop];omega)) (fun rs h=>by subst h;rfl) ?_;rintro _ rfl)
  |exact dg rfl (bR 2 rfl) (bS rfl) ⟨_,_,rfl,fun h0=>absurd h0 (by omega)⟩
  |exact dg rfl (fz rfl rfl (xs:=ws) rfl (by omega)) (bS rfl) ⟨_,_,rfl,fun _=>by rw[fG rfl];exact⟨EI,by have:=(hP (by omega)).1.2.1;simp at yg;omega⟩⟩
  |exact dg rfl (bR 2 rfl) (bS rfl) ⟨_,_,rfl,fun _=>⟨fun e he=>by simp at he,by simp⟩⟩
  |(apply dQ [5,8,38,39,40] [] [8,40] [] (GD zs.length) (zs.length) [iV .i64 0,iV .i64 0] (dK.Kj (xs:=ys) [5,38] 4 (JE rfl rfl) rfl (az.av rfl _) (by omega));(conv=>whnf);exact⟨rfl,rfl,rfl,rfl⟩;exact rfl;exact rfl;exact .nil;exact GD.zero;rintro _ _ _ ⟨q,f,hq,(hf|⟨hc,rfl⟩),rfl,rfl,rfl⟩)
  |(refine ak [5,8,38,39,40] [] ?_;(conv=>whnf);exact⟨rfl,_,[_,_],_, .nil,GD.keep (by omega) (by omega) (by omega),rfl,rfl,by omega⟩)
  |(apply dQ [5,8,38,39,40] [] [8,40] [] (GD zs.length) (zs.length) [iV .i64 0,iV .i64 0] (dK.Kj (xs:=zs) [5,38] 4 (JE rfl rfl) rfl rfl (Nat.le_refl _));(conv=>whnf);exact⟨rfl,rfl,rfl,rfl⟩;exact rfl;exact rfl;exact .nil;exact GD.zero;rintro _ _ _ ⟨q,f,hq,(hf|⟨hc,rfl⟩),rfl,rfl,rfl⟩)
  |(apply dQ [0,5,17,18,19] [] [5,19] [(4,2)] (S8 xs.length) (xs.length) [bD 4 2 0,iV .i64 0] (dK.jq 5 2 rfl);(conv=>whnf);exact⟨rfl,rfl,rfl,rfl⟩;exact rfl;exact rfl;exact .cons (az.av az.nil _) .nil;exact⟨0,[],by omega,rfl,rfl,rfl,by simp,fun e he=>by simp at he⟩;rintro _ _ _ ⟨i,zs,hi,rfl,rfl,rfl,jn,hz⟩)
  |(refine ak [0,5,17,18,19] [] ?_;(conv=>whnf);first|exact⟨rfl,_,[_,_],_, .cons (az.av (xs:=zs) rfl _) .nil,S8.same (by omega) hl jn hz,rfl,rfl,by omega⟩|exact⟨rfl,_,[_,_],_, .cons (az.av (az.snoc (xs:=zs) rfl [tI _,tI _]) _) .nil,S8.Fc (by omega) hl jn hz (by simp[tr]),rfl,rfl,by omega⟩))
 all_goals (conv=>whnf)
end Go.aT.Cd
end
section
namespace Go.aT
open Go
variable {P:Program} {M A:Nat→Prop} {ρ:Env} {F:Nat→Prop} {st:St} {a:Act} {w:World}
theorem zB (j:IntKind) (x y:Int): ∃n,aH P (Builtin.min2 (.int j x) (.int j y))=some (.int j n):=by
 unfold Builtin.min2
 simp[aD]
theorem Hq (gF:Array TypeId) (ty:TypeId) (j:IntKind) (x y z:Int): ∃n,aH P (Builtin.min_ gF ty #[.int j x, .int j y, .int j z])=some (.int j n):=by
 obtain⟨a,ha⟩:=zB (P:=P) j x y
 obtain⟨b,hb⟩:=zB (P:=P) j a z
 refine⟨b,?_⟩
 unfold Builtin.min_
 simp[aI,ha,hb]
theorem L4 {ctr a b c:Nat} {ty:TypeId} {gF:Array TypeId} {tm:TS} {hp:HS} {x y z:Int} {K:V→HS→Prop} (ha:find tm a=some (iV .i64 x)) (hb:find tm b=some (iV .i64 y)) (hc:find tm c=some (iV .i64 z)) (hk: ∀m,K (iV .i64 m) hp):
 ∃v aG,YW P (.call ⟨.builtin .min, #[.tmp a, .tmp b, .tmp c],gF⟩) ty tm hp ctr v aG∧K v aG:=by
 obtain⟨m,hm⟩:=Hq (P:=P) gF ty .i64 x y z
 refine⟨iV .i64 m,hp,⟨fun get=>rfl,?_⟩,hk m⟩
 rintro n ⟨dst',op',ty',pos',after',guard'⟩ rfl rfl
 have e:aY P (St.get ⟨n,tm,hp⟩) ⟨dst', .call ⟨.builtin .min, #[.tmp a, .tmp b, .tmp c],gF⟩,ty',pos',after',guard'⟩=some (iV .i64 m):=by
  unfold aY
  have hall:(fL (Op.call ⟨.builtin .min, #[.tmp a, .tmp b, .tmp c],gF⟩)&& (Op.call ⟨.builtin .min, #[.tmp a, .tmp b, .tmp c],gF⟩).operands.toList.all fun x=>(St.get ⟨n,tm,hp⟩ x).val?.isSome)=true:=by
   have RB:(Op.call ⟨.builtin .min, #[.tmp a, .tmp b, .tmp c],gF⟩).operands.toList=[.tmp a, .tmp b, .tmp c]:=rfl
   rw[RB]
   simp[fL,St.get,ha,hb,hc,V.val?,W.val?,C.val?]
  rw[if_pos hall]
  have:aH P (execOp (fun x=>((St.get ⟨n,tm,hp⟩ x).val?).getD undef) ⟨dst', .call ⟨.builtin .min, #[.tmp a, .tmp b, .tmp c],gF⟩,ty',pos',after',guard'⟩)=some (.value (.int .i64 m)):=by
   simp[execOp,resolve,invoke,builtin,cW,St.get,ha,hb,hc,V.val?,W.val?,C.val?,hm]
  rw[this]
  rfl
 simp only[aj,e,Option.map_some]
theorem z8 {hp:HS} {id sz i len:Nat} {rows:List (List C)} {xs:Lz} (hf:find hp id=some (.row sz rows)) (hR:az rows xs) (hl:i+len≤xs.length):elems hp (.own id sz i len)=some (sz,tr ((xs.drop i).take len)):=by
 have hl':i+len≤rows.length:=by rw[hR.len];exact hl
 simp only[elems,hf,true_and,hl',if_true]
 rw[hR,AB]
theorem Fz {d s t1 t2 ty e id sz i len ctr:Nat} {tm:TS} {hp:HS} {c:C} {rows:List (List C)} {xs ys:Lz} {K:V→HS→Prop}
 (hd:find tm d=some (.w (.one (.own id sz i len)))) (hs:find tm s=some (.w (.one c))) (hn:isNil c=false) (he:elems hp c=some (sz,tr ys))
 (ht:P.underlying t1=some (.slice e)) (hz:cF P e=some sz) (hf:find hp id=some (.row sz rows)) (hR:az rows xs) (hl:i+len≤xs.length)
 (h0: ∀n,K (iV .i64 n) hp) (hk: ∀n,K (iV .i64 n) (jN hp id (.row sz (tr (aR xs i (ys.take len)))))):
 ∃v aG,YW P (.call ⟨.builtin .copy, #[.tmp d, .tmp s], #[t1,t2]⟩) ty tm hp ctr v aG∧K v aG:=by
 have C6:rows=tr xs:=hR
 subst C6
 by_cases hc:(ys.take len).length=0
 · refine⟨_,hp,⟨fun get=>rfl,?_⟩,h0 0⟩
   rintro n ⟨dst',op',ty',pos',after',guard'⟩ rfl rfl
   simp only[aj,St.get,hd,hs,Option.getD_some,dV,ht,hz,hn,he,Bool.false_eq_true,if_false,oJ,mh,hc,if_true]
   rfl
 · refine⟨_,_,⟨fun get=>rfl,?_⟩,hk ((ys.take len).length:Nat)⟩
   rintro n ⟨dst',op',ty',pos',after',guard'⟩ rfl rfl
   have hl':True∧True∧True∧i+len≤xs.length:=⟨trivial,trivial,trivial,hl⟩
   simp only[aj,St.get,hd,hs,Option.getD_some,dV,ht,hz,hn,he,hf,Bool.false_eq_true,if_false,oJ,mh,hc,sI]
   rw[if_pos hl']
   rfl
theorem wu {α:Type} {xs ys:List α} {i:Nat} (h:i+ys.length≤xs.length):(aR xs i ys).length=xs.length:=by
 unfold aR
 simp only[List.length_append,List.length_take,List.length_drop]
 omega
theorem wq {α:Type} {xs ys:List α} {i:Nat} {e:α} (h:e∈aR xs i ys):e∈xs∨e∈ys:=by
 unfold aR at h
 simp only[List.mem_append]at h
 rcases h with(h|h)|h
 · exact .inl (List.mem_of_mem_take h)
 · exact .inr h
 · exact .inl (List.mem_of_mem_drop h)
theorem ij {n:Nat} {b:Rc} {Q:Exit→TS→HS→Nat→Prop} {tm uV:TS} {hp Bo:HS} {ctr c0:Nat} (keys:List Nat) (nest:List (Nat×Nat)) (ks:List Nat) (R:Nat→List V→HS→Prop) (m0:Nat) (Ay:List V) {mj:TS} {qR:HS} {cB:Nat}
 (hW:dK tm hp ctr uV Bo c0)
 (hB:BB (vF keys nest uV Bo) fun S=>qI (S.tm uV) fun t=>rL (S.hp Bo) fun q=>S.ok=true∧t=mj∧q=qR∧S.ctr=cB)
 (GA:mj.length=keys.length) (h0:mj=kO ks Ay mj) (M3:R m0 Ay qR)
 (hstep: ∀m vs hq,R m vs hq→qI (kO ks vs mj) fun mX=>X P n b (iM (bU fun bg aG c'=> ∃m' vs',R m' vs' aG∧bg=kO ks vs' mj∧c'=cB∧m' < m) Q) mX hq cB):
 ∃I:Nat→TS→HS→Nat→Prop,bU (fun tm hp c=> ∃m,I m tm hp c) tm hp ctr∧
  ∀m tm hp c,I m tm hp c→X P n b (iM (bU fun tm hp c=> ∃m',m' < m∧I m' tm hp c) Q) tm hp c:=by
 rw[oR,gH,jb]at hB
 obtain⟨hS,e1,e2,e3⟩:=hB
 refine⟨fun m bg aG c'=> ∃vs',R m vs' aG∧bg=kO ks vs' mj∧c'=cB, .sem hW (bU.mk' ⟨vF keys nest uV Bo,hS,m0,Ay,by rw[e2];exact M3,e1.trans h0,e3⟩),?_⟩
 rintro m bg hq c' ⟨vs,hR,rfl,rfl⟩
 have:=hstep m vs hq hR
 rw[gH]at this
 refine(congrArg (fun J=>X P n b (iM (bU J) Q) _ _ _) ?_).mp this
 funext bg aG ZP
 exact propext ⟨fun⟨m',vs',h1,h2,h4,h5⟩=>⟨m',h5,vs',h1,h2,h4⟩,fun⟨m',h5,vs',h1,h2,h4⟩=>⟨m',vs',h1,h2,h4,h5⟩⟩
theorem iq {f:FuncId} {us args:List W} {hp hin:HS} {ctr:Nat} {K:V→HS→Nat→Prop} {Good:List W→Prop} (ids:List Nat) (hok:w4 ids ctr=true) (hb: ∀id,id∈ids→ ∃b,find hp id=some b∧(b.av (bt ids)).av (gP ids ctr)=b)
 (ha:us.map (W.av (bt ids))=args) (hh:cM (bt ids) hp 0 ids=hin) (h: ∃ts hout,Fn P f args hin (aL ts) hout∧hout=hin∧Good ts) (hk: ∀ts,Good ts→K ((aL ts).av (gP ids ctr)) hp (ctr+4)): ∃v aG c',gh P f us hp ctr v aG c'∧K v aG c':=by
 obtain⟨ts,hout,h1,rfl,h2⟩:=h
 exact⟨_,_,_,BQ ids hok h1 ha hh hb,hk ts h2⟩
theorem Jm {hp:HS} {tm:TS} {t id dy sl Q7 len k:Nat} {rs zs:Lz} {rows wB:List (List C)} (h:find tm t=some (.w (.one (.own id 1 0 len)))) (hf:find hp id=some (.row 1 rows)) (hrows:rows=tr rs++[[.own Q7 dy 0 k]]) (hl:len=rs.length+1)
 (J9:find hp Q7=some (.row dy wB)) (OY:az wB zs) (hk:k≤zs.length) (_:sl=dy):Rs P hp tm (.tmp t) (.one (.t (.aB 1 (rs++[[.aB dy (zs.take k)]])))):=by
 subst hrows
 subst hl
 have hk':0+k≤wB.length:=by rw[OY.len];omega
 have pR:dm 5 hp (.own Q7 dy 0 k)=some (.aB dy (zs.take k)):=by
  simp only[dm,J9,true_and,hk',if_true]
  rw[OY,AB,xn]
  simp
 have agZ: ∀ (xs:Lz),bM (bM (dm 5 hp)) (tr xs++[[.own Q7 dy 0 k]])=some (xs++[[.aB dy (zs.take k)]]):=by
  intro xs
  induction xs with
  |nil=>simp only[tr,List.map_nil,List.nil_append,bM,pR]
  |cons e xs ih=>
   have hone:=xn (hp:=hp) (d:=5) [e]
   have he:bM (dm 5 hp) (e.map .t)=some e:=by
    simp only[tr,List.map_cons,List.map_nil,bM]at hone
    split at hone
    · rename_i y l hy hl
      simp only[Option.some.injEq]at hl
      subst hl
      simp only[Option.some.injEq,List.cons.injEq,and_true]at hone
      subst hone
      exact hy
    · simp at hone
   have ih':=ih
   simp only[tr]at ih'⊢
   simp only[List.map_cons,List.cons_append,bM,he,ih']
 have hlen:0+(rs.length+1)≤(tr rs++[[C.own Q7 dy 0 k]]).length:=by simp[tr]
 have MZ:((tr rs++[[C.own Q7 dy 0 k]]).drop 0).take (rs.length+1)=tr rs++[[C.own Q7 dy 0 k]]:=by
  rw[List.drop_zero]
  exact List.take_of_length_le (by simp[tr])
 refine⟨.one (.own id 1 0 (rs.length+1)), .one (.t (.aB 1 (rs++[[.aB dy (zs.take k)]]))),by simp only[cz,h],?_,B3.refl _⟩
 have:dm 6 hp (.own id 1 0 (rs.length+1))=some (.aB 1 (rs++[[.aB dy (zs.take k)]])):=by
  simp only[dm,hf,true_and,hlen,if_true]
  rw[MZ,agZ]
  rfl
 simp only[bY,this,Option.map_some]
end Go.aT
end
section
namespace Go.aT.Cd
open Go Go.Proofs
set_option maxRecDepth 100000
set_option maxHeartbeats 1000000
theorem wj (xs:Lz) (q:Sp) (hx:bG xs):Tg 124 [oL 2 xs,eo q] GI:=by
 refine ah Tryz.func124 ?_
 repeat' (conv=>whnf
          first
  |(refine au (fun h=>?_) (fun h=>?_))
  |(refine ca (fun h=>?_) (fun h=>?_))
  |(refine aF (fun h=>?_) (fun h=>?_))
  |(refine aq hx (by first|omega|exact bF (by first|omega|(simp (disch:=omega) only[aa];omega))|(simp (disch:=omega) only[aa];omega)) (by first|omega|exact bq (by omega)|(simp (disch:=omega) only[aa];omega)) ?_;rintro _ ⟨a,b,rfl⟩ hs)
  |(refine And.intro (by kernel_rfl) ?_)
  |(refine ai rfl (sH (_,_)) ?_;rintro _ ⟨b,rfl⟩)
  |(refine ai rfl (iv (_,_) (_,_) (_,_)) ?_;rintro _ ⟨n,rfl⟩)
  |(refine aC rfl (iv (_,_) (_,_) (_,_)) ?_;rintro _ ⟨n,rfl⟩)
  |(refine L4 rfl rfl rfl ?_;intro mn)
  |exact gI rfl rfl)
 all_goals (conv=>whnf)
abbrev R7 (k:Nat) (zs:Lz):HS:=[(0, .row 1 [[.own 1 2 0 k]]),(1, .row 2 (tr zs))]
abbrev Bw (k:Nat) (zs:Lz):HS:=[(0, .row 1 [[.own 1 2 0 k]]),(1, .row 2 (tr zs)),(2, .row 1 [[.jx 120 [(0,1,0,0)]]])]
theorem Ji {hin:HS} (xs:Lz) (sz:Nat):La hin (.row sz (tr xs)):=by
 intro e he c hc
 simp only[tr,List.mem_map]at he
 obtain⟨e',_,rfl⟩:=he
 simp only[List.mem_map]at hc
 obtain⟨c',_,rfl⟩:=hc
 rfl
theorem F4 {hp:HS} {k:Nat} {zs:Lz} {rows:List (List C)} (h0:find hp 0=some (.row 1 [[.own 1 2 0 k]])) (h1:find hp 1=some (.row 2 rows)) (hR:az rows zs):kY (R7 k zs) hp (R7 k zs):=by
 have C6:rows=tr zs:=hR
 subst C6
 refine⟨fun q b hq=>?_,fun q blk hq=>?_⟩
 · simp only[find]at hq
   split at hq
   · rename_i e;subst e;exact⟨by omega,_,h0⟩
   · split at hq
     · rename_i e;subst e;exact⟨by omega,_,h1⟩
     · simp at hq
 · simp only[find]at hq
   split at hq
   · rename_i e
     subst e
     simp only[Option.some.injEq]at hq
     subst hq
     refine⟨h0,rfl,fun e he c hc=>?_⟩
     simp only[List.mem_singleton]at he
     subst he
     simp only[List.mem_singleton]at hc
     subst hc
     rfl
   · split at hq
     · rename_i e
       subst e
       simp only[Option.some.injEq]at hq
       subst hq
       exact⟨h1,rfl,Ji _ _⟩
     · simp at hq
theorem ga {hp:HS} {k:Nat} {zs:Lz} {rows:List (List C)} (h0:find hp 0=some (.row 1 [[.own 1 2 0 k]])) (h1:find hp 1=some (.row 2 rows)) (h2:find hp 2=some (.row 1 [[.jx 120 [(0,1,0,0)]]])) (hR:az rows zs):kY (Bw k zs) hp (Bw k zs):=by
 have C6:rows=tr zs:=hR
 subst C6
 refine⟨fun q b hq=>?_,fun q blk hq=>?_⟩
 · simp only[find]at hq
   split at hq
   · rename_i e;subst e;exact⟨by omega,_,h0⟩
   · split at hq
     · rename_i e;subst e;exact⟨by omega,_,h1⟩
     · split at hq
       · rename_i e;subst e;exact⟨by omega,_,h2⟩
       · simp at hq
 · simp only[find]at hq
   split at hq
   · rename_i e
     subst e
     simp only[Option.some.injEq]at hq
     subst hq
     refine⟨h0,rfl,fun e he c hc=>?_⟩
     simp only[List.mem_singleton]at he
     subst he
     simp only[List.mem_singleton]at hc
     subst hc
     rfl
   · split at hq
     · rename_i e
       subst e
       simp only[Option.some.injEq]at hq
       subst hq
       exact⟨h1,rfl,Ji _ _⟩
     · split at hq
       · rename_i e
         subst e
         simp only[Option.some.injEq]at hq
         subst hq
         refine⟨h2,rfl,fun e he c hc=>?_⟩
         simp only[List.mem_singleton]at he
         subst he
         simp only[List.mem_singleton]at hc
         subst hc
         rfl
       · simp at hq
theorem IE {hp:HS} {a l k:Nat} {rows:List (List C)} {zs:Lz} (h0:find hp a=some (.row 1 [[.own l 2 0 k]])) (h1:find hp l=some (.row 2 rows)) (hR:az rows zs) (hl:bt [a,l] l=some 1):cM (bt [a,l]) hp 0 [a,l]=R7 k zs:=by
 have C6:rows=tr zs:=hR
 subst C6
 simp only[cM,h0,h1,bA.av,List.map_cons,List.map_nil,C.av,hl,eu]
theorem TV {hp:HS} {a l k ctr:Nat} {rows:List (List C)} {zs:Lz} (h0:find hp a=some (.row 1 [[.own l 2 0 k]])) (h1:find hp l=some (.row 2 rows)) (hR:az rows zs) (hl:bt [a,l] l=some 1) (hf:gP [a,l] ctr 1=some l): ∀id,id∈ [a,l]→ ∃b,find hp id=some b∧(b.av (bt [a,l])).av (gP [a,l] ctr)=b:=by
 have C6:rows=tr zs:=hR
 subst C6
 refine JE ⟨_,h0,?_⟩ ⟨_,h1,?_⟩
 · simp only[bA.av,List.map_cons,List.map_nil,C.av,hl,hf]
 · simp only[bA.av,eu]
theorem hi2 {hp:HS} {a l b k:Nat} {rows:List (List C)} {zs:Lz} (h0:find hp a=some (.row 1 [[.own l 2 0 k]])) (h1:find hp l=some (.row 2 rows)) (h2:find hp b=some (.row 1 [[.jx 120 [(a,1,0,0)]]])) (hR:az rows zs) (hl:bt [a,l,b] l=some 1) (ha:bt [a,l,b] a=some 0):cM (bt [a,l,b]) hp 0 [a,l,b]=Bw k zs:=by
 have C6:rows=tr zs:=hR
 subst C6
 simp only[cM,h0,h1,h2,bA.av,List.map_cons,List.map_nil,C.av,hl,ha,eu,List.all_cons,List.all_nil,Option.isSome_some,Bool.and_self,if_true,Option.getD_some]
theorem PD {hp:HS} {a l b k ctr:Nat} {rows:List (List C)} {zs:Lz} (h0:find hp a=some (.row 1 [[.own l 2 0 k]])) (h1:find hp l=some (.row 2 rows)) (h2:find hp b=some (.row 1 [[.jx 120 [(a,1,0,0)]]])) (hR:az rows zs) (hl:bt [a,l,b] l=some 1) (ha:bt [a,l,b] a=some 0) (hf:gP [a,l,b] ctr 1=some l) (hg:gP [a,l,b] ctr 0=some a): ∀id,id∈ [a,l,b]→ ∃bl,find hp id=some bl∧(bl.av (bt [a,l,b])).av (gP [a,l,b] ctr)=bl:=by
 have C6:rows=tr zs:=hR
 subst C6
 intro id bN
 simp only[List.mem_cons,List.not_mem_nil,or_false]at bN
 rcases bN with rfl|rfl|rfl
 · exact⟨_,h0,by simp only[bA.av,List.map_cons,List.map_nil,C.av,hl,hf]⟩
 · exact⟨_,h1,by simp only[bA.av,eu]⟩
 · exact⟨_,h2,by simp only[bA.av,List.map_cons,List.map_nil,C.av,ha,hg,List.all_cons,List.all_nil,Option.isSome_some,Bool.and_self,if_true,Option.getD_some]⟩
theorem Ik:enters Tryz.prog 120=true:=by kernel_rfl
theorem Ye:enters Tryz.prog 121=true:=by kernel_rfl
theorem Yd:enters Tryz.prog 123=true:=by kernel_rfl
def aiY (ts:List W):Prop:= ∃a b c d e f:Int,ts=[eo (a,b),eo (c,d),eo (e,f)]
theorem Mg (k:Nat) (zs:Lz) (hz:bG zs) (hk:k≤zs.length) (zR:zs.length≤1000000) (i:Int) (sB:0≤i) (hi:i < (k:Int)): ∃ts hout,Fn Tryz.prog 120 [oI i, .one (.ptr 0 1 0 0)] (R7 k zs) (aL ts) hout∧(fun ts hout=>hout=R7 k zs∧aiY ts) ts hout:=by
 refine dD Tryz.func120 ?_
 repeat' (conv=>whnf
          first
  |(refine And.intro ⟨by omega,by omega⟩ ?_)
  |(refine And.intro ⟨bF (by rw[bh (n:=i+(k:Int)) (by omega) (by omega),bh (by omega) (by omega)];omega),bq (by omega)⟩ ?_)
  |(refine And.intro ⟨bF (by rw[bh (by omega) (by omega)];omega),bq (by omega)⟩ ?_)
  |(refine And.intro (show((k:Nat):Int)≠0 by omega) ?_)
  |(refine And.intro (by kernel_rfl) ?_)
  |(refine bJ (xs:=zs) rfl hz (by first|omega|(have h1:=bq (a:=IntKind.i64.wrap (IntKind.i64.wrap (i+(k:Int)) - 1)) (b:=(k:Int)) (by omega);have h2:=bq (a:=IntKind.i64.wrap (i+1)) (b:=(k:Int)) (by omega);omega)) ?_;rintro _ ⟨x,y,rfl⟩ hs)
  |exact⟨_,_,_,rfl,rfl,F4 rfl rfl rfl,rfl,_,_,_,_,_,_,rfl⟩)
 all_goals (conv=>whnf)
theorem acK (k:Nat) (zs:Lz) (hz:bG zs) (hk:k≤zs.length) (zR:zs.length≤1000000) (i:Int) (sB:0≤i) (hi:i < (k:Int)): ∃ts hout,Fn Tryz.prog 121 [oI i, .one (.ptr 2 1 0 0)] (Bw k zs) (aL ts) hout∧(fun ts hout=>hout=Bw k zs∧GB ts) ts hout:=by
 refine dD Tryz.func121 ?_
 repeat' (conv=>whnf
          first
  |(refine And.intro Ik ?_)
  |(refine iq [0,1] rfl (TV rfl rfl rfl rfl rfl) rfl (IE rfl rfl rfl rfl) (Mg k zs hz hk zR i sB hi) ?_;rintro _ ⟨a,b,c,d,e,f,rfl⟩)
  |(refine ai rfl (iv (_,_) (_,_) (_,_)) ?_;rintro _ ⟨n,rfl⟩)
  |exact⟨_,_,_,rfl,rfl,ga rfl rfl rfl rfl,rfl,_,rfl⟩)
 all_goals (conv=>whnf)
theorem G1 (a b c d e f:Int):bG ([[tI a,tI b],[tI c,tI d],[tI e,tI f]]:Lz):=by
 intro q hq
 simp at hq
 rcases hq with hq|hq|hq
 · exact⟨a,b,hq⟩
 · exact⟨c,d,hq⟩
 · exact⟨e,f,hq⟩
theorem Ax {n ctr ty t1 t2 t3:Nat} {a b c d e f:Int} {tm:TS} {hp:HS} {K:V→HS→Prop} (h1:find tm t1=some (.w (.agg [.t (tI a), .t (tI b)]))) (h2:find tm t2=some (.w (.agg [.t (tI c), .t (tI d)]))) (h3:find tm t3=some (.w (.agg [.t (tI e), .t (tI f)])))
 (hk:K (.w (.one (.t (.aB 2 [[tI a,tI b],[tI c,tI d],[tI e,tI f]])))) hp): ∃v aG,j6 Tryz.prog n (.buildSlice 77 3 #[(0, .tmp t1),(1, .tmp t2),(2, .tmp t3)]) ty tm hp ctr v aG∧K v aG:=by
 refine⟨_,_,Mo (sz:=2) (l:=[(0, .agg [.t (tI a), .t (tI b)]),(1, .agg [.t (tI c), .t (tI d)]),(2, .agg [.t (tI e), .t (tI f)])]) (xs:=[[tI a,tI b],[tI c,tI d],[tI e,tI f]]) ?_ ?_ rfl,hk⟩
 · simp only[gM,St.get,h1,h2,h3,Option.getD_some]
 · kernel_rfl
def RS3 (k:Nat) (zs:Lz) (a b c d e f:Int) (m:Nat) (vs:List V) (hq:HS):Prop:= ∃ (i:Nat) (rows:List (List C)),i≤k∧m=k - i∧vs=[iV .i64 (i:Int)]∧az rows zs∧
 hq=[(0, .row 1 [[.own 1 2 0 k]]),(1, .row 2 rows),(2, .row 1 [[.jx 120 [(0,1,0,0)]]]),(4, .row 2 [[.t (tI a), .t (tI b)]]),(8, .row 2 [[.t (tI c), .t (tI d)]]),(12, .row 2 [[.t (tI e), .t (tI f)]])]
theorem acJ (k:Nat) (zs:Lz) (hz:bG zs) (hk:k≤zs.length) (zR:zs.length≤1000000) (i:Int) (sB:0≤i) (hi:i < (k:Int)): ∃ts hout,Fn Tryz.prog 123 [oI i, .one (.ptr 2 1 0 0), .one (.ptr 0 1 0 0)] (Bw k zs) (aL ts) hout∧(fun ts hout=>hout=Bw k zs∧GB ts) ts hout:=by
 refine dD Tryz.func123 ?_
 repeat' (conv=>whnf
          first
  |(refine au (fun h=>?_) (fun h=>?_))
  |(refine aF (fun h=>?_) (fun h=>?_))
  |(refine And.intro Ik ?_)
  |(refine And.intro ⟨by omega,by omega⟩ ?_)
  |(refine iq [0,1] rfl (TV rfl rfl rfl rfl rfl) rfl (IE rfl rfl rfl rfl) (Mg k zs hz hk zR i sB hi) ?_;rintro _ ⟨a,b,c,d,e,f,rfl⟩)
  |(refine bJ (xs:=zs) hR hz (by omega) ?_;rintro _ ⟨x,y,rfl⟩ hs)
  |(refine Ax rfl rfl rfl ?_)
  |(refine ai rfl (iv (_,_) (_,_) (_,_)) ?_;rintro _ ⟨n,rfl⟩)
  |(refine ai rfl (wj _ (_,_) (G1 _ _ _ _ _ _)) ?_;rintro _ ⟨n,rfl⟩)
  |exact⟨_,_,_,rfl,rfl,ga rfl rfl rfl rfl,rfl,_,rfl⟩
  |exact⟨_,_,_,rfl,rfl,ga rfl rfl rfl hR,rfl,_,rfl⟩
  |(apply bX [5,6,7,22,23,24] [] [24] (RS3 k zs a b c d e f) (k) [iV .i64 0];(conv=>whnf);exact⟨rfl,rfl,rfl,rfl⟩;exact rfl;exact rfl;exact⟨0,_,by omega,rfl,rfl,az.av (xs:=zs) rfl _,rfl⟩;rintro _ _ _ ⟨j,rows,hj,rfl,rfl,hR,rfl⟩)
  |(refine ak [5,6,7,22,23,24] [] ?_;(conv=>whnf);exact⟨rfl,_,[_],⟨j+1,_,by omega,rfl,by rw[bh (by omega) (by omega)];rfl,hR.av _,rfl⟩,rfl,rfl,by omega⟩))
 all_goals (conv=>whnf)
def GIr (k:Nat) (ts:List W):Prop:= ∃r:Int,ts=[oI r]∧ -1≤r∧r < (k:Int)
def RF (k:Nat) (zs:Lz) (m:Nat) (vs:List V) (hq:HS):Prop:= ∃ (i:Nat) (rows:List (List C)),i≤k∧m=k - i∧vs=[iV .i64 (i:Int)]∧az rows zs∧
 hq=[(0, .row 1 [[.own 1 2 0 k]]),(1, .row 2 rows),(2, .row 1 [[.jx 120 [(0,1,0,0)]]])]
theorem Sk (k:Nat) (zs:Lz) (hz:bG zs) (hk:k≤zs.length) (zR:zs.length≤1000000): ∃ts hout,Fn Tryz.prog 125 [oI k, .one (.jx 121 [(2,1,0,0)])] (Bw k zs) (aL ts) hout∧(fun ts hout=>hout=Bw k zs∧GIr k ts) ts hout:=by
 refine dD Tryz.func125 ?_
 repeat' (conv=>whnf
          first
  |(refine au (fun h=>?_) (fun h=>?_))
  |(refine aF (fun h=>?_) (fun h=>?_))
  |(refine And.intro Ye ?_)
  |(refine iq [0,1,2] rfl (PD rfl rfl rfl hR rfl rfl rfl rfl) rfl (hi2 rfl rfl rfl hR rfl rfl) (acK k zs hz hk zR (j:Int) (by omega) (by omega)) ?_;rintro _ ⟨b,rfl⟩)
  |exact⟨_,_,_,rfl,rfl,ga rfl rfl rfl hR,rfl,_,rfl,by omega,by omega⟩
  |(apply bX [1,6,7] [] [7] (RF k zs) (k) [iV .i64 0];(conv=>whnf);exact⟨rfl,rfl,rfl,rfl⟩;exact rfl;exact rfl;exact⟨0,_,by omega,rfl,rfl,az.av (xs:=zs) rfl _,rfl⟩;rintro _ _ _ ⟨j,rows,hj,rfl,rfl,hR,rfl⟩)
  |(refine ak [1,6,7] [] ?_;(conv=>whnf);exact⟨rfl,_,[_],⟨j+1,_,by omega,rfl,by rw[bh (by omega) (by omega)];rfl,hR.av _,rfl⟩,rfl,rfl,by omega⟩))
 all_goals (conv=>whnf)
theorem Sj (k:Nat) (zs:Lz) (hz:bG zs) (hk:k≤zs.length) (zR:zs.length≤1000000): ∃ts hout,Fn Tryz.prog 125 [oI k, .one (.jx 123 [(2,1,0,0),(0,1,0,0)])] (Bw k zs) (aL ts) hout∧(fun ts hout=>hout=Bw k zs∧GIr k ts) ts hout:=by
 refine dD Tryz.func125 ?_
 repeat' (conv=>whnf
          first
  |(refine au (fun h=>?_) (fun h=>?_))
  |(refine aF (fun h=>?_) (fun h=>?_))
  |(refine And.intro Yd ?_)
  |(refine iq [0,1,2] rfl (PD rfl rfl rfl hR rfl rfl rfl rfl) rfl (hi2 rfl rfl rfl hR rfl rfl) (acJ k zs hz hk zR (j:Int) (by omega) (by omega)) ?_;rintro _ ⟨b,rfl⟩)
  |exact⟨_,_,_,rfl,rfl,ga rfl rfl rfl hR,rfl,_,rfl,by omega,by omega⟩
  |(apply bX [1,6,7] [] [7] (RF k zs) (k) [iV .i64 0];(conv=>whnf);exact⟨rfl,rfl,rfl,rfl⟩;exact rfl;exact rfl;exact⟨0,_,by omega,rfl,rfl,az.av (xs:=zs) rfl _,rfl⟩;rintro _ _ _ ⟨j,rows,hj,rfl,rfl,hR,rfl⟩)
  |(refine ak [1,6,7] [] ?_;(conv=>whnf);exact⟨rfl,_,[_],⟨j+1,_,by omega,rfl,by rw[bh (by omega) (by omega)];rfl,hR.av _,rfl⟩,rfl,rfl,by omega⟩))
 all_goals (conv=>whnf)
end Go.aT.Cd
end
section
namespace Go.aT.Cd
open Go Go.Proofs
set_option maxRecDepth 100000
set_option maxHeartbeats 1000000
def YM (e:List T):Prop:= ∃LC,e=[.aB 2 LC]∧bG LC∧LC.length≤1000000
abbrev BV (rs:Lz):Prop:= ∀e,e∈rs→YM e
theorem BV.snoc {rs:Lz} (h:BV rs) {LC:Lz} (ht:bG LC) (hl:LC.length≤1000000):BV (rs++[[.aB 2 LC]]):=by
 intro e he
 simp only[List.mem_append,List.mem_singleton]at he
 rcases he with he|rfl
 · exact h e he
 · exact⟨LC,rfl,ht,hl⟩
theorem Fx {id sz i len l h:Nat} {K:C→Prop} (h1:l≤h) (h2:h≤len) (hk:h≠l→K (.own id sz (i+l) (h - l))) (MR:h=l→l≠0→K (.t (.aB sz []))) (h0:h=l→l=0→False):(l≤h∧h≤len)∧xJ (.own id sz i len) l h K:=by
 refine⟨⟨h1,h2⟩,?_⟩
 by_cases e:h=l
 · by_cases e0:l=0
   · exact(h0 e e0).elim
   · simp only[xJ,BL,if_pos (⟨e,e0⟩:h=l∧l≠0)]
     exact MR e e0
 · have e':¬ (h=l∧l≠0):=fun q=>e q.1
   simp only[xJ,BL,if_neg e',if_pos (⟨h1,h2⟩:l≤h∧h≤len)]
   exact hk e
theorem Ty:cF Tryz.prog 57=some 2:=Zc
theorem bG.aR {xs ys:Lz} (h:bG xs) (g:bG ys) (i:Nat):bG (aR xs i ys):=by
 intro e he
 rcases wq he with he|he
 · exact h e he
 · exact g e he
def NH (m:Nat) (vs:List V) (hq:HS):Prop:= ∃ (k:Nat) (zs rs:Lz) (rl rr:List (List C)),m=k∧(k≤zs.length∧zs.length≤40)∧bG zs∧rs.length+k≤40∧BV rs∧az rr rs∧az rl zs∧vs=[bD 12 1 rs.length]∧
 hq=[(4, .row 1 [[.own 16 2 0 k]]),(8, .row 1 [[.jx 120 [(4,1,0,0)]]]),(12, .row 1 rr),(16, .row 2 rl)]
theorem NH.next {k q:Nat} {zs rs:Lz} {rl rr:List (List C)} (h4:(k:Int) > 3) (hk:k≤zs.length∧zs.length≤40) (hz:bG zs) (hn:rs.length+(k - 1)≤40) (ht:BV rs) (h1:az rr rs) (h2:az rl zs) (hq:q=rs.length):
 NH (k - 1) [bD 12 1 q] [(4, .row 1 [[.own 16 2 0 ((IntKind.i64.wrap ((k:Int) - 1)).toNat - 0)]]),(8, .row 1 [[.jx 120 [(4,1,0,0)]]]),(12, .row 1 rr),(16, .row 2 rl)]:=by
 have e:(IntKind.i64.wrap ((k:Int) - 1)).toNat - 0=k - 1:=by rw[bh (by omega) (by omega)];omega
 rw[e,hq]
 exact⟨k - 1,zs,rs,rl,rr,rfl,by omega,hz,hn,ht,h1,h2,rfl,rfl⟩
theorem Gm {form:Lz} (h:form.length≤40):(aR (List.replicate ((form.length:Nat):Int).toNat [tI 0,tI 0]) 0 (form.take ((form.length:Nat):Int).toNat)).length=form.length:=by
 have e:((form.length:Nat):Int).toNat=form.length:=by omega
 rw[e,wu (by simp)]
 simp
theorem zq {zs ys:Lz} {i k n:Nat} (hk:k≤zs.length∧zs.length≤40) (hi:i+n≤k):k≤(aR zs i (ys.take n)).length∧(aR zs i (ys.take n)).length≤40:=by
 rw[wu]
 · exact hk
 · simp only[List.length_take]
   omega
theorem nu (xs:Lz) (hx:bG xs) (hl:xs.length≤1000000):Tg 90 [oL 2 xs] (N2 1 (fun rs=>BV rs∧rs.length≤41)):=by
 refine aJ ?_
 refine ah Tryz.func90 ?_
 repeat' (conv=>whnf
          first
  |(refine au (fun h=>?_) (fun h=>?_))
  |(refine ca (fun h=>?_) (fun h=>?_))
  |(refine And.intro ⟨by omega,by omega,by have:=(hF (by omega)).2;omega,by have:=(hF (by omega)).2;omega⟩ ?_)
  |(refine And.intro Ik ?_)
  |(refine And.intro ⟨h1.len.symm,by rw[h1.len];simp[aW];omega,by rw[h1.len];simp[maxLen];omega⟩ ?_)
  |(refine And.intro (show(0:Int)≤IntKind.i64.wrap (r+1) by rw[bh (by omega) (by omega)];omega) ?_)
  |(refine And.intro (show(0:Int)≤IntKind.i64.wrap ((k:Int) - 1) by rw[bh (by omega) (by omega)];omega) ?_)
  |(refine And.intro (show(0:Int)≤r by omega) ?_)
  |(refine lX (l:=r.toNat) (by omega) (Nat.le_refl _) (.inl (by omega)) ?_)
  |(refine lX (l:=0) (Nat.zero_le _) (by rw[bh (by omega) (by omega)];omega) (.inr rfl) ?_)
  |(refine Fx (by rw[bh (by omega) (by omega)];omega) (Nat.le_refl _) (fun hne=>?_) (fun heq F6=>?_) (fun heq F6=>by omega))
  |(refine And.intro (by kernel_rfl) ?_)
  |(refine ai rfl (wN xs hx hl) ?_;rintro _ ⟨form,e,rfl,hF⟩)
  |(refine D6 (ys:=form) rfl rfl rfl rfl Qn Ty rfl (az.replicate _ [tI 0,tI 0]) (by simp) ?_)
  |(refine iq [4,16,8] rfl (PD rfl rfl rfl h2 rfl rfl rfl rfl) rfl (hi2 rfl rfl rfl h2 rfl rfl) (Sk k zs hz hk.1 (by omega)) ?_;rintro _ ⟨r,rfl,td,kC⟩)
  |(refine iq [4,16,8] rfl (PD rfl rfl rfl h2 rfl rfl rfl rfl) rfl (hi2 rfl rfl rfl h2 rfl rfl) (Sj k zs hz hk.1 (by omega)) ?_;rintro _ ⟨r,rfl,td,kC⟩)
  |(refine iq [4,16] rfl (TV rfl rfl h2 rfl rfl) rfl (IE rfl rfl h2 rfl) (Mg k zs hz hk.1 (by omega) r (by omega) (by omega)) ?_;rintro _ ⟨a,b,c,d,e,f,rfl⟩)
  |(refine Ax rfl rfl rfl ?_)
  |(refine Fz rfl rfl rfl (z8 rfl h2 (by rw[bh (by omega) (by omega)];omega)) Qn Ty rfl h2 (by omega) (fun n=>?_) (fun n=>?_))
  |(refine Fz (ys:=[]) rfl rfl rfl rfl Qn Ty rfl h2 (by omega) (fun n=>?_) (fun n=>?_))
  |exact dg rfl (bR 1 rfl) (bS rfl) ⟨_,_,rfl,fun h0=>absurd h0 (by omega)⟩
  |exact dg rfl (Jm rfl rfl (rs:=rs) (zs:=zs) (by rw[show rr=tr rs from h1];rfl) (by rw[h1.len];rfl) rfl h2 hk.1 rfl) (bS rfl) ⟨_,_,rfl,fun _=>⟨ht.snoc (hz.take _) (by simp;omega),by simp;omega⟩⟩
  |(apply ij [6,7,8,9,10] [(6,0)] [10] (NH) (form.length) [bD 12 1 0] (dK.jq 10 1 rfl);(conv=>whnf);exact⟨rfl,rfl,rfl,rfl⟩;exact rfl;exact rfl;exact⟨((form.length:Nat):Int).toNat,_,[],_,_,by omega,⟨by rw[Gm (hF (by omega)).2];omega,by rw[Gm (hF (by omega)).2];exact(hF (by omega)).2⟩,(bG.QG _).aR ((hF (by omega)).1.take _) _,by have:=(hF (by omega)).2;simp;omega,fun e he=>by simp at he,az.av az.nil _,az.av (xs:=aR (List.replicate _ [tI 0,tI 0]) 0 _) rfl _,rfl,rfl⟩;rintro _ _ _ ⟨k,zs,rs,rl,rr,hmk,hk,hz,hn,ht,h1,h2,rfl,rfl⟩)
  |(refine ak [6,7,8,9,10] [(6,0)] ?_;(conv=>whnf);first|exact⟨rfl,_,[_],NH.next (by omega) hk hz (by omega) ht (h1.av _) (h2.av _) rfl,rfl,rfl,by omega⟩|exact⟨rfl,_,[_],NH.next (by omega) hk hz (by simp;omega) (ht.snoc (G1 _ _ _ _ _ _) (by simp)) ((az.snoc h1 [.aB 2 [[tI _,tI _],[tI _,tI _],[tI _,tI _]]]).av _) (h2.av _) (by have:=h1.len;simp;omega),rfl,rfl,by omega⟩|exact⟨rfl,_,[_],NH.next (by omega) (zq hk (by omega)) (hz.aR (bG.take (cE hz _ _) _) _) (by omega) ht (h1.av _) (az.av (xs:=aR zs _ _) rfl _) rfl,rfl,rfl,by omega⟩|exact⟨rfl,_,[_],NH.next (by omega) (zq hk (by omega)) (hz.aR (bG.take (cE hz _ _) _) _) (by simp;omega) (ht.snoc (G1 _ _ _ _ _ _) (by simp)) ((az.snoc h1 [.aB 2 [[tI _,tI _],[tI _,tI _],[tI _,tI _]]]).av _) (az.av (xs:=aR zs _ _) rfl _) (by have:=h1.len;simp;omega),rfl,rfl,by omega⟩|exact⟨rfl,_,[_],NH.next (by omega) (zq hk (by omega)) (hz.aR (fun e he=>by simp at he) _) (by omega) ht (h1.av _) (az.av (xs:=aR zs _ _) rfl _) rfl,rfl,rfl,by omega⟩|exact⟨rfl,_,[_],NH.next (by omega) (zq hk (by omega)) (hz.aR (fun e he=>by simp at he) _) (by simp;omega) (ht.snoc (G1 _ _ _ _ _ _) (by simp)) ((az.snoc h1 [.aB 2 [[tI _,tI _],[tI _,tI _],[tI _,tI _]]]).av _) (az.av (xs:=aR zs _ _) rfl _) (by have:=h1.len;simp;omega),rfl,rfl,by omega⟩))
 all_goals (conv=>whnf)
end Go.aT.Cd
end
section
namespace Go.aT.Cd
open Go Go.Proofs
set_option maxRecDepth 100000
set_option maxHeartbeats 1000000
def T5 (N:Nat) (m:Nat) (vs:List V):Prop:= ∃ (i:Nat) (n:Int),i≤N∧m=N - i∧vs=[iV .i64 n,iV .i64 (i:Int)]
theorem T5.next {N i:Nat} {n:Int} (h:(i:Int) < (N:Int)) (hN:N≤1000000):T5 N (N - (i+1)) [iV .i64 n,iV .i64 (IntKind.i64.wrap ((i:Int)+1))]:=⟨i+1,n,by omega,rfl,by rw[bh (by omega) (by omega)];rfl⟩
def GII (ts:List W):Prop:= ∃n e,ts=[oI n,oI e]
theorem sW (xs ys:Lz) (hx:bG xs) (hy:bG ys) (hl:xs.length≤1000000) (hm:ys.length≤1000000):Tg 138 [oL 2 xs,oL 2 ys] GII:=by
 refine aJ ?_
 refine ah Tryz.func138 ?_
 repeat' (conv=>whnf
          first
  |(refine au (fun h=>?_) (fun h=>?_))
  |(refine ca (fun h=>?_) (fun h=>?_))
  |(refine aq (xs:=ts) (hT (by omega)).1 (by omega) (by omega) ?_;rintro _ ⟨t1,rfl,ht1,MQ⟩ hs)
  |(refine aq (xs:=us) (hU (by omega)).1 (by omega) (by omega) ?_;rintro _ ⟨t2,rfl,ht2,rI⟩ hs)
  |(refine ai rfl (nu xs hx hl) ?_;rintro _ ⟨ts,e,rfl,hT⟩)
  |(refine ai rfl (nu ys hy hm) ?_;rintro _ ⟨us,e2,rfl,hU⟩)
  |(refine ai rfl (mS t1 t2 ht1 ht2 MQ rI) ?_;rintro _ ⟨c,rfl⟩)
  |exact dg rfl (bS rfl) (bS rfl) ⟨_,_,rfl⟩
  |(apply aM [8,9,11,30,31,32,36,37,38] [] [9,38] (T5 us.length) (us.length) [iV .i64 n,iV .i64 0];(conv=>whnf);exact⟨rfl,rfl,rfl,rfl⟩;exact rfl;exact rfl;exact⟨0,n,by omega,rfl,rfl⟩;rintro _ _ ⟨j,n2,hj,rfl,rfl⟩)
  |(refine ak [8,9,11,30,31,32,36,37,38] [] ?_;(conv=>whnf);exact⟨rfl,_,[_,_],T5.next (by omega) (by have:=(hU (by omega)).2;omega),rfl,rfl,rfl,by omega⟩)
  |(apply aM [8,9,30,31,32] [] [9,32] (T5 ts.length) (ts.length) [iV .i64 (-1),iV .i64 0];(conv=>whnf);exact⟨rfl,rfl,rfl,rfl⟩;exact rfl;exact rfl;exact⟨0, -1,by omega,rfl,rfl⟩;rintro _ _ ⟨i,n,hi,rfl,rfl⟩)
  |(refine ak [8,9,30,31,32] [] ?_;(conv=>whnf);exact⟨rfl,_,[_,_],T5.next (by omega) (by have:=(hT (by omega)).2;omega),rfl,rfl,rfl,by omega⟩))
 all_goals (conv=>whnf)
def GBI (ts:List W):Prop:= ∃b e,ts=[oB b,oI e]
theorem uY (xs ys:Lz) (hx:bG xs) (hy:bG ys) (hl:xs.length≤1000000) (hm:ys.length≤1000000):Tg 104 [oL 2 xs,oL 2 ys] GBI:=by
 refine aJ ?_
 refine ah Tryz.func104 ?_
 repeat' (conv=>whnf
          first
  |(refine au (fun h=>?_) (fun h=>?_))
  |(refine ai rfl (sW xs ys hx hy hl hm) ?_;rintro _ ⟨n,e,rfl⟩)
  |exact dg rfl (bS rfl) (bS rfl) ⟨_,_,rfl⟩)
 all_goals (conv=>whnf)
def aiB (e:List T):Prop:= ∃poly g m x y,e=[.aB 2 poly,tI g,tB m,tI x,tI y]∧bG poly∧poly.length≤1000000
def aiG (e:List T):Prop:= ∃sh f q x y,e=[tI sh,tB f,tI q,tI x,tI y]
abbrev QW (sh:Int) (f:Bool) (q x y:Int):W:= .agg [.t (tI sh), .t (tB f), .t (tI q), .t (tI x), .t (tI y)]
abbrev GC (xs:Lz):Prop:= ∀e,e∈xs→aiB e
abbrev Pts (xs:Lz):Prop:= ∀e,e∈xs→aiG e
theorem qx (fC:Lz) (hs:GC fC) (sh:Int) (f:Bool) (q x y:Int):Tg 31 [oL 5 fC,QW sh f q x y] (N2 2 (fun ps=>(bG ps∧ps.length≤1000000)∧0≤sh∧sh < (fC.length:Int))):=by
 refine aJ ?_
 refine ah Tryz.func31 ?_
 repeat' (conv=>whnf
          first
  |(refine au (fun h=>?_) (fun h=>?_))
  |(refine ca (fun h=>?_) (fun h=>?_))
  |(refine aF (fun h=>?_) (fun h=>?_))
  |(refine aq (xs:=fC) hs (by omega) (by omega) ?_;rintro _ ⟨poly,g,m,px,py,rfl,hp,jo⟩ hs1)
  |(refine And.intro (by kernel_rfl) ?_)
  |(refine ai rfl (rm (_,_)) ?_;rintro _ ⟨b,rfl,_⟩)
  |(refine ai rfl (fJ poly hp jo) ?_;rintro _ ⟨d,rfl,_⟩)
  |(refine aC rfl (zi _ _ poly hp jo) ?_;rintro _ ⟨ys,rfl,j8,hys⟩)
  |(refine aC rfl (AY ys (_,_) hys (by omega)) ?_;rintro _ ⟨zs,rfl,jn,hzs⟩)
  |(refine ai rfl (fJ zs hzs (by omega)) ?_;rintro _ ⟨d2,rfl,_⟩)
  |exact dg rfl (bR 2 rfl) (bS rfl) ⟨_,_,rfl,fun h0=>absurd h0 (by omega)⟩
  |exact dg rfl (bS rfl) (bS rfl) ⟨zs,_,rfl,fun _=>⟨⟨hzs,by omega⟩,by omega,by omega⟩⟩)
 all_goals (conv=>whnf)
theorem yD (r a:Sp) (sh:Int) (f:Bool) (q x y:Int):Tg 103 [eo r,eo a,QW sh f q x y] GB:=by
 refine ah Tryz.func103 ?_
 repeat' (conv=>whnf
          first
  |(refine aF (fun h=>?_) (fun h=>?_))
  |(refine ai rfl (rm (_,_)) ?_;rintro _ ⟨b,rfl,_⟩)
  |(refine ai rfl (qk _ _ (_,_)) ?_;rintro _ ⟨u,v,rfl,_⟩)
  |(refine ai rfl (Cg (_,_) (_,_) (_,_)) ?_;rintro _ ⟨b,rfl⟩)
  |exact gB rfl rfl)
 all_goals (conv=>whnf)
abbrev Wv (l w rx ry:Int):W:= .agg [.t (tI l), .t (tI w), .t (tI rx), .t (tI ry)]
theorem Eu (bl bw ZR ZQ:Int) (fC fZ:Lz) (hs:GC fC) (hp:Pts fZ) (jo:fZ.length≤maxLen) (sh:Int) (f:Bool) (q x y:Int):Tg 78 [Wv bl bw ZR ZQ,oL 5 fC,oL 5 fZ,QW sh f q x y] GI:=by
 refine ah Tryz.func78 ?_
 repeat' (conv=>whnf
          first
  |(refine au (fun h=>?_) (fun h=>?_))
  |(refine ca (fun h=>?_) (fun h=>?_))
  |(refine aF (fun h=>?_) (fun h=>?_))
  |(refine aq (xs:=fC) hs (hP (by omega)).2.1 (hP (by omega)).2.2 ?_;rintro _ ⟨poly,g,m,px,py,rfl,_,_⟩ hs1)
  |(refine aq (xs:=ps) (hP (by omega)).1.1 (by omega) (by omega) ?_;rintro _ ⟨a,b,rfl⟩ bW)
  |(refine aq (xs:=fZ) hp (by omega) (by omega) ?_;rintro _ ⟨sh2,f2,q2,x2,y2,rfl⟩ CU)
  |(refine ai rfl (qx fC hs sh f q x y) ?_;rintro _ ⟨ps,e,rfl,hP⟩)
  |(refine ai rfl (AA _ _ _ _) ?_;rintro _ ⟨b,rfl⟩)
  |(refine ai rfl (yD (_,_) (_,_) _ _ _ _ _) ?_;rintro _ ⟨b,rfl⟩)
  |(refine ai rfl (qx fC hs sh2 f2 q2 x2 y2) ?_;rintro _ ⟨TB,e2,rfl,hP2⟩)
  |(refine ai rfl (uY TB ps (hP2 (by omega)).1.1 (hP (by omega)).1.1 (hP2 (by omega)).1.2 (hP (by omega)).1.2) ?_;rintro _ ⟨b,e3,rfl⟩)
  |exact gI rfl rfl
  |(apply aM [1,9,97,98,99] [] [99] (RI fZ.length) (fZ.length) [iV .i64 0];(conv=>whnf);exact⟨rfl,rfl,rfl,rfl⟩;exact rfl;exact rfl;exact RI.zero;rintro _ _ ⟨i,hi,rfl,rfl⟩)
  |(refine ak [1,9,97,98,99] [] ?_;(conv=>whnf);exact⟨rfl,_,[_],RI.succ (N:=fZ.length) (i:=i) (by omega) jo,rfl,rfl,rfl,by omega⟩)
  |(apply aM [1,2,4,7,9,11,57,58,59] [] [59] (RI ps.length) (ps.length) [iV .i64 0];(conv=>whnf);exact⟨rfl,rfl,rfl,rfl⟩;exact rfl;exact rfl;exact RI.zero;rintro _ _ ⟨i,hi,rfl,rfl⟩)
  |(refine ak [1,2,4,7,9,11,57,58,59] [] ?_;(conv=>whnf);exact⟨rfl,_,[_],RI.succ (N:=ps.length) (i:=i) (by omega) (by have:=(hP (by omega)).1.2;simp only[maxLen];omega),rfl,rfl,rfl,by omega⟩))
 all_goals (conv=>whnf)
theorem Cs (bl bw ZR ZQ:Int) (fC fZ:Lz) (hs:GC fC) (hp:Pts fZ) (jo:fZ.length≤maxLen):Tg 53 [Wv bl bw ZR ZQ,oL 5 fC,oL 5 fZ] GI:=by
 refine ah Tryz.func53 ?_
 repeat' (conv=>whnf
          first
  |(refine au (fun h=>?_) (fun h=>?_))
  |(refine ca (fun h=>?_) (fun h=>?_))
  |(refine gK (Nat.zero_le _) (by omega) ?_)
  |(refine aq (xs:=fZ) hp (by omega) (by omega) ?_;rintro _ ⟨sh,f,q,x,y,rfl⟩ CU)
  |(refine And.intro (by kernel_rfl) ?_)
  |(refine And.intro (by omega) ?_)
  |(refine aC rfl (Eu bl bw ZR ZQ fC _ hs (cE hp _ _) (oO jo _ _) sh f q x y) ?_;rintro _ ⟨n,rfl⟩)
  |exact gI rfl rfl
  |(apply aM [1,2,3,13,14,15] [] [15] (RI fZ.length) (fZ.length) [iV .i64 0];(conv=>whnf);exact⟨rfl,rfl,rfl,rfl⟩;exact rfl;exact rfl;exact RI.zero;rintro _ _ ⟨i,hi,rfl,rfl⟩)
  |(refine ak [1,2,3,13,14,15] [] ?_;(conv=>whnf);exact⟨rfl,_,[_],RI.succ (N:=fZ.length) (i:=i) (by omega) jo,rfl,rfl,rfl,by omega⟩))
 all_goals (conv=>whnf)
end Go.aT.Cd
end
section
namespace Go.aT.Cd
open Go Go.Proofs
set_option maxRecDepth 100000
set_option maxHeartbeats 1000000
theorem aSh:ju Tryz.prog 166=some true:=by kernel_rfl
theorem zSh:cF Tryz.prog 166=some 5:=by kernel_rfl
theorem aKy:ju Tryz.prog 158=some true:=by kernel_rfl
theorem zKy:cF Tryz.prog 158=some 3:=by kernel_rfl
abbrev oPl (g u k:Int) (f:Bool) (q x y:Int):W:= .agg [.t (tI g), .t (tI u), .t (tI k), .t (tB f), .t (tI q), .t (tI x), .t (tI y)]
theorem EB (g u k:Int) (f:Bool) (q x y:Int): ∃ts,Fn Tryz.prog 51 [oPl g u k f q x y] [] (aL ts) []∧(aL ts).bL=true∧(fun ts=>ts=[.agg [.t (tI g), .t (tI u), .t (tI k)]]) ts:=by
 refine aJ ?_
 refine ah Tryz.func51 ?_
 repeat' (conv=>whnf
          first
  |exact oP rfl (bE aKy zKy rfl rfl (Nat.le_refl _) rfl (cS.refl _)) rfl)
 all_goals (conv=>whnf)
abbrev adJ (poly:Lz) (g:Int) (m:Bool) (x y:Int):W:= .agg [.t (.aB 2 poly), .t (tI g), .t (tB m), .t (tI x), .t (tI y)]
def ajA (ts:List W):Prop:= ∃poly g m x y e,ts=[adJ poly g m x y,oI e]∧(e=0→bG poly∧poly.length≤1000000)
theorem Ap.wo {xs:Lz} (h:Ap xs):bG xs∧xs.length≤40:=⟨fun e he=>by obtain⟨a,b,r,_⟩:=h.1.2.2 e he;exact⟨a,b,r⟩,h.1.2.1⟩
theorem wT (sn:ByteArray) (bK ms ps us ss os:Lz) (hS:jy sn bK ms ps us ss os) (size:Int) (g u k:Int) (f:Bool) (q x y:Int):Tg 76 [mA sn bK ms ps us ss os,oI size,oPl g u k f q x y] ajA:=by
 refine aJ ?_
 refine ah Tryz.func76 ?_
 repeat' (conv=>whnf
          first
  |(refine ca (fun h=>?_) (fun h=>?_))
  |(refine aF (fun h=>?_) (fun h=>?_))
  |(refine aq (xs:=us) (hC (by assumption)).2.2 (hC (by assumption)).2.1.1 (hC (by assumption)).2.1.2 ?_;rintro _ ⟨a,b,c,rfl,⟨ha,ha2⟩,hb⟩ hs)
  |(refine aq (xs:=ps) hS.hps ha ha2 ?_;rintro _ ⟨nm,es,gr,ns,cs,ws,mt,rfl,hnm,⟨he,hm⟩,⟨hn,_⟩,⟨hc,eF⟩,hw,yg⟩ bW)
  |(refine And.intro (by kernel_rfl) ?_)
  |(refine ai rfl (GZ sn bK ms ps us ss os hS size u) ?_;rintro _ ⟨poly,e,rfl,hC⟩)
  |(refine ai rfl (AH sn bK ms ps us ss os hS size u) ?_;rintro _ ⟨⟨ax,ay⟩,e2,rfl⟩)
  |(refine aC rfl (zi _ _ poly (hC (by assumption)).1.wo.1 (by have:=(hC (by assumption)).1.wo.2;omega)) ?_;rintro _ ⟨ys,rfl,j8,hys⟩)
  |(refine aC rfl (qk _ _ (_,_)) ?_;rintro _ ⟨bx,b_y,rfl,_⟩)
  |exact dg rfl (bE aSh zSh rfl rfl (Nat.le_refl _) rfl (.cons (.nil 2) (cS.refl _))) (bS rfl) ⟨_,_,_,_,_,_,rfl,fun h0=>absurd h0 (by assumption)⟩
  |exact dg rfl (bE aSh zSh rfl rfl (Nat.le_refl _) rfl (cS.refl _)) (bS rfl) ⟨poly,_,_,_,_,_,rfl,fun _=>⟨(hC (by assumption)).1.wo.1,by have:=(hC (by assumption)).1.wo.2;omega⟩⟩
  |exact dg rfl (bE aSh zSh rfl rfl (Nat.le_refl _) rfl (cS.refl _)) (bS rfl) ⟨ys,_,_,_,_,_,rfl,fun _=>⟨hys,by have:=(hC (by assumption)).1.wo.2;omega⟩⟩)
 all_goals (conv=>whnf)
abbrev qm (sn:ByteArray) (bK ms ps us ss os:Lz):List T:=[.val (.string sn), .aB 1 bK, .aB 1 ms, .aB 7 ps, .aB 3 us, .aB 6 ss, .aB 5 os]
theorem GC.snoc {xs:Lz} (h:GC xs) {poly:Lz} (hp:bG poly) (hl:poly.length≤1000000) (g:Int) (m:Bool) (x y:Int):GC (xs++[[.aB 2 poly,tI g,tB m,tI x,tI y]]):=by
 intro e he
 simp only[List.mem_append,List.mem_singleton]at he
 rcases he with he|rfl
 · exact h e he
 · exact⟨poly,g,m,x,y,rfl,hp,hl⟩
def nI (k:Nat) (e:List T):Int:=
 match e[k]? with
 |some (.val (.int .i64 n))=>n
 |_=>0
def nB (k:Nat) (e:List T):Bool:=
 match e[k]? with
 |some (.val (.bool b))=>b
 |_=>false
def nL (k:Nat) (e:List T):Lz:=
 match e[k]? with
 |some (.aB _ xs)=>xs
 |_=>[]
def Pre (Q:List T→Prop) (xs:Lz) (i:Nat):Prop:= ∀j e,j < i→xs[j]? =some e→Q e
theorem Pre.zero {Q:List T→Prop} {xs:Lz}:Pre Q xs 0:=fun j e hj=>by omega
theorem Pre.succ {Q:List T→Prop} {xs:Lz} {i:Nat} {e:List T} (h:Pre Q xs i) (hs:xs[i]? =some e) (hq:Q e):Pre Q xs (i+1):=by
 intro j e' hj he
 by_cases fT:j=i
 · subst fT
   rw[hs]at he
   cases he
   exact hq
 · exact h j e' (by omega) he
theorem Pre.all {Q:List T→Prop} {xs:Lz} {i:Nat} (h:Pre Q xs i) (hi:xs.length≤i): ∀e,e∈xs→Q e:=by
 intro e he
 obtain⟨j,hj,rfl⟩:=List.getElem_of_mem he
 exact h j _ (by omega) (by simp[hj])
def Tm (n:Int) (e:List T):Prop:= ∃a,e=[tI a]∧0≤a∧a < n
def NW (xs:Lz) (n:Int) (i:Nat):Prop:= ∀j e,j < i→xs[j]? =some e→Tm n e
theorem NW.all {xs:Lz} {n:Int} {i:Nat} (h:NW xs n i) (hi:xs.length≤i): ∀e,e∈xs→Tm n e:=by
 intro e he
 obtain⟨j,hj,rfl⟩:=List.getElem_of_mem he
 exact h j _ (by omega) (by simp[hj])
def RIx (xs:Lz) (n:Int) (m:Nat) (vs:List V):Prop:= ∃i:Nat,i≤xs.length∧NW xs n i∧m=xs.length - i∧vs=[iV .i64 (i:Int)]
theorem RIx.next {xs:Lz} {n a:Int} {i:Nat} (hi:(i:Int) < (xs.length:Int)) (hl:xs.length≤maxLen) (h:NW xs n i) (hs:xs[((i:Int)).toNat]? =some [tI a]) (h0:0≤a) (h1:a < n):RIx xs n (xs.length - (i+1)) [iV .i64 (IntKind.i64.wrap ((i:Int)+1))]:=by
 refine⟨i+1,by omega,fun j e hj he=>?_,rfl,by simp only[maxLen]at hl;rw[bh (by omega) (by omega)];rfl⟩
 by_cases fT:j=i
 · subst fT
   have hs':xs[j]? =some [tI a]:=by simpa using hs
   rw[hs']at he
   exact⟨a,(Option.some.inj he).symm,h0,h1⟩
 · exact h j e (by omega) he
def GaI (N:Nat) (e:List T):Prop:= ∃g r,e=tI g::r∧0≤g∧g < (N:Int)
abbrev GK (N:Nat) (xs:Lz):Prop:= ∀e,e∈xs→GaI N e
theorem GK.snoc {N:Nat} {xs:Lz} (h:GK N xs) {g:Int} (r:List T) (h0:0≤g) (h1:g < (N:Int)):GK N (xs++[tI g::r]):=by
 intro e he
 simp only[List.mem_append,List.mem_singleton]at he
 rcases he with he|rfl
 · exact h e he
 · exact⟨g,r,rfl,h0,h1⟩
def NL (row:List T) (U N:Nat) (m:Nat) (ws:List V) (xss:List (Lz)):Prop:= ∃ (i:Nat) (fC kf:Lz),i≤N∧m=N - i∧ws=[bD 8 5 fC.length,bD 12 7 kf.length,iV .i64 (i:Int)]∧xss=[[row],fC,kf]∧kf.length=fC.length∧fC.length≤48 * i∧GC fC∧GR U kf∧GK N kf
theorem NL.next {row:List T} {U N i:Nat} {fC kf:Lz} (h:(i:Int) < (N:Int)) (hN:N≤6) (hl:kf.length=fC.length) (hb:fC.length≤48 * (i+1)) (h1:GC fC) (h2:GR U kf) (h3:GK N kf):NL row U N (N - (i+1)) [bD 8 5 fC.length,bD 12 7 kf.length,iV .i64 (IntKind.i64.wrap ((i:Int)+1))] [[row],fC,kf]:=
 ⟨i+1,fC,kf,by omega,rfl,by rw[bh (by omega) (by omega)];rfl,rfl,hl,hb,h1,h2,h3⟩
def NJ (row:List T) (U N b L:Nat) (m:Nat) (ws:List V) (xss:List (Lz)):Prop:= ∃ (j:Nat) (fC kf:Lz),j≤L∧m=L - j∧ws=[bD 8 5 fC.length,bD 12 7 kf.length,iV .i64 (j:Int)]∧xss=[[row],fC,kf]∧kf.length=fC.length∧fC.length≤b+j∧GC fC∧GR U kf∧GK N kf
theorem NJ.next {row:List T} {U N b L j k1 k2:Nat} {fC kf poly:Lz} {g x y gg u k qq xx yy:Int} {m f:Bool} (h:(j:Int) < (L:Int)) (hL:L≤48) (hl:kf.length=fC.length) (hb:fC.length≤b+j) (h1:GC fC) (h2:GR U kf) (hp:bG poly∧poly.length≤1000000) (hu:0≤u∧u < (U:Int)) (h3:GK N kf) (hg:0≤gg∧gg < (N:Int)) (e1:k1=fC.length+1) (e2:k2=kf.length+1):
 NJ row U N b L (L - (j+1)) [bD 8 5 k1,bD 12 7 k2,iV .i64 (IntKind.i64.wrap ((j:Int)+1))] [[row],fC++[[.aB 2 poly,tI g,tB m,tI x,tI y]],kf++[[tI gg,tI u,tI k,tB f,tI qq,tI xx,tI yy]]]:=
 ⟨j+1,_,_,by omega,rfl,by rw[bh (by omega) (by omega),e1,e2];simp,rfl,by simp[hl],by simp;omega,h1.snoc hp.1 hp.2 g m x y,h2.snoc gg u k qq xx yy f hu.1 hu.2,h3.snoc _ hg.1 hg.2⟩
def aiZ (U N M:Nat) (sizes:Lz) (ts:List W):Prop:= ∃fC kf e,ts=[oL 5 fC,oL 7 kf,oI e]∧(e=0→GC fC∧GR U kf∧kf.length=fC.length∧fC.length≤336∧GK N kf∧(∀e,e∈sizes→Tm M e)∧sizes.length≤6)
theorem yI (sn:ByteArray) (bK ms ps us ss os:Lz) (hS:jy sn bK ms ps us ss os) (sizes:Lz) (hz:Is sizes) (jn:sizes.length≤maxLen):Tg 50 [mA sn bK ms ps us ss os,oL 1 sizes] (aiZ us.length sizes.length bK.length sizes):=by
 refine aJ ?_
 refine ah Tryz.func50 ?_
 repeat' (conv=>whnf
          first
  |(refine au (fun h=>?_) (fun h=>?_))
  |(refine ca (fun h=>?_) (fun h=>?_))
  |(refine aq (xs:=sizes) hz (by omega) (by omega) ?_;rintro _ ⟨a,rfl⟩ hs)
  |(refine aq (xs:=cs) hcs (by omega) (by omega) ?_;rintro _ ⟨g,u,k,f,q,x,y,rfl,mC,uw⟩ hs)
  |(refine And.intro ⟨by simp[tr],by simp[tr,aW];omega,by simp[tr,maxLen];omega⟩ ?_)
  |(refine ai rfl (nE sn bK ms ps us ss os hS) ?_;rintro _ ⟨e,rfl,hC⟩)
  |(refine ai rfl (AG sn bK ms ps us ss os hS) ?_;rintro _ ⟨cs,rfl,hcs,eF⟩)
  |(refine ai rfl (wT sn bK ms ps us ss os hS _ _ _ _ _ _ _ _) ?_;rintro _ ⟨poly,pg,pm,px,py,e3,rfl,hp⟩)
  |exact H6 rfl (bR 5 rfl) (bR 7 rfl) (bS rfl) ⟨_,_,_,rfl,fun h0=>absurd h0 (by omega)⟩
  |exact H6 rfl (fz rfl rfl (xs:=fC) rfl (by omega)) (fz rfl rfl (xs:=kf) rfl (by omega)) (bS rfl) ⟨_,_,_,rfl,fun _=>by rw[fG rfl,fG rfl];exact⟨hs1,ph,MQ,by omega,hg1,qR.all (by omega),by omega⟩⟩
  |(apply bp [2,10,11,12,13,14,56,57,58,63,64,65] [] [11,12,65] [(4,7),(8,5),(12,7)] (NJ (qm sn bK ms ps us ss os) us.length sizes.length (48 * i) cs.length) (cs.length) [bD 8 5 fC.length,bD 12 7 kf.length,iV .i64 0];(conv=>whnf);exact⟨rfl,rfl,rfl,rfl⟩;exact rfl;exact rfl;exact .cons (az.av (xs:=[qm sn bK ms ps us ss os]) rfl _) (.cons (az.av (xs:=fC) rfl _) (.cons (az.av (xs:=kf) rfl _) .nil));exact⟨0,fC,kf,by omega,rfl,rfl,rfl,MQ,by omega,hs1,ph,hg1⟩;rintro _ _ _ ⟨j,V4,Ym,hj,rfl,rfl,rfl,rI,nj,bW,Bv,zS⟩)
  |(refine ak [2,10,11,12,13,14,56,57,58,63,64,65] [] ?_;(conv=>whnf);exact⟨rfl,_,[_,_,_],_, .cons (az.av (xs:=[qm sn bK ms ps us ss os]) rfl _) (.cons (az.av (az.snoc (xs:=V4) rfl [.aB 2 _,tI _,tB _,tI _,tI _]) _) (.cons (az.av (az.snoc (xs:=Ym) rfl [tI _,tI _,tI _,tB _,tI _,tI _,tI _]) _) .nil)),NJ.next (by omega) eF rI nj bW Bv (hp (by omega)) ⟨mC,uw⟩ zS ⟨by omega,by omega⟩ (by simp[tr]) (by simp[tr]),rfl,rfl,by omega⟩)
  |(apply dQ [2,10,11,12,56,57,58] [] [11,12,58] [(4,7),(8,5),(12,7)] (NL (qm sn bK ms ps us ss os) us.length sizes.length) (sizes.length) [bD 8 5 0,bD 12 7 0,iV .i64 0] (dK.trans (dK.jq 11 5 rfl) (dK.jq 12 7 rfl));(conv=>whnf);exact⟨rfl,rfl,rfl,rfl⟩;exact rfl;exact rfl;exact .cons (az.av (xs:=[qm sn bK ms ps us ss os]) rfl _) (.cons (az.av az.nil _) (.cons (az.av az.nil _) .nil));exact⟨0,[],[],by omega,rfl,rfl,rfl,rfl,by simp,fun e he=>by simp at he,fun e he=>by simp at he,fun e he=>by simp at he⟩;rintro _ _ _ ⟨i,fC,kf,hi,rfl,rfl,rfl,MQ,pn,hs1,ph,hg1⟩)
  |(refine ak [2,10,11,12,56,57,58] [] ?_;(conv=>whnf);exact⟨rfl,_,[_,_,_],_, .cons (az.av (xs:=[qm sn bK ms ps us ss os]) rfl _) (.cons (az.av (xs:=V4) rfl _) (.cons (az.av (xs:=Ym) rfl _) .nil)),NL.next (by omega) (by omega) rI (by omega) bW Bv zS,rfl,rfl,by omega⟩)
  |(apply aM [1,2,32,33,34] [] [34] (RIx sizes bK.length) (sizes.length) [iV .i64 0];(conv=>whnf);exact⟨rfl,rfl,rfl,rfl⟩;exact rfl;exact rfl;exact⟨0,by omega,fun j e hj=>by omega,rfl,rfl⟩;rintro _ _ ⟨i,hi,qR,rfl,rfl⟩)
  |(refine ak [1,2,32,33,34] [] ?_;(conv=>whnf);exact⟨rfl,_,[_],RIx.next (by omega) jn qR hs (by omega) (by omega),rfl,rfl,rfl,by omega⟩))
 all_goals (conv=>whnf)
end Go.aT.Cd
end
section
namespace Go.aT.Cd
open Go Go.Proofs
set_option maxRecDepth 100000
set_option maxHeartbeats 1000000
theorem WS {hp:HS} {id sz len:Nat} {rows:List (List C)} {xs:Lz} {x:T} (hf:find hp id=some (.row sz rows)) (hR:az rows xs) (hl:len=xs.length):bM (bY hp) [.one (.own id sz 0 len), .one (.t x)]=some [.one (.t (.aB sz xs)), .one (.t x)]:=by
 have:=kE (hp:=hp) (i:=0) hf hR (by omega:0+len≤xs.length)
 have hx:bY hp (.one (.t x))=some (.one (.t x)):=rfl
 simp only[bM,this,hx]
 simp[hl]
def IsB (e:List T):Prop:= ∃b,e=[tB b]
abbrev Bs (xs:Lz):Prop:= ∀e,e∈xs→IsB e
theorem qp (xs:Lz) (b:Bool) (hx:Bs xs) (hl:xs.length≤maxLen):Tg 77 [oL 1 xs,oB b] GI:=by
 refine ah Tryz.func77 ?_
 repeat' (conv=>whnf
          first
  |(refine au (fun h=>?_) (fun h=>?_))
  |(refine aq hx (by first|omega|exact bF (by first|omega|(simp (disch:=omega) only[aa];omega))|(simp (disch:=omega) only[aa];omega)) (by first|omega|exact bq (by omega)|(simp (disch:=omega) only[aa];omega)) ?_;rintro _ ⟨c,rfl⟩ hs)
  |exact gI rfl rfl
  |(apply aM [0,1,7,8] [] [8] (RI xs.length) (xs.length) [iV .i64 0];(conv=>whnf);exact⟨rfl,rfl,rfl,rfl⟩;exact rfl;exact rfl;exact RI.zero;rintro _ _ ⟨i,hi,rfl,rfl⟩)
  |(refine ak [0,1,7,8] [] ?_;(conv=>whnf);exact⟨rfl,_,[_],RI.succ (N:=xs.length) (i:=i) (by omega) hl,rfl,rfl,rfl,by omega⟩))
 all_goals (conv=>whnf)
theorem mY (xs:Lz) (b:Bool) (hx:Bs xs) (hl:xs.length≤maxLen):Tg 52 [oL 1 xs,oB b] GB:=by
 refine ah Tryz.func52 ?_
 repeat' (conv=>whnf
          first
  |(refine ai rfl (qp xs _ hx hl) ?_;rintro _ ⟨n,rfl⟩)
  |exact gB rfl rfl)
 all_goals (conv=>whnf)
def Tk (v:Value):Prop:= ∃a b c,v= .agg #[.int .i64 a, .int .i64 b, .int .i64 c]
theorem sb3 (k:Nat) (a b c:Int):Instr.sameBits (k+1) (.agg #[.int .i64 a, .int .i64 b, .int .i64 c]) (.agg #[.int .i64 a, .int .i64 b, .int .i64 c])=true:=by
 simp[Instr.sameBits]
theorem MI: ∃d,Tryz.prog.underlying 158=some (.struct d):=by
 have h:(match Tryz.prog.underlying 158 with|some (.struct _)=>true|_=>false)=true:=by kernel_rfl
 split at h
 · rename_i d hd;exact⟨d,hd⟩
 · simp at h
theorem kKy:jz Tryz.prog 158 Tk:=by
 obtain⟨d,hd⟩:=MI
 refine HD hd ?_ ?_ ?_ ?_
 · rintro e _ ⟨a,b,c,rfl⟩
   exact⟨(),by cases e<;>kernel_rfl⟩
 · rintro _ _ ⟨a,b,c,rfl⟩ ⟨a',b',c',rfl⟩
   rfl
 · rintro _ _ ⟨a,b,c,rfl⟩ ⟨a',b',c',rfl⟩
   have h:=(nO (P:=Tryz.prog) (t:=158) (ks:=[0,0,0]) (cs:=[.t (tI a), .t (tI b), .t (tI c)]) (ds:=[.t (tI a'), .t (tI b'), .t (tI c')]) (vs:=[.int .i64 a, .int .i64 b, .int .i64 c]) (us:=[.int .i64 a', .int .i64 b', .int .i64 c']) (b:=(a==a')&& ((b==b')&& ((c==c')&&true))) (by kernel_rfl) rfl rfl rfl).1
   refine⟨_,h,?_⟩
   simp only[Bool.and_true,Bool.and_eq_true,beq_iff_eq,Value.agg.injEq]
   constructor
   · rintro⟨rfl,rfl,rfl⟩;rfl
   · intro h
     simp at h
     exact⟨h.1.symm,h.2.1.symm,h.2.2.symm⟩
 · rintro _ ⟨a,b,c,rfl⟩
   exact sb3 9999 a b c
theorem uMk:Tryz.prog.underlying 156=some (.map 158 3):=by kernel_rfl
theorem zIt:nq Tryz.prog 3=some (.int .i64 0):=by kernel_rfl
theorem jz.sub {kt:TypeId} {K1 K2:Value→Prop} (h:jz Tryz.prog kt K1) (hs: ∀v,K2 v→K1 v):jz Tryz.prog kt K2:=
 ⟨fun es kv empty he hk=>h.at_ es kv empty (fun p hp=>hs _ (he p hp)) (hs _ hk),fun kv hk=>h.same kv (hs _ hk)⟩
def PU (N:Nat) (v:Value):Prop:= ∃a b c,v= .agg #[.int .i64 a, .int .i64 b, .int .i64 c]∧0≤a∧a < (N:Int)
theorem PU.key {N:Nat} (v:Value) (h:PU N v):Tk v:=by
 obtain⟨a,b,c,rfl,_⟩:=h
 exact⟨a,b,c,rfl⟩
def y9 (n:Nat) (c:C):Prop:= ∃m:Int,c= .t (tI m)∧0≤m∧m < (n:Int)
theorem y9.av {n:Nat} {c:C} (h:y9 n c) (f:Nat→Option Nat):y9 n (c.av f):=by
 obtain⟨m,rfl,h⟩:=h
 exact⟨m,rfl,h⟩
theorem L6 {n ctr N G:Nat} {t ty kt et:TypeId} {m k:Operand} {tm:TS} {hp:HS} {id clock:Nat} {es:fD} {a1 b1 c1:Int} {K:V→HS→Prop} (hm:Gt n tm m= .w (.one (.map id))) (hf:find hp id=some (.mp es clock)) (hk:(Gt n tm k).val? =some (.agg #[.int .i64 a1, .int .i64 b1, .int .i64 c1])) (hu:Tryz.prog.underlying t=some (.map kt et))
 (hz:nq Tryz.prog et=some (.int .i64 0)) (hK:jz Tryz.prog kt Tk) (j9:mO (PU G) (y9 N) es) (h: ∀ (i:Int) (b:Bool),(b=true→(0≤i∧i < (N:Int))∧0≤a1∧a1 < (G:Int))→K (.eW [.one (.t (tI i)), .one (.t (.val (.bool b)))]) hp):
 ∃v aG,j6 Tryz.prog n (.lookup t m k true) ty tm hp ctr v aG∧K v aG:=by
 refine L7 hm hf hk hu hz hK ⟨_,_,_,rfl⟩ (fun p hp=>PU.key _ (j9 p hp).1) (fun i p hp he=>?_) (fun _=>h 0 false (fun h=>by simp at h))
 obtain⟨h1,j,hj,h2⟩:=j9 p (List.mem_of_getElem? hp)
 rw[hj]
 refine h j true (fun _=>⟨h2,?_⟩)
 obtain⟨a,b,c,h3,h4⟩:=h1
 rw[he]at h3
 simp only[Value.agg.injEq,Array.mk.injEq,List.cons.injEq,Value.int.injEq,true_and,and_true]at h3
 rw[h3.1]
 exact h4
abbrev Mx (ln wd rx ry:Int) (sizes places:Lz):W:= .agg [.t (tI ln), .t (tI wd), .t (tI rx), .t (tI ry), .t (.aB 1 sizes), .t (.aB 7 places)]
abbrev WJ (ln wd rx ry:Int) (sizes places:Lz):List T:=[tI ln,tI wd,tI rx,tI ry, .aB 1 sizes, .aB 7 places]
def aiO (e:List T):Prop:= ∃g u k f q x y,e=[tI g,tI u,tI k,tB f,tI q,tI x,tI y]
abbrev PS (xs:Lz):Prop:= ∀e,e∈xs→aiO e
def RA0 (row:List T) (C0 N G:Nat) (m:Nat) (vs:List V) (hq:HS):Prop:= ∃ (i:Nat) (es:fD) (c:Nat),i≤N∧mO (PU G) (y9 C0) es∧m=N - i∧vs=[iV .i64 (i:Int)]∧hq=[(4, .row 6 [row.map .t]),(8, .mp es c)]
def PtS (n:Nat) (e:List T):Prop:= ∃sh f q x y,e=[tI sh,tB f,tI q,tI x,tI y]∧0≤sh∧sh < (n:Int)
abbrev y8 (n:Nat) (xs:Lz):Prop:= ∀e,e∈xs→PtS n e
theorem y8.snoc {n:Nat} {xs:Lz} (h:y8 n xs) (sh:Int) (f:Bool) (q x y:Int) (h0:0≤sh∧sh < (n:Int)):y8 n (xs++[[tI sh,tB f,tI q,tI x,tI y]]):=by
 intro e he
 simp only[List.mem_append,List.mem_singleton]at he
 rcases he with he|rfl
 · exact h e he
 · exact⟨sh,f,q,x,y,rfl,h0⟩
theorem y8.pts {n:Nat} {xs:Lz} (h:y8 n xs):Pts xs:=fun e he=>by
 obtain⟨sh,f,q,x,y,r,_⟩:=h e he
 exact⟨sh,f,q,x,y,r⟩
theorem Bs.set {xs:Lz} (h:Bs xs) (j:Nat) (b:Bool):Bs (xs.set j [tB b]):=by
 intro e he
 rcases List.mem_or_eq_of_mem_set he with he|rfl
 · exact h e he
 · exact⟨b,rfl⟩
theorem Bs.QG (n:Nat) (b:Bool):Bs (List.replicate n [tB b]):=by
 intro e he
 obtain⟨_,rfl⟩:=List.mem_replicate.1 he
 exact⟨b,rfl⟩
def RA1 (row:List T) (places:Lz) (C0 N G:Nat) (m:Nat) (vs:List V) (hq:HS):Prop:= ∃ (i:Nat) (es:fD) (c:Nat) (sn ps:Lz) (rs rp:List (List C)),i≤N∧(mO (PU G) (y9 C0) es∧Pre (GaI G) places i)∧m=N - i∧vs=[bD 16 5 ps.length,iV .i64 (i:Int)]∧az rs sn∧az rp ps∧(sn.length=C0∧Bs sn)∧(ps.length=i∧y8 C0 ps)∧
 hq=[(4, .row 6 [row.map .t]),(8, .mp es c),(12, .row 1 rs),(16, .row 5 rp)]
theorem RA1.next {row:List T} {places:Lz} {C0 N G i k j:Nat} {g:Int} {r:List T} {es:fD} {c:Nat} {sn ps:Lz} {rs rp:List (List C)} {sh q x y:Int} {f b:Bool} (h:(i:Int) < (N:Int)) (hN:N≤maxLen) (hM:mO (PU G) (y9 C0) es) (hpre:Pre (GaI G) places i) (hpi:places[((i:Int)).toNat]? =some (tI g::r)) (hgg:0≤g∧g < (G:Int)) (h1:az rs (sn.set j [tB b])) (h2:az rp (ps++[[tI sh,tB f,tI q,tI x,tI y]])) (hs:sn.length=C0∧Bs sn) (hp:ps.length=i∧y8 C0 ps) (hsh:0≤sh∧sh < (C0:Int)) (hk:k=ps.length+1):
 RA1 row places C0 N G (N - (i+1)) [bD 16 5 k,iV .i64 (IntKind.i64.wrap ((i:Int)+1))] [(4, .row 6 [row.map .t]),(8, .mp es c),(12, .row 1 rs),(16, .row 5 rp)]:=
 ⟨i+1,es,c,_,_,rs,rp,by omega,⟨hM,hpre.succ (by simpa using hpi) ⟨g,r,rfl,hgg⟩⟩,rfl,by simp only[maxLen]at hN;rw[bh (by omega) (by omega),hk];simp,h1,h2,⟨by simp[hs.1],hs.2.set j b⟩,⟨by simp[hp.1],hp.2.snoc sh f q x y hsh⟩,rfl⟩
def RA2 (row:List T) (N:Nat) (m:Nat) (vs:List V) (xss:List (Lz)):Prop:= ∃i:Nat,i≤N∧m=N - i∧vs=[iV .i64 (i:Int)]∧xss=[[row]]
theorem RA2.next {row:List T} {N i:Nat} (h:(i:Int) < (N:Int)) (hN:N≤maxLen):RA2 row N (N - (i+1)) [iV .i64 (IntKind.i64.wrap ((i:Int)+1))] [[row]]:=
 ⟨i+1,by omega,rfl,by simp only[maxLen]at hN;rw[bh (by omega) (by omega)];rfl,rfl⟩
theorem Kg {N i:Nat} {xs:Lz} {g:Int} {r:List T} (h:GK N xs) (hs:xs[i]? =some (tI g::r)):0≤g∧g < (N:Int):=by
 obtain⟨g',r',he,h0⟩:=h _ (List.mem_of_getElem? hs)
 injection he with h1 h2
 injection h1 with h1
 injection h1 with _ h1
 rw[h1]
 exact h0
theorem Yz {fC kf fZ sizes places:Lz} {U M i:Nat} (hA:GC fC∧GR U kf∧kf.length=fC.length∧fC.length≤336∧GK sizes.length kf∧(∀e,e∈sizes→Tm M e)∧sizes.length≤6) (hpt:fZ.length=i∧y8 kf.length fZ) (hg: ∀e,e∈places→GaI sizes.length e) (hi:i=places.length):
 GC fC∧y8 fC.length (fZ.take fZ.length)∧(fZ.take fZ.length).length=places.length∧GK sizes.length places∧(∀e,e∈sizes→Tm M e)∧sizes.length≤6:=by
 obtain⟨h1,_,h2,_,_,h3,h4⟩:=hA
 refine⟨h1,fun e he=>?_,by simp;omega,hg,h3,h4⟩
 rw[←h2]
 exact hpt.2 e (List.mem_of_mem_take he)
def GAr (sizes places:Lz) (M:Nat) (ts:List W):Prop:= ∃fC fZ e,ts=[oL 5 fC,oL 5 fZ,oI e]∧(e=0→GC fC∧y8 fC.length fZ∧fZ.length=places.length∧GK sizes.length places∧(∀e,e∈sizes→Tm M e)∧sizes.length≤6)
theorem vj (sn:ByteArray) (bK ms ps us ss os:Lz) (hS:jy sn bK ms ps us ss os) (ln wd rx ry:Int) (sizes places:Lz) (hz:Is sizes) (jn:sizes.length≤maxLen) (jo:PS places) (TI:places.length≤1000000):Tg 30 [mA sn bK ms ps us ss os,Mx ln wd rx ry sizes places] (GAr sizes places bK.length):=by
 refine aJ ?_
 refine ah Tryz.func30 ?_
 repeat' (conv=>whnf
          first
  |(refine au (fun h=>?_) (fun h=>?_))
  |(refine ca (fun h=>?_) (fun h=>?_))
  |(refine aF (fun h=>?_) (fun h=>?_))
  |(have tf:=hmm (by simpa using h);clear hmm)
  |(refine aq (xs:=kf) (hA (by omega)).2.1 (n:=(i:Int)) (by omega) (by omega) ?_;rintro _ ⟨g,u,k,f,qq,x,y,rfl,mC,uw⟩ hs;have hgi:=Kg (hA (by omega)).2.2.2.2.1 hs)
  |(refine aq (xs:=places) jo (by omega) (by omega) ?_;rintro _ ⟨g,u,k,f,qq,x,y,rfl⟩ hs)
  |(refine aq (xs:=fZ.take fZ.length) (fun e he=>hpt.2 e (List.mem_of_mem_take he)) (by omega) (by have:=hpt.1;simp;omega) ?_;rintro _ ⟨sh2,f2,q2,x2,y2,rfl,Xn,Xm⟩ bW)
  |(refine aq (xs:=kf) (hA (by omega)).2.1 Xn Xm ?_;rintro _ ⟨g3,u3,k3,f3,q3,x3,y3,rfl,_,_⟩ hs)
  |(refine And.intro ⟨by omega,by omega,by have:=hA (by omega);omega,by have:=hA (by omega);omega⟩ ?_)
  |(refine And.intro ⟨tf.1.1,by have:=JX.1;have:=tf.1.2;omega⟩ ?_)
  |(refine And.intro ⟨pP.len.symm,by rw[pP.len];have:=hpt.1;simp[aW];omega,by rw[pP.len];have:=hpt.1;simp[maxLen];omega⟩ ?_)
  |(refine And.intro (by kernel_rfl) ?_)
  |(refine ai rfl (yI sn bK ms ps us ss os hS sizes hz jn) ?_;rintro _ ⟨fC,kf,e,rfl,hA⟩)
  |(refine zf ?_)
  |(refine IP rfl rfl rfl rfl uMk (jz.sub kKy PU.key) ⟨_,_,_,rfl,hgi.1,hgi.2⟩ hM ⟨_,rfl,by omega,by omega⟩ ?_;rintro es3 c3 hM2)
  |(refine L6 rfl rfl rfl uMk zIt kKy hMM ?_;intro mi mb hmm)
  |(refine bJ (xs:=seen) eO JX.2 (by have:=JX.1;have:=tf.1;omega) ?_;rintro _ ⟨b2,rfl⟩ Zq)
  |(refine ai rfl (EB _ _ _ _ _ _ _) ?_;rintro _ rfl)
  |(refine sE (WS (xs:=seen) rfl eO (by have:=JX.1;omega)) (mY seen _ JX.2 (by have:=JX.1;have:=hA (by omega);simp only[maxLen];omega)) ?_ ?_;(rintro _ ⟨b3,rfl⟩;rfl);rintro _ ⟨b3,rfl⟩)
  |(refine ai rfl (Cs _ _ _ _ fC _ (hA (by omega)).1 (fun e he=>hpt.2.pts e (List.mem_of_mem_take he)) (by have:=hpt.1;simp[maxLen];omega)) ?_;rintro _ ⟨n,rfl⟩)
  |exact H6 rfl (bR 5 rfl) (bR 5 rfl) (bS rfl) ⟨_,_,_,rfl,fun h0=>by omega⟩
  |exact H6 rfl (bS rfl) (bS rfl) (bS rfl) ⟨_,_,_,rfl,fun _=>Yz (hA (by omega)) hpt (TH.all (by omega)) (by omega)⟩
  |(apply dQ [3,7,8,14,88,89,90] [] [90] [(4,6)] (RA2 (WJ ln wd rx ry sizes places) places.length) (places.length) [iV .i64 0] (dK.Kj (xs:=fZ) [14] 16 (adN rfl) rfl pP (Nat.le_refl _));(conv=>whnf);exact⟨rfl,rfl,rfl,rfl⟩;exact rfl;exact rfl;exact .cons (az.av (xs:=[WJ ln wd rx ry sizes places]) rfl _) .nil;exact⟨0,by omega,rfl,rfl,rfl⟩;rintro _ _ _ ⟨q,hq,rfl,rfl,rfl⟩)
  |(refine ak [3,7,8,14,88,89,90] [] ?_;(conv=>whnf);exact⟨rfl,_,[_],_, .cons (az.av (xs:=[WJ ln wd rx ry sizes places]) rfl _) .nil,RA2.next (by omega) (by simp only[maxLen];omega),rfl,rfl,by omega⟩)
  |(apply ij [3,7,8,10,13,14,51,52,53] [] [14,53] (RA1 (WJ ln wd rx ry sizes places) places kf.length places.length sizes.length) (places.length) [bD 16 5 0,iV .i64 0] (dK.jq 14 5 rfl);(conv=>whnf);exact⟨rfl,rfl,rfl,rfl⟩;exact rfl;exact rfl;exact⟨0,_,_,_,[],_,_,by omega,⟨hM.av (fun c hc=>y9.av hc _),Pre.zero⟩,rfl,rfl,az.av (az.replicate _ [tB false]) _,az.av az.nil _,⟨by simp,Bs.QG _ _⟩,⟨rfl,fun e he=>by simp at he⟩,rfl⟩;rintro _ _ _ ⟨i2,Yc,c2,seen,fZ,rs,rp,hi2,⟨hMM,TH⟩,rfl,rfl,eO,pP,JX,hpt,rfl⟩)
  |(refine ak [3,7,8,10,13,14,51,52,53] [] ?_;(conv=>whnf);exact⟨rfl,_,[_,_],RA1.next (by omega) (by simp only[maxLen];omega) (hMM.av (fun c hc=>y9.av hc _)) TH hs tf.2 ((az.set eO _ [tB _]).av _) ((az.snoc pP [tI _,tB _,tI _,tI _,tI _]).av _) JX hpt tf.1 (by have:=pP.len;simp;omega),rfl,rfl,by omega⟩)
  |(apply bX [3,7,8,10,35,36,37] [] [37] (RA0 (WJ ln wd rx ry sizes places) kf.length kf.length sizes.length) (kf.length) [iV .i64 0];(conv=>whnf);exact⟨rfl,rfl,rfl,rfl⟩;exact rfl;exact rfl;exact⟨0,_,_,by omega,mO.nil,rfl,rfl,rfl⟩;rintro _ _ _ ⟨i,es,c,hi,hM,rfl,rfl,rfl⟩)
  |(refine ak [3,7,8,10,35,36,37] [] ?_;(conv=>whnf);exact⟨rfl,_,[_],⟨i+1,_,_,by omega,hM2.av (fun c hc=>y9.av hc _),rfl,by have:=hA (by omega);rw[bh (by omega) (by omega)];rfl,rfl⟩,rfl,rfl,by omega⟩))
 all_goals (conv=>whnf)
end Go.aT.Cd
end
section
namespace Go.aT.Cd
open Go Go.Proofs
set_option maxRecDepth 100000
set_option maxHeartbeats 1000000
end Go.aT.Cd
end
section
namespace Go.aT.Cd
open Go Go.Proofs
set_option maxRecDepth 100000
set_option maxHeartbeats 1000000
def RQ (Q:List T→Prop) (xs:Lz) (m:Nat) (vs:List V):Prop:= ∃i:Nat,i≤xs.length∧Pre Q xs i∧m=xs.length - i∧vs=[iV .i64 (i:Int)]
theorem RQ.zero {Q:List T→Prop} {xs:Lz}:RQ Q xs xs.length [iV .i64 0]:=⟨0,by omega,Pre.zero,rfl,rfl⟩
theorem RQ.next {Q:List T→Prop} {xs:Lz} {i:Nat} {e:List T} (hi:(i:Int) < (xs.length:Int)) (hl:xs.length≤maxLen) (h:Pre Q xs i) (hs:xs[((i:Int)).toNat]? =some e) (hq:Q e):RQ Q xs (xs.length - (i+1)) [iV .i64 (IntKind.i64.wrap ((i:Int)+1))]:=
 ⟨i+1,by omega,h.succ (by simpa using hs) hq,rfl,by simp only[maxLen]at hl;rw[bh (by omega) (by omega)];rfl⟩
def aiN (e:List T):Prop:= ∃l q,e=[tI l, .aB 4 q]
abbrev Pys (xs:Lz):Prop:= ∀e,e∈xs→aiN e
abbrev o8 (ln wd rx ry:Int) (sizes places plies:Lz):W:= .agg [.t (tI ln), .t (tI wd), .t (tI rx), .t (tI ry), .t (.aB 1 sizes), .t (.aB 7 places), .t (.aB 2 plies)]
abbrev Hy (ln wd rx ry:Int) (sizes places plies:Lz):List T:=[tI ln,tI wd,tI rx,tI ry, .aB 1 sizes, .aB 7 places, .aB 2 plies]
structure Y3 (sizes plies Gi:Lz) (e:List T):Prop where
 g:0≤nI 1 e∧nI 1 e < (sizes.length:Int)
 f:0≤nI 4 e∧nI 4 e < nI 5 e∧nI 5 e≤(plies.length:Int)
 t: ∀o,o∈Gi→nI 0 o≠nI 0 e
 s:sizes[(nI 1 e).toNat]? =some [tI (nI 2 e)]
 l: ∀ (k:Nat) (p:List T),nI 4 e≤(k:Int)→(k:Int) < nI 5 e→plies[k]? =some p→nI 0 p=nI 3 e
 o: ∀o,o∈Gi→¬ (nI 1 o=nI 1 e∧nI 4 o < nI 5 e∧nI 4 e < nI 5 o)
def PZ (sizes plies bs:Lz) (i:Nat):Prop:= ∀j e,j < i→bs[j]? =some e→Y3 sizes plies (bs.take j) e
def RBk (row:List T) (sizes plies bs:Lz) (m:Nat) (vs:List V) (xss:List (Lz)):Prop:= ∃ (i:Nat) (zs:Lz),i≤bs.length∧PZ sizes plies bs i∧m=bs.length - i∧vs=[iV .i64 (i:Int)]∧xss=[[row],zs]∧zs.length=sizes.length∧Is zs
theorem Is.set {xs:Lz} (h:Is xs) (j:Nat) (n:Int):Is (xs.set j [tI n]):=by
 intro e he
 rcases List.mem_or_eq_of_mem_set he with he|rfl
 · exact h e he
 · exact⟨n,rfl⟩
theorem Is.QG (n:Nat) (a:Int):Is (List.replicate n [tI a]):=by
 intro e he
 obtain⟨_,rfl⟩:=List.mem_replicate.1 he
 exact⟨a,rfl⟩
theorem RBk.next {row:List T} {sizes plies bs zs:Lz} {i j:Nat} {e:List T} {n:Int} (hi:(i:Int) < (bs.length:Int)) (hl:bs.length≤maxLen) (h:PZ sizes plies bs i) (hs:bs[((i:Int)).toNat]? =some e) (hq:Y3 sizes plies ((bs.drop 0).take (((i:Int)).toNat - 0)) e) (hz:zs.length=sizes.length) (hZ:Is zs):
 RBk row sizes plies bs (bs.length - (i+1)) [iV .i64 (IntKind.i64.wrap ((i:Int)+1))] [[row],zs.set j [tI n]]:=by
 refine⟨i+1,_,by omega,fun j' e' hj he=>?_,rfl,by simp only[maxLen]at hl;rw[bh (by omega) (by omega)];rfl,rfl,by simp[hz],hZ.set j n⟩
 by_cases fT:j'=i
 · subst fT
   have hs':bs[j']? =some e:=by simpa using hs
   rw[hs']at he
   cases he
   simpa using hq
 · exact h j' e' (by omega) he
def RBn (row:List T) (zs:Lz) (m:Nat) (vs:List V) (xss:List (Lz)):Prop:= ∃i:Nat,i≤zs.length∧m=zs.length - i∧vs=[iV .i64 (i:Int)]∧xss=[[row],zs]
theorem RBn.next {row:List T} {zs:Lz} {i:Nat} (hi:(i:Int) < (zs.length:Int)) (hl:zs.length≤maxLen):RBn row zs (zs.length - (i+1)) [iV .i64 (IntKind.i64.wrap ((i:Int)+1))] [[row],zs]:=
 ⟨i+1,by omega,rfl,by simp only[maxLen]at hl;rw[bh (by omega) (by omega)];rfl,rfl⟩
def Z6 (Q:List T→Prop) (xs:Lz) (gn:List (Lz)) (m:Nat) (vs:List V) (xss:List (Lz)):Prop:= ∃i:Nat,i≤xs.length∧Pre Q xs i∧m=xs.length - i∧vs=[iV .i64 (i:Int)]∧xss=gn
theorem Z6.next {Q:List T→Prop} {xs:Lz} {gn:List (Lz)} {i:Nat} {e:List T} (hi:(i:Int) < (xs.length:Int)) (hl:xs.length≤maxLen) (h:Pre Q xs i) (hs:xs[((i:Int)).toNat]? =some e) (hq:Q e):Z6 Q xs gn (xs.length - (i+1)) [iV .i64 (IntKind.i64.wrap ((i:Int)+1))] gn:=
 ⟨i+1,by omega,h.succ (by simpa using hs) hq,rfl,by simp only[maxLen]at hl;rw[bh (by omega) (by omega)];rfl,rfl⟩
theorem wQ {b:Bool} (h:(!b)=false):b=true:=by simpa using h
end Go.aT.Cd
end
section
namespace Go.aT.bn
abbrev Pt:=Int×Int
def cr (a b c:Pt):Int:=(b.1 - a.1) * (c.2 - a.2) - (b.2 - a.2) * (c.1 - a.1)
def R (s t u:Pt):Int:=if s.2≤u.2∧u.2 < t.2∧0 < cr s t u then 1 else if t.2≤u.2∧u.2 < s.2∧cr s t u < 0 then -1 else 0
def V (s u v:Pt):Int:=if u.2 < s.2∧s.2≤v.2∧cr u v s < 0 then 1 else if v.2 < s.2∧s.2≤u.2∧0 < cr u v s then -1 else 0
def K (s t:Pt):Int:=if s.2 < t.2∨(s.2=t.2∧t.1 < s.1)then 1 else 0
def ng (x v z:Pt):Int:=K v z+R x v z - V x v z
def Clean (s t x y:Pt):Prop:= ∀i j k l:Int,0≤i→0≤j→0≤k→0≤l→i+j=k+l→
 i * s.1+j * t.1=k * x.1+l * y.1→i * s.2+j * t.2=k * x.2+l * y.2→(i=0∨j=0)∧(k=0∨l=0)
theorem Clean.symm {s t x y:Pt} (h:Clean s t x y):Clean x y s t:=
 fun i j k l hi hj hk hl e1 e2 e3=>(h k l i j hk hl hi hj e1.symm e2.symm e3.symm).symm
theorem Clean.sw {s t x y:Pt} (h:Clean s t x y):Clean t s x y:=
 fun i j k l hi hj hk hl e1 e2 e3=>by
  have:=h j i k l hj hi hk hl (by omega) (by omega) (by omega)
  exact⟨this.1.symm,this.2⟩
theorem Clean.AD {s t x y:Pt} (h:Clean s t x y):Clean s t y x:=h.symm.sw.symm
theorem mK (a b c:Pt):cr b c a=cr a b c:=by simp only[cr];grind
theorem vV (a b c:Pt):cr c a b=cr a b c:=by simp only[cr];grind
theorem Gl (a b c:Pt):cr b a c= - cr a b c:=by simp only[cr];grind
theorem KE (a b c:Pt):cr a c b= - cr a b c:=by simp only[cr];grind
theorem s7 {d o x:Int} (hd:0 < d) (h:d * o=x) (hx:x≤0):o≤0:=by
 rcases Int.lt_or_le 0 o with h1|h1
 · have:=Int.mul_pos hd h1;omega
 · exact h1
theorem tg {d o x:Int} (hd:0 < d) (h:d * o=x) (hx:0≤x):0≤o:=by
 rcases Int.lt_or_le o 0 with h1|h1
 · have:=Int.mul_neg_of_pos_of_neg hd h1;omega
 · exact h1
theorem Lc (s t u:Pt):R t s u= - R s t u:=by
 have h:=Gl s t u
 simp only[R,h]
 split<;>split<;>(try split)<;>omega
theorem Ff (s u v:Pt):V s v u= - V s u v:=by
 have h:=Gl u v s
 simp only[V,h]
 split<;>split<;>(try split)<;>omega
theorem Nh (s t u v:Pt):cr s t u+cr u v s=cr s t v+cr u v t:=by simp only[cr];grind
theorem ahU (s t u v:Pt):cr u v t * s.1+cr s t v * u.1=cr u v s * t.1+cr s t u * v.1:=by simp only[cr];grind
theorem Sz (s t u v:Pt):cr u v t * s.2+cr s t v * u.2=cr u v s * t.2+cr s t u * v.2:=by simp only[cr];grind
theorem jc {a b:Pt} {n:Int} (hn:n≠0) (h1:n * a.1=n * b.1) (h2:n * a.2=n * b.2):a=b:=
 Prod.ext (Int.eq_of_mul_eq_mul_left hn h1) (Int.eq_of_mul_eq_mul_left hn h2)
theorem qL {s t u v:Pt} (h:Clean s t u v) (d1:s≠u) (d2:s≠v) (d3:t≠u) (d4:t≠v)
 (h4:0≤cr u v t) (h3:cr u v s≤0) (h1:0≤cr s t u) (h2:cr s t v≤0):cr u v t=0∧cr u v s=0∧cr s t u=0∧cr s t v=0:=by
 have e1:=Nh s t u v
 have ex:=ahU s t u v
 have ey:=Sz s t u v
 have hc:=h (cr u v t) (- cr u v s) (- cr s t v) (cr s t u) h4 (by omega) (by omega) h1 (by omega) (by grind) (by grind)
 generalize cr u v t=o4 at *
 generalize cr u v s=o3 at *
 generalize cr s t v=o2 at *
 generalize cr s t u=o1 at *
 rcases hc with⟨ha|ha,hb|hb⟩
 · have h0:o2=0:=by omega
   subst ha h0
   by_cases hz:o1=0
   · omega
   · exact absurd (jc (n:=o1) (a:=t) (b:=v) hz (by grind) (by grind)) d4
 · subst ha hb
   by_cases hz:o2=0
   · omega
   · exact absurd (jc (n:=o2) (a:=t) (b:=u) hz (by grind) (by grind)) d3
 · have h0:o3=0:=by omega
   have h0':o2=0:=by omega
   subst h0 h0'
   by_cases hz:o1=0
   · omega
   · exact absurd (jc (n:=o1) (a:=s) (b:=v) hz (by grind) (by grind)) d2
 · have h0:o3=0:=by omega
   subst h0 hb
   by_cases hz:o2=0
   · omega
   · exact absurd (jc (n:=o2) (a:=s) (b:=u) hz (by grind) (by grind)) d1
theorem Ri {s t u v:Pt} (h:Clean s t u v) (d1:s≠u) (d2:s≠v) (d3:t≠u) (d4:t≠v)
 (a:s.2≤u.2) (b:u.2≤t.2) (c:s.2≤v.2) (d:v.2≤t.2) (e:s.2 < t.2) (h1:0 < cr s t u):0 < cr s t v:=by
 have ey:=Sz s t u v
 have e1:=Nh s t u v
 have z:=qL h d1 d2 d3 d4
 rcases Int.lt_or_le 0 (cr s t v)with h2|h2
 · exact h2
 · exfalso
   have p1:0≤(- cr s t v) * (u.2 - s.2):=Int.mul_nonneg (by omega) (by omega)
   have p2:0≤cr s t u * (v.2 - s.2):=Int.mul_nonneg (by omega) (by omega)
   have p3:0≤(- cr s t v) * (t.2 - u.2):=Int.mul_nonneg (by omega) (by omega)
   have p4:0≤cr s t u * (t.2 - v.2):=Int.mul_nonneg (by omega) (by omega)
   have q3:cr u v s≤0:=s7 (d:=t.2 - s.2) (by omega) (x:=cr s t v * (u.2 - s.2) - cr s t u * (v.2 - s.2)) (by grind) (by grind)
   have q4:0≤cr u v t:=tg (d:=t.2 - s.2) (by omega) (x:=(- cr s t v) * (t.2 - u.2)+cr s t u * (t.2 - v.2)) (by grind) (by omega)
   have:=z q4 q3 (by omega) h2
   omega
def zK (p:Pt):Pt:=(- p.1,p.2)
theorem JC (a b c:Pt):cr (zK a) (zK b) (zK c)= - cr a b c:=by simp only[cr,zK];grind
theorem nY {a b:Pt} (h:a≠b):zK a≠zK b:=by
 intro e;apply h;simp only[zK,Prod.mk.injEq]at e;exact Prod.ext (by omega) e.2
theorem Clean.zK {s t x y:Pt} (h:Clean s t x y):Clean (zK s) (zK t) (zK x) (zK y):=
 fun i j k l hi hj hk hl e1 e2 e3=>h i j k l hi hj hk hl e1 (by simp only[bn.zK]at e2;grind) e3
theorem OL {s t u v:Pt} (h:Clean s t u v) (d1:s≠u) (d2:s≠v) (d3:t≠u) (d4:t≠v)
 (a:s.2≤u.2) (b:u.2≤t.2) (c:s.2≤v.2) (d:v.2≤t.2) (e:s.2 < t.2) (h1:cr s t u < 0):cr s t v < 0:=by
 have:=Ri h.zK (nY d1) (nY d2) (nY d3) (nY d4) a b c d e
 simp only[JC]at this;omega
theorem W4 {s t u v:Pt} (h:Clean s t u v) (d1:s≠u) (d2:s≠v) (d3:t≠u) (d4:t≠v)
 (a:s.2≤u.2) (b:u.2≤t.2) (c:t.2≤v.2) (e:s.2 < t.2) (f:u.2 < v.2):0 < cr s t u↔cr u v t < 0:=by
 have ey:=Sz s t u v
 have e1:=Nh s t u v
 have z:=qL h d1 d2 d3 d4
 have z':=qL h.AD d2 d1 d4 d3
 rw[Gl u v s,Gl u v t]at z'
 rcases Int.lt_or_eq_of_le b with hb|hb
 · constructor
   · intro h1
     rcases Int.lt_or_le (cr u v t) 0 with h2|h2
     · exact h2
     · exfalso
       have p1:0≤cr u v t * (t.2 - s.2):=Int.mul_nonneg (by omega) (by omega)
       have p2:0≤cr s t u * (v.2 - t.2):=Int.mul_nonneg (by omega) (by omega)
       have p3:0≤cr u v t * (u.2 - s.2):=Int.mul_nonneg (by omega) (by omega)
       have p4:0≤cr s t u * (v.2 - u.2):=Int.mul_nonneg (by omega) (by omega)
       have q2:cr s t v≤0:=s7 (d:=t.2 - u.2) (by omega) (x:= - (cr u v t * (t.2 - s.2)) - cr s t u * (v.2 - t.2)) (by grind) (by omega)
       have q3:cr u v s≤0:=s7 (d:=t.2 - u.2) (by omega) (x:= - (cr u v t * (u.2 - s.2)) - cr s t u * (v.2 - u.2)) (by grind) (by omega)
       have:=z h2 q3 (by omega) q2
       omega
   · intro h1
     rcases Int.lt_or_le 0 (cr s t u)with h2|h2
     · exact h2
     · exfalso
       have p1:0≤(- cr u v t) * (t.2 - s.2):=Int.mul_nonneg (by omega) (by omega)
       have p2:0≤(- cr s t u) * (v.2 - t.2):=Int.mul_nonneg (by omega) (by omega)
       have p3:0≤(- cr u v t) * (u.2 - s.2):=Int.mul_nonneg (by omega) (by omega)
       have p4:0≤(- cr s t u) * (v.2 - u.2):=Int.mul_nonneg (by omega) (by omega)
       have q2:0≤cr s t v:=tg (d:=t.2 - u.2) (by omega) (x:=((- cr u v t) * (t.2 - s.2))+(- cr s t u) * (v.2 - t.2)) (by grind) (by omega)
       have q3:0≤cr u v s:=tg (d:=t.2 - u.2) (by omega) (x:=((- cr u v t) * (u.2 - s.2))+(- cr s t u) * (v.2 - u.2)) (by grind) (by omega)
       have:=z' (by omega) (by omega) (by omega) (by omega)
       omega
 · have g1:cr s t u=(t.2 - s.2) * (t.1 - u.1):=by simp only[cr,hb];grind
   have g2:cr u v t= - ((v.2 - u.2) * (t.1 - u.1)):=by simp only[cr,hb];grind
   rw[g1,g2]
   constructor
   · intro h1
     have:0 < t.1 - u.1:=by
      rcases Int.lt_or_le 0 (t.1 - u.1)with k|k
      · exact k
      · have:=Int.mul_nonneg (a:=t.2 - s.2) (b:= -(t.1 - u.1)) (by omega) (by omega)
        grind
     have:=Int.mul_pos (a:=v.2 - u.2) (by omega) this
     omega
   · intro h1
     have:0 < t.1 - u.1:=by
      rcases Int.lt_or_le 0 (t.1 - u.1)with k|k
      · exact k
      · have:=Int.mul_nonneg (a:=v.2 - u.2) (b:= -(t.1 - u.1)) (by omega) (by omega)
        grind
     exact Int.mul_pos (by omega) this
theorem Bk {s t u v:Pt} (h:Clean s t u v) (d1:s≠u) (d2:s≠v) (d3:t≠u) (d4:t≠v)
 (a:s.2≤t.2) (b:u.2≤v.2):R s t u - R s t v=V t u v - V s u v:=by
 have g1:s.2≤u.2→v.2 < t.2→(0 < cr s t u↔0 < cr s t v):=fun e f=>
  ⟨Ri h d1 d2 d3 d4 e (by omega) (by omega) (by omega) (by omega),Ri h.AD d2 d1 d4 d3 (by omega) (by omega) e (by omega) (by omega)⟩
 have g2:s.2≤u.2→u.2 < t.2→t.2≤v.2→(0 < cr s t u↔cr u v t < 0):=fun e f g=>
  W4 h d1 d2 d3 d4 e (by omega) g (by omega) (by omega)
 have g3:u.2 < s.2→t.2≤v.2→(cr u v s < 0↔cr u v t < 0):=fun e f=>
  ⟨OL h.symm d1.symm d3.symm d2.symm d4.symm (by omega) (by omega) (by omega) (by omega) (by omega),OL h.symm.AD d3.symm d1.symm d4.symm d2.symm (by omega) (by omega) (by omega) (by omega) (by omega)⟩
 have g4:u.2 < s.2→s.2≤v.2→v.2 < t.2→(0 < cr s t v↔cr u v s < 0):=fun e f g=>by
  have:=W4 h.symm.zK (nY d1.symm) (nY d3.symm) (nY d2.symm) (nY d4.symm) (by simp only[zK];omega) (by simp only[zK];omega) (by simp only[zK];omega) (by simp only[zK];omega) (by simp only[zK];omega)
  simp only[JC]at this;omega
 simp only[R,V]
 split<;>split<;>(try split)<;>(try split)<;>(try split)<;>(try split)<;>omega
theorem idA {s t u v:Pt} (h:Clean s t u v) (d1:s≠u) (d2:s≠v) (d3:t≠u) (d4:t≠v):
 R s t u - R s t v=V t u v - V s u v:=by
 rcases Int.le_total s.2 t.2 with a|a<;>rcases Int.le_total u.2 v.2 with b|b
 · exact Bk h d1 d2 d3 d4 a b
 · have:=Bk h.AD d2 d1 d4 d3 a b
   rw[Ff t,Ff s]at this;omega
 · have:=Bk h.sw d3 d4 d1 d2 a b
   rw[Lc s t,Lc s t]at this;omega
 · have:=Bk h.sw.AD d4 d3 d2 d1 a b
   rw[Lc s t,Lc s t,Ff t,Ff s]at this;omega
theorem BM (a b c:Pt):cr c b a= - cr a b c:=by simp only[cr];grind
theorem Be {a b c:Int} (h:c=a * b):(0 < a→(0 < c↔0 < b)∧(c < 0↔b < 0))∧(a < 0→(0 < c↔b < 0)∧(c < 0↔0 < b)):=by
 subst h
 constructor
 · intro ha
   rcases Int.lt_trichotomy b 0 with hb|hb|hb
   · have:=Int.mul_neg_of_pos_of_neg ha hb;omega
   · subst hb;simp
   · have:=Int.mul_pos ha hb;omega
 · intro ha
   rcases Int.lt_trichotomy b 0 with hb|hb|hb
   · have:=Int.mul_pos_of_neg_of_neg ha hb;omega
   · subst hb;simp
   · have:=Int.mul_neg_of_neg_of_pos ha hb;omega
theorem Dr {s t z:Pt} (h:Clean s t t z) (d1:s≠t) (d2:t≠z) (d3:s≠z) (c:cr s t z=0) (a:s.2 < t.2):t.2 < z.2:=by
 rcases Int.lt_or_le t.2 z.2 with h1|h1
 · exact h1
 · exfalso
   simp only[cr]at c
   rcases Int.lt_or_le z.2 s.2 with h2|h2
   · have:=h (t.2 - z.2) 0 (s.2 - z.2) (t.2 - s.2) (by omega) (by omega) (by omega) (by omega) (by omega) (by grind) (by grind)
     omega
   · have:=h (t.2 - z.2) (z.2 - s.2) 0 (t.2 - s.2) (by omega) (by omega) (by omega) (by omega) (by omega) (by grind) (by grind)
     rcases this.1 with e|e
     · have e':z.2=t.2:=by omega
       rw[e']at c
       exact d2 (Prod.ext (Int.eq_of_mul_eq_mul_left (a:=t.2 - s.2) (by omega) (by grind)) (by omega))
     · have e':z.2=s.2:=by omega
       rw[e']at c
       exact d3 (Prod.ext (Int.eq_of_mul_eq_mul_left (a:=t.2 - s.2) (by omega) (by grind)) (by omega))
theorem E3 {s t z:Pt} (h:Clean s t t z) (d1:s≠t) (d2:t≠z) (d3:s≠z) (c:cr s t z=0) (a:s.1 < t.1):t.1 < z.1:=by
 rcases Int.lt_or_le t.1 z.1 with h1|h1
 · exact h1
 · exfalso
   simp only[cr]at c
   rcases Int.lt_or_le z.1 s.1 with h2|h2
   · have:=h (t.1 - z.1) 0 (s.1 - z.1) (t.1 - s.1) (by omega) (by omega) (by omega) (by omega) (by omega) (by grind) (by grind)
     omega
   · have:=h (t.1 - z.1) (z.1 - s.1) 0 (t.1 - s.1) (by omega) (by omega) (by omega) (by omega) (by omega) (by grind) (by grind)
     rcases this.1 with e|e
     · have e':z.1=t.1:=by omega
       rw[e']at c
       exact d2 (Prod.ext (by omega) (Int.eq_of_mul_eq_mul_left (a:=t.1 - s.1) (by omega) (by grind)))
     · have e':z.1=s.1:=by omega
       rw[e']at c
       exact d3 (Prod.ext (by omega) (Int.eq_of_mul_eq_mul_left (a:=t.1 - s.1) (by omega) (by grind)))
def fl (p:Pt):Pt:=(- p.1, - p.2)
theorem xu (a b c:Pt):cr (fl a) (fl b) (fl c)=cr a b c:=by simp only[cr,fl];grind
theorem gv {a b:Pt} (h:a≠b):fl a≠fl b:=by
 intro e;apply h;simp only[fl,Prod.mk.injEq]at e;exact Prod.ext (by omega) (by omega)
theorem Clean.fl {s t x y:Pt} (h:Clean s t x y):Clean (fl s) (fl t) (fl x) (fl y):=
 fun i j k l hi hj hk hl e1 e2 e3=>h i j k l hi hj hk hl e1 (by simp only[bn.fl]at e2;grind) (by simp only[bn.fl]at e3;grind)
theorem ne_iff {a b:Pt} (h:a≠b):a.2=b.2→a.1≠b.1:=fun e f=>h (Prod.ext f e)
theorem nX {a b c:Int} (h:c=a * b) (ha:a≠0):(0 < c∧((0 < a∧0 < b)∨(a < 0∧b < 0)))∨(c < 0∧((0 < a∧b < 0)∨(a < 0∧0 < b)))∨(c=0∧b=0):=by
 have:=Be h
 have h0:b=0→c=0:=fun e=>by rw[h,e,Int.mul_zero]
 omega
theorem O7 {s t z:Pt} (h:Clean s t t z) (d1:s≠t) (d2:t≠z) (d3:s≠z):
 K t z+R s t z - V s t z=K s t+R t z s - V z s t:=by
 have n1:=ne_iff d1
 have n2:=ne_iff d2
 have n3:=ne_iff d3
 have f1:s.2=t.2→_:=fun e=>nX (a:=t.1 - s.1) (b:=z.2 - s.2) (c:=cr s t z) (by simp only[cr];grind) (by have:=n1 e;omega)
 have f2:t.2=z.2→_:=fun e=>nX (a:=z.1 - t.1) (b:=s.2 - t.2) (c:=cr s t z) (by simp only[cr];grind) (by have:=n2 e;omega)
 have f3:s.2=z.2→_:=fun e=>nX (a:=s.1 - z.1) (b:=t.2 - s.2) (c:=cr s t z) (by simp only[cr];grind) (by have:=n3 e;omega)
 have c2:cr s t z=0→s.2 < t.2→t.2 < z.2:=Dr h d1 d2 d3
 have c1:cr s t z=0→s.1 < t.1→t.1 < z.1:=E3 h d1 d2 d3
 have SK:cr s t z=0→t.2 < s.2→z.2 < t.2:=fun e f=>by
  have:=Dr h.fl (gv d1) (gv d2) (gv d3) (by rw[xu,e]) (by simp only[fl];omega)
  simp only[fl]at this;omega
 have SL:cr s t z=0→t.1 < s.1→z.1 < t.1:=fun e f=>by
  have:=E3 h.fl (gv d1) (gv d2) (gv d3) (by rw[xu,e]) (by simp only[fl];omega)
  simp only[fl]at this;omega
 have e1:=mK s t z
 simp only[K,R,V,e1]
 generalize cr s t z=c at *
 rcases Int.lt_trichotomy s.2 t.2 with a|a|a<;>rcases Int.lt_trichotomy t.2 z.2 with b|b|b<;>rcases Int.lt_trichotomy s.2 z.2 with d|d|d
 all_goals first
  |(exfalso;clear f1 f2 f3;omega)
  |((try have m1:=n1 a)
    (try have m2:=n2 b)
    clear n1 n2 n3
    (try have g1:=f1 a)
    (try have g2:=f2 b)
    (try have g3:=f3 d)
    clear f1 f2 f3
    rcases Int.lt_trichotomy c 0 with e|e|e
    · clear c1 c2 SL SK
      (simp (disch:=omega) only[if_pos,if_neg]<;>rfl)
    · have k2:=c2 e;have k1:=c1 e;have k3:=SK e;have k4:=SL e;clear c1 c2 SL SK;first|(exfalso;omega)|(simp (disch:=omega) only[if_pos,if_neg]<;>first|rfl|(repeat' (first|omega|split)))
    · clear c1 c2 SL SK
      (simp (disch:=omega) only[if_pos,if_neg]<;>rfl))
def D (x v z:Pt):Int:=R x v z - V x v z
theorem N6 (x v z:Pt):D x v z=if 0 < cr x v z∧z.2 < v.2∧x.2≤v.2 then 1 else if cr x v z < 0∧v.2≤z.2∧v.2 < x.2 then -1 else 0:=by
 have e:=mK x v z
 simp only[D,R,V,e]
 repeat' (first|omega|split)
theorem vW (x v z:Pt):ng x v z=K v z+D x v z:=by simp only[ng,D];omega
theorem aiJ {s t:Pt} (h:s≠t):K s t+K t s=1:=by
 have:=ne_iff h
 simp only[K];repeat' (first|omega|split)
theorem adQ {a b c:Pt} (h1:a.1 < b.1∨a.1=b.1∧a.2 < b.2) (h2:c.1 < b.1∨c.1=b.1∧c.2 < b.2):
 (0 < cr a b c→ng a b c=1)∧(cr a b c < 0→ng a b c=0):=by
 have e:cr a b c=(b.1 - c.1) * (b.2 - a.2) - (b.2 - c.2) * (b.1 - a.1):=by simp only[cr];grind
 rw[vW,N6,K]
 have p1:0≤b.1 - c.1:=by omega
 have p2:0≤b.1 - a.1:=by omega
 constructor
 · intro h
   have q:c.2 < b.2→a.2≤b.2:=fun g=>by
    rcases Int.lt_or_le b.2 a.2 with k|k
    · exfalso
      have r1:=Int.mul_nonneg p1 (show 0≤a.2 - b.2 by omega)
      have r2:=Int.mul_nonneg (show 0≤b.2 - c.2 by omega) p2
      grind
    · exact k
   repeat' (first|omega|split)
 · intro h
   have q:b.2≤c.2→b.2 < a.2:=fun g=>by
    rcases Int.lt_or_le b.2 a.2 with k|k
    · exact k
    · exfalso
      have r1:=Int.mul_nonneg p1 (show 0≤b.2 - a.2 by omega)
      have r2:=Int.mul_nonneg (show 0≤c.2 - b.2 by omega) p2
      grind
   repeat' (first|omega|split)
def PN (x v z q:Pt):Prop:=(0 < cr x v z∧0 < cr v z q∧0 < cr x v q)∨(cr x v z≤0∧(0 < cr v z q∨0 < cr x v q))
theorem acE {x v z:Pt} (q:Pt) (h:Clean x v v z) (d1:x≠v) (d2:v≠z) (d3:x≠z) (e1:x.2=v.2) (e2:z.2=v.2):0 < cr x v q↔0 < cr v z q:=by
 have e:cr x v z=0:=by simp only[cr,e1,e2];grind
 have a1:=E3 h d1 d2 d3 e
 have a2:=E3 h.fl (gv d1) (gv d2) (gv d3) (by rw[xu,e])
 have n:=ne_iff d1 e1
 have s1:=Be (a:=v.1 - x.1) (b:=q.2 - v.2) (c:=cr x v q) (by simp only[cr,e1];grind)
 have s2:=Be (a:=z.1 - v.1) (b:=q.2 - v.2) (c:=cr v z q) (by simp only[cr,e2];grind)
 simp only[fl]at a2
 omega
set_option maxHeartbeats 2000000 in
theorem Oq {x v z q:Pt} (h:Clean x v v z) (d1:x≠v) (d2:v≠z) (d3:x≠z) (d4:q≠v) (hs:PN x v z q):
 ng x v z=ng x v q+ng q v z - 1:=by
 have ry:cr v z q * (x.2 - v.2)+cr x v q * (z.2 - v.2)=cr x v z * (q.2 - v.2):=by simp only[cr];grind
 have f1:q.2=v.2→_:=fun e=>nX (a:=q.1 - v.1) (b:=x.2 - v.2) (c:=cr x v q) (by simp only[cr];grind) (by have:=ne_iff d4 e;omega)
 have f2:q.2=v.2→_:=fun e=>nX (a:=q.1 - v.1) (b:=v.2 - z.2) (c:=cr v z q) (by simp only[cr];grind) (by have:=ne_iff d4 e;omega)
 have ZN:cr x v z=0→x.2 < v.2→v.2 < z.2:=Dr h d1 d2 d3
 have ZO:cr x v z=0→v.2 < x.2→z.2 < v.2:=fun e f=>by
  have:=Dr h.fl (gv d1) (gv d2) (gv d3) (by rw[xu,e]) (by simp only[fl];omega)
  simp only[fl]at this;omega
 have m0:cr x v z=0→v.2 < z.2→x.2 < v.2:=fun e f=>by
  have:=Dr h.symm.sw.AD.fl (gv d2.symm) (gv d1.symm) (gv d3.symm) (by rw[xu,BM,e];rfl) (by simp only[fl];omega)
  simp only[fl]at this;omega
 have n1:q.2=v.2→q.1≠v.1:=ne_iff d4
 have n2:=acE q h d1 d2 d3
 have e3:cr q v z=cr v z q:=(mK q v z).symm
 rw[vW,vW,vW,N6,N6,N6,e3]
 simp only[PN]at hs
 generalize cr v z q=c3 at *
 generalize cr x v q=c2 at *
 generalize cr x v z=c1 at *
 have y1: ∃p,p=x.2 - v.2:=⟨_,rfl⟩
 have y2: ∃p,p=z.2 - v.2:=⟨_,rfl⟩
 have y3: ∃p,p=q.2 - v.2:=⟨_,rfl⟩
 rcases y1 with⟨X,hX⟩;rcases y2 with⟨Z,hZ⟩;rcases y3 with⟨Q,hQ⟩
 rw[←hX, ←hZ, ←hQ]at ry
 have g: ∀a b:Int,(a < 0∧((b < 0∧0 < a * b)∨(b=0∧a * b=0)∨(0 < b∧a * b < 0)))∨(a=0∧a * b=0∧(b < 0∨b=0∨0 < b))∨(0 < a∧((b < 0∧a * b < 0)∨(b=0∧a * b=0)∨(0 < b∧0 < a * b))):=by
  intro a b
  rcases Int.lt_trichotomy a 0 with e|e|e<;>rcases Int.lt_trichotomy b 0 with f|f|f
  · exact .inl ⟨e, .inl ⟨f,Int.mul_pos_of_neg_of_neg e f⟩⟩
  · exact .inl ⟨e, .inr (.inl ⟨f,by rw[f,Int.mul_zero]⟩)⟩
  · exact .inl ⟨e, .inr (.inr ⟨f,Int.mul_neg_of_neg_of_pos e f⟩)⟩
  · exact .inr (.inl ⟨e,by rw[e,Int.zero_mul], .inl f⟩)
  · exact .inr (.inl ⟨e,by rw[e,Int.zero_mul], .inr (.inl f)⟩)
  · exact .inr (.inl ⟨e,by rw[e,Int.zero_mul], .inr (.inr f)⟩)
  · exact .inr (.inr ⟨e, .inl ⟨f,Int.mul_neg_of_pos_of_neg e f⟩⟩)
  · exact .inr (.inr ⟨e, .inr (.inl ⟨f,by rw[f,Int.mul_zero]⟩)⟩)
  · exact .inr (.inr ⟨e, .inr (.inr ⟨f,Int.mul_pos e f⟩)⟩)
 have g1:=g c3 X
 have g2:=g c2 Z
 have g3:=g c1 Q
 clear g
 generalize c3 * X=A at *
 generalize c2 * Z=B at *
 generalize c1 * Q=C at *
 generalize K v z=k0
 simp only[K]
 rcases g3 with⟨a3,⟨b3,p3⟩|⟨b3,p3⟩|⟨b3,p3⟩⟩|⟨a3,p3,b3|b3|b3⟩|⟨a3,⟨b3,p3⟩|⟨b3,p3⟩|⟨b3,p3⟩⟩<;>
 rcases g1 with⟨a1,⟨b1,p1⟩|⟨b1,p1⟩|⟨b1,p1⟩⟩|⟨a1,p1,b1|b1|b1⟩|⟨a1,⟨b1,p1⟩|⟨b1,p1⟩|⟨b1,p1⟩⟩
 all_goals
  rcases g2 with⟨a2,⟨b2,p2⟩|⟨b2,p2⟩|⟨b2,p2⟩⟩|⟨a2,p2,b2|b2|b2⟩|⟨a2,⟨b2,p2⟩|⟨b2,p2⟩|⟨b2,p2⟩⟩
 all_goals first
  |(exfalso;clear m0 f1 f2 ZN ZO n1 n2 hs;omega)
  |(exfalso;clear m0 f1 f2 ZN ZO n1 n2;omega)
  |((try have k1:=ZN a3 (by omega))
    (try have k2:=ZO a3 (by omega))
    (try have k3:=m0 a3 (by omega))
    (try have h1:=f1 (by omega))
    (try have h2:=f2 (by omega))
    (try have h3:=n2 (by omega) (by omega))
    clear m0 f1 f2 ZN ZO n1 n2
    first
    |(exfalso;omega)
    |(simp (disch:=omega) only[if_pos,if_neg]<;>omega))
theorem VK {a b c q:Pt} (h:Clean a b b c) (d1:a≠b) (d2:b≠c) (d3:a≠c) (d4:q≠b) (d5:q≠c) (hq:Clean q b b c)
 (h0:0 < cr a b c) (h1:0 < cr b c q) (h2:0 < cr a b q):R a b q+R b c q - V a b q+V c b q=ng a b c:=by
 have e1:=Oq h d1 d2 d3 d4 (.inl ⟨h0,h1,h2⟩)
 have e2:=O7 hq d4 d2 d5
 have e3:=Ff c b q
 have e4:=aiJ (s:=b) (t:=q) d4.symm
 simp only[ng]at e1⊢
 omega
end Go.aT.bn
end
section
namespace Go.aT.bn
def pe:List Pt→List (Pt×Pt)
 |a::b::r=>(a,b)::pe (b::r)
 |_=>[]
def ce:List Pt→List (Pt×Pt)
 | []=>[]
 |a::r=>pe (a::r++[a])
structure Sm (l:List Pt):Prop where
 nd:l.Nodup
 n3:3≤l.length
 cl: ∀e,e∈ce l→ ∀f,f∈ce l→e≠f→Clean e.1 e.2 f.1 f.2
def sR:List (Pt×Pt)→Pt→Int
 | [],_=>0
 |e::r,u=>R e.1 e.2 u+sR r u
theorem sQ (l m:List (Pt×Pt)) (u:Pt):sR (l++m) u=sR l u+sR m u:=by
 induction l with
 |nil=>simp[sR]
 |cons e r ih=>simp only[List.cons_append,sR,ih];omega
theorem fa (l1:List Pt) (x:Pt) (l2:List Pt):pe (l1++x::l2)=pe (l1++[x])++pe (x::l2):=by
 induction l1 with
 |nil=>simp[pe]
 |cons a r ih=>
  cases r with
  |nil=>simp[pe]
  |cons b r=>simp only[List.cons_append,pe,List.cons_append]at ih⊢;rw[ih]
theorem oA (a:Pt) (r1:List Pt) (b:Pt) (r2:List Pt):ce (a::r1++b::r2)=pe (a::r1++[b])++pe (b::r2++[a]):=by
 have:=fa (a::r1) b (r2++[a])
 simpa[ce]using this
theorem bP (l1 l2:List Pt) (e:Pt×Pt):e∈ce (l1++l2)↔e∈ce (l2++l1):=by
 cases l1 with
 |nil=>simp
 |cons a r1=>
  cases l2 with
  |nil=>simp
  |cons b r2=>rw[oA,oA];simp only[List.mem_append];exact Or.comm
theorem AZ {l:List Pt} {e:Pt×Pt} (h:e∈pe l):e.1∈l∧e.2∈l:=by
 induction l with
 |nil=>simp[pe]at h
 |cons a r ih=>
  cases r with
  |nil=>simp[pe]at h
  |cons b r=>
   simp only[pe,List.mem_cons]at h
   rcases h with rfl|h
   · simp
   · have:=ih h
     exact⟨List.mem_cons_of_mem _ this.1,List.mem_cons_of_mem _ this.2⟩
theorem Sm.q9 {l1 l2:List Pt} (h:Sm (l1++l2)):Sm (l2++l1):=
 ⟨(List.perm_append_comm.nodup_iff).1 h.nd,by have:=h.n3;simp at this⊢;omega,
  fun e he f hf=>h.cl e ((bP _ _ _).2 he) f ((bP _ _ _).2 hf)⟩
def lH:List Pt→Int
 |b::c::r=>sR (pe (c::r)) b+ng ((c::r).getLastD b) b c
 |_=>0
theorem qB (b c:Pt) (m:List Pt) (a:Pt):lH (b::c::(m++[a]))=sR (pe (c::(m++[a]))) b+ng a b c:=by
 have:(c::(m++[a])).getLastD b=a:=by rw[←List.cons_append,List.getLastD_concat]
 simp only[lH,this]
theorem tel {u w:Pt}: ∀ (y:Pt) (m:List Pt) (x:Pt),(∀e,e∈pe (y::m++[x])→Clean e.1 e.2 u w)→(∀p,p∈y::m++[x]→p≠u∧p≠w)→
 sR (pe (y::m++[x])) u - sR (pe (y::m++[x])) w=V x u w - V y u w
 |y,[],x,h,d=>by
  have:=idA (h (y,x) (by simp[pe])) (d y (by simp)).1 (d y (by simp)).2 (d x (by simp)).1 (d x (by simp)).2
  simp only[List.cons_append,List.nil_append,pe,sR]at this⊢
  omega
 |y,z::m,x,h,d=>by
  have h1:=idA (h (y,z) (by simp[pe])) (d y (by simp)).1 (d y (by simp)).2 (d z (by simp)).1 (d z (by simp)).2
  have h2:=tel z m x (fun e he=>h e (by simp only[List.cons_append,pe]at he⊢;exact List.mem_cons_of_mem _ he)) (fun p hp=>d p (List.mem_cons_of_mem _ hp))
  simp only[List.cons_append,pe,sR]at h1 h2⊢
  omega
theorem acA {u w:Pt} (y:Pt) (m:List Pt) (x:Pt) (hm:y::m=[x]∨ ∃m',m=m'++[x]) (h: ∀e,e∈pe (y::m)→Clean e.1 e.2 u w) (d: ∀p,p∈y::m→p≠u∧p≠w):
 sR (pe (y::m)) u - sR (pe (y::m)) w=V x u w - V y u w:=by
 rcases hm with e|⟨m',rfl⟩
 · rw[e];simp only[pe,sR]
   have:y=x:=by simp at e;exact e.1
   subst this;omega
 · exact tel y m' x h d
theorem snoc (l:List Pt) (h:l≠ []): ∃m a,l=m++[a]:=⟨l.dropLast,l.getLast h,(List.dropLast_concat_getLast h).symm⟩
theorem JK {v z:Pt} {r:List Pt} (h:Sm (v::z::r)):lH (v::z::r)=lH (z::r++[v]):=by
 have hn:=h.n3
 cases r with
 |nil=>simp at hn
 |cons y m=>
  obtain⟨m',x,e⟩:=snoc (y::m) (by simp)
  have hd:=h.nd
  have nv:v∉z::y::m:=(List.nodup_cons.1 hd).1
  have nz:z∉y::m:=(List.nodup_cons.1 (List.nodup_cons.1 hd).2).1
  have vz:v≠z:=fun k=>nv (by rw[k];simp)
  have ZM:ce (v::z::y::m)=(v,z)::(z,y)::(pe (y::m)++[(x,v)]):=by
   have:pe (y::m++[v])=pe (y::m)++[(x,v)]:=by
    rw[e];have:=fa m' x [v];simp only[pe]at this;simpa using this
   simp only[ce,List.cons_append,pe]at this⊢
   rw[this]
  have key: ∀e,e∈pe (y::m)→Clean e.1 e.2 v z:=by
   intro e' he
   refine h.cl e' (by rw[ZM];simp[he]) (v,z) (by rw[ZM];simp) ?_
   intro e2
   have:=(AZ he).1
   rw[e2]at this
   exact nv (List.mem_cons_of_mem _ this)
  have dis: ∀p,p∈y::m→p≠v∧p≠z:=fun p hp=>⟨fun k=>nv (by subst k;exact List.mem_cons_of_mem _ hp),fun k=>nz (by subst k;exact hp)⟩
  have h1:=acA y m x (by
   cases m' with
   |nil=>left;rw[e];rfl
   |cons q m''=>right;simp only[List.cons_append,List.cons.injEq]at e;exact⟨m'',e.2⟩) key dis
  have hx:x∈y::m:=by rw[e];simp
  have eF:Clean v z z y:=h.cl (v,z) (by rw[ZM];simp) (z,y) (by rw[ZM];simp) (by simp only[ne_eq,Prod.mk.injEq,not_and];exact fun k=>absurd k vz)
  have h2:=O7 eF vz (fun k=>(dis y (by simp)).2 k.symm) (fun k=>(dis y (by simp)).1 k.symm)
  have l1:lH (v::z::y::m)=sR (pe (z::y::m)) v+ng x v z:=by
   have:=qB v z m' x
   rw[←e]at this;exact this
  have l2:lH (z::(y::m)++[v])=sR (pe (y::m++[v])) z+ng v z y:=by
   have:=qB z y m v
   simpa using this
  have p2:pe (y::m++[v])=pe (y::m)++[(x,v)]:=by
   rw[e];have:=fa m' x [v];simp only[pe]at this;simpa using this
  rw[l1,l2,p2,sQ]
  simp only[pe,sR,ng]at h2⊢
  omega
theorem fA {l2:List Pt}: ∀ {l1:List Pt},Sm (l1++l2)→lH (l1++l2)=lH (l2++l1)
 | [],_=>by simp
 |v::l1,h=>by
  have h1:lH (v::(l1++l2))=lH (l1++l2++[v]):=by
   have hn:=h.n3
   have h':Sm (v::(l1++l2)):=h
   rcases hl:l1++l2 with _|⟨z,r⟩
   · simp
   · rw[hl]at h';exact JK h'
  have h2:=Sm.q9 (l1:=[v]) (l2:=l1++l2) h
  have h3:=fA (l1:=l1) (l2:=l2++[v]) (by simpa using h2)
  simp only[List.cons_append,h1]
  simpa using h3
def lx (p q:Pt):Prop:=p.1 < q.1∨p.1=q.1∧p.2 < q.2
theorem YH {s t b:Pt} (h1:s.1≤b.1) (h2:t.1≤b.1):R s t b=0:=by
 have e:cr s t b= - ((b.1 - t.1) * (b.2 - s.2)+(t.2 - b.2) * (b.1 - s.1)):=by simp only[cr];grind
 simp only[R]
 have p1:s.2≤b.2→b.2 < t.2→cr s t b≤0:=fun f g=>by
  have q1:=Int.mul_nonneg (show 0≤b.1 - t.1 by omega) (show 0≤b.2 - s.2 by omega)
  have q2:=Int.mul_nonneg (show 0≤t.2 - b.2 by omega) (show 0≤b.1 - s.1 by omega)
  omega
 have p2:t.2≤b.2→b.2 < s.2→0≤cr s t b:=fun f g=>by
  have q1:=Int.mul_nonneg (show 0≤b.1 - t.1 by omega) (show 0≤s.2 - b.2 by omega)
  have q2:=Int.mul_nonneg (show 0≤b.2 - t.2 by omega) (show 0≤b.1 - s.1 by omega)
  have q3:(b.1 - t.1) * (b.2 - s.2)= - ((b.1 - t.1) * (s.2 - b.2)):=by grind
  have q4:(t.2 - b.2) * (b.1 - s.1)= - ((b.2 - t.2) * (b.1 - s.1)):=by grind
  omega
 repeat' (first|omega|split)
theorem Jf {b:Pt}: ∀ {E:List (Pt×Pt)},(∀e,e∈E→e.1.1≤b.1∧e.2.1≤b.1)→sR E b=0
 | [],_=>rfl
 |e::E,h=>by
  have h1:=h e (by simp)
  simp only[sR,YH h1.1 h1.2,Jf (E:=E) (fun e he=>h e (List.mem_cons_of_mem _ he))];rfl
theorem Q5 {p q:Pt} (h:p≠q):lx p q∨lx q p:=by
 have h1:=ne_iff h
 simp only[lx]
 by_cases h2:p.2=q.2
 · have:=h1 h2;omega
 · omega
theorem JH {p q r:Pt} (h1:lx p q) (h2:lx q r):lx p r:=by simp only[lx]at *;omega
theorem ME: ∀ {l:List Pt},l.Nodup→l≠ []→ ∃l1 b l2,l=l1++b::l2∧ ∀p,p∈l→p=b∨lx p b
 | [],_,h=>absurd rfl h
 | [a],_,_=>⟨[],a,[],rfl,by simp⟩
 |a::b::r,hn,_=>by
  obtain⟨l1,c,l2,e,h⟩:=ME (List.nodup_cons.1 hn).2 (by simp)
  have hac:a≠c:=fun k=>(List.nodup_cons.1 hn).1 (by rw[e,k];simp)
  rcases Q5 hac with h1|h1
  · exact⟨a::l1,c,l2,by rw[e];rfl,fun p hp=>by
     rcases List.mem_cons.1 hp with rfl|hp
     · exact .inr h1
     · exact h p hp⟩
  · exact⟨[],a,b::r,rfl,fun p hp=>by
     rcases List.mem_cons.1 hp with rfl|hp
     · exact .inl rfl
     · rcases h p hp with rfl|h2
       · exact .inr h1
       · exact .inr (JH h2 h1)⟩
theorem Qu {a b c:Pt} (h:Clean a b b c) (d1:a≠b) (d2:b≠c) (d3:a≠c) (h1:lx a b) (h2:lx c b):cr a b c≠0:=by
 intro e
 have c1:=E3 h d1 d2 d3 e
 have c2:=Dr h d1 d2 d3 e
 simp only[lx]at h1 h2
 rcases h1 with h1|⟨h1,IG⟩
 · have:=c1 h1;omega
 · have k:=c2 IG
   have:(b.2 - a.2) * (c.1 - b.1)=0:=by simp only[cr,h1]at e;grind
   rcases Int.mul_eq_zero.1 this with k2|k2<;>omega
theorem eJ (b c:Pt) (m:List Pt) (a:Pt):ce (b::c::(m++[a]))=(b,c)::(pe (c::(m++[a]))++[(a,b)]):=by
 have:=fa (c::m) a [b]
 simp only[List.cons_append,pe]at this
 simp only[ce,List.cons_append,pe,List.append_assoc]
 simpa using this
theorem OE {b c:Pt} {m:List Pt} {a:Pt} (h:(b::c::(m++[a])).Nodup):a≠b∧b≠c∧a≠c:=by
 simp only[List.nodup_cons,List.mem_cons,List.mem_append,not_or,List.mem_nil_iff,or_false]at h
 exact⟨fun e=>h.1.2.2 e.symm,h.1.1,fun e=>h.2.1.2 e.symm⟩
theorem Sm.Yv {b c:Pt} {m:List Pt} {a:Pt} (h:Sm (b::c::(m++[a]))):Clean a b b c:=
 h.cl (a,b) (by rw[eJ];simp) (b,c) (by rw[eJ];simp) (by simp only[ne_eq,Prod.mk.injEq,not_and];exact fun k=>absurd k (OE h.nd).1)
theorem vR {b c:Pt} {m:List Pt} {a:Pt} (h:Sm (b::c::(m++[a]))) (hb: ∀p,p∈b::c::(m++[a])→p=b∨lx p b):
 (lH (b::c::(m++[a]))=1∧0 < cr a b c)∨(lH (b::c::(m++[a]))=0∧cr a b c < 0):=by
 have le: ∀p,p∈b::c::(m++[a])→p.1≤b.1:=fun p hp=>by
  rcases hb p hp with rfl|k
  · omega
  · simp only[lx]at k;omega
 have h0:sR (pe (c::(m++[a]))) b=0:=Jf (fun e he=>⟨le _ (List.mem_cons_of_mem _ (AZ he).1),le _ (List.mem_cons_of_mem _ (AZ he).2)⟩)
 have d:=OE h.nd
 have ha:lx a b:=(hb a (by simp)).resolve_left d.1
 have hc:lx c b:=(hb c (by simp)).resolve_left (fun k=>d.2.1 k.symm)
 have h1:=Qu h.Yv d.1 d.2.1 d.2.2 ha hc
 have h2:=adQ (a:=a) (b:=b) (c:=c) ha hc
 rw[qB,h0]
 rcases Int.lt_trichotomy (cr a b c) 0 with k|k|k
 · exact .inr ⟨by have:=h2.2 k;omega,k⟩
 · exact absurd k h1
 · exact .inl ⟨by have:=h2.1 k;omega,k⟩
theorem three {l:List Pt} (h:3≤l.length): ∃b c m a,l=b::c::(m++[a]):=by
 match l,h with
 |b::c::d::r,_=>
  obtain⟨m,a,e⟩:=snoc (d::r) (by simp)
  exact⟨b,c,m,a,by rw[e]⟩
theorem F2 {l:List Pt} (h:Sm l):lH l=0∨lH l=1:=by
 obtain⟨l1,b,l2,rfl,hb⟩:=ME h.nd (by have:=h.n3;intro e;rw[e]at this;simp at this)
 rw[fA h]
 have h':=h.q9
 obtain⟨b',c,m,a,e⟩:=three h'.n3
 have eb:b'=b:=by simp only[List.cons_append,List.cons.injEq]at e;exact e.1.symm
 subst eb
 rw[e]at h'⊢
 rcases vR h' (fun p hp=>hb p (by rw[←e]at hp;exact(List.perm_append_comm.mem_iff).1 hp))with k|k
 · exact .inr k.1
 · exact .inl k.1
structure ni (u:Pt) (m1:List Pt) (v:Pt) (m2:List Pt):Prop where
 sm:Sm (u::m1++v::m2)
 l1:lH (u::m1++v::m2)=1
 n1:m1≠ []
 n2:m2≠ []
 di: ∀e,e∈ce (u::m1++v::m2)→Clean e.1 e.2 u v
theorem eI (u:Pt) (m1:List Pt) (v:Pt):ce (u::m1++[v])=pe (u::m1++[v])++[(v,u)]:=by
 rw[oA];simp[pe]
theorem my {u:Pt} {m1:List Pt} {v:Pt} {m2:List Pt} {e:Pt×Pt} (h:e∈pe (u::m1++[v])):e∈ce (u::m1++v::m2):=by
 rw[oA];exact List.mem_append_left _ h
theorem ni.sw {u:Pt} {m1:List Pt} {v:Pt} {m2:List Pt} (h:ni u m1 v m2):ni v m2 u m1:=
 ⟨by have:=h.sm.q9;exact this,by have:=h.l1;rw[fA h.sm]at this;exact this,h.n2,h.n1,fun e he=>(h.di e ((bP _ _ _).1 he)).AD⟩
theorem ni.sM {u:Pt} {m1:List Pt} {v:Pt} {m2:List Pt} (h:ni u m1 v m2):Sm (u::m1++[v]):=by
 refine⟨?_,?_,?_⟩
 · have:=h.sm.nd
   exact this.sublist (by simp)
 · have:=h.n1
   have:m1.length≠0:=fun e=>this (List.eq_nil_of_length_eq_zero e)
   simp;omega
 · intro e he f hf hne
   rw[eI]at he hf
   simp only[List.mem_append,List.mem_singleton]at he hf
   rcases he with he|rfl<;>rcases hf with hf|rfl
   · exact h.sm.cl e (my he) f (my hf) hne
   · exact(h.di e (my he)).AD
   · exact(h.di f (my hf)).AD.symm
   · exact absurd rfl hne
theorem ni.sum {u z:Pt} {m1:List Pt} {v x:Pt} {m2:List Pt} (h:ni u (z::m1) v (m2++[x])) (hs:PN x u z v):
 lH (u::z::m1++[v])=1∧lH (v::(m2++[x])++[u])=1:=by
 have h1:=F2 h.sM
 have h2:=F2 h.sw.sM
 have d:=h.l1
 have hs0:Sm (u::z::((m1++v::m2)++[x])):=by have:=h.sm;simpa using this
 have e0:lH (u::(z::m1)++v::(m2++[x]))=sR (pe (z::(m1++v::m2)++[x])) u+ng x u z:=by
  have:=qB u z (m1++v::m2) x
  simpa using this
 have e1:lH (u::z::m1++[v])=sR (pe (z::m1++[v])) u+ng v u z:=by
  have:=qB u z m1 v
  simpa using this
 have e2:lH (v::(m2++[x])++[u])=sR (pe (v::m2++[x])) u+ng x u v:=by
  have k:=fA (l1:=v::(m2++[x])) (l2:=[u]) h.sw.sM
  rw[k]
  have:=qB u v m2 x
  simpa using this
 have e3:pe (z::(m1++v::m2)++[x])=pe (z::m1++[v])++pe (v::m2++[x]):=by
  have:=fa (z::m1) v (m2++[x])
  simpa using this
 have d3:=OE hs0.nd
 have hv:v≠u:=by
  intro e
  have:=hs0.nd
  rw[e]at this
  simp at this
 have e4:=Oq hs0.Yv d3.1 d3.2.1 d3.2.2 hv hs
 rw[e0,e3,sQ,e4]at d
 have g1:lH (u::z::m1++[v])=0∨lH (u::z::m1++[v])=1:=h1
 rw[e1]at g1
 rw[e2]at h2
 rw[e1,e2]
 omega
theorem CL (l:List Pt) (x:Pt) (m:List Pt) (d e:Pt):(l++x::m).getLastD d=(x::m).getLastD e:=by
 obtain⟨w,y,h⟩:=snoc (x::m) (by simp)
 rw[h, ←List.append_assoc,List.getLastD_concat,List.getLastD_concat]
theorem WV {b:Pt} {w:List Pt} (h:w≠ []):lH (b::w)=sR (pe w) b+ng (w.getLastD b) b (w.headD b):=by
 cases w with
 |nil=>exact absurd rfl h
 |cons c r=>rfl
theorem Ka (l:List Pt) (x:Pt) (m m':List Pt) (d:Pt):(l++x::m).headD d=(l++x::m').headD d:=by
 cases l<;>rfl
theorem out {u:Pt} {m1:List Pt} {v:Pt} {m3:List Pt} {r:Pt} {m4:List Pt} (h:Sm (u::m1++v::(m3++r::m4)))
 (h2:Sm (v::(m3++r::m4)++[u])) (l0:lH (u::m1++v::(m3++r::m4))=lH (v::(m3++r::m4)++[u])):sR (ce (u::m1++[v])) r=0:=by
 have a1:=fA (l1:=u::m1++v::m3) (l2:=r::m4) (by simpa using h)
 have a2:=fA (l1:=v::m3) (l2:=r::m4++[u]) (by simpa using h2)
 simp only[List.append_assoc,List.cons_append,List.nil_append]at a1 a2 l0
 rw[a1,a2]at l0
 rw[WV (by simp),WV (by simp)]at l0
 have q1:(m4++u::v::m3).getLastD r=(v::m3).getLastD r:=by
  have:=CL (m4++[u]) v m3 r r;simpa using this
 have q2:(m4++u::(m1++v::m3)).getLastD r=(v::m3).getLastD r:=by
  have:=CL (m4++u::m1) v m3 r r;simpa using this
 have q3:=Ka m4 u (m1++v::m3) (v::m3) r
 have p1:pe (m4++u::(m1++v::m3))=pe (m4++[u])++(pe (u::m1++[v])++pe (v::m3)):=by
  rw[fa m4 u];congr 1;have:=fa (u::m1) v m3;simpa using this
 have p2:pe (m4++u::v::m3)=pe (m4++[u])++((u,v)::pe (v::m3)):=by
  rw[fa m4 u];rfl
 rw[q1,q2,q3,p1,p2]at l0
 rw[eI]
 simp only[sQ,sR]at l0⊢
 have:=Lc u v r
 omega
theorem vis {b c:Pt} {m:List Pt} {a q:Pt} (h:Sm (b::c::(m++[a]))) (hq:q∉b::c::(m++[a])) (hc: ∀e,e∈pe (c::(m++[a]))→Clean e.1 e.2 b q)
 (h0:0 < cr a b c) (h1:0 < cr b c q) (h2:0 < cr a b q):sR (ce (b::c::(m++[a]))) q=lH (b::c::(m++[a])):=by
 have d:=OE h.nd
 have nb:b∉c::(m++[a]):=(List.nodup_cons.1 h.nd).1
 have qb:q≠b:=fun e=>hq (by rw[e];simp)
 have qc:q≠c:=fun e=>hq (by rw[e];simp)
 have t:=tel c m a (by simpa using hc) (fun p hp=>⟨fun e=>nb (by rw[←e];simpa using hp),fun e=>hq (by rw[←e];exact List.mem_cons_of_mem _ (by simpa using hp))⟩)
 have eF:Clean q b b c:=by
  intro i j k l hi hj hk hl e1 e2 e3
  have g1:i * cr b c q=0:=by simp only[cr];grind
  rcases Int.mul_eq_zero.1 g1 with k1|k1
  · subst k1
    refine⟨.inl rfl,?_⟩
    by_cases F6:l=0
    · exact .inr F6
    · exfalso;exact d.2.1 (jc F6 (by grind) (by grind))
  · omega
 have vi:=VK h.Yv d.1 d.2.1 d.2.2 qb qc eF h0 h1 h2
 rw[eJ,qB]
 simp only[sR,sQ]at t⊢
 have e1:=Ff a b q;have e2:=Ff c b q
 simp only[List.cons_append]at t
 omega
end Go.aT.bn
end
section
namespace Go.aT.bn
theorem DC (a b c p:Pt):cr b c p+cr c a p+cr a b p=cr a b c:=by simp only[cr];grind
theorem Aj (a b c p:Pt):cr a b c * p.1=cr b c p * a.1+cr c a p * b.1+cr a b p * c.1:=by simp only[cr];grind
theorem Ai (a b c p:Pt):cr a b c * p.2=cr b c p * a.2+cr c a p * b.2+cr a b p * c.2:=by simp only[cr];grind
theorem JJ {s t x y:Pt} {i j k l:Int} (e1:i+j=k+l) (e2:i * s.1+j * t.1=k * x.1+l * y.1) (e3:i * s.2+j * t.2=k * x.2+l * y.2) (p q:Pt):
 i * cr p q s+j * cr p q t=k * cr p q x+l * cr p q y:=by
 have: ∀r:Pt,cr p q r=(q.1 - p.1) * r.2 - (q.2 - p.2) * r.1+(q.2 * p.1 - q.1 * p.2):=fun r=>by simp only[cr];grind
 rw[this s,this t,this x,this y]
 grind
theorem O9 {K s t a b c α γ η α' γ' η' i j:Int} (s1:K * s=γ * a+η * b+α * c) (t1:K * t=γ' * a+η' * b+α' * c):
 K * ((i * α+j * α') - α * i) * s+K * (- α * j) * t=((i * α+j * α') * γ - α * (i * γ+j * γ')) * a+((i * α+j * α') * η - α * (i * η+j * η')) * b:=by
 have e1:K * ((i * α+j * α') - α * i) * s=((i * α+j * α') - α * i) * (K * s):=by grind
 have e2:K * (- α * j) * t=(- α * j) * (K * t):=by grind
 rw[e1,e2,s1,t1];grind
theorem O8 {K s t a b c α γ η α' γ' η' i j:Int} (s1:K * s=γ * a+η * b+α * c) (t1:K * t=γ' * a+η' * b+α' * c):
 K * ((i * γ+j * γ') - γ * i) * s+K * (- γ * j) * t=((i * γ+j * γ') * η - γ * (i * η+j * η')) * b+((i * γ+j * γ') * α - γ * (i * α+j * α')) * c:=by
 have e1:K * ((i * γ+j * γ') - γ * i) * s=((i * γ+j * γ') - γ * i) * (K * s):=by grind
 have e2:K * (- γ * j) * t=(- γ * j) * (K * t):=by grind
 rw[e1,e2,s1,t1];grind
theorem Yp {K α γ η α' γ' η' i j:Int} (s0:γ+η+α=K) (t0:γ'+η'+α'=K):
 K * ((i * α+j * α') - α * i)+K * (- α * j)=((i * α+j * α') * γ - α * (i * γ+j * γ'))+((i * α+j * α') * η - α * (i * η+j * η')):=by
 subst s0;have:α'=(γ+η+α) - γ' - η':=by omega
 subst this;grind
theorem Yo {K α γ η α' γ' η' i j:Int} (s0:γ+η+α=K) (t0:γ'+η'+α'=K):
 K * ((i * γ+j * γ') - γ * i)+K * (- γ * j)=((i * γ+j * γ') * η - γ * (i * η+j * η'))+((i * γ+j * γ') * α - γ * (i * α+j * α')):=by
 subst s0;have:α'=(γ+η+α) - γ' - η':=by omega
 subst this;grind
theorem Kp {a b c s t:Pt} {i j:Int} (K0:0 < cr a b c) (hi:0 < i) (hj:0 < j)
 (hA:0≤i * cr a b s+j * cr a b t) (hB:0≤i * cr b c s+j * cr b c t) (hH:0≤i * cr c a s+j * cr c a t)
 (hs:0≤cr c a s) (ho:cr a b s < 0∨cr b c s < 0) (h1:Clean s t a b) (h2:Clean s t b c):False:=by
 have s0:=DC a b c s;have s1:=Aj a b c s;have s2:=Ai a b c s
 have t0:=DC a b c t;have t1:=Aj a b c t;have t2:=Ai a b c t
 generalize cr a b c=K at *
 generalize cr a b s=α at *;generalize cr b c s=γ at *;generalize cr c a s=η at *
 generalize cr a b t=α' at *;generalize cr b c t=γ' at *;generalize cr c a t=η' at *
 have adS:α < 0→0≤(i * α+j * α') * γ - α * (i * γ+j * γ')→False:=fun g1 g2=>by
  have p1:0 < (-α) * j:=Int.mul_pos (by omega) hj
  have p2:0 < (-α) * i:=Int.mul_pos (by omega) hi
  have p3:0≤(-α) * (i * η+j * η'):=Int.mul_nonneg (by omega) hH
  have p4:0≤(i * α+j * α') * η:=Int.mul_nonneg hA hs
  have q1:0 < K * ((i * α+j * α') - α * i):=Int.mul_pos K0 (by grind)
  have q2:0 < K * (- α * j):=Int.mul_pos K0 (by grind)
  have:=h1 (K * ((i * α+j * α') - α * i)) (K * (- α * j)) ((i * α+j * α') * γ - α * (i * γ+j * γ')) ((i * α+j * α') * η - α * (i * η+j * η'))
   (by omega) (by omega) g2 (by grind) (Yp s0 t0) (O9 s1 t1) (O9 s2 t2)
  omega
 have WW:γ < 0→0≤(i * γ+j * γ') * α - γ * (i * α+j * α')→False:=fun g1 g2=>by
  have p1:0 < (-γ) * j:=Int.mul_pos (by omega) hj
  have p2:0 < (-γ) * i:=Int.mul_pos (by omega) hi
  have p3:0≤(-γ) * (i * η+j * η'):=Int.mul_nonneg (by omega) hH
  have p4:0≤(i * γ+j * γ') * η:=Int.mul_nonneg hB hs
  have q1:0 < K * ((i * γ+j * γ') - γ * i):=Int.mul_pos K0 (by grind)
  have q2:0 < K * (- γ * j):=Int.mul_pos K0 (by grind)
  have:=h2 (K * ((i * γ+j * γ') - γ * i)) (K * (- γ * j)) ((i * γ+j * γ') * η - γ * (i * η+j * η')) ((i * γ+j * γ') * α - γ * (i * α+j * α'))
   (by omega) (by omega) (by grind) g2 (Yo s0 t0) (O8 s1 t1) (O8 s2 t2)
  omega
 by_cases g1:α < 0
 · by_cases g2:0≤(i * α+j * α') * γ - α * (i * γ+j * γ')
   · exact adS g1 g2
   · have p1:0≤(-α) * (i * γ+j * γ'):=Int.mul_nonneg (by omega) hB
     have g3:γ < 0:=by
      rcases Int.lt_or_le γ 0 with k|k
      · exact k
      · have:=Int.mul_nonneg hA k
        exfalso;grind
     exact WW g3 (by grind)
 · have g3:γ < 0:=by omega
   have p1:0≤α * (i * γ+j * γ'):=Int.mul_nonneg (by omega) hB
   have p2:0≤(i * α+j * α') * (-γ):=Int.mul_nonneg hA (by omega)
   exact WW g3 (by grind)
def yM (a b c p:Pt):Prop:=0≤cr a b p∧0≤cr b c p∧0≤cr c a p
def Ve (P:List Pt) (s t:Pt):Prop:= ∀p,p∈P→ ∀i j:Int,0≤i→0≤j→i * s.1+j * t.1=(i+j) * p.1→i * s.2+j * t.2=(i+j) * p.2→i=0∨j=0
def Oc (s t a b:Pt):Prop:=(s=a∧t=b)∨(s=b∧t=a)∨Clean s t a b
theorem Ve.sw {P:List Pt} {s t:Pt} (h:Ve P s t):Ve P t s:=
 fun p hp i j hi hj e1 e2=>(h p hp j i hj hi (by rw[Int.add_comm j i];omega) (by rw[Int.add_comm j i];omega)).symm
theorem kI (a b:Pt):cr a b a=0:=by simp only[cr];grind
theorem jw (a b:Pt):cr a b b=0:=by simp only[cr];grind
theorem cc {i x y:Int} (hi:0 < i) (h:i * x=y) (hy:0 < y):0 < x:=by
 rcases Int.lt_or_le 0 x with k|k
 · exact k
 · have:=Int.mul_nonneg (a:=i) (b:= -x) (by omega) (by omega);exfalso;grind
structure Tu (P:List Pt) (a b c q:Pt):Prop where
 K0:0 < cr a b c
 hq:q∈P
 hb:b∈P
 qa:0 < cr a b q
 qc:0 < cr b c q
 qh:0≤cr c a q
 mx: ∀p,p∈P→yM a b c p→p≠a→p≠b→p≠c→cr c a p≤cr c a q
theorem Tu.inc {P:List Pt} {a b c q t:Pt} (h:Tu P a b c q) (ht:t∈P) (tb:b≠t) (tq:t≠q) (hv:Ve P b t):Clean b t b q:=by
 intro i j k l hi hj hk hl e1 e2 e3
 have qb:q≠b:=fun e=>by have:=h.qa;rw[e,jw]at this;omega
 by_cases j0:j=0
 · subst j0
   by_cases l0:l=0
   · exact⟨.inr rfl, .inr l0⟩
   · exact absurd (jc (n:=l) l0 (by grind) (by grind)) qb
 · by_cases l0:l=0
   · subst l0;exact absurd (jc (n:=j) (a:=t) (b:=b) j0 (by grind) (by grind)).symm tb
   · exfalso
     have A:=JJ e1 e2 e3 a b
     have B:=JJ e1 e2 e3 b c
     have H:=JJ e1 e2 e3 c a
     rw[jw]at A
     rw[kI]at B
     have hK:=vV a b c
     have qs:=DC a b c q
     have jp:0 < j:=by omega
     have lp:0 < l:=by omega
     have tA:0 < cr a b t:=cc jp (y:=l * cr a b q) (by omega) (Int.mul_pos lp h.qa)
     have tB:0 < cr b c t:=cc jp (y:=l * cr b c q) (by omega) (Int.mul_pos lp h.qc)
     have tn1:t≠a:=fun e=>by rw[e,kI]at tA;omega
     have tn2:t≠b:=fun e=>by rw[e,jw]at tA;omega
     have tn3:t≠c:=fun e=>by rw[e,jw]at tB;omega
     rcases Int.lt_trichotomy l j with g|g|g
     · have p1:0 < (j - l) * (cr a b c - cr c a q):=Int.mul_pos (by omega) (by have:=h.qa;have:=h.qc;omega)
       rw[hK]at H
       have th:cr c a q < cr c a t:=by
        rcases Int.lt_or_le (cr c a q) (cr c a t)with k'|k'
        · exact k'
        · have m0:=Int.mul_nonneg (a:=j) (b:=cr c a q - cr c a t) (by omega) (by omega)
          have m1:j * (cr c a q - cr c a t)= - ((j - l) * (cr a b c - cr c a q)):=by
           have:i=k+l - j:=by omega
           clear p1 m0 e1 e2 e3 A B qs;subst this;grind
          omega
       have:=h.mx t ht ⟨by omega,by omega,by have:=h.qh;omega⟩ tn1 tn2 tn3
       omega
     · subst g
       exact tq (jc (n:=l) l0 (by grind) (by grind))
     · have:=hv q h.hq (l - j) j (by omega) (by omega) (by grind) (by grind)
       omega
theorem Tu.main {P:List Pt} {a b c q s t:Pt} (h:Tu P a b c q) (hs:s∈P) (ht:t∈P) (sb:s≠b) (tb:t≠b) (hv:Ve P s t)
 (h1:Clean s t a b) (h2:Clean s t b c):Clean s t b q:=by
 intro i j k l hi hj hk hl e1 e2 e3
 have A:=JJ e1 e2 e3 a b
 have B:=JJ e1 e2 e3 b c
 have H:=JJ e1 e2 e3 c a
 rw[jw]at A
 rw[kI]at B
 rw[vV a b c]at H
 have qs:=DC a b c q
 by_cases k0:k=0
 · subst k0
   exact⟨hv q h.hq i j hi hj (by grind) (by grind), .inl rfl⟩
 by_cases l0:l=0
 · subst l0
   exact⟨hv b h.hb i j hi hj (by grind) (by grind), .inr rfl⟩
 exfalso
 have kp:0 < k:=by omega
 have lp:0 < l:=by omega
 have A':=Int.mul_pos lp h.qa
 have B':=Int.mul_pos lp h.qc
 have D0:0 < k * (cr a b c - cr c a q):=Int.mul_pos kp (by have:=h.qa;have:=h.qc;omega)
 have D1:i * (cr c a s - cr c a q)+j * (cr c a t - cr c a q)=k * (cr a b c - cr c a q):=by
  have:(i+j) * cr c a q=(k+l) * cr c a q:=by rw[e1]
  grind
 have one: ∀p,p∈P→p≠b→cr c a q < cr c a p→cr a b p < 0∨cr b c p < 0:=fun p hp pb hh=>by
  rcases Int.lt_or_le (cr a b p) 0 with g|g
  · exact .inl g
  rcases Int.lt_or_le (cr b c p) 0 with g'|g'
  · exact .inr g'
  exfalso
  have q0:=h.qh
  have:=h.mx p hp ⟨g,g',by omega⟩ (fun e=>by rw[e,jw]at hh;omega) pb (fun e=>by rw[e,kI]at hh;omega)
  omega
 by_cases i0:i=0
 · subst i0
   have jp:0 < j:=by omega
   have g1:0 < cr a b t:=cc jp (y:=l * cr a b q) (by omega) A'
   have g2:0 < cr b c t:=cc jp (y:=l * cr b c q) (by omega) B'
   have g3:0 < cr c a t - cr c a q:=cc jp (y:=k * (cr a b c - cr c a q)) (by omega) D0
   have:=one t ht tb (by omega)
   omega
 by_cases j0:j=0
 · subst j0
   have ip:0 < i:=by omega
   have g1:0 < cr a b s:=cc ip (y:=l * cr a b q) (by omega) A'
   have g2:0 < cr b c s:=cc ip (y:=l * cr b c q) (by omega) B'
   have g3:0 < cr c a s - cr c a q:=cc ip (y:=k * (cr a b c - cr c a q)) (by omega) D0
   have:=one s hs sb (by omega)
   omega
 have ip:0 < i:=by omega
 have jp:0 < j:=by omega
 have Hp:0≤i * cr c a s+j * cr c a t:=by
  have p1:=Int.mul_nonneg (a:=k) (b:=cr a b c) (by omega) (by have:=h.K0;omega)
  have p2:=Int.mul_nonneg (a:=l) (b:=cr c a q) (by omega) h.qh
  omega
 rcases Int.lt_or_le (cr c a q) (cr c a s)with g|g
 · exact Kp h.K0 ip jp (by omega) (by omega) Hp (by have:=h.qh;omega) (one s hs sb g) h1 h2
 · have g':cr c a q < cr c a t:=by
    rcases Int.lt_or_le (cr c a q) (cr c a t)with k1|k1
    · exact k1
    · have p1:=Int.mul_nonneg (a:=i) (b:=cr c a q - cr c a s) hi (by omega)
      have p2:=Int.mul_nonneg (a:=j) (b:=cr c a q - cr c a t) hj (by omega)
      exfalso;grind
   exact Kp (i:=j) (j:=i) (s:=t) (t:=s) h.K0 jp ip (by omega) (by omega) (by omega) (by have:=h.qh;omega) (one t ht tb g') h1.sw h2.sw
theorem Tu.cl {P:List Pt} {a b c q s t:Pt} (h:Tu P a b c q) (hs:s∈P) (ht:t∈P) (st:s≠t) (hv:Ve P s t)
 (oab:Oc s t a b) (obc:Oc s t b c) (n1:¬ (s=b∧t=q)) (n2:¬ (s=q∧t=b)):Clean s t b q:=by
 by_cases sb:s=b
 · subst sb;exact h.inc ht st (fun e=>n1 ⟨rfl,e⟩) hv
 by_cases tb:t=b
 · subst tb;exact(h.inc hs (fun e=>st e.symm) (fun e=>n2 ⟨e,rfl⟩) hv.sw).sw
 refine h.main hs ht sb tb hv ?_ ?_
 · rcases oab with⟨e1,e2⟩|⟨e1,e2⟩|e
   · exact absurd e2 tb
   · exact absurd e1 sb
   · exact e
 · rcases obc with⟨e1,e2⟩|⟨e1,e2⟩|e
   · exact absurd e1 sb
   · exact absurd e2 tb
   · exact e
theorem MQ {K g h f a b c t:Int} (T:K * t=g * a+h * b+f * c) (h0:h=0) (T0:g+h+f=K):(-g) * a+K * t=(-g+K) * c:=by
 have:K=g+f:=by omega
 rw[T,h0];subst this;grind
theorem rI {K g h f a b c t:Int} (T:K * t=g * a+h * b+f * c) (h0:h=0) (T0:g+h+f=K):(-f) * c+K * t=(-f+K) * a:=by
 have:K=g+f:=by omega
 rw[T,h0];subst this;grind
structure N3 (P:List Pt) (a b c:Pt):Prop where
 K0:0 < cr a b c
 ha:a∈P
 hc:c∈P
 em: ∀p,p∈P→yM a b c p→p=a∨p=b∨p=c
theorem N3.cl {P:List Pt} {a b c s t:Pt} (h:N3 P a b c) (hs:s∈P) (ht:t∈P) (st:s≠t) (hv:Ve P s t)
 (oab:Oc s t a b) (obc:Oc s t b c) (n1:¬ (s=a∧t=c)) (n2:¬ (s=c∧t=a))
 (pn:s=b→¬ (0 < cr a b t∧0 < cr b c t)) (nj:t=b→¬ (0 < cr a b s∧0 < cr b c s)):Clean s t a c:=by
 intro i j k l hi hj hk hl e1 e2 e3
 have A:=JJ e1 e2 e3 a b
 have B:=JJ e1 e2 e3 b c
 have H:=JJ e1 e2 e3 c a
 rw[kI a b]at A
 rw[jw b c,mK a b c]at B
 rw[jw c a,kI c a]at H
 have K0:=h.K0
 by_cases k0:k=0
 · subst k0
   exact⟨hv c h.hc i j hi hj (by grind) (by grind), .inl rfl⟩
 by_cases l0:l=0
 · subst l0
   exact⟨hv a h.ha i j hi hj (by grind) (by grind), .inr rfl⟩
 exfalso
 have kp:0 < k:=by omega
 have lp:0 < l:=by omega
 have A':=Int.mul_pos lp K0
 have B':=Int.mul_pos kp K0
 have one: ∀p,p∈P→ ∀n:Int,0 < n→n * cr a b p=l * cr a b c→n * cr b c p=k * cr a b c→n * cr c a p=0→False:=fun p hp n hn g1 g2 g3=>by
  have q1:=cc hn g1 A'
  have q2:=cc hn g2 B'
  have q3:cr c a p=0:=by rcases Int.mul_eq_zero.1 g3 with g|g<;>omega
  rcases h.em p hp ⟨by omega,by omega,by omega⟩with e|e|e
  · rw[e,kI]at q1;omega
  · rw[e,vV]at q3;omega
  · rw[e,jw]at q2;omega
 by_cases i0:i=0
 · subst i0;exact one t ht j (by omega) (by omega) (by omega) (by omega)
 by_cases j0:j=0
 · subst j0;exact one s hs i (by omega) (by omega) (by omega) (by omega)
 have ip:0 < i:=by omega
 have jp:0 < j:=by omega
 have atb: ∀ (i j:Int) (t:Pt),0 < i→0 < j→i * cr a b b+j * cr a b t=l * cr a b c→i * cr b c b+j * cr b c t=k * cr a b c→¬ (0 < cr a b t∧0 < cr b c t)→False:=
  fun i j t ip jp g1 g2 g3=>by
   rw[jw]at g1;rw[kI]at g2
   exact g3 ⟨cc jp (y:=l * cr a b c) (by omega) A',cc jp (y:=k * cr a b c) (by omega) B'⟩
 by_cases sb:s=b
 · subst sb;exact atb i j t ip jp (by omega) (by omega) (pn rfl)
 by_cases tb:t=b
 · subst tb;exact atb j i s jp ip (by omega) (by omega) (nj rfl)
 have c1:Clean s t a b:=by
  rcases oab with⟨g1,g2⟩|⟨g1,g2⟩|g
  · exact absurd g2 tb
  · exact absurd g1 sb
  · exact g
 have c2:Clean s t b c:=by
  rcases obc with⟨g1,g2⟩|⟨g1,g2⟩|g
  · exact absurd g1 sb
  · exact absurd g2 tb
  · exact g
 have main: ∀ (i j:Int) (s t:Pt),0 < i→0 < j→s∈P→s≠b→s≠t→Ve P s t→Clean s t a b→Clean s t b c→¬ (s=a∧t=c)→¬ (s=c∧t=a)→
  t∈P→i * cr a b s+j * cr a b t=l * cr a b c→i * cr b c s+j * cr b c t=k * cr a b c→i * cr c a s+j * cr c a t=0→0≤cr c a s→False:=by
  intro i j s t ip jp hs sb st hv c1 c2 n1 n2 ht A B H g
  by_cases o:cr a b s < 0∨cr b c s < 0
  · exact Kp K0 ip jp (by omega) (by omega) (by omega) g o c1 c2
  have T1:=Aj a b c t;have T2:=Ai a b c t;have T0:=DC a b c t
  rcases h.em s hs ⟨by omega,by omega,g⟩with e|e|e
  · subst e
    rw[kI]at A;rw[jw]at H
    have h0:cr c s t=0:=by rcases Int.mul_eq_zero.1 (show j * cr c s t=0 by omega)with g|g<;>omega
    have q1:0 < cr s b t:=cc jp (y:=l * cr s b c) (by omega) A'
    rcases Int.lt_or_le (cr b c t) 0 with g2|g2
    · have:=hv c h.hc (- cr b c t) (cr s b c) (by omega) (by omega) (MQ T1 h0 T0) (MQ T2 h0 T0)
      omega
    · rcases h.em t ht ⟨by omega,by omega,by omega⟩with e|e|e
      · exact st e.symm
      · rw[e,jw]at q1;omega
      · exact n1 ⟨rfl,e⟩
  · exact sb e
  · subst e
    rw[jw]at B;rw[kI]at H
    have h0:cr s a t=0:=by rcases Int.mul_eq_zero.1 (show j * cr s a t=0 by omega)with g|g<;>omega
    have q1:0 < cr b s t:=cc jp (y:=k * cr a b s) (by omega) B'
    rcases Int.lt_or_le (cr a b t) 0 with g2|g2
    · have:=hv a h.ha (- cr a b t) (cr a b s) (by omega) (by omega) (rI T1 h0 T0) (rI T2 h0 T0)
      omega
    · rcases h.em t ht ⟨by omega,by omega,by omega⟩with e|e|e
      · exact n2 ⟨rfl,e⟩
      · rw[e,kI]at q1;omega
      · exact st e.symm
 rcases Int.lt_or_le (cr c a s) 0 with g|g
 · have g':0≤cr c a t:=by
    rcases Int.lt_or_le (cr c a t) 0 with g'|g'
    · have p1:=Int.mul_neg_of_pos_of_neg ip g
      have p2:=Int.mul_neg_of_pos_of_neg jp g'
      omega
    · exact g'
   exact main j i t s jp ip ht tb (fun e=>st e.symm) hv.sw c1.sw c2.sw (fun e=>n2 e.symm) (fun e=>n1 e.symm) hs (by omega) (by omega) (by omega) g'
 · exact main i j s t ip jp hs sb st hv c1 c2 n1 n2 ht (by omega) (by omega) (by omega) g
theorem A3: ∀ (l:List Pt) (x:Pt),(pe (l++[x])).map Prod.fst=l
 | [],x=>rfl
 | [a],x=>rfl
 |a::b::r,x=>by
  have:=A3 (b::r) x
  simp only[List.cons_append,pe,List.map_cons]at this⊢
  rw[this]
theorem Ex: ∀ (x:Pt) (l:List Pt),(pe (x::l)).map Prod.snd=l
 |x,[]=>rfl
 |x,a::r=>by simp only[pe,List.map_cons,Ex a r]
theorem xN (P:List Pt):(ce P).map Prod.fst=P:=by
 cases P with
 |nil=>rfl
 |cons a r=>exact A3 (a::r) a
theorem KL (P:List Pt):((ce P).map Prod.snd).Perm P:=by
 cases P with
 |nil=>exact .nil
 |cons a r=>simp only[ce,List.cons_append,Ex];exact List.perm_append_comm
theorem EA: ∀ {E:List (Pt×Pt)},(E.map Prod.fst).Nodup→ ∀ {s t t'},(s,t)∈E→(s,t')∈E→t=t'
 | [],_,_,_,_,h,_=>by simp at h
 |e::E,hn,s,t,t',h,h'=>by
  simp only[List.map_cons,List.nodup_cons]at hn
  rcases List.mem_cons.1 h with k|k<;>rcases List.mem_cons.1 h' with k'|k'
  · rw[←k']at k;simp only[Prod.mk.injEq]at k;exact k.2
  · rw[←k]at hn;exact absurd (List.mem_map_of_mem (f:=Prod.fst) k') hn.1
  · rw[←k']at hn;exact absurd (List.mem_map_of_mem (f:=Prod.fst) k) hn.1
  · exact EA hn.2 k k'
theorem JA: ∀ {E:List (Pt×Pt)},(E.map Prod.snd).Nodup→ ∀ {s s' t},(s,t)∈E→(s',t)∈E→s=s'
 | [],_,_,_,_,h,_=>by simp at h
 |e::E,hn,s,s',t,h,h'=>by
  simp only[List.map_cons,List.nodup_cons]at hn
  rcases List.mem_cons.1 h with k|k<;>rcases List.mem_cons.1 h' with k'|k'
  · rw[←k']at k;simp only[Prod.mk.injEq]at k;exact k.1
  · rw[←k]at hn;exact absurd (List.mem_map_of_mem (f:=Prod.snd) k') hn.1
  · rw[←k']at hn;exact absurd (List.mem_map_of_mem (f:=Prod.snd) k) hn.1
  · exact JA hn.2 k k'
theorem Sm.nx {P:List Pt} (h:Sm P) {s t t':Pt} (h1:(s,t)∈ce P) (h2:(s,t')∈ce P):t=t':=
 EA (by rw[xN];exact h.nd) h1 h2
theorem Sm.pv {P:List Pt} (h:Sm P) {s s' t:Pt} (h1:(s,t)∈ce P) (h2:(s',t)∈ce P):s=s':=
 JA ((KL P).nodup_iff.2 h.nd) h1 h2
theorem pB {P:List Pt} {e:Pt×Pt} (h:e∈ce P):e.1∈P∧e.2∈P:=by
 have h1:=List.mem_map_of_mem (f:=Prod.fst) h
 have h2:=List.mem_map_of_mem (f:=Prod.snd) h
 rw[xN]at h1
 exact⟨h1,(KL P).mem_iff.1 h2⟩
theorem KN {P:List Pt} {p:Pt} (h:p∈P): ∃y,(p,y)∈ce P:=by
 rw[←xN P]at h
 obtain⟨e,he,rfl⟩:=List.mem_map.1 h
 exact⟨e.2,he⟩
theorem ym {P:List Pt} {b:Pt} (h:Sm P) (hb:b∈P): ∃l1 l2 c m a,P=l1++l2∧l2++l1=b::c::(m++[a]):=by
 obtain⟨l1,l2,e⟩:=List.append_of_mem hb
 have:=h.n3
 obtain⟨b',c,m,a,e'⟩:=three (l:=b::l2++l1) (by rw[e]at this;simp at this⊢;omega)
 refine⟨l1,b::l2,c,m,a,e,?_⟩
 rw[e']
 simp only[List.cons_append,List.cons.injEq]at e'
 rw[e'.1]
theorem Sm.ne {P:List Pt} (h:Sm P) {s t:Pt} (he:(s,t)∈ce P):s≠t:=by
 obtain⟨l1,l2,c,m,a,e1,e2⟩:=ym h (pB he).1
 have h':Sm (l2++l1):=by rw[e1]at h;exact h.q9
 rw[e1]at he
 have he':=(bP _ _ _).1 he
 rw[e2]at h' he'
 have:(s,c)∈ce (s::c::(m++[a])):=by rw[eJ];simp
 rw[h'.nx he' this]
 exact(OE h'.nd).2.1
theorem Sm.ve {P:List Pt} (h:Sm P) {s t:Pt} (he:(s,t)∈ce P):Ve P s t:=by
 intro p hp i j hi hj e1 e2
 obtain⟨y,hy⟩:=KN hp
 by_cases e:(s,t)=(p,y)
 · simp only[Prod.mk.injEq]at e
   rcases e with⟨rfl,rfl⟩
   by_cases j0:j=0
   · exact .inr j0
   · exact absurd (jc (n:=j) (a:=t) (b:=s) j0 (by grind) (by grind)).symm (h.ne he)
 · exact(h.cl _ he _ hy e i j (i+j) 0 hi hj (by omega) (by omega) (by omega) (by grind) (by grind)).1
theorem VM {P:List Pt} {u v:Pt} (h: ∀e,e∈ce P→Clean e.1 e.2 u v):Ve P u v:=by
 intro p hp i j hi hj e1 e2
 obtain⟨y,hy⟩:=KN hp
 exact((h _ hy) (i+j) 0 i j (by omega) (by omega) hi hj (by omega) (by grind) (by grind)).2
theorem Jd (l1 l2:List Pt) (u:Pt):sR (ce (l1++l2)) u=sR (ce (l2++l1)) u:=by
 cases l1 with
 |nil=>simp
 |cons a r1=>
  cases l2 with
  |nil=>simp
  |cons b r2=>rw[oA,oA,sQ,sQ];omega
structure Inv (u:Pt) (m1:List Pt) (v:Pt) (m2:List Pt):Prop where
 sm:Sm (u::m1++v::m2)
 l1:lH (u::m1++v::m2)=1
 n1:m1≠ []
 lq:lH (u::m1++[v])=1
 o: ∀r,r∈m2→sR (ce (u::m1++[v])) r=0
 d:m2≠ []→ ∀e,e∈ce (u::m1++v::m2)→Clean e.1 e.2 u v
section
variable {u:Pt} {m1:List Pt} {v:Pt} {m2:List Pt} (h:Inv u m1 v m2)
include h
theorem Inv.cut (h2:m2≠ []):ni u m1 v m2:=⟨h.sm,h.l1,h.n1,h2,h.d h2⟩
theorem Inv.sM:Sm (u::m1++[v]):=by
 by_cases h2:m2=[]
 · have:=h.sm;rw[h2]at this;exact this
 · exact(h.cut h2).sM
def Inv.Ed (_:Inv u m1 v m2) (e:Pt×Pt):Prop:=e∈ce (u::m1++v::m2)∨(e=(v,u)∧m2≠ [])
theorem Inv.qe {f:Pt×Pt} (hf:f∈ce (u::m1++[v])):h.Ed f:=by
 by_cases h2:m2=[]
 · left;rw[h2];exact hf
 · rw[eI]at hf
   rcases List.mem_append.1 hf with k|k
   · exact .inl (my k)
   · exact .inr ⟨by simpa using k,h2⟩
theorem Inv.ve {e:Pt×Pt} (he:h.Ed e):Ve (u::m1++v::m2) e.1 e.2:=by
 rcases he with he|⟨rfl,h2⟩
 · exact h.sm.ve he
 · exact(VM (h.d h2)).sw
theorem Inv.mm {e:Pt×Pt} (he:h.Ed e):e.1∈u::m1++v::m2∧e.2∈u::m1++v::m2:=by
 rcases he with he|⟨rfl,h2⟩
 · exact pB he
 · simp
theorem Inv.uv:u≠v:=by
 have:=h.sm.nd
 intro e
 rw[e]at this
 simp at this
theorem Inv.ne {e:Pt×Pt} (he:h.Ed e):e.1≠e.2:=by
 rcases he with he|⟨rfl,h2⟩
 · exact h.sm.ne he
 · exact h.uv.symm
theorem Inv.oc {e f:Pt×Pt} (he:h.Ed e) (hf:h.Ed f):Oc e.1 e.2 f.1 f.2:=by
 by_cases hef:e=f
 · subst hef;exact .inl ⟨rfl,rfl⟩
 rcases he with he|⟨rfl,h2⟩<;>rcases hf with hf|⟨rfl,R9⟩
 · exact .inr (.inr (h.sm.cl e he f hf hef))
 · exact .inr (.inr (h.d R9 e he).AD)
 · exact .inr (.inr (h.d h2 f hf).AD.symm)
 · exact absurd rfl hef
theorem Inv.FX {s t:Pt} (he:(s,t)∈ce (u::m1++v::m2)) (hq:(s,t)∉ce (u::m1++[v])):s∈m2∨t∈m2:=by
 rw[oA]at he
 rcases List.mem_append.1 he with k|k
 · exact absurd (by rw[eI];exact List.mem_append_left _ k) hq
 · cases m2 with
   |nil=>exact absurd (by rw[eI];simp only[pe,List.cons_append,List.nil_append,List.mem_singleton]at k;rw[k];simp) hq
   |cons y r=>
    simp only[List.cons_append,pe,List.mem_cons]at k
    rcases k with k|k
    · simp only[Prod.mk.injEq]at k;right;rw[k.2];simp
    · left
      have k':=List.mem_map_of_mem (f:=Prod.fst) k
      have:=A3 (y::r) u
      simp only[List.cons_append]at this
      rw[this]at k'
      exact k'
theorem Inv.out {p:Pt} (hp:p∈m2):p∉u::m1++[v]:=by
 have:=h.sm.nd
 intro k
 have e:u::m1++v::m2=(u::m1++[v])++m2:=by simp
 rw[e]at this
 exact(List.nodup_append.1 this).2.2 p k p hp rfl
theorem Inv.hb {a b c t:Pt} (hab:(a,b)∈ce (u::m1++[v])) (hbc:(b,c)∈ce (u::m1++[v])) (K0:0 < cr a b c)
 (he:h.Ed (b,t)∨h.Ed (t,b)):¬ (0 < cr a b t∧0 < cr b c t):=by
 rintro⟨g1,g2⟩
 by_cases q1:(b,t)∈ce (u::m1++[v])
 · rw[h.sM.nx q1 hbc,jw]at g2;omega
 by_cases q2:(t,b)∈ce (u::m1++[v])
 · rw[h.sM.pv q2 hab,kI]at g1;omega
 have M1:=(pB hbc).1
 have nb:b∉m2:=fun k=>h.out k M1
 have ht:t∈m2∧ ∀f,f∈ce (u::m1++[v])→Clean f.1 f.2 b t:=by
  have Yh:(v,u)∈ce (u::m1++[v]):=by rw[eI];simp
  rcases he with(he|⟨he,_⟩)|(he|⟨he,_⟩)
  · refine⟨(h.FX he q1).resolve_left nb,fun⟨x,y⟩ hf=>?_⟩
    rcases h.oc (h.qe hf) (.inl he)with⟨k1,k2⟩|⟨k1,k2⟩|k
    · simp only at k1 k2;subst k1 k2;exact absurd hf q1
    · simp only at k1 k2;subst k1 k2;exact absurd hf q2
    · exact k
  · exact absurd (by rw[he];exact Yh) q1
  · refine⟨(h.FX he q2).resolve_right nb,fun⟨x,y⟩ hf=>?_⟩
    rcases h.oc (h.qe hf) (.inl he)with⟨k1,k2⟩|⟨k1,k2⟩|k
    · simp only at k1 k2;subst k1 k2;exact absurd hf q2
    · simp only at k1 k2;subst k1 k2;exact absurd hf q1
    · exact k.AD
  · exact absurd (by rw[he];exact Yh) q2
 obtain⟨l1,l2,c',m,a',e1,e2⟩:=ym h.sM M1
 have Oo:=h.sM;rw[e1]at Oo
 have r1:=(bP _ _ _).1 (by rw[←e1];exact hab)
 have r2:=(bP _ _ _).1 (by rw[←e1];exact hbc)
 have l':=fA Oo
 have Mi:=Oo.q9
 rw[e2]at r1 r2 Mi
 have ea:=Mi.pv (s':=a') r1 (by rw[eJ];simp)
 have ec:=Mi.nx (t':=c') r2 (by rw[eJ];simp)
 subst ea ec
 have w:=vis Mi (q:=t) (by rw[←e2];intro k;exact h.out ht.1 (by rw[e1];exact(List.perm_append_comm.mem_iff).1 k)) (fun e he=>ht.2 e (by
  rw[e1];refine(bP _ _ _).2 ?_;rw[e2,eJ];simp[he])) K0 g2 g1
 rw[←e2, ←l',Jd, ←e1,h.o t ht.1,h.lq]at w
 omega
end
end Go.aT.bn
end
section
namespace Go.aT.bn
theorem best {P:List Pt} (C:Pt→Prop) (f:Pt→Int) (h: ∃p,p∈P∧C p): ∃q,q∈P∧C q∧ ∀p,p∈P→C p→f p≤f q:=by
 induction P with
 |nil=>obtain⟨p,hp,_⟩:=h;simp at hp
 |cons a r ih=>
  by_cases hr: ∃p,p∈r∧C p
  · obtain⟨q,hq,cq,mq⟩:=ih hr
    by_cases ha:C a∧f q < f a
    · refine⟨a,by simp,ha.1,fun p hp cp=>?_⟩
      rcases List.mem_cons.1 hp with rfl|hp
      · exact Int.le_refl _
      · have:=mq p hp cp;omega
    · refine⟨q,List.mem_cons_of_mem _ hq,cq,fun p hp cp=>?_⟩
      rcases List.mem_cons.1 hp with rfl|hp
      · exact Int.not_lt.1 (fun k=>ha ⟨cp,k⟩)
      · exact mq p hp cp
  · obtain⟨p,hp,cp⟩:=h
    rcases List.mem_cons.1 hp with rfl|hp
    · refine⟨p,by simp,cp,fun p' aG cp'=>?_⟩
      rcases List.mem_cons.1 aG with rfl|aG
      · exact Int.le_refl _
      · exact absurd ⟨p',aG,cp'⟩ hr
    · exact absurd ⟨p,hp,cp⟩ hr
theorem abK {a b c q x:Pt}:cr a b c * cr x b q=cr b c q * cr x b a+cr a b q * cr x b c:=by simp only[cr];grind
theorem VL {a b c q z:Pt}:cr a b c * cr b z q=cr b c q * cr b z a+cr a b q * cr b z c:=by simp only[cr];grind
theorem acN {a b c q x z:Pt} (K0:0 < cr a b c) (qa:0 < cr a b q) (qc:0 < cr b c q)
 (hx:¬ (0 < cr a b x∧0 < cr b c x)) (hz:¬ (0 < cr a b z∧0 < cr b c z)) (hxz:z=c∨x=a):PN x b z q:=by
 rcases hxz with rfl|rfl
 · have e1:=mK x b z
   rcases Int.lt_or_le 0 (cr x b z)with g|g
   · refine .inl ⟨g,qc,cc K0 (abK (c:=z)) ?_⟩
     have e2:=BM a b x
     have p1:=Int.mul_pos qa g
     have p2:0≤cr b z q * cr x b a:=Int.mul_nonneg (by omega) (by have:=fun k=>hx ⟨k,by omega⟩;omega)
     omega
   · exact .inr ⟨g, .inl qc⟩
 · rcases Int.lt_or_le 0 (cr x b z)with g|g
   · refine .inl ⟨g,cc K0 (VL (a:=x)) ?_,qa⟩
     have e1:=mK x b z
     have e2:=KE b c z
     have p1:=Int.mul_pos qc (show 0 < cr b z x by omega)
     have p2:0≤cr x b q * cr b z c:=Int.mul_nonneg (by omega) (by have:=fun k=>hz ⟨g,k⟩;omega)
     omega
   · exact .inr ⟨g, .inr qa⟩
theorem V7 {P:List Pt} {a b c z:Pt} (h:N3 P a b c) (hz:z∈P) (n1:z≠a) (n2:z≠b) (n3:z≠c) (hc:Clean c z a b):PN b c z a:=by
 have K0:=h.K0
 have e1:=mK a b c
 rcases Int.lt_or_le 0 (cr b c z)with g|g
 · refine .inl ⟨g,?_,by omega⟩
   rcases Int.lt_or_le 0 (cr c z a)with g2|g2
   · exact g2
   · exfalso
     have e2:=KE c a z
     have A:cr a b z < 0:=by
      rcases Int.lt_or_le (cr a b z) 0 with k|k
      · exact k
      · rcases h.em z hz ⟨k,by omega,by omega⟩with e|e|e
        · exact absurd e n1
        · exact absurd e n2
        · exact absurd e n3
     have s:=DC a b c z;have s1:=Aj a b c z;have s2:=Ai a b c z
     have:=hc (- cr a b z) (cr a b c) (cr b c z) (cr c a z) (by omega) (by omega) (by omega) (by omega) (by omega) (by rw[Int.neg_mul];omega) (by rw[Int.neg_mul];omega)
     omega
 · exact .inr ⟨g, .inr (by omega)⟩
theorem acO {P:List Pt} {a b c y:Pt} (h:N3 P a b c) (hy:y∈P) (n1:y≠a) (n2:y≠b) (n3:y≠c) (hc:Clean a y b c):PN y a b c:=by
 have K0:=h.K0
 have e1:=mK y a b
 rcases Int.lt_or_le 0 (cr y a b)with g|g
 · refine .inl ⟨g,K0,?_⟩
   have e2:=BM c a y
   rcases Int.lt_or_le 0 (cr y a c)with g2|g2
   · exact g2
   · exfalso
     have A:cr b c y < 0:=by
      rcases Int.lt_or_le (cr b c y) 0 with k|k
      · exact k
      · rcases h.em y hy ⟨by omega,k,by omega⟩with e|e|e
        · exact absurd e n1
        · exact absurd e n2
        · exact absurd e n3
     have s:=DC a b c y;have s1:=Aj a b c y;have s2:=Ai a b c y
     have:=hc (- cr b c y) (cr a b c) (cr c a y) (cr a b y) (by omega) (by omega) (by omega) (by omega) (by omega) (by rw[Int.neg_mul];omega) (by rw[Int.neg_mul];omega)
     omega
 · exact .inr ⟨g, .inl K0⟩
section
variable {u:Pt} {m1:List Pt} {v:Pt} {m2:List Pt} (h:Inv u m1 v m2)
include h
theorem Inv.full {a b c:Pt} (hab:(a,b)∈ce (u::m1++[v])) (hbc:(b,c)∈ce (u::m1++[v])) (K0:0 < cr a b c)
 (hf: ∃p,p∈u::m1++v::m2∧yM a b c p∧p≠a∧p≠b∧p≠c):
 ∃q,q∈u::m1++[v]∧q≠a∧q≠b∧q≠c∧0 < cr a b q∧0 < cr b c q∧(∀e,e∈ce (u::m1++v::m2)→Clean e.1 e.2 b q):=by
 obtain⟨q,hq,⟨⟨g1,g2,g3⟩,na,nb,nc⟩,mx⟩:=best (fun p=>yM a b c p∧p≠a∧p≠b∧p≠c) (fun p=>cr c a p) hf
 have Q:=h.qe hab
 have Q':=h.qe hbc
 have s0:=DC a b c q;have s1:=Aj a b c q;have s2:=Ai a b c q
 have qa:0 < cr a b q:=by
  rcases Int.lt_or_le 0 (cr a b q)with k|k
  · exact k
  · have z:cr a b q=0:=by omega
    rw[z]at s0 s1 s2
    have K':cr a b c≠0:=by omega
    have sm:cr b c q+cr c a q=cr a b c:=by omega
    rcases h.ve Q q hq (cr b c q) (cr c a q) g2 g3 (by simp only[sm];omega) (by simp only[sm];omega)with k|k
    · rw[k]at s0 s1 s2
      have:cr c a q=cr a b c:=by omega
      rw[this]at s1 s2
      exact absurd (jc K' (by omega) (by omega)) nb
    · rw[k]at s0 s1 s2
      have:cr b c q=cr a b c:=by omega
      rw[this]at s1 s2
      exact absurd (jc K' (by omega) (by omega)) na
 have qc:0 < cr b c q:=by
  rcases Int.lt_or_le 0 (cr b c q)with k|k
  · exact k
  · have z:cr b c q=0:=by omega
    rw[z]at s0 s1 s2
    have K':cr a b c≠0:=by omega
    have sm:cr c a q+cr a b q=cr a b c:=by omega
    rcases h.ve Q' q hq (cr c a q) (cr a b q) g3 g1 (by simp only[sm];omega) (by simp only[sm];omega)with k|k
    · rw[k]at s0 s1 s2
      have:cr a b q=cr a b c:=by omega
      rw[this]at s1 s2
      exact absurd (jc K' (by omega) (by omega)) nc
    · rw[k]at s0 s1 s2
      have:cr c a q=cr a b c:=by omega
      rw[this]at s1 s2
      exact absurd (jc K' (by omega) (by omega)) nb
 have bst:Tu (u::m1++v::m2) a b c q:=⟨K0,hq,(h.mm Q').1,qa,qc,g3,fun p hp ip k1 k2 k3=>mx p hp ⟨ip,k1,k2,k3⟩⟩
 have cl: ∀e,h.Ed e→Clean e.1 e.2 b q:=fun⟨s,t⟩ he=>by
  refine bst.cl (h.mm he).1 (h.mm he).2 (h.ne he) (h.ve he) (h.oc he Q) (h.oc he Q') ?_ ?_
  · rintro⟨rfl,rfl⟩;exact h.hb hab hbc K0 (.inl he) ⟨qa,qc⟩
  · rintro⟨rfl,rfl⟩;exact h.hb hab hbc K0 (.inr he) ⟨qa,qc⟩
 refine⟨q,?_,na,nb,nc,qa,qc,fun e he=>cl e (.inl he)⟩
 by_cases Xs:q∈m2
 · exfalso
   have M1:=(pB hbc).1
   obtain⟨l1,l2,c',m,a',e1,e2⟩:=ym h.sM M1
   have Oo:=h.sM;rw[e1]at Oo
   have r1:=(bP _ _ _).1 (by rw[←e1];exact hab)
   have r2:=(bP _ _ _).1 (by rw[←e1];exact hbc)
   have l':=fA Oo
   have Mi:=Oo.q9
   rw[e2]at r1 r2 Mi
   have ea:=Mi.pv (s':=a') r1 (by rw[eJ];simp)
   have ec:=Mi.nx (t':=c') r2 (by rw[eJ];simp)
   subst ea ec
   have w:=vis Mi (q:=q) (by rw[←e2];intro k;exact h.out Xs (by rw[e1];exact(List.perm_append_comm.mem_iff).1 k)) (fun e he=>cl e (h.qe (by
    rw[e1];refine(bP _ _ _).2 ?_;rw[e2,eJ];simp[he]))) K0 qc qa
   rw[←e2, ←l',Jd, ←e1,h.o q Xs,h.lq]at w
   omega
 · have:q∈ (u::m1++[v])++m2:=by simpa using hq
   exact(List.mem_append.1 this).resolve_right Xs
end
def DM (P:List Pt):Prop:= ∃a b c,(a,b)∈ce P∧(b,c)∈ce P∧0 < cr a b c∧ ∀p,p∈P→yM a b c p→p=a∨p=b∨p=c
theorem DM.q9 {l1 l2:List Pt}:DM (l1++l2)→DM (l2++l1)
 |⟨a,b,c,h1,h2,h3,h4⟩=>⟨a,b,c,(bP _ _ _).1 h1,(bP _ _ _).1 h2,h3,fun p hp=>h4 p ((List.perm_append_comm.mem_iff).1 hp)⟩
theorem KF {Q:List Pt} (h:Sm Q) (l:lH Q=1): ∃a b c,(a,b)∈ce Q∧(b,c)∈ce Q∧0 < cr a b c:=by
 obtain⟨l1,b,l2,rfl,hb⟩:=ME h.nd (by have:=h.n3;intro e;rw[e]at this;simp at this)
 rw[fA h]at l
 have h':=h.q9
 obtain⟨b',c,m,a,e⟩:=three h'.n3
 have eb:b'=b:=by simp only[List.cons_append,List.cons.injEq]at e;exact e.1.symm
 subst eb
 rw[e]at h' l
 rcases vR h' (fun p hp=>hb p (by rw[←e]at hp;exact(List.perm_append_comm.mem_iff).1 hp))with k|k
 · refine⟨a,b',c,?_,?_,k.2⟩
   · rw[bP,e,eJ];simp
   · rw[bP,e,eJ];simp
 · omega
theorem ni.GY {u:Pt} {m1:List Pt} {v:Pt} {m2:List Pt} (h:ni u m1 v m2)
 (hs: ∀x z,(x,u)∈ce (u::m1++v::m2)→(u,z)∈ce (u::m1++v::m2)→PN x u z v):lH (u::m1++[v])=1∧lH (v::m2++[u])=1:=by
 obtain⟨m2',x,e2⟩:=snoc m2 h.n2
 cases m1 with
 |nil=>exact absurd rfl h.n1
 |cons z m1=>
  subst e2
  refine h.sum (hs x z ?_ ?_)
  · have:=eJ u z (m1++v::m2') x
    simp only[List.cons_append,List.append_assoc]at this⊢
    rw[this];simp
  · have:=eJ u z (m1++v::m2') x
    simp only[List.cons_append,List.append_assoc]at this⊢
    rw[this];simp
theorem ni.inv {u:Pt} {m1:List Pt} {v:Pt} {m2:List Pt} (h:ni u m1 v m2) (a:lH (u::m1++[v])=1) (b:lH (v::m2++[u])=1):Inv u m1 v m2:=by
 refine⟨h.sm,h.l1,h.n1,a,fun r hr=>?_,fun _=>h.di⟩
 obtain⟨m3,m4,rfl⟩:=List.append_of_mem hr
 exact bn.out h.sm h.sw.sM (by rw[h.l1];exact b.symm)
theorem two {L:List Pt} {b q:Pt} (hb:b∈L) (hq:q∈L) (n:b≠q):(∃x y z,L=x++(b::y++q::z))∨(∃x y z,L=x++(q::y++b::z)):=by
 obtain⟨x,y,rfl⟩:=List.append_of_mem hb
 rcases List.mem_append.1 hq with k|k
 · obtain⟨z,w,rfl⟩:=List.append_of_mem k
   exact .inr ⟨z,w,y,by simp⟩
 · rcases List.mem_cons.1 k with k|k
   · exact absurd k.symm n
   · obtain⟨z,w,rfl⟩:=List.append_of_mem k
     exact .inl ⟨x,z,w,by simp⟩
section
variable {u:Pt} {m1:List Pt} {v:Pt} {m2:List Pt} (h:Inv u m1 v m2)
include h
theorem Inv.sec {a b c q:Pt} (hab:(a,b)∈ce (u::m1++[v])) (hbc:(b,c)∈ce (u::m1++[v])) (K0:0 < cr a b c) (qa:0 < cr a b q) (qc:0 < cr b c q)
 {x z:Pt} (hx:(x,b)∈ce (u::m1++v::m2)) (hz:(b,z)∈ce (u::m1++v::m2)):PN x b z q:=by
 refine acN K0 qa qc (h.hb hab hbc K0 (.inr (.inl hx))) (h.hb hab hbc K0 (.inl (.inl hz))) ?_
 by_cases k:(b,z)∈ce (u::m1++[v])
 · exact .inl (h.sM.nx k hbc)
 · right
   have M1:=(pB hbc).1
   have zm:z∈m2:=(h.FX hz k).resolve_left (fun g=>h.out g M1)
   by_cases k':(x,b)∈ce (u::m1++[v])
   · exact h.sM.pv k' hab
   · exfalso
     have xm:x∈m2:=(h.FX hx k').resolve_right (fun g=>h.out g M1)
     rw[oA]at hx hz
     rcases List.mem_append.1 hz with g|g
     · exact k (by rw[eI];exact List.mem_append_left _ g)
     · have g':=List.mem_map_of_mem (f:=Prod.fst) g
       rw[A3 (v::m2) u]at g'
       rcases List.mem_append.1 hx with f|f
       · exact k' (by rw[eI];exact List.mem_append_left _ f)
       · have f':=List.mem_map_of_mem (f:=Prod.snd) f
         have:=Ex v (m2++[u])
         rw[←List.cons_append]at this
         rw[this]at f'
         simp only[List.mem_cons,List.mem_append,List.mem_nil_iff,or_false]at g' f'
         rcases g' with g'|g'
         · rcases f' with f'|f'
           · exact h.out f' M1
           · exact h.uv (by rw[←g', ←f'])
         · exact h.out g' M1
theorem Inv.Nj {c:Pt} {vP:List Pt} (em:m1=c::vP) (hn:vP≠ []) (h2:m2≠ []) (he:N3 (u::m1++v::m2) v u c):Inv c vP v (m2++[u]):=by
 subst em
 have Rl:(v,u)∈ce (u::(c::vP)++[v]):=by rw[eI];simp
 have Xd:(u,c)∈pe (u::(c::vP)++[v]):=by simp[pe]
 have huc:(u,c)∈ce (u::(c::vP)++v::m2):=my Xd
 have Rn:(u,c)∈ce (u::(c::vP)++[v]):=by rw[eI];exact List.mem_append_left _ Xd
 obtain⟨z,jS,rfl⟩: ∃z w,vP=z::w:=by cases vP with
  |nil=>exact absurd rfl hn
  |cons z w=>exact⟨z,w,rfl⟩
 have MY:(c,z)∈ce (u::(c::z::jS)++v::m2):=my (by simp[pe])
 have nd:=h.sm.nd
 have zv:z≠v:=fun e=>by rw[e]at nd;simp at nd
 have zu:z≠u:=fun e=>by rw[e]at nd;simp at nd
 have zc:z≠c:=fun e=>by rw[e]at nd;simp at nd
 have q9:c::(z::jS)++v::(m2++[u])=(c::(z::jS)++v::m2)++[u]:=by simp
 have P:u::(c::z::jS)++v::m2=[u]++(c::(z::jS)++v::m2):=rfl
 have ct:ni c (z::jS) v (m2++[u]):=by
  refine⟨?_,?_,by simp,by simp,?_⟩
  · rw[q9];exact Sm.q9 (l1:=[u]) h.sm
  · rw[q9];exact(fA (l1:=[u]) (l2:=c::(z::jS)++v::m2) h.sm).symm.trans h.l1
  · intro e hce
    rw[q9]at hce
    have hce:=(bP (c::(z::jS)++v::m2) [u] e).1 hce
    have k:h.Ed e:= .inl hce
    obtain⟨s,t⟩:=e
    refine(he.cl (h.mm k).1 (h.mm k).2 (h.ne k) (h.ve k) (h.oc k (h.qe Rl)) (h.oc k (h.qe Rn)) ?_ ?_ ?_ ?_).AD
    · rintro⟨rfl,rfl⟩;exact h.uv (h.sm.pv huc hce)
    · rintro⟨rfl,rfl⟩;exact zv (h.sm.nx MY hce)
    · rintro rfl;exact h.hb Rl Rn he.K0 (.inl k)
    · rintro rfl;exact h.hb Rl Rn he.K0 (.inr k)
 have s:=ct.GY (fun x' z' hx hz=>by
  rw[q9]at hx hz
  have hx:=(bP (c::(z::jS)++v::m2) [u] _).1 hx
  have hz:=(bP (c::(z::jS)++v::m2) [u] _).1 hz
  rw[h.sm.pv hx huc,h.sm.nx hz MY]
  exact V7 he (pB MY).2 zv zu zc (h.d h2 _ MY).AD)
 exact ct.inv s.1 s.2
theorem Inv.Ni {a:Pt} {vP:List Pt} (em:m1=vP++[a]) (hn:vP≠ []) (h2:m2≠ []) (he:N3 (u::m1++v::m2) a v u):Inv u vP a (v::m2):=by
 subst em
 have Rl:(v,u)∈ce (u::(vP++[a])++[v]):=by rw[eI];simp
 obtain⟨jS,y,rfl⟩:=snoc vP hn
 have XU:(a,v)∈pe (u::(jS++[y]++[a])++[v]):=by
  have:=fa (u::jS++[y]) a [v]
  simp only[List.cons_append,List.append_assoc,List.nil_append,pe]at this⊢
  rw[this];simp
 have aeD:(y,a)∈pe (u::(jS++[y]++[a])++[v]):=by
  have:=fa (u::jS) y [a,v]
  simp only[List.cons_append,List.append_assoc,List.nil_append,pe]at this⊢
  rw[this];simp
 have hav:(a,v)∈ce (u::(jS++[y]++[a])++v::m2):=my XU
 have W8:(y,a)∈ce (u::(jS++[y]++[a])++v::m2):=my aeD
 have R0:(a,v)∈ce (u::(jS++[y]++[a])++[v]):=by rw[eI];exact List.mem_append_left _ XU
 have nd:=h.sm.nd
 have yv:y≠v:=fun e=>by rw[e]at nd;simp[List.nodup_append,List.nodup_cons]at nd
 have yu:y≠u:=fun e=>by rw[e]at nd;simp at nd
 have ya:y≠a:=h.sm.ne W8
 have P:u::(jS++[y]++[a])++v::m2=u::(jS++[y])++a::(v::m2):=by simp
 have ct:ni u (jS++[y]) a (v::m2):=by
  refine⟨?_,?_,by simp,by simp,?_⟩
  · rw[←P];exact h.sm
  · rw[←P];exact h.l1
  · intro e hce
    rw[←P]at hce
    have k:h.Ed e:= .inl hce
    obtain⟨s,t⟩:=e
    refine(he.cl (h.mm k).1 (h.mm k).2 (h.ne k) (h.ve k) (h.oc k (h.qe R0)) (h.oc k (h.qe Rl)) ?_ ?_ ?_ ?_).AD
    · rintro⟨rfl,rfl⟩;exact h.uv (h.sm.nx hce hav)
    · rintro⟨rfl,rfl⟩;exact yu (h.sm.pv W8 hce)
    · rintro rfl;exact h.hb R0 Rl he.K0 (.inl k)
    · rintro rfl;exact h.hb R0 Rl he.K0 (.inr k)
 have s:=ct.sw.GY (fun x' z' hx hz=>by
  have hx:=(bP (a::(v::m2)) (u::(jS++[y])) _).1 hx
  have hz:=(bP (a::(v::m2)) (u::(jS++[y])) _).1 hz
  rw[←P]at hx hz
  rw[h.sm.pv hx W8,h.sm.nx hz hav]
  exact acO he (pB W8).1 ya yv yu (h.d h2 _ W8).sw.AD)
 exact ct.inv s.2 s.1
end
theorem Yj {P x y z:List Pt} {b q:Pt} (sm:Sm P) (l1:lH P=1) (eP:P=x++(b::y++q::z)) (ny:y≠ []) (nz:z++x≠ [])
 (di: ∀e,e∈ce P→Clean e.1 e.2 b q):ni b y q (z++x):=by
 have r:b::y++q::(z++x)=(b::y++q::z)++x:=by simp
 subst eP
 exact⟨by rw[r];exact sm.q9,by rw[r, ←fA sm];exact l1,ny,nz,fun e he=>di e (by rw[r]at he;exact(bP _ _ _).1 he)⟩
theorem KO {x y:List Pt} {b q:Pt} {z:List Pt}:(b,q)∈ce (x++(b::q::z)):=by
 rw[bP];cases z with
 |nil=>cases x<;>simp[ce,pe]
 |cons w z=>simp[ce,pe]
theorem Yg: ∀ (n:Nat) (u:Pt) (m1:List Pt) (v:Pt) (m2:List Pt),m1.length≤n→Inv u m1 v m2→DM (u::m1++v::m2)
 |0,u,m1,v,m2,hn,h=>absurd (List.eq_nil_of_length_eq_zero (by omega)) h.n1
 |n+1,u,m1,v,m2,hn,h=>by
  obtain⟨a,b,c,hab,hbc,K0⟩:=KF h.sM h.lq
  have eL:u::m1++v::m2=(u::m1++[v])++m2:=by simp
  by_cases hf: ∃p,p∈u::m1++v::m2∧yM a b c p∧p≠a∧p≠b∧p≠c
  · obtain⟨q,hq,na,nb,nc,qa,qc,di⟩:=h.full hab hbc K0 hf
    have hb:=(pB hbc).1
    have len: ∀x y z s t,u::m1++[v]=x++(s::y++t::z)→x.length+y.length+z.length=m1.length:=fun x y z s t e=>by
     have:=congrArg List.length e;simp at this;omega
    rcases two hb hq (fun e=>nb e.symm)with⟨x,y,z,e⟩|⟨x,y,z,e⟩
    · have ny:y≠ []:=by
       rintro rfl
       exact nc (h.sM.nx (s:=b) (by rw[e];exact KO (y:=[])) hbc)
      have Ww:x++z≠ []:=by
       intro k
       simp only[List.append_eq_nil_iff]at k
       rcases k with⟨rfl,rfl⟩
       refine na (h.sM.pv (t:=b) ?_ hab)
       rw[e];simp only[List.nil_append];rw[eI];simp
      have eP:u::m1++v::m2=x++(b::y++q::(z++m2)):=by rw[eL,e];simp
      have ct:=Yj h.sm h.l1 eP ny (by intro k;apply Ww;simp at k⊢;exact⟨k.2.2,k.1⟩) di
      have r:b::y++q::(z++m2++x)=(b::y++q::(z++m2))++x:=by simp
      have s:=ct.GY (fun x' z' hx hz=>h.sec hab hbc K0 qa qc
       (by rw[eP,bP, ←r];exact hx) (by rw[eP,bP, ←r];exact hz))
      have:=Yg n b y q _ (by
       have:=len x y z b q e
       have:x.length+z.length≠0:=fun k=>Ww (List.eq_nil_of_length_eq_zero (by rw[List.length_append];exact k))
       omega) (ct.inv s.1 s.2)
      rw[r]at this
      rw[eP];exact this.q9
    · have ny:y≠ []:=by
       rintro rfl
       exact na (h.sM.pv (t:=b) (by rw[e];exact KO (y:=[])) hab)
      have Ww:x++z≠ []:=by
       intro k
       simp only[List.append_eq_nil_iff]at k
       rcases k with⟨rfl,rfl⟩
       refine nc (h.sM.nx (s:=b) ?_ hbc)
       rw[e];simp only[List.nil_append];rw[eI];simp
      have eP:u::m1++v::m2=x++(q::y++b::(z++m2)):=by rw[eL,e];simp
      have ct:=Yj h.sm h.l1 eP ny (by intro k;apply Ww;simp at k⊢;exact⟨k.2.2,k.1⟩) (fun e he=>(di e he).AD)
      have r:q::y++b::(z++m2++x)=(q::y++b::(z++m2))++x:=by simp
      have s:=ct.sw.GY (fun x' z' hx hz=>h.sec hab hbc K0 qa qc
       (by rw[eP,bP, ←r];exact(bP _ _ _).1 hx) (by rw[eP,bP, ←r];exact(bP _ _ _).1 hz))
      have:=Yg n q y b _ (by
       have:=len x y z q b e
       have:x.length+z.length≠0:=fun k=>Ww (List.eq_nil_of_length_eq_zero (by rw[List.length_append];exact k))
       omega) (ct.inv s.2 s.1)
      rw[r]at this
      rw[eP];exact this.q9
  · have hem: ∀p,p∈u::m1++v::m2→yM a b c p→p=a∨p=b∨p=c:=fun p hp ip=>by
     by_cases k1:p=a
     · exact .inl k1
     by_cases k2:p=b
     · exact .inr (.inl k2)
     by_cases k3:p=c
     · exact .inr (.inr k3)
     exact absurd ⟨p,hp,ip,k1,k2,k3⟩ hf
    have he:N3 (u::m1++v::m2) a b c:=⟨K0,(h.mm (h.qe hab)).1,(h.mm (h.qe hbc)).2,hem⟩
    rcases h.qe hab with k1|⟨k1,h2⟩
    · rcases h.qe hbc with k2|⟨k2,h2⟩
      · exact⟨a,b,c,k1,k2,K0,hem⟩
      · simp only[Prod.mk.injEq]at k2
        rcases k2 with⟨rfl,rfl⟩
        obtain⟨vP,y,e⟩:=snoc m1 h.n1
        have ea:a=y:=h.sM.pv hab (by
         rw[eI,e];refine List.mem_append_left _ ?_
         have:=fa (c::vP) y [b]
         simp only[List.cons_append,List.append_assoc,List.nil_append,pe]at this⊢
         rw[this];simp)
        subst ea
        by_cases hm:vP=[]
        · subst hm
          rw[List.nil_append]at e
          refine⟨c,a,b,?_,k1,by rw[vV];exact K0,fun p hp ip=>?_⟩
          · rw[e];simp[ce,pe]
          · rcases hem p hp ⟨ip.2.1,ip.2.2,ip.1⟩with k|k|k
            · exact .inr (.inl k)
            · exact .inr (.inr k)
            · exact .inl k
        · have i:=h.Ni e hm h2 he
          have:=Yg n c vP a _ (by rw[e]at hn;simp at hn;omega) i
          rw[e]
          simpa using this
    · simp only[Prod.mk.injEq]at k1
      rcases k1 with⟨rfl,rfl⟩
      cases m1 with
      |nil=>exact absurd rfl h.n1
      |cons z vP=>
       have ec:c=z:=h.sM.nx hbc (by rw[eI];simp[pe])
       subst ec
       by_cases hm:vP=[]
       · subst hm
         refine⟨b,c,a,?_,?_,by rw[mK];exact K0,fun p hp ip=>?_⟩
         · simp[ce,pe]
         · simp[ce,pe]
         · rcases hem p hp ⟨ip.2.2,ip.1,ip.2.1⟩with k|k|k
           · exact .inr (.inr k)
           · exact .inl k
           · exact .inr (.inl k)
       · have i:=h.Nj rfl hm h2 he
         have:=Yg n c vP a _ (by simp at hn;omega) i
         have r:c::vP++a::(m2++[b])=(c::vP++a::m2)++[b]:=by simp
         rw[r]at this
         exact this.q9
theorem R5 {P:List Pt} (h:Sm P) (l:lH P=1):DM P:=by
 obtain⟨b,c,m,a,rfl⟩:=three h.n3
 have e:b::c::(m++[a])=b::(c::m)++a::[]:=by simp
 rw[e]at h l⊢
 exact Yg _ b (c::m) a [] (Nat.le_refl _) ⟨h,l,by simp,l,by simp,by simp⟩
end Go.aT.bn
end
section
namespace Go.aT.bn
def sA:List (Pt×Pt)→Int
 | []=>0
 |e::r=>(e.1.1 * e.2.2 - e.2.1 * e.1.2)+sA r
def ar (P:List Pt):Int:=sA (ce P)
theorem nP (l m:List (Pt×Pt)):sA (l++m)=sA l+sA m:=by
 induction l with
 |nil=>simp[sA]
 |cons e r ih=>simp only[List.cons_append,sA,ih];omega
theorem qO (l1 l2:List Pt):ar (l1++l2)=ar (l2++l1):=by
 cases l1 with
 |nil=>simp
 |cons a r1=>
  cases l2 with
  |nil=>simp
  |cons b r2=>simp only[ar];rw[oA,oA,nP,nP];omega
theorem K4 (u:Pt) (m1:List Pt) (v:Pt) (m2:List Pt):ar (u::m1++v::m2)=ar (u::m1++[v])+ar (v::m2++[u]):=by
 simp only[ar]
 rw[oA,eI,eI,nP,nP,nP]
 simp only[sA]
 have:v.1 * u.2 - u.1 * v.2= - (u.1 * v.2 - v.1 * u.2):=by omega
 omega
theorem KZ (a b c:Pt):ar (b::c::[a])=cr a b c:=by
 simp only[ar,ce,List.cons_append,List.nil_append,pe,sA,cr];grind
theorem Wc {b c:Pt} {m:List Pt} {a:Pt} (sm:Sm (b::c::(m++[a]))) (l:lH (b::c::(m++[a]))=1) (hm:m≠ []) (he:N3 (b::c::(m++[a])) a b c):
 ni c m a [b]∧lH (c::m++[a])=1∧lH (a::[b]++[c])=1:=by
 have e0:b::c::(m++[a])=b::(c::m)++a::[]:=by simp
 have h:Inv b (c::m) a []:=⟨by rw[←e0];exact sm,by rw[←e0];exact l,by simp,by rw[←e0];exact l,by simp,by simp⟩
 have hab:(a,b)∈ce (b::c::(m++[a])):=by rw[eJ];simp
 have hbc:(b,c)∈ce (b::c::(m++[a])):=by rw[eJ];simp
 obtain⟨z,w,rfl⟩: ∃z w,m=z::w:=by cases m with
  |nil=>exact absurd rfl hm
  |cons z w=>exact⟨z,w,rfl⟩
 have MY:(c,z)∈ce (b::c::(z::w++[a])):=by simp[ce,pe]
 have nd:=sm.nd
 have zb:z≠b:=fun e=>by rw[e]at nd;simp at nd
 have za:z≠a:=fun e=>by rw[e]at nd;simp at nd
 have zc:z≠c:=fun e=>by rw[e]at nd;simp at nd
 have r:c::(z::w)++a::[b]=(c::(z::w++[a]))++[b]:=by simp
 have d3:=OE nd
 have cl: ∀e,e∈ce (b::c::(z::w++[a]))→Clean e.1 e.2 a c:=fun⟨s,t⟩ k=>by
  have k0:h.Ed (s,t):= .inl (by rw[←e0];exact k)
  refine he.cl (pB k).1 (pB k).2 (sm.ne k) (sm.ve k) (h.oc k0 (h.qe (by rw[←e0];exact hab))) (h.oc k0 (h.qe (by rw[←e0];exact hbc))) ?_ ?_ ?_ ?_
  · rintro⟨rfl,rfl⟩;exact d3.2.1 (sm.nx hab k)
  · rintro⟨rfl,rfl⟩;exact za (sm.nx MY k)
  · rintro rfl;exact h.hb (by rw[←e0];exact hab) (by rw[←e0];exact hbc) he.K0 (.inl k0)
  · rintro rfl;exact h.hb (by rw[←e0];exact hab) (by rw[←e0];exact hbc) he.K0 (.inr k0)
 have ct:ni c (z::w) a [b]:=by
  refine⟨?_,?_,by simp,by simp,?_⟩
  · rw[r];exact Sm.q9 (l1:=[b]) sm
  · rw[r];exact(fA (l1:=[b]) (l2:=c::(z::w++[a])) sm).symm.trans l
  · intro e hce
    rw[r]at hce
    exact(cl e ((bP _ [b] _).1 hce)).AD
 refine⟨ct,ct.GY (fun x' z' hx hz=>?_)⟩
 rw[r]at hx hz
 have hx:=(bP _ [b] _).1 hx
 have hz:=(bP _ [b] _).1 hz
 rw[sm.pv hx hbc,sm.nx hz MY]
 exact V7 he (pB MY).2 za zb zc (sm.cl _ MY _ hab (by simp only[ne_eq,Prod.mk.injEq,not_and];exact fun k=>absurd k.symm d3.2.2))
theorem xV: ∀ (n:Nat) (P:List Pt),P.length≤n→Sm P→lH P=1→0 < ar P
 |0,P,hn,h,_=>by have:=h.n3;omega
 |n+1,P,hn,h,l=>by
  obtain⟨a,b,c,hab,hbc,K0⟩:=KF h l
  obtain⟨l1,l2,c',m,a',e1,e2⟩:=ym h (show b∈P from(pB hbc).1)
  subst e1
  rw[qO]
  rw[fA h]at l
  have h':=h.q9
  have r1:=(bP _ _ _).1 hab
  have r2:=(bP _ _ _).1 hbc
  have hl:(l2++l1).length≤n+1:=by simp at hn⊢;omega
  rw[e2]at h' r1 r2 l hl⊢
  have ea:=h'.pv (s':=a') r1 (by rw[eJ];simp)
  have ec:=h'.nx (t':=c') r2 (by rw[eJ];simp)
  subst ea ec
  by_cases hf: ∃p,p∈b::c::(m++[a])∧yM a b c p∧p≠a∧p≠b∧p≠c
  · have e0:b::c::(m++[a])=b::(c::m)++a::[]:=by simp
    have i:Inv b (c::m) a []:=⟨by rw[←e0];exact h',by rw[←e0];exact l,by simp,by rw[←e0];exact l,by simp,by simp⟩
    obtain⟨q,hq,na,nb,nc,qa,qc,di⟩:=i.full (by rw[←e0];exact r1) (by rw[←e0];exact r2) K0 (by rw[←e0];exact hf)
    have Xs:q∈m:=by
     have:q∈b::c::(m++[a]):=by rw[e0];exact hq
     simp only[List.mem_cons,List.mem_append,List.mem_nil_iff,or_false]at this
     rcases this with k|k|k|k
     · exact absurd k nb
     · exact absurd k nc
     · exact k
     · exact absurd k na
    obtain⟨x,y,rfl⟩:=List.append_of_mem Xs
    have e3:b::c::(x++q::y++[a])=b::(c::x)++q::(y++[a]):=by simp
    have ct:ni b (c::x) q (y++[a]):=⟨by rw[←e3];exact h',by rw[←e3];exact l,by simp,by simp,fun e he=>di e (by rw[←e0,e3];exact he)⟩
    have s:=ct.GY (fun x' z' hx hz=>i.sec (by rw[←e0];exact r1) (by rw[←e0];exact r2) K0 qa qc (by rw[←e0,e3];exact hx) (by rw[←e0,e3];exact hz))
    rw[e3,K4]
    have k1:=xV n _ (by simp at hl⊢;omega) ct.sM s.1
    have k2:=xV n _ (by simp at hl⊢;omega) ct.sw.sM s.2
    omega
  · have hem: ∀p,p∈b::c::(m++[a])→yM a b c p→p=a∨p=b∨p=c:=fun p hp ip=>by
     by_cases k1:p=a
     · exact .inl k1
     by_cases k2:p=b
     · exact .inr (.inl k2)
     by_cases k3:p=c
     · exact .inr (.inr k3)
     exact absurd ⟨p,hp,ip,k1,k2,k3⟩ hf
    have he:N3 (b::c::(m++[a])) a b c:=⟨K0,(pB r1).1,(pB r2).2,hem⟩
    by_cases hm:m=[]
    · subst hm
      rw[List.nil_append,KZ];exact K0
    · obtain⟨ct,s1,s2⟩:=Wc h' l hm he
      have e3:ar (b::c::(m++[a]))=ar (c::m++a::[b]):=by
       have:=qO [b] (c::(m++[a]))
       simpa using this
      rw[e3,K4]
      have k1:=xV n _ (by simp at hl⊢;omega) ct.sM s1
      have:m.length≠0:=fun k=>hm (List.eq_nil_of_length_eq_zero k)
      have k2:=xV n _ (by simp at hl⊢;omega) ct.sw.sM s2
      omega
theorem Js: ∀l:List Pt,pe l.reverse=((pe l).map fun e=>(e.2,e.1)).reverse
 | []=>rfl
 | [a]=>rfl
 |a::b::r=>by
  have ih:=Js (b::r)
  have:=fa r.reverse b [a]
  simp only[List.reverse_cons,List.append_assoc,List.cons_append,List.nil_append,pe,List.map_cons]at ih this⊢
  rw[this,ih]
theorem QD (E:List (Pt×Pt)):sA (E.map fun e=>(e.2,e.1)).reverse= - sA E:=by
 induction E with
 |nil=>rfl
 |cons e r ih=>
  simp only[List.map_cons,List.reverse_cons,nP,ih,sA]
  have:e.2.1 * e.1.2 - e.1.1 * e.2.2= - (e.1.1 * e.2.2 - e.2.1 * e.1.2):=by omega
  omega
theorem KM (a:Pt) (r:List Pt):ce (a::r.reverse)=((ce (a::r)).map fun e=>(e.2,e.1)).reverse:=by
 have:=Js (a::r++[a])
 simp only[ce]
 rw[←this]
 simp
theorem Sm.rev {a:Pt} {r:List Pt} (h:Sm (a::r)):Sm (a::r.reverse):=by
 refine⟨?_,by have:=h.n3;simp at this⊢;omega,?_⟩
 · have:=h.nd
   simp only[List.nodup_cons,List.mem_reverse]at this⊢
   exact⟨this.1,(List.reverse_perm r).nodup_iff.2 this.2⟩
 · intro e he f hf hne
   rw[KM]at he hf
   simp only[List.mem_reverse,List.mem_map]at he hf
   obtain⟨e',he',rfl⟩:=he
   obtain⟨f',mD,rfl⟩:=hf
   exact(h.cl e' he' f' mD (fun k=>hne (by rw[k]))).sw.AD
theorem K3 (a:Pt) (r:List Pt):ar (a::r.reverse)= - ar (a::r):=by
 simp only[ar,KM,QD]
theorem PG {P:List Pt} (h:Sm P) (l:lH P=0):ar P < 0:=by
 obtain⟨l1,b,l2,rfl,hb⟩:=ME h.nd (by have:=h.n3;intro e;rw[e]at this;simp at this)
 rw[fA h]at l
 rw[qO]
 have h':=h.q9
 obtain⟨b',c,m,a,e⟩:=three h'.n3
 have eb:b'=b:=by simp only[List.cons_append,List.cons.injEq]at e;exact e.1.symm
 subst eb
 have hb': ∀p,p∈b'::c::(m++[a])→p=b'∨lx p b':=fun p hp=>hb p (by rw[←e]at hp;exact(List.perm_append_comm.mem_iff).1 hp)
 rw[e]at h' l⊢
 have k:=(vR h' hb').resolve_left (fun k=>by omega)
 have hr:=h'.rev
 have er:(c::(m++[a])).reverse=a::(m.reverse++[c]):=by simp
 rw[er]at hr
 have k2:=vR hr (fun p hp=>hb' p (by simp only[List.mem_cons,List.mem_append,List.mem_reverse,List.mem_nil_iff,or_false]at hp⊢;rcases hp with k|k|k|k<;>simp[k]))
 have k3:0 < cr c b' a:=by rw[BM];omega
 have k4:=xV _ _ (Nat.le_refl _) hr (k2.resolve_right (fun g=>by omega)).1
 have k5:=K3 b' (c::(m++[a]))
 rw[er]at k5
 omega
theorem zN {P:List Pt} (h:Sm P) (ha:0 < ar P):lH P=1:=by
 rcases F2 h with l|l
 · have:=PG h l;omega
 · exact l
theorem PF {P:List Pt} (h:Sm P):ar P≠0:=by
 rcases F2 h with l|l
 · have:=PG h l;omega
 · have:=xV _ _ (Nat.le_refl _) h l;omega
theorem Gx {a b c:Pt} (h:Clean a b b c) (d1:a≠b) (d2:b≠c) (d3:a≠c) (e:cr a b c=0):
 ∃x y:Int,0 < x∧0 < y∧x * a.1+y * c.1=(x+y) * b.1∧x * a.2+y * c.2=(x+y) * b.2:=by
 have c1:=E3 h d1 d2 d3 e
 have c2:=Dr h d1 d2 d3 e
 have SL:=E3 h.fl (gv d1) (gv d2) (gv d3) (by rw[xu,e])
 have SK:=Dr h.fl (gv d1) (gv d2) (gv d3) (by rw[xu,e])
 simp only[fl]at SL SK
 have n:=ne_iff d1
 simp only[cr]at e
 rcases Int.lt_trichotomy a.2 b.2 with k|k|k
 · exact⟨c.2 - b.2,b.2 - a.2,by have:=c2 k;omega,by omega,by grind,by grind⟩
 · rcases Int.lt_trichotomy a.1 b.1 with g|g|g
   · exact⟨c.1 - b.1,b.1 - a.1,by have:=c1 g;omega,by omega,by grind,by grind⟩
   · exact absurd g (n k)
   · exact⟨b.1 - c.1,a.1 - b.1,by have:=SL (by omega);omega,by omega,by grind,by grind⟩
 · exact⟨b.2 - c.2,a.2 - b.2,by have:=SK (by omega);omega,by omega,by grind,by grind⟩
theorem half {a b c x y k l X:Int} (h:x * a+y * c=(x+y) * b) (e:X=k * a+l * c):y * X=(k * y - l * x) * a+(l * (x+y)) * b:=by
 have:y * (l * c)=l * ((x+y) * b) - l * (x * a):=by rw[←h];grind
 rw[e];grind
theorem QI {b c:Pt} {m:List Pt} {a:Pt} (sm:Sm (b::c::(m++[a]))) (hm:m≠ []) (e:cr a b c=0):
 Sm (c::m++[a])∧ar (c::m++[a])=ar (b::c::(m++[a])):=by
 have d:=OE sm.nd
 obtain⟨x,y,hx,hy,e1,e2⟩:=Gx sm.Yv d.1 d.2.1 d.2.2 e
 have hin: ∀f,f∈pe (c::m++[a])→f∈ce (b::c::(m++[a])):=fun f hf=>by
  rw[eJ];exact List.mem_cons_of_mem _ (List.mem_append_left _ (by simpa using hf))
 have hab:(a,b)∈ce (b::c::(m++[a])):=by rw[eJ];simp
 have hbc:(b,c)∈ce (b::c::(m++[a])):=by rw[eJ];simp
 have nb:b∉c::m++[a]:=(List.nodup_cons.1 sm.nd).1
 have cl: ∀f,f∈pe (c::m++[a])→Clean f.1 f.2 a c:=by
  intro f hf i j k l hi hj hk hl g1 g2 g3
  have fb:=AZ hf
  have n1:f.1≠b:=fun h=>nb (by rw[←h];exact fb.1)
  have n2:f.2≠b:=fun h=>nb (by rw[←h];exact fb.2)
  have c1:=sm.cl f (hin f hf) _ hab (fun h=>n2 (by rw[h]))
  have c2:=sm.cl f (hin f hf) _ hbc (fun h=>n1 (by rw[h]))
  have fne:=sm.ne (s:=f.1) (t:=f.2) (hin f hf)
  have vb:=sm.ve (s:=f.1) (t:=f.2) (hin f hf) b (by simp)
  have ny:0≤i * y:=Int.mul_nonneg hi (by omega)
  have nyj:0≤j * y:=Int.mul_nonneg hj (by omega)
  have nx:0≤i * x:=Int.mul_nonneg hi (by omega)
  have nxj:0≤j * x:=Int.mul_nonneg hj (by omega)
  have nl:0≤l * (x+y):=Int.mul_nonneg hl (by omega)
  have nk:0≤k * (x+y):=Int.mul_nonneg hk (by omega)
  have fin: ∀z:Int,0 < z→ ∀w,w * z=0→w=0:=fun z hz w h=>by rcases Int.mul_eq_zero.1 h with g|g<;>omega
  rcases Int.lt_or_le (k * y - l * x) 0 with s|s
  · have h1:=half (X:=i * f.1.1+j * f.2.1) (a:=c.1) (c:=a.1) (k:=l) (l:=k) (x:=y) (y:=x) (b:=b.1) (by rw[Int.add_comm (y * c.1),e1,Int.add_comm y x]) (by rw[g2];omega)
    have h2:=half (X:=i * f.1.2+j * f.2.2) (a:=c.2) (c:=a.2) (k:=l) (l:=k) (x:=y) (y:=x) (b:=b.2) (by rw[Int.add_comm (y * c.2),e2,Int.add_comm y x]) (by rw[g3];omega)
    have:=c2 (i * x) (j * x) (k * (y+x)) (l * x - k * y) nx nxj (by rw[Int.add_comm y x];exact nk) (by omega) (by
     have:(i+j) * x=(k+l) * x:=by rw[g1]
     grind) (by simp only;grind) (by simp only;grind)
    refine⟨?_,?_⟩
    · rcases this.1 with g|g
      · exact .inl (fin x hx _ g)
      · exact .inr (fin x hx _ g)
    · rcases this.2 with g|g
      · exact .inl (fin (y+x) (by omega) _ g)
      · omega
  · have h1:=half (X:=i * f.1.1+j * f.2.1) (k:=k) (l:=l) e1 g2
    have h2:=half (X:=i * f.1.2+j * f.2.2) (k:=k) (l:=l) e2 g3
    have:=c1 (i * y) (j * y) (k * y - l * x) (l * (x+y)) ny nyj s nl (by
     have:(i+j) * y=(k+l) * y:=by rw[g1]
     grind) (by simp only;grind) (by simp only;grind)
    have r1:i=0∨j=0:=by
     rcases this.1 with g|g
     · exact .inl (fin y hy _ g)
     · exact .inr (fin y hy _ g)
    refine⟨r1,?_⟩
    rcases this.2 with g|g
    ·
     have s1:l * (x+y)=(i+j) * y:=by rw[g1];grind
     rw[g,s1]at h1 h2
     rcases r1 with z|z
     · subst z
       by_cases j0:j=0
       · left;omega
       · exact absurd (jc (n:=y * j) (a:=f.2) (b:=b) (by intro z;rcases Int.mul_eq_zero.1 z with w|w<;>omega) (by grind) (by grind)) n2
     · subst z
       by_cases i0:i=0
       · left;omega
       · exact absurd (jc (n:=y * i) (a:=f.1) (b:=b) (by intro z;rcases Int.mul_eq_zero.1 z with w|w<;>omega) (by grind) (by grind)) n1
    · exact .inr (fin (x+y) (by omega) _ g)
 have ce':ce (c::m++[a])=pe (c::m++[a])++[(a,c)]:=eI c m a
 refine⟨⟨(List.nodup_cons.1 sm.nd).2,?_,?_⟩,?_⟩
 · have:m.length≠0:=fun k=>hm (List.eq_nil_of_length_eq_zero k)
   simp;omega
 · intro f hf g hg hne
   rw[ce']at hf hg
   rcases List.mem_append.1 hf with hf|hf<;>rcases List.mem_append.1 hg with hg|hg
   · exact sm.cl f (hin f hf) g (hin g hg) hne
   · rw[List.mem_singleton.1 hg];exact cl f hf
   · rw[List.mem_singleton.1 hf];exact(cl g hg).symm
   · rw[List.mem_singleton.1 hf,List.mem_singleton.1 hg]at hne;exact absurd rfl hne
 · simp only[ar,ce']
   rw[eJ]
   simp only[sA,nP]
   simp only[cr]at e
   grind
theorem Jt: ∀ (L:List Pt) (i:Nat) (h:i+1 < L.length),(L[i],L[i+1])∈pe L
 | [],i,h=>by simp at h
 | [a],i,h=>by simp at h
 |a::b::r,0,h=>by simp[pe]
 |a::b::r,i+1,h=>by
  have:=Jt (b::r) i (by simp at h⊢;omega)
  simp only[pe,List.getElem_cons_succ]at this⊢
  exact List.mem_cons_of_mem _ this
theorem E8 (l:List Pt) (i:Nat) (h:i < l.length):(l[i],l[(i+1) % l.length]'(Nat.mod_lt _ (by omega)))∈ce l:=by
 cases l with
 |nil=>simp at h
 |cons a r=>
  have:=Jt (a::r++[a]) i (by simp at h⊢;omega)
  simp only[ce]
  have e1:(a::r++[a])[i]'(by simp at h⊢;omega)=(a::r)[i]:=by rw[List.getElem_append_left h]
  rw[e1]at this
  by_cases k:i+1 < (a::r).length
  · have e2:(a::r++[a])[i+1]'(by simp at h⊢;omega)=(a::r)[i+1]:=by rw[List.getElem_append_left k]
    rw[e2]at this
    simp only[Nat.mod_eq_of_lt k]
    exact this
  · have k':i+1=(a::r).length:=by omega
    simp only[k',Nat.mod_self]at this⊢
    simpa using this
theorem Nu (l:List Pt) (i:Nat) (h:i < l.length):(l[(i+l.length - 1) % l.length]'(Nat.mod_lt _ (by omega)),l[i])∈ce l:=by
 have:=E8 l ((i+l.length - 1) % l.length) (Nat.mod_lt _ (by omega))
 have e:((i+l.length - 1) % l.length+1) % l.length=i:=by
  rcases Nat.eq_zero_or_pos i with k|k
  · subst k
    have:(0+l.length - 1) % l.length=l.length - 1:=by rw[Nat.zero_add];exact Nat.mod_eq_of_lt (by omega)
    rw[this]
    have:l.length - 1+1=l.length:=by omega
    rw[this,Nat.mod_self]
  · have:(i+l.length - 1) % l.length=i - 1:=by
     have:i+l.length - 1=(i - 1)+l.length:=by omega
     rw[this,Nat.add_mod_right];exact Nat.mod_eq_of_lt (by omega)
    rw[this]
    have:i - 1+1=i:=by omega
    rw[this];exact Nat.mod_eq_of_lt h
 simp only[e]at this
 exact this
structure Good (l:List Pt):Prop where
 sm:Sm l
 ar:0 < ar l
def nA (l:List Pt) (i:Nat):Pt:=l.getD ((i+l.length - 1) % l.length) (0,0)
def nB (l:List Pt) (i:Nat):Pt:=l.getD i (0,0)
def nC (l:List Pt) (i:Nat):Pt:=l.getD ((i+1) % l.length) (0,0)
theorem mF {l:List Pt} {i:Nat} (h:i < l.length):l.getD i (0,0)=l[i]:=by simp[List.getD,h]
theorem OG {l:List Pt} {i:Nat} (h:i < l.length):(nA l i,nB l i)∈ce l:=by
 have:=Nu l i h
 rw[nA,nB,mF h,mF (Nat.mod_lt _ (by omega))];exact this
theorem OF {l:List Pt} {i:Nat} (h:i < l.length):(nB l i,nC l i)∈ce l:=by
 have:=E8 l i h
 rw[nC,nB,mF h,mF (Nat.mod_lt _ (by omega))];exact this
theorem Dc {l:List Pt} (h:Sm l) (h4:3 < l.length) {i:Nat} (hi:i < l.length):
 ∃m,m≠ []∧l.drop i++l.take i=nB l i::nC l i::(m++[nA l i])∧l.drop (i+1)++l.take i=nC l i::m++[nA l i]:=by
 have e1:l=l.take i++l.drop i:=(List.take_append_drop i l).symm
 have e2:l.drop i=nB l i::l.drop (i+1):=by rw[nB,mF hi];exact List.drop_eq_getElem_cons hi
 have hs:Sm (l.drop i++l.take i):=by have:=h;rw[e1]at this;exact this.q9
 have r1:=OG hi
 have r2:=OF hi
 have t1:(nA l i,nB l i)∈ce (l.drop i++l.take i):=(bP _ _ _).1 (by rw[←e1];exact r1)
 have t2:(nB l i,nC l i)∈ce (l.drop i++l.take i):=(bP _ _ _).1 (by rw[←e1];exact r2)
 have hl:(l.drop i++l.take i).length=l.length:=by simp;omega
 obtain⟨b,c,m,a,e⟩:=three hs.n3
 rw[e]at hs t1 t2
 have eb:b=nB l i:=by rw[e2]at e;simp only[List.cons_append,List.cons.injEq]at e;exact e.1.symm
 subst eb
 have ea:=hs.pv (s':=a) t1 (by rw[eJ];simp)
 have ec:=hs.nx (t':=c) t2 (by rw[eJ];simp)
 refine⟨m,?_,?_,?_⟩
 · rintro rfl;rw[e]at hl;simp at hl;omega
 · rw[e, ←ea, ←ec]
 · rw[e2]at e;simp only[List.cons_append,List.cons.injEq,true_and]at e
   rw[e, ←ea, ←ec];rfl
theorem Good.ym {l1 l2:List Pt} (h:Good (l1++l2)):Good (l2++l1):=⟨h.sm.q9,by rw[qO];exact h.ar⟩
theorem Good.str {l:List Pt} (h:Good l) (h4:3 < l.length) {i:Nat} (hi:i < l.length) (e:cr (nA l i) (nB l i) (nC l i)=0):Good (l.take i++l.drop (i+1)):=by
 obtain⟨m,hm,e1,e2⟩:=Dc h.sm h4 hi
 refine Good.ym (l1:=l.drop (i+1)) ?_
 have g:Good (l.drop i++l.take i):=Good.ym (by rw[List.take_append_drop];exact h)
 rw[e1]at g
 rw[e2]
 have:=QI g.sm hm e
 exact⟨this.1,by rw[this.2];exact g.ar⟩
theorem Good.free {l:List Pt} (h:Good l) (h4:3 < l.length) {i:Nat} (hi:i < l.length) (e:0 < cr (nA l i) (nB l i) (nC l i))
 (hf: ∀q,q∈l→yM (nA l i) (nB l i) (nC l i) q→q=nA l i∨q=nB l i∨q=nC l i):Good (l.take i++l.drop (i+1)):=by
 obtain⟨m,hm,e1,e2⟩:=Dc h.sm h4 hi
 refine Good.ym (l1:=l.drop (i+1)) ?_
 have g:Good (l.drop i++l.take i):=Good.ym (by rw[List.take_append_drop];exact h)
 rw[e1]at g
 rw[e2]
 have hmem: ∀q,q∈nB l i::nC l i::(m++[nA l i])→q∈l:=fun q hq=>by
  rw[←e1]at hq
  have:=(List.perm_append_comm.mem_iff).1 hq
  rwa [List.take_append_drop]at this
 obtain⟨ct,s1,s2⟩:=Wc g.sm (zN g.sm g.ar) hm ⟨e,by simp,by simp,fun p hp=>hf p (hmem p hp)⟩
 exact⟨ct.sM,xV _ _ (Nat.le_refl _) ct.sM s1⟩
theorem Good.has {l:List Pt} (h:Good l): ∃i,i < l.length∧0 < cr (nA l i) (nB l i) (nC l i)∧
 ∀q,q∈l→yM (nA l i) (nB l i) (nC l i) q→q=nA l i∨q=nB l i∨q=nC l i:=by
 obtain⟨a,b,c,h1,h2,h3,h4⟩:=R5 h.sm (zN h.sm h.ar)
 obtain⟨i,hi,rfl⟩:=List.getElem_of_mem (pB h1).2
 have eb:nB l i=l[i]:=by rw[nB,mF hi]
 have ea:=h.sm.pv h1 (eb▸OG hi)
 have ec:=h.sm.nx h2 (eb▸OF hi)
 exact⟨i,hi,by rw[eb, ←ea, ←ec];exact h3,by rw[eb, ←ea, ←ec];exact h4⟩
end Go.aT.bn
end
section
namespace Go.aT.bn
def bx (a b p:Pt):Prop:=(min a.1 b.1≤p.1∧p.1≤max a.1 b.1)∧(min a.2 b.2≤p.2∧p.2≤max a.2 b.2)
def LF (a b p:Pt):Prop:=cr a b p=0∧bx a b p
def nZ (a b c d:Pt):Prop:=LF a b c∨LF a b d∨LF c d a∨LF c d b∨
 ((0 < cr a b c∧cr a b d < 0)∨(cr a b c < 0∧0 < cr a b d))∧((0 < cr c d a∧cr c d b < 0)∨(cr c d a < 0∧0 < cr c d b))
def zY (a b c:Pt):Prop:=cr a b c=0∧0 < (a.1 - b.1) * (c.1 - b.1)+(a.2 - b.2) * (c.2 - b.2)
theorem WL {i j n a b p:Int} (hi:0≤i) (hj:0≤j) (hn:0 < n) (e:i+j=n) (h:i * a+j * b=n * p):min a b≤p∧p≤max a b:=by
 constructor
 · rcases Int.lt_or_le p (min a b)with k|k
   · exfalso
     have p1:=Int.mul_nonneg hi (show 0≤a - (p+1) by omega)
     have p2:=Int.mul_nonneg hj (show 0≤b - (p+1) by omega)
     subst e;grind
   · exact k
 · rcases Int.lt_or_le (max a b) p with k|k
   · exfalso
     have p1:=Int.mul_nonneg hi (show 0≤(p - 1) - a by omega)
     have p2:=Int.mul_nonneg hj (show 0≤(p - 1) - b by omega)
     subst e;grind
   · exact k
theorem Gu {i j n:Int} {a b p:Pt} (hi:0≤i) (hj:0≤j) (hn:0 < n) (e:i+j=n) (h1:i * a.1+j * b.1=n * p.1) (h2:i * a.2+j * b.2=n * p.2):bx a b p:=
 ⟨WL hi hj hn e h1,WL hi hj hn e h2⟩
theorem SM {a b p:Pt} (h:cr a b p=0) (n:a.1≠b.1) (k1:min a.1 b.1≤p.1) (k2:p.1≤max a.1 b.1):bx a b p:=by
 simp only[cr]at h
 rcases Int.lt_or_gt_of_ne n with g|g
 · exact Gu (i:=b.1 - p.1) (j:=p.1 - a.1) (n:=b.1 - a.1) (by omega) (by omega) (by omega) (by omega) (by grind) (by grind)
 · exact Gu (i:=p.1 - b.1) (j:=a.1 - p.1) (n:=a.1 - b.1) (by omega) (by omega) (by omega) (by omega) (by grind) (by grind)
theorem Jv {i j k l a b c d:Int} (e:i+j=k+l) (hi:0 < i) (hj:0 < j) (hk:0 < k) (hl:0 < l) (h:i * a+j * b=k * c+l * d):
 (min a b≤c∧c≤max a b)∨(min a b≤d∧d≤max a b)∨(min c d≤a∧a≤max c d):=by
 by_cases c1:c < min a b∧d < min a b
 · exfalso
   have p1:=Int.mul_nonneg (Int.le_of_lt hi) (show 0≤a - min a b by omega)
   have p2:=Int.mul_nonneg (Int.le_of_lt hj) (show 0≤b - min a b by omega)
   have p3:=Int.mul_pos hk (show 0 < min a b - c by omega)
   have p4:=Int.mul_pos hl (show 0 < min a b - d by omega)
   have p5:(i+j) * min a b=(k+l) * min a b:=by rw[e]
   generalize min a b=m at *
   grind
 by_cases c2:max a b < c∧max a b < d
 · exfalso
   have p1:=Int.mul_nonneg (Int.le_of_lt hi) (show 0≤max a b - a by omega)
   have p2:=Int.mul_nonneg (Int.le_of_lt hj) (show 0≤max a b - b by omega)
   have p3:=Int.mul_pos hk (show 0 < c - max a b by omega)
   have p4:=Int.mul_pos hl (show 0 < d - max a b by omega)
   have p5:(i+j) * max a b=(k+l) * max a b:=by rw[e]
   generalize max a b=m at *
   grind
 omega
theorem xM {a b c d:Pt} (h:¬nZ a b c d) (n1:a≠b) (n2:c≠d) {i j k l:Int} (hi:0 < i) (hj:0 < j) (hk:0≤k) (hl:0≤l)
 (e1:i+j=k+l) (e2:i * a.1+j * b.1=k * c.1+l * d.1) (e3:i * a.2+j * b.2=k * c.2+l * d.2):False:=by
 apply h
 have C:=JJ e1 e2 e3 c d
 have Dd:=JJ e1 e2 e3 a b
 rw[kI c d,jw c d]at C
 rw[kI a b,jw a b]at Dd
 have dp:=Nh a b c d
 by_cases k0:k=0
 · subst k0
   have d2:cr a b d=0:=by rcases Int.mul_eq_zero.1 (show l * cr a b d=0 by omega)with g|g<;>omega
   exact .inr (.inl ⟨d2,Gu (n:=l) (Int.le_of_lt hi) (Int.le_of_lt hj) (by omega) (by omega) (by omega) (by omega)⟩)
 by_cases l0:l=0
 · subst l0
   have d1:cr a b c=0:=by rcases Int.mul_eq_zero.1 (show k * cr a b c=0 by omega)with g|g<;>omega
   exact .inl ⟨d1,Gu (n:=k) (Int.le_of_lt hi) (Int.le_of_lt hj) (by omega) (by omega) (by omega) (by omega)⟩
 have kp:0 < k:=by omega
 have lp:0 < l:=by omega
 have opp: ∀ (i j x y:Int),0 < i→0 < j→i * x+j * y=0→(0 < x∧y < 0)∨(x < 0∧0 < y)∨(x=0∧y=0):=by
  intro i j x y hi hj e
  rcases Int.lt_trichotomy x 0 with g|g|g<;>rcases Int.lt_trichotomy y 0 with f|f|f
  · have:=Int.mul_neg_of_pos_of_neg hi g;have:=Int.mul_neg_of_pos_of_neg hj f;omega
  · have:=Int.mul_neg_of_pos_of_neg hi g;rw[f]at e;omega
  · exact .inr (.inl ⟨g,f⟩)
  · have:=Int.mul_neg_of_pos_of_neg hj f;rw[g]at e;omega
  · exact .inr (.inr ⟨g,f⟩)
  · have:=Int.mul_pos hj f;rw[g]at e;omega
  · exact .inl ⟨g,f⟩
  · have:=Int.mul_pos hi g;rw[f]at e;omega
  · have:=Int.mul_pos hi g;have:=Int.mul_pos hj f;omega
 have o1:=opp i j (cr c d a) (cr c d b) hi hj (by omega)
 have o2:=opp k l (cr a b c) (cr a b d) kp lp (by omega)
 by_cases z:cr c d a=0
 · have z2:cr c d b=0:=by omega
   have z3:cr a b c=0:=by omega
   have z4:cr a b d=0:=by omega
   by_cases up:a.1=b.1
   · have nb:=fun k=>n1 (Prod.ext up k)
     have cx:c.1=a.1:=by
      have:(b.2 - a.2) * (c.1 - a.1)=0:=by simp only[cr,up]at z3;grind
      rcases Int.mul_eq_zero.1 this with g|g
      · exact absurd (by omega) nb
      · omega
     have dx:d.1=a.1:=by
      have:(b.2 - a.2) * (d.1 - a.1)=0:=by simp only[cr,up]at z4;grind
      rcases Int.mul_eq_zero.1 this with g|g
      · exact absurd (by omega) nb
      · omega
     rcases Jv e1 hi hj kp lp e3 with g|g|g
     · exact .inl ⟨z3,⟨by omega,g⟩⟩
     · exact .inr (.inl ⟨z4,⟨by omega,g⟩⟩)
     · exact .inr (.inr (.inl ⟨z,⟨by omega,g⟩⟩))
   · have up2:c.1≠d.1:=fun e=>by
      have nd:=fun k=>n2 (Prod.ext e k)
      have ax:a.1=c.1:=by
       have:(d.2 - c.2) * (a.1 - c.1)=0:=by simp only[cr,e]at z;grind
       rcases Int.mul_eq_zero.1 this with g|g
       · exact absurd (by omega) nd
       · omega
      have bx':b.1=c.1:=by
       have:(d.2 - c.2) * (b.1 - c.1)=0:=by simp only[cr,e]at z2;grind
       rcases Int.mul_eq_zero.1 this with g|g
       · exact absurd (by omega) nd
       · omega
      omega
     rcases Jv e1 hi hj kp lp e2 with g|g|g
     · exact .inl ⟨z3,SM z3 up g.1 g.2⟩
     · exact .inr (.inl ⟨z4,SM z4 up g.1 g.2⟩)
     · exact .inr (.inr (.inl ⟨z,SM z up2 g.1 g.2⟩))
 · have q1:(0 < cr c d a∧cr c d b < 0)∨(cr c d a < 0∧0 < cr c d b):=by omega
   have q2:(0 < cr a b c∧cr a b d < 0)∨(cr a b c < 0∧0 < cr a b d):=by
    rcases o2 with g|g|g
    · exact .inl g
    · exact .inr g
    · omega
   exact .inr (.inr (.inr (.inr ⟨q2,q1⟩)))
theorem JF {a b c d:Pt} (h:nZ a b c d):nZ c d a b:=by
 rcases h with h|h|h|h|⟨h1,h2⟩
 · exact .inr (.inr (.inl h))
 · exact .inr (.inr (.inr (.inl h)))
 · exact .inl h
 · exact .inr (.inl h)
 · exact .inr (.inr (.inr (.inr ⟨h2,h1⟩)))
theorem SE {a b c d:Pt} (h:¬nZ a b c d) (n1:a≠b) (n2:c≠d):Clean a b c d:=by
 intro i j k l hi hj hk hl e1 e2 e3
 by_cases g:i=0∨j=0
 · by_cases f:k=0∨l=0
   · exact⟨g,f⟩
   · exact(xM (fun m=>h (JF m)) n2 n1 (i:=k) (j:=l) (by omega) (by omega) hi hj e1.symm e2.symm e3.symm).elim
 · exact(xM h n1 n2 (by omega) (by omega) hk hl e1 e2 e3).elim
theorem SF {a b c:Pt} (h:¬zY a b c) (n1:a≠b) (n2:b≠c):Clean a b b c:=by
 intro i j k l hi hj hk hl e1 e2 e3
 by_cases i0:i=0
 · subst i0
   refine⟨.inl rfl, .inr ?_⟩
   by_cases l0:l=0
   · exact l0
   · exact absurd (jc (n:=l) (a:=b) (b:=c) l0 (by grind) (by grind)) n2
 by_cases l0:l=0
 · subst l0
   exact absurd (jc (n:=i) (a:=a) (b:=b) i0 (by grind) (by grind)) n1
 exfalso
 apply h
 have ip:0 < i:=by omega
 have lp:0 < l:=by omega
 have x1:i * (a.1 - b.1)=l * (c.1 - b.1):=by grind
 have x2:i * (a.2 - b.2)=l * (c.2 - b.2):=by grind
 constructor
 · have:i * cr a b c=0:=by simp only[cr];grind
   rcases Int.mul_eq_zero.1 this with g|g<;>omega
 · have q:l * ((a.1 - b.1) * (c.1 - b.1)+(a.2 - b.2) * (c.2 - b.2))=i * ((a.1 - b.1) * (a.1 - b.1)+(a.2 - b.2) * (a.2 - b.2)):=by grind
   refine cc lp q (Int.mul_pos ip ?_)
   have s1:0≤(a.1 - b.1) * (a.1 - b.1):=by
    rcases Int.le_total 0 (a.1 - b.1)with g|g
    · exact Int.mul_nonneg g g
    · exact Int.mul_nonneg_of_nonpos_of_nonpos g g
   have s2:0≤(a.2 - b.2) * (a.2 - b.2):=by
    rcases Int.le_total 0 (a.2 - b.2)with g|g
    · exact Int.mul_nonneg g g
    · exact Int.mul_nonneg_of_nonpos_of_nonpos g g
   by_cases z1:a.1=b.1
   · have z2:a.2 - b.2≠0:=fun k=>n1 (Prod.ext z1 (by omega))
     have:(a.2 - b.2) * (a.2 - b.2)≠0:=fun k=>by rcases Int.mul_eq_zero.1 k with g|g<;>exact z2 g
     omega
   · have:(a.1 - b.1) * (a.1 - b.1)≠0:=fun k=>by rcases Int.mul_eq_zero.1 k with g|g<;>exact z1 (by omega)
     omega
def gt (l:List Pt) (i:Nat):Pt:=l.getD (i % l.length) (0,0)
structure o5 (l:List Pt):Prop where
 nd:l.Nodup
 fo: ∀i,i < l.length→¬zY (gt l i) (gt l (i+1)) (gt l (i+2))
 me: ∀i k,i+2≤k→k < l.length→(k+1) % l.length≠i→¬nZ (gt l i) (gt l (i+1)) (gt l k) (gt l (k+1))
theorem uA {l:List Pt} {i:Nat} (h:i < l.length):gt l i=l[i]:=by simp[gt,Nat.mod_eq_of_lt h,List.getD,h]
theorem jW (l:List Pt) (i:Nat):gt l (i % l.length)=gt l i:=by simp only[gt,Nat.mod_mod]
theorem KP {l:List Pt} {i:Nat} (h:i < l.length):(gt l i,gt l (i+1))∈ce l:=by
 have:=E8 l i h
 rw[uA h,gt,mF (Nat.mod_lt _ (by omega))];exact this
theorem PB {l:List Pt} (hn:l.Nodup) {e:Pt×Pt} (h:e∈ce l): ∃i,i < l.length∧e=(gt l i,gt l (i+1)):=by
 obtain⟨s,t⟩:=e
 obtain⟨i,hi,rfl⟩:=List.getElem_of_mem (pB h).1
 have:=EA (by rw[xN];exact hn) h (by have:=KP hi;rw[uA hi]at this;exact this)
 exact⟨i,hi,by rw[uA hi,this]⟩
theorem X4 {l:List Pt} (hn:l.Nodup) {i j:Nat} (hi:i < l.length) (hj:j < l.length) (h:i≠j):gt l i≠gt l j:=by
 rw[uA hi,uA hj]
 intro e
 exact h ((List.getElem_inj hn).1 e)
theorem o5.sm {l:List Pt} (h:o5 l) (h3:3≤l.length):Sm l:=by
 have nx: ∀i,i < l.length→gt l i≠gt l (i+1):=fun i hi=>by
  rw[←jW l (i+1)]
  refine X4 h.nd hi (Nat.mod_lt _ (by omega)) ?_
  rcases Nat.lt_or_ge (i+1) l.length with k|k
  · rw[Nat.mod_eq_of_lt k];omega
  · have:i+1=l.length:=by omega
    rw[this,Nat.mod_self];omega
 have adj: ∀i,i < l.length→Clean (gt l i) (gt l (i+1)) (gt l (i+1)) (gt l (i+2)):=fun i hi=>by
  refine SF (h.fo i hi) (nx i hi) ?_
  have:=nx ((i+1) % l.length) (Nat.mod_lt _ (by omega))
  rw[jW]at this
  have e:gt l ((i+1) % l.length+1)=gt l (i+2):=by
   rw[←jW l ((i+1) % l.length+1),Nat.mod_add_mod,jW]
  rw[e]at this
  exact this
 have lt: ∀i k,i < k→k < l.length→Clean (gt l i) (gt l (i+1)) (gt l k) (gt l (k+1)):=fun i k hik hk=>by
  by_cases e:k=i+1
  · subst e;exact adj i (by omega)
  by_cases f:(k+1) % l.length=i
  · have g:=adj k hk
    have e1:gt l (k+1)=gt l i:=by rw[←jW l (k+1),f]
    have e2:gt l (k+2)=gt l (i+1):=by
     rw[←jW l (k+2), ←jW l (i+1), ←f,Nat.mod_add_mod]
    rw[e1,e2]at g
    rw[e1];exact g.symm
  · exact SE (h.me i k (by omega) hk f) (nx i (by omega)) (nx k hk)
 refine⟨h.nd,h3,fun e he f hf hne=>?_⟩
 obtain⟨i,hi,rfl⟩:=PB h.nd he
 obtain⟨k,hk,rfl⟩:=PB h.nd hf
 rcases Nat.lt_trichotomy i k with g|g|g
 · exact lt i k g hk
 · subst g;exact absurd rfl hne
 · exact(lt k i g hi).symm
def tQ (P:List Pt) (b:Pt):Prop:= ∃a c,(a,b)∈ce P∧(b,c)∈ce P∧cr a b c=0
theorem tQ.q9 {l1 l2:List Pt} {b:Pt}:tQ (l1++l2) b↔tQ (l2++l1) b:=by
 constructor<;>rintro⟨a,c,h1,h2,h3⟩<;>exact⟨a,c,(bP _ _ _).1 h1,(bP _ _ _).1 h2,h3⟩
theorem Qv {b c:Pt} {m:List Pt} {a:Pt} (sm:Sm (b::c::(m++[a]))) (hm:m≠ []) (e:cr a b c=0) (x:Pt) (hx:x≠b):
 tQ (b::c::(m++[a])) x↔tQ (c::m++[a]) x:=by
 have d:=OE sm.nd
 obtain⟨p,q,hp,hq,e1,e2⟩:=Gx sm.Yv d.1 d.2.1 d.2.2 e
 have Oo:=(QI sm hm e).1
 have c1:ce (b::c::(m++[a]))=(b,c)::(pe (c::(m++[a]))++[(a,b)]):=eJ b c m a
 have c2:ce (c::m++[a])=pe (c::(m++[a]))++[(a,c)]:=by have:=eI c m a;simpa using this
 have hmul: ∀u v w:Int,0 < u→u * v=w * u→v=w:=fun u v w hu h=>Int.eq_of_mul_eq_mul_left (a:=u) (by omega) (by rw[h,Int.mul_comm])
 have kc: ∀z,(p+q) * cr b c z=p * cr a c z:=fun z=>by simp only[cr];grind
 have ka: ∀y,(p+q) * cr y a b=q * cr y a c:=fun y=>by simp only[cr];grind
 have zc: ∀z,cr b c z=0↔cr a c z=0:=fun z=>by
  have:=kc z
  constructor
  · intro h;rw[h]at this;rcases Int.mul_eq_zero.1 (show p * cr a c z=0 by omega)with g|g<;>omega
  · intro h;rw[h]at this;rcases Int.mul_eq_zero.1 (show(p+q) * cr b c z=0 by omega)with g|g<;>omega
 have za: ∀y,cr y a b=0↔cr y a c=0:=fun y=>by
  have:=ka y
  constructor
  · intro h;rw[h]at this;rcases Int.mul_eq_zero.1 (show q * cr y a c=0 by omega)with g|g<;>omega
  · intro h;rw[h]at this;rcases Int.mul_eq_zero.1 (show(p+q) * cr y a b=0 by omega)with g|g<;>omega
 have nb:b∉c::(m++[a]):=(List.nodup_cons.1 sm.nd).1
 have hab:(a,b)∈ce (b::c::(m++[a])):=by rw[c1];simp
 have hbc:(b,c)∈ce (b::c::(m++[a])):=by rw[c1];simp
 have hac:(a,c)∈ce (c::m++[a]):=by rw[c2];simp
 have old: ∀f,f∈pe (c::(m++[a]))→f∈ce (b::c::(m++[a])):=fun f hf=>by rw[c1];simp[hf]
 have new: ∀f,f∈pe (c::(m++[a]))→f∈ce (c::m++[a]):=fun f hf=>by rw[c2];simp[hf]
 constructor
 · rintro⟨y,z,h1,h2,h3⟩
   rw[c1]at h1 h2
   simp only[List.mem_cons,List.mem_append,List.mem_nil_iff,or_false,Prod.mk.injEq]at h1 h2
   rcases h1 with⟨k1,k2⟩|k|⟨k1,k2⟩
   ·
    subst k1 k2
    rcases h2 with⟨k1,_⟩|k|⟨_,k2⟩
    · exact absurd k1 hx
    · exact⟨a,z,hac,new _ k,(zc z).1 h3⟩
    · rename_i k0
      exact absurd k0.symm d.2.2
   · rcases h2 with⟨k1,_⟩|k'|⟨k1,k2⟩
     · exact absurd k1 hx
     · exact⟨y,z,new _ k,new _ k',h3⟩
     · subst k1 k2
       exact⟨y,c,new _ k,hac,(za y).1 h3⟩
   · exact absurd k2 hx
 · rintro⟨y,z,h1,h2,h3⟩
   rw[c2]at h1 h2
   simp only[List.mem_cons,List.mem_append,List.mem_nil_iff,or_false,Prod.mk.injEq]at h1 h2
   rcases h1 with k|⟨k1,k2⟩
   · rcases h2 with k'|⟨k1,k2⟩
     · exact⟨y,z,old _ k,old _ k',h3⟩
     · subst k1 k2
       exact⟨y,b,old _ k,hab,(za y).2 h3⟩
   · subst k1 k2
     rcases h2 with k'|⟨k1,_⟩
     · exact⟨b,z,hbc,old _ k',(zc z).2 h3⟩
     · exact absurd k1.symm d.2.2
open Classical in
theorem KD: ∀ (n:Nat) (P:List Pt),P.length≤n→Sm P→Sm (P.filter fun b=>¬tQ P b)∧ar (P.filter fun b=>¬tQ P b)=ar P
 |0,P,hn,h=>by have:=h.n3;omega
 |n+1,P,hn,h=>by
  by_cases hs: ∃b,b∈P∧tQ P b
  · obtain⟨b,hb,hst⟩:=hs
    have Xk:=hst
    obtain⟨a,c,hab,hbc,e⟩:=hst
    obtain⟨l1,l2,hP⟩:=List.append_of_mem hb
    have Rx:Sm (b::l2++l1):=by have:=h;rw[hP]at this;exact this.q9
    obtain⟨b',c',m,a',e3⟩:=three Rx.n3
    have eb:b'=b:=by simp only[List.cons_append,List.cons.injEq]at e3;exact e3.1.symm
    subst eb
    have hs':=Rx
    rw[e3]at hs'
    have r1:(a,b')∈ce (b'::c'::(m++[a'])):=by rw[←e3];exact(bP _ _ _).1 (by rw[←hP];exact hab)
    have r2:(b',c)∈ce (b'::c'::(m++[a'])):=by rw[←e3];exact(bP _ _ _).1 (by rw[←hP];exact hbc)
    have ea:=hs'.pv (s':=a') r1 (by rw[eJ];simp)
    have ec:=hs'.nx (t':=c') r2 (by rw[eJ];simp)
    subst ea ec
    have hm:m≠ []:=by
     rintro rfl
     have k:=PF hs'
     rw[List.nil_append,KZ]at k
     exact k e
    have e4:l2++l1=c::m++[a]:=by simp only[List.cons_append,List.cons.injEq,true_and]at e3;rw[e3];rfl
    obtain⟨s1,s2⟩:=QI hs' hm e
    have sr:=Qv hs' hm e
    rw[←e4]at s1 s2 sr
    have s1':Sm (l1++l2):=s1.q9
    have nb:b'∉l1++l2:=by
     have:=Rx.nd
     simp only[List.cons_append,List.nodup_cons,List.mem_append]at this⊢
     exact fun k=>this.1 k.symm
    have ih:=KD n (l1++l2) (by rw[hP]at hn;simp at hn⊢;omega) s1'
    have ef:(P.filter fun b=>¬tQ P b)=(l1++l2).filter fun b=>¬tQ (l1++l2) b:=by
     have k1: ∀x,x∈l1++l2→(tQ P x↔tQ (l1++l2) x):=fun x hx=>by
      have:=sr x (fun k=>nb (by rw[←k];exact hx))
      rw[hP,tQ.q9,e3,this,tQ.q9]
     rw[hP]
     rw[hP]at k1 Xk
     simp only[List.filter_append,List.filter_cons,Xk,not_true_eq_false,decide_false,Bool.false_eq_true,if_false]
     rw[List.filter_congr (l:=l1) (fun x hx=>by rw[k1 x (List.mem_append_left _ hx)]),List.filter_congr (l:=l2) (fun x hx=>by rw[k1 x (List.mem_append_right _ hx)])]
    rw[ef]
    refine⟨ih.1,?_⟩
    rw[ih.2,qO,s2, ←e3, ←qO, ←hP]
  · have:P.filter (fun b=>¬tQ P b)=P:=List.filter_eq_self.2 (fun x hx=>by
     have:¬tQ P x:=fun k=>hs ⟨x,hx,k⟩
     simp[this])
    rw[this]
    exact⟨h,rfl⟩
theorem QF {P:List Pt} (h:Sm P):Sm P.reverse∧ar P.reverse= - ar P:=by
 cases P with
 |nil=>have:=h.n3;simp at this
 |cons a r=>
  rw[List.reverse_cons]
  have k:=h.rev
  refine⟨Sm.q9 (l1:=[a]) k,?_⟩
  rw[qO]
  exact K3 a r
theorem exF (P:List Pt): ∃f:Pt→Bool, ∀b,f b=true↔¬tQ P b:=by
 refine⟨fun b=> @decide (¬tQ P b) (Classical.propDecidable _),fun b=>?_⟩
 simp
theorem Yl {P:List Pt} (h:Sm P) {f:Pt→Bool} (hf: ∀b,f b=true↔¬tQ P b):Sm (P.filter f)∧ar (P.filter f)=ar P:=by
 have:=KD _ P (Nat.le_refl _) h
 refine(congrArg (fun l=>Sm l∧ar l=ar P) (List.filter_congr (fun x _=>?_))).mpr this
 have:=hf x
 by_cases k:tQ P x<;>simp[k]at this⊢ <;>exact this
theorem Om {P:List Pt} (h:Sm P) {i:Nat} (hi:i < P.length):tQ P (gt P i)↔cr (gt P (i+P.length - 1)) (gt P i) (gt P (i+1))=0:=by
 have e2:=KP hi
 have e1:(gt P (i+P.length - 1),gt P i)∈ce P:=by
  have k:=KP (l:=P) (i:=(i+P.length - 1) % P.length) (Nat.mod_lt _ (by omega))
  rw[jW]at k
  have:gt P ((i+P.length - 1) % P.length+1)=gt P i:=by
   rw[←jW P ((i+P.length - 1) % P.length+1),Nat.mod_add_mod,show i+P.length - 1+1=i+P.length by omega,Nat.add_mod_right,jW]
  rw[this]at k;exact k
 constructor
 · rintro⟨a,c,h1,h2,h3⟩
   rw[←h.pv h1 e1, ←h.nx h2 e2];exact h3
 · intro k;exact⟨_,_,e1,e2,k⟩
end Go.aT.bn
end
section
namespace Go.aT.Cd
open Go Go.Proofs
set_option maxRecDepth 100000
theorem mb {x y:Int} (h1: -2097152≤x) (h2:x≤2097152) (h3: -2097152≤y) (h4:y≤2097152): -4398046511104≤x * y∧x * y≤4398046511104:=by
 have p1:=Int.mul_nonneg (show 0≤2097152 - x by omega) (show 0≤2097152+y by omega)
 have p2:=Int.mul_nonneg (show 0≤2097152+x by omega) (show 0≤2097152 - y by omega)
 have p3:=Int.mul_nonneg (show 0≤2097152 - x by omega) (show 0≤2097152 - y by omega)
 have p4:=Int.mul_nonneg (show 0≤2097152+x by omega) (show 0≤2097152+y by omega)
 have e1:(2097152 - x) * (2097152+y)=4398046511104+2097152 * y - 2097152 * x - x * y:=by grind
 have e2:(2097152+x) * (2097152 - y)=4398046511104 - 2097152 * y+2097152 * x - x * y:=by grind
 have e3:(2097152 - x) * (2097152 - y)=4398046511104 - 2097152 * y - 2097152 * x+x * y:=by grind
 have e4:(2097152+x) * (2097152+y)=4398046511104+2097152 * y+2097152 * x+x * y:=by grind
 omega
theorem crW {a b c:Sp} (ha:gJ a) (hb:gJ b) (hc:gJ c):IntKind.i64.wrap (IntKind.i64.wrap (IntKind.i64.wrap (b.1 - a.1) * IntKind.i64.wrap (c.2 - a.2)) - IntKind.i64.wrap (IntKind.i64.wrap (b.2 - a.2) * IntKind.i64.wrap (c.1 - a.1)))=bn.cr a b c:=by
 simp only[gJ]at ha hb hc
 have h1:=mb (x:=b.1 - a.1) (y:=c.2 - a.2) (by omega) (by omega) (by omega) (by omega)
 have h2:=mb (x:=b.2 - a.2) (y:=c.1 - a.1) (by omega) (by omega) (by omega) (by omega)
 rw[aa (n:=b.1 - a.1) (by omega) (by omega),aa (n:=c.2 - a.2) (by omega) (by omega),aa (n:=b.2 - a.2) (by omega) (by omega),aa (n:=c.1 - a.1) (by omega) (by omega),aa (n:=(b.1 - a.1) * (c.2 - a.2)) (by omega) (by omega),aa (n:=(b.2 - a.2) * (c.1 - a.1)) (by omega) (by omega),aa (by omega) (by omega)]
 rfl
theorem xK (a b c:Sp) (ha:gJ a) (hb:gJ b) (hc:gJ c): ∃ts,Fn Tryz.prog 140 [eo a,eo b,eo c] [] (aL ts) []∧(aL ts).bL=true∧kZ (fun n=>n=bn.cr a b c) ts:=by
 refine ah Tryz.func140 ?_
 repeat' (conv=>whnf
          first
  |exact gi rfl rfl (crW ha hb hc))
 all_goals (conv=>whnf)
theorem Zi (a b c:Sp) (ha:gJ a) (hb:gJ b) (hc:gJ c): ∃ts,Fn Tryz.prog 141 [eo a,eo b,eo c] [] (aL ts) []∧(aL ts).bL=true∧ze (bn.LF a b c) ts:=by
 refine ah Tryz.func141 ?_
 repeat' (conv=>whnf
          first
  |(refine au (fun h=>?_) (fun h=>?_))
  |(refine ai rfl (xK (_,_) (_,_) (_,_) ha hb hc) ?_;rintro _ ⟨n,rfl,hn⟩)
  |(refine tv rfl rfl ?_;have hn:n=bn.cr a b c:=hn;simp only[bn.LF,bn.bx];clear ha hb hc;first|(refine iff_of_false (by decide) ?_;omega)|(rw[decide_eq_true_eq];omega)))
 all_goals (conv=>whnf)
theorem DO (a b:Int): ∃ts,Fn Tryz.prog 65 [oI a,oI b] [] (aL ts) []∧(aL ts).bL=true∧kZ (fun n=>(-1≤n∧n≤1)∧(n < 0↔a < b)∧(n=0↔a=b)) ts:=by
 refine ah Tryz.func65 ?_
 repeat' (conv=>whnf
          first
  |(refine au (fun h=>?_) (fun h=>?_))
  |(refine aF (fun h=>?_) (fun h=>?_))
  |(refine ai rfl (EF _) ?_;rintro _ ⟨c,rfl,hc⟩)
  |(first|(refine gi rfl rfl ?_;omega)|(exfalso;simp_all;done)))
 all_goals (conv=>whnf)
def Th (a b c d:Sp):Prop:=(0 < bn.cr a b c∧bn.cr a b d < 0)∨(bn.cr a b c < 0∧0 < bn.cr a b d)
theorem acX {s t m n:Int} (h1:(-1≤s∧s≤1)∧(s < 0↔m < 0)∧(s=0↔m=0)) (h2:(-1≤t∧t≤1)∧(t < 0↔n < 0)∧(t=0↔n=0)):decide (IntKind.i64.wrap (s * t) < 0)=true↔(0 < m∧n < 0)∨(m < 0∧0 < n):=by
 rw[decide_eq_true_eq]
 have k1:s= -1∨s=0∨s=1:=by omega
 have k2:t= -1∨t=0∨t=1:=by omega
 rcases k1 with rfl|rfl|rfl<;>rcases k2 with rfl|rfl|rfl<;>rw[aa (by decide) (by decide)]<;>omega
theorem FT (a b c d:Sp) (ha:gJ a) (hb:gJ b) (hc:gJ c) (hd:gJ d): ∃ts,Fn Tryz.prog 142 [eo a,eo b,eo c,eo d] [] (aL ts) []∧(aL ts).bL=true∧ze (Th a b c d) ts:=by
 refine ah Tryz.func142 ?_
 repeat' (conv=>whnf
          first
  |(refine And.intro (by kernel_rfl) ?_)
  |(refine aC rfl (xK (_,_) (_,_) (_,_) ha hb hc) ?_;rintro _ ⟨n,rfl,rfl⟩)
  |(refine aC rfl (xK (_,_) (_,_) (_,_) ha hb hd) ?_;rintro _ ⟨m,rfl,rfl⟩)
  |(refine aC rfl (DO (bn.cr (a.1,a.2) (b.1,b.2) (c.1,c.2)) _) ?_;rintro _ ⟨s,rfl,hs⟩)
  |(refine aC rfl (DO _ _) ?_;rintro _ ⟨t,rfl,ht⟩)
  |exact tv rfl rfl (acX hs ht))
 all_goals (conv=>whnf)
theorem X7 {a b c:Sp} (ha:gJ a) (hb:gJ b) (hc:gJ c):IntKind.i64.wrap (IntKind.i64.wrap (IntKind.i64.wrap (a.1 - b.1) * IntKind.i64.wrap (c.1 - b.1))+IntKind.i64.wrap (IntKind.i64.wrap (a.2 - b.2) * IntKind.i64.wrap (c.2 - b.2)))=(a.1 - b.1) * (c.1 - b.1)+(a.2 - b.2) * (c.2 - b.2):=by
 simp only[gJ]at ha hb hc
 have h1:=mb (x:=a.1 - b.1) (y:=c.1 - b.1) (by omega) (by omega) (by omega) (by omega)
 have h2:=mb (x:=a.2 - b.2) (y:=c.2 - b.2) (by omega) (by omega) (by omega) (by omega)
 rw[aa (n:=a.1 - b.1) (by omega) (by omega),aa (n:=c.1 - b.1) (by omega) (by omega),aa (n:=a.2 - b.2) (by omega) (by omega),aa (n:=c.2 - b.2) (by omega) (by omega),aa (n:=(a.1 - b.1) * (c.1 - b.1)) (by omega) (by omega),aa (n:=(a.2 - b.2) * (c.2 - b.2)) (by omega) (by omega),aa (by omega) (by omega)]
theorem X8 {a b c:Sp} {n:Int} (ha:gJ a) (hb:gJ b) (hc:gJ c) (hn:n=bn.cr a b c) (h:n=0):decide (IntKind.i64.wrap (IntKind.i64.wrap (IntKind.i64.wrap (a.1 - b.1) * IntKind.i64.wrap (c.1 - b.1))+IntKind.i64.wrap (IntKind.i64.wrap (a.2 - b.2) * IntKind.i64.wrap (c.2 - b.2))) > 0)=true↔bn.zY a b c:=by
 rw[X7 ha hb hc,decide_eq_true_eq]
 exact⟨fun g=>⟨by omega,g⟩,fun g=>g.2⟩
theorem M7 (a b c:Sp) (ha:gJ a) (hb:gJ b) (hc:gJ c): ∃ts,Fn Tryz.prog 107 [eo a,eo b,eo c] [] (aL ts) []∧(aL ts).bL=true∧ze (bn.zY a b c) ts:=by
 refine ah Tryz.func107 ?_
 repeat' (conv=>whnf
          first
  |(refine au (fun h=>?_) (fun h=>?_))
  |(refine ai rfl (xK (_,_) (_,_) (_,_) ha hb hc) ?_;rintro _ ⟨n,rfl,hn⟩)
  |exact tv rfl rfl (X8 ha hb hc hn (by assumption))
  |exact tv rfl rfl (iff_of_false (by decide) (fun g=>absurd (hn.trans g.1) (by assumption))))
 all_goals (conv=>whnf)
theorem JG {a b c d:Sp} {b1 b2 b3 b4:Bool} (h1:b1=true↔bn.LF a b c) (h2:b2=true↔bn.LF a b d) (h3:b3=true↔bn.LF c d a) (h4:b4=true↔bn.LF c d b) (n1:b1=false) (n2:b2=false) (n3:b3=false) (n4:b4=false):
 bn.nZ a b c d↔Th a b c d∧Th c d a b:=by
 subst n1 n2 n3 n4
 constructor
 · rintro(h|h|h|h|h)
   · exact absurd (h1.2 h) (by decide)
   · exact absurd (h2.2 h) (by decide)
   · exact absurd (h3.2 h) (by decide)
   · exact absurd (h4.2 h) (by decide)
   · exact h
 · exact fun h=> .inr (.inr (.inr (.inr h)))
theorem WN (a b c d:Sp) (ha:gJ a) (hb:gJ b) (hc:gJ c) (hd:gJ d): ∃ts,Fn Tryz.prog 108 [eo a,eo b,eo c,eo d] [] (aL ts) []∧(aL ts).bL=true∧ze (bn.nZ a b c d) ts:=by
 refine ah Tryz.func108 ?_
 repeat' (conv=>whnf
          first
  |(refine aF (fun h=>?_) (fun h=>?_))
  |(refine ai rfl (Zi (_,_) (_,_) (_,_) ha hb hc) ?_;rintro _ ⟨b1,rfl,h1⟩)
  |(refine ai rfl (Zi (_,_) (_,_) (_,_) ha hb hd) ?_;rintro _ ⟨b2,rfl,h2⟩)
  |(refine ai rfl (Zi (_,_) (_,_) (_,_) hc hd ha) ?_;rintro _ ⟨b3,rfl,h3⟩)
  |(refine ai rfl (Zi (_,_) (_,_) (_,_) hc hd hb) ?_;rintro _ ⟨b4,rfl,h4⟩)
  |(refine ai rfl (FT (_,_) (_,_) (_,_) (_,_) ha hb hc hd) ?_;rintro _ ⟨b5,rfl,h5⟩)
  |(refine ai rfl (FT (_,_) (_,_) (_,_) (_,_) hc hd ha hb) ?_;rintro _ ⟨b6,rfl,h6⟩)
  |exact tv rfl rfl (iff_of_true rfl (.inl (h1.1 (by assumption))))
  |exact tv rfl rfl (iff_of_true rfl (.inr (.inl (h2.1 (by assumption)))))
  |exact tv rfl rfl (iff_of_true rfl (.inr (.inr (.inl (h3.1 (by assumption))))))
  |exact tv rfl rfl (iff_of_true rfl (.inr (.inr (.inr (.inl (h4.1 (by assumption)))))))
  |exact tv rfl rfl ((iff_of_false (by decide) (fun g=>absurd (h5.2 ((JG h1 h2 h3 h4 (by assumption) (by assumption) (by assumption) (by assumption)).1 g).1) (by simp_all;done))))
  |exact tv rfl rfl ⟨fun g=>(JG h1 h2 h3 h4 (by assumption) (by assumption) (by assumption) (by assumption)).2 ⟨h5.1 (by assumption),h6.1 g⟩,fun g=>h6.2 ((JG h1 h2 h3 h4 (by assumption) (by assumption) (by assumption) (by assumption)).1 g).2⟩)
 all_goals (conv=>whnf)
def pt (e:List T):Sp:=match e with
 | [.val (.int _ a), .val (.int _ b)]=>(a,b)
 |_=>(0,0)
def pts (xs:Lz):List Sp:=xs.map pt
end Go.aT.Cd
end
