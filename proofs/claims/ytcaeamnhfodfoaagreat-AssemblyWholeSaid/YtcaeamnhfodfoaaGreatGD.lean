import Derived.Test.YtcaeamnhfodfoaaGreatGC
import Derived.Maps.RangeRun
set_option linter.all false
section
namespace Go.aR.Cd
open Go Go.Proofs
set_option maxRecDepth 100000
set_option maxHeartbeats 1000000
theorem run_pure {n ctr:Nat} {ty:TypeId} {op:Op} {tm:TS} {hp:HS} {v:V} (h: ∀o:Oper,o.op=op→o.type=ty→bc Tryz.prog (St.get ⟨n,tm,hp⟩) o=some v):ja Tryz.prog n op ty tm hp ctr v hp:=by
 intro o h1 h2 M A ρ a w hr
 exact iA (st:=⟨n,tm,hp⟩) (h o h1 h2) hr (fun id bG=>by simp only[bg]at *;omega)
theorem uI:Tryz.prog.underlying 3=some (.int .i64):=by kernel_rfl
theorem uF:Tryz.prog.underlying 344=some (.float .f64):=by kernel_rfl
abbrev oF (x:Nat):W:= .one (.t (.val (.float .f64 x)))
theorem U5 {n ctr t:Nat} {ty:TypeId} {k:Int} {tm:TS} {hp:HS} {K:V→HS→Prop} (h:find tm t=some (iV .i64 k)) (hk:K (.w (oF (FloatKind.f64.nearest k))) hp):
 ∃v hp',ja Tryz.prog n (.convert 3 344 (.tmp t)) ty tm hp ctr v hp'∧K v hp':=by
 refine⟨_,_,run_pure ?_,hk⟩
 rintro⟨dst',op',ty',pos',after',guard'⟩ rfl rfl
 have hg:St.get ⟨n,tm,hp⟩ (.tmp t)=iV .i64 k:=by simp[St.get,h]
 simp[bc,gn,Op.operands,hg,V.val?,W.val?,C.val?,execOp,convert,aJ,aN uI,aN uF,Conv.intToFloat,aG,V.ofValue]
theorem U6 {n ctr t x:Nat} {ty:TypeId} {r:Int} {tm:TS} {hp:HS} {K:V→HS→Prop} (h:find tm t=some (.w (oF x))) (hr:(FloatKind.f64.decode x).toInt .zero=some r) (h0:0≤r) (h1:r≤4294967296) (hk:K (iV .i64 r) hp):
 ∃v hp',ja Tryz.prog n (.convert 344 3 (.tmp t)) ty tm hp ctr v hp'∧K v hp':=by
 refine⟨_,_,run_pure ?_,hk⟩
 rintro⟨dst',op',ty',pos',after',guard'⟩ rfl rfl
 have hg:St.get ⟨n,tm,hp⟩ (.tmp t)= .w (oF x):=by simp[St.get,h]
 have hmin:IntKind.i64.min≤r∧r≤IntKind.i64.max:=by
  have e1:IntKind.i64.min= -9223372036854775808:=by decide
  have e2:IntKind.i64.max=9223372036854775807:=by decide
  omega
 have hle:r≤9223372036854775807:=by omega
 simp[bc,gn,Op.operands,hg,V.val?,W.val?,C.val?,execOp,convert,aJ,aN uI,aN uF,Conv.floatToInt,hr,hmin,if_pos hle,aG,V.ofValue]
theorem EM:Extern.findNext Tryz.f228=none∧(Tryz.f228.name== "runtime.NumGoroutine")=false∧Tryz.f228.body.isNone=true:=⟨by kernel_rfl,by kernel_rfl,by kernel_rfl⟩
theorem MG:Extern.find Tryz.f228=some Go.Extern.MathSqrt.sqrt:=by kernel_rfl
theorem LO {x r:Nat} (hr:FloatKind.f64.format.sqrt x=some r):aI Tryz.prog (callFunc 228 #[.float .f64 x])=some (.value (.float .f64 r)):=by
 have h1:Tryz.prog.funcs[228]? =some Tryz.f228:=Tryz.func228
 have hs:Go.Extern.MathSqrt.sqrt #[.float .f64 x]=pure (.float .f64 r):=by
  change (match FloatKind.f64.format.sqrt x with
   |some r=>(pure (.float .f64 r):Sem Value)
   |none=>do pure (.float .f64 (←choose (.nanBits .f64 x x))))=_
  rw[hr]
 have hn:¬Tryz.f228.name= "runtime.NumGoroutine" :=by simpa using EM.2.1
 have hb:Tryz.f228.body=none:=by simpa using EM.2.2
 simp[callFunc,aJ,program,aI,h1,EM.1,MG,hs,aG,hn,hb,dw,mark]
theorem OW {n ctr t x r:Nat} {ty:TypeId} {tm:TS} {hp:HS} {K:V→HS→Prop} (h:find tm t=some (.w (oF x))) (hr:FloatKind.f64.format.sqrt x=some r) (hk:K (.w (oF r)) hp):
 ∃v hp',ja Tryz.prog n (.call ⟨.value (.func 228), #[.tmp t], #[344]⟩) ty tm hp ctr v hp'∧K v hp':=by
 refine⟨_,_,run_pure ?_,hk⟩
 rintro⟨dst',op',ty',pos',after',guard'⟩ rfl rfl
 have hg:St.get ⟨n,tm,hp⟩ (.tmp t)= .w (oF x):=by simp[St.get,h]
 have hf:St.get ⟨n,tm,hp⟩ (.func 228)= .w (.one (.t (.val (.func (.func 228) #[] #[])))):=rfl
 have hp1:=LO hr
 simp[bc,gn,Op.operands,Call.operands,hg,hf,V.val?,W.val?,C.val?,execOp,resolve,invoke,Deferred.ofValue,aJ,aG,hp1,V.ofValue]
end Go.aR.Cd
end
section
namespace Go.aR.Cd
open Go Go.Proofs
set_option maxRecDepth 100000
set_option maxHeartbeats 1000000
theorem G6 (x r:Nat) (hr:FloatKind.f64.format.sqrt x=some r): ∃ts,Fn Tryz.prog 209 [oF x] [] (aO ts) []∧(aO ts).cV=true∧(fun ts=>ts=[oF r]) ts:=by
 refine aH ?_
 refine ae Tryz.func209 ?_
 repeat' (conv=>whnf
          first
  |(refine OW rfl hr ?_)
  |exact ov rfl (bN rfl) rfl)
 all_goals (conv=>whnf)
theorem D8 {r n:Int} (h0:0≤r) (h1:r≤4294967296) (hn:0≤n) (h:IntKind.i64.wrap (r * r) > n):1≤r:=by
 rcases Int.lt_or_le 0 r with hr|hr
 · omega
 · have:r=0:=by omega
   subst this
   rw[bi (by omega) (by omega)]at h
   omega
theorem D7 {r n:Int} (h0:0≤r) (h1:r≤1073741824) (hn:n≤1125899906842624) (h:IntKind.i64.wrap (IntKind.i64.wrap (r+1) * IntKind.i64.wrap (r+1))≤n):r+1≤33554432:=by
 rw[bi (n:=r+1) (by omega) (by omega)]at h
 have hb:=Ji (k:=r+1) (s:=r+1) (B:=1073741825) (C:=1073741825) (by omega) (by omega) (by omega) (by omega) (by omega)
 rw[bi (by omega) (by omega)]at h
 apply Int.not_lt.1
 intro hlt
 have h3:(33554433:Int) * 33554433≤(r+1) * (r+1):=Int.mul_le_mul (by omega) (by omega) (by omega) (by omega)
 omega
theorem IY {r n:Int} (h0:0≤r) (hn:1≤n) (h:¬IntKind.i64.wrap (IntKind.i64.wrap (r+1) * IntKind.i64.wrap (r+1))≤n):1≤r:=by
 rcases Int.lt_or_le 0 r with hr|hr
 · omega
 · have:r=0:=by omega
   subst this
   exfalso
   apply h
   have e:IntKind.i64.wrap (IntKind.i64.wrap (0+1) * IntKind.i64.wrap (0+1))=1:=by decide
   rw[e];exact hn
theorem xC (n:Int) (h0:0≤n) (h1:n≤1125899906842624):Tg 187 [oI n] (mS (fun r=>(0≤r∧r≤1073741824)∧(1≤n→1≤r))):=by
 obtain⟨sq,hsq,W7⟩:=GC (n:=n.natAbs) (by rw[show(2:Nat) ^ 53=9007199254740992 by decide];omega)
 obtain⟨r0,hr,wC,tF⟩:=Jr W7
 have hneg:decide (n < 0)=false:=by simp;omega
 have afR:FloatKind.f64.format.sqrt (FloatKind.f64.nearest n)=some sq:=by(unfold FloatKind.nearest;rw[hneg];exact hsq)
 refine ae Tryz.func187 ?_
 repeat' (conv=>whnf
          first
  |(refine az (fun h=>?_) (fun h=>?_))
  |(refine U5 rfl ?_)
  |(have gi:=D8 Zb (by omega) h0 h;clear h)
  |(have JL:=D7 hrc hrd h1 h;clear h)
  |(refine ag rfl (G6 _ sq afR) ?_;rintro _ rfl)
  |(refine U6 rfl hr wC (by omega) ?_)
  |exact iH rfl rfl ⟨⟨hrc,hrd⟩,fun hn=>IY hrc hn h⟩
  |(apply aL [0,3] [] [3] (fun m vs=> ∃r:Int,0≤r∧r≤1073741824∧m=(1073741824 - r).toNat∧vs=[iV .i64 r]) ((1073741824 - r).toNat) [iV .i64 r];(conv=>whnf);exact⟨rfl,rfl,rfl,rfl⟩;exact rfl;exact rfl;exact⟨r,Zb,hrb,rfl,rfl⟩;rintro _ _ ⟨r2,hrc,hrd,rfl,rfl⟩)
  |(refine aj [0,3] [] ?_;(conv=>whnf);exact⟨rfl,_,[_],⟨r2+1,by omega,by omega,rfl,by rw[bi (by omega) (by omega)]⟩,rfl,rfl,rfl,by omega⟩)
  |(apply aL [0,3] [] [3] (fun m vs=> ∃r:Int,0≤r∧r≤1073741824∧m=r.toNat∧vs=[iV .i64 r]) (r0.toNat) [iV .i64 r0];(conv=>whnf);exact⟨rfl,rfl,rfl,rfl⟩;exact rfl;exact rfl;exact⟨r0,wC,tF,rfl,rfl⟩;rintro _ _ ⟨r,Zb,hrb,rfl,rfl⟩)
  |(refine aj [0,3] [] ?_;(conv=>whnf);exact⟨rfl,_,[_],⟨r - 1,by omega,by omega,rfl,by rw[bi (by omega) (by omega)]⟩,rfl,rfl,rfl,by omega⟩))
 all_goals (conv=>whnf)
end Go.aR.Cd
end
section
namespace Go.aR.Cd
open Go Go.Proofs
set_option maxRecDepth 100000
set_option maxHeartbeats 1000000
def Wd (e:List T):Prop:= ∃w,e=[tI w]∧0≤w∧w≤500
abbrev M7 (xs:Lz):Prop:= ∀e,e∈xs→Wd e
theorem M7.snoc {xs:Lz} (h:M7 xs) {w:Int} (h0:0≤w) (h1:w≤500):M7 (xs++[[tI w]]):=by
 intro e he
 simp only[List.mem_append,List.mem_singleton]at he
 rcases he with he|rfl
 · exact h e he
 · exact⟨w,rfl,h0,h1⟩
def ZS (es:Lz) (m:Nat) (ws:List V) (xss:List (Lz)):Prop:= ∃ (i:Nat) (zs:Lz),i≤es.length∧m=es.length - i∧ws=[bn 4 1 zs.length,iV .i64 (i:Int)]∧xss=[zs]∧zs.length=iG (es.take i)∧M7 zs
def ZT (N L:Nat) (m:Nat) (ws:List V) (xss:List (Lz)):Prop:= ∃ (j:Nat) (zs:Lz),j≤L∧m=L - j∧ws=[bn 4 1 zs.length,iV .i64 (j:Int)]∧xss=[zs]∧zs.length=N+j∧M7 zs
theorem Vw {xs:Lz} {j:Nat} (hL:eK xs) (hj:(j:Int) < IntKind.i64.wrap ((xs.length:Int) - 1)):j < xs.length - 1:=by
 have a:=hL.1
 have b:=hL.2.1
 rw[bi (by omega) (by omega)]at hj
 omega
theorem ZT.next {N L j k:Nat} {zs:Lz} {w:Int} {xs:Lz} (hL:eK xs) (hl:L=xs.length - 1) (hj:j < xs.length - 1) (hz:zs.length=N+j) (hW:M7 zs) (h0:0≤w) (h1:w≤500) (hk:k=zs.length+1):ZT N L (L - (j+1)) [bn 4 1 k,iV .i64 (IntKind.i64.wrap ((j:Int)+1))] [zs++[[tI w]]]:=by
 have a:=hL.1
 have b:=hL.2.1
 exact⟨j+1,_,by omega,rfl,by rw[bi (by omega) (by omega),hk];simp,rfl,by simp;omega,hW.snoc h0 h1⟩
theorem ZS.next {es zs xs:Lz} {i j:Nat} {s:ByteArray} (hi:(i:Int) < (es.length:Int)) (he:es.length≤16) (hs:es[((i:Int)).toNat]? =some [.val (.string s), .aA 2 xs]) (hL:eK xs) (hz:zs.length=iG (es.take i)+j) (hW:M7 zs) (hj:j≤xs.length - 1) (hx:¬ (j:Int) < IntKind.i64.wrap ((xs.length:Int) - 1)):ZS es (es.length - (i+1)) [bn 4 1 zs.length,iV .i64 (IntKind.i64.wrap ((i:Int)+1))] [zs]:=by
 have a:=hL.1
 have b:=hL.2.1
 rw[bi (n:=(xs.length:Int) - 1) (by omega) (by omega)]at hx
 refine⟨i+1,zs,by omega,rfl,by rw[bi (by omega) (by omega)];rfl,rfl,?_,hW⟩
 rw[zy (by simpa using hs)]
 simp only[ln]
 omega
theorem gY (es ws:Lz) (he: ∀e,e∈es→DG e) (hl:es.length≤16) (hw:M7 ws) (BT:ws.length=es.length):Tg 166 [oL 2 es,oL 1 ws] (GL 1 (fun zs=>zs.length=iG es∧M7 zs)):=by
 refine aH ?_
 refine ae Tryz.func166 ?_
 repeat' (conv=>whnf
          first
  |(refine az (fun h=>?_) (fun h=>?_))
  |(refine ak he (by omega) (by omega) ?_;rintro _ ⟨s,xs,rfl,hL⟩ hs)
  |(have Td:=Vw hL h;clear h)
  |(refine ak hw (by omega) (by omega) ?_;rintro _ ⟨w,rfl,K4,BU⟩ hsw)
  |(refine And.intro ⟨by simp[tr],by have:=sy he i hl;have:=hL.2.1;simp[tr,aT];omega,by have:=sy he i hl;have:=hL.2.1;simp[tr,maxLen];omega⟩ ?_)
  |exact ov rfl (eO rfl rfl (xs:=zs) rfl (by omega)) ⟨_,rfl,by rw[Gi];exact⟨by rw[List.take_of_length_le (by omega)]at hz;exact hz,hW⟩⟩
  |(apply aS [1,5,6,8,9,10,18,19] [] [5,19] [(4,1)] (ZT (iG (es.take i)) (xs.length - 1)) (xs.length - 1) [bn 4 1 zs.length,iV .i64 0];(conv=>whnf);exact⟨rfl,rfl,rfl,rfl⟩;exact rfl;exact rfl;exact .cons (av.au (xs:=zs) rfl _) .nil;exact⟨0,zs,by omega,rfl,rfl,rfl,by omega,hW⟩;rintro _ _ _ ⟨j,xQ,hj,rfl,rfl,rfl,tE,hW2⟩)
  |(refine aj [1,5,6,8,9,10,18,19] [] ?_;(conv=>whnf);exact⟨rfl,_,[_,_],_, .cons (av.au (av.snoc (xs:=xQ) rfl [tI _]) _) .nil,ZT.next hL rfl Td tE hW2 K4 BU (by simp[tr]),rfl,rfl,by omega⟩)
  |(apply dI [1,5,8,9,10] [] [5,10] [(4,1)] (ZS es) (es.length) [bn 4 1 0,iV .i64 0] (dL.iL 5 1 rfl);(conv=>whnf);exact⟨rfl,rfl,rfl,rfl⟩;exact rfl;exact rfl;exact .cons (av.au av.nil _) .nil;exact⟨0,[],by omega,rfl,rfl,rfl,by simp[iG],(fun e he=>by simp at he)⟩;rintro _ _ _ ⟨i,zs,hi,rfl,rfl,rfl,hz,hW⟩)
  |(refine aj [1,5,8,9,10] [] ?_;(conv=>whnf);exact⟨rfl,_,[_,_],_, .cons (av.au (xs:=xQ) rfl _) .nil,ZS.next (by omega) hl hs hL tE hW2 hj h,rfl,rfl,by omega⟩))
 all_goals (conv=>whnf)
theorem KV (a b:Int):Tg 65 [oI a,oI b] (mS (fun n=> -1≤n∧n≤1)):=by
 refine ae Tryz.func65 ?_
 repeat' (conv=>whnf
          first
  |(refine az (fun h=>?_) (fun h=>?_))
  |(refine aF (fun h=>?_) (fun h=>?_))
  |(refine ag rfl (Jo _) ?_;rintro _ ⟨c,rfl,hc⟩)
  |(refine iH rfl rfl ?_;omega))
 all_goals (conv=>whnf)
theorem fa (xs:Lz) (hx:bY xs) (hl:xs.length≤1000000):Tg 170 [oL 2 xs] (mS (fun n=> -1≤n∧n≤1)):=by
 refine ae Tryz.func170 ?_
 repeat' (conv=>whnf
          first
  |(refine ag rfl (yg xs hx hl) ?_;rintro _ ⟨n,rfl⟩)
  |(refine ag rfl (KV _ _) ?_;rintro _ ⟨c,rfl,hc⟩)
  |exact iH rfl rfl hc)
 all_goals (conv=>whnf)
theorem uV (s:Sp):Tg 190 [iP s] (TD 2):=by
 refine aH ?_
 refine ae Tryz.func190 ?_
 repeat' (conv=>whnf
          first
  |(refine ag rfl (I4 _ _) ?_;rintro _ ⟨b,xs,ds,c,ys,es,rfl,h1,h2⟩)
  |exact ov rfl (bD OG NM rfl rfl (Nat.le_refl _) rfl (cM.refl _)) ⟨_,xs,ds,_,ys,es,rfl,h1,h2⟩)
 all_goals (conv=>whnf)
end Go.aR.Cd
end
section
namespace Go.aR.Cd
open Go Go.Proofs
set_option maxRecDepth 100000
set_option maxHeartbeats 1000000
def No (ws:Lz) (i:Nat):Prop:= ∀j e,j < i→ws[j]? =some e→Wd e
theorem No.all {ws:Lz} {i:Nat} (h:No ws i) (hi:ws.length≤i): ∀e,e∈ws→Wd e:=by
 intro e he
 obtain⟨j,hj,rfl⟩:=List.getElem_of_mem he
 exact h j _ (by omega) (by simp[hj])
def ZN (ws:Lz) (m:Nat) (vs:List V):Prop:= ∃i:Nat,i≤ws.length∧No ws i∧m=ws.length - i∧vs=[iV .i64 (i:Int)]
theorem ZN.next {ws:Lz} {i:Nat} {w:Int} (hi:(i:Int) < (ws.length:Int)) (hl:ws.length≤maxLen) (h:No ws i) (hs:ws[((i:Int)).toNat]? =some [tI w]) (h0:0≤w) (h1:w≤500):ZN ws (ws.length - (i+1)) [iV .i64 (IntKind.i64.wrap ((i:Int)+1))]:=by
 refine⟨i+1,by omega,fun j e hj he=>?_,rfl,by simp only[maxLen]at hl;rw[bi (by omega) (by omega)];rfl⟩
 by_cases fK:j=i
 · subst fK
   have hs':ws[j]? =some [tI w]:=by simpa using hs
   rw[hs']at he
   exact⟨w,(Option.some.inj he).symm,h0,h1⟩
 · exact h j e (by omega) he
theorem kU {es vs:Lz} (h:vs=ia es∧tZ es):bY vs∧(3≤vs.length∧vs.length≤40)∧Il vs vs.length∧(∀e,e∈vs→NC e)∧vs.length=iG es:=by
 obtain⟨rfl,h1,h2,⟨⟨h3,h4,h5⟩,h6⟩,h7⟩:=h
 exact⟨fun e he=>by obtain⟨a,b,r,_⟩:=h5 e he;exact⟨a,b,r⟩,⟨h3,h4⟩,h6,h5,h7⟩
theorem CB {xs:Lz} {i j:Nat} {e:List T} (hi:xs[i]? =some e) (hij:i < j):e∈xs.take j:=
 List.mem_of_getElem? (i:=i) (by rw[List.getElem?_take,if_pos hij];exact hi)
theorem RS {xs:Lz} (h:Il xs xs.length) {i j:Nat} {e e':List T} (hi:xs[i]? =some e) (hj:xs[j]? =some e') (hij:i≠j):e≠e':=by
 rintro rfl
 have zH:=(List.getElem?_eq_some_iff.1 hi).1
 have yw:=(List.getElem?_eq_some_iff.1 hj).1
 rcases Nat.lt_or_gt_of_ne hij with hlt|hlt
 · exact h j e yw hj (CB hi hlt)
 · exact h i e zH hi (CB hj hlt)
theorem V2 {i N:Nat} (hi:(i:Int) < (N:Int)) (hN:2≤N) (hb:N≤1000000):((i:Int)).toNat≠ ((IntKind.i64.wrap ((i:Int)+1)).tmod (N:Int)).toNat:=by
 rw[bi (by omega) (by omega)]
 by_cases h:(i:Int)+1 < (N:Int)
 · rw[Int.tmod_eq_of_lt (by omega) h];omega
 · have e:(i:Int)+1=(N:Int):=by omega
   rw[e,Int.tmod_self];omega
theorem NX {vs:Lz} {i:Nat} {a b c d:Int} (h:Il vs vs.length) (hi:(i:Int) < (vs.length:Int)) (hN:3≤vs.length∧vs.length≤40) (h1:vs[((i:Int)).toNat]? =some [tI a,tI b]) (h2:vs[((IntKind.i64.wrap ((i:Int)+1)).tmod (vs.length:Int)).toNat]? =some [tI c,tI d]):a≠c∨b≠d:=by
 have:=RS h h1 h2 (V2 hi (by omega) (by omega))
 by_cases hac:a=c
 · by_cases hbd:b=d
   · subst hac;subst hbd;exact absurd rfl this
   · exact .inr hbd
 · exact .inl hac
theorem sqr {x:Int} (h1: -2097152≤x) (h2:x≤2097152):0≤x * x∧x * x≤4398046511104∧(x≠0→1≤x * x):=by
 have:=G5 (m:=x) (s:=x) (B:=2097152) (C:=2097152) h1 h2 h1 h2 (by omega)
 have e:((x.natAbs * x.natAbs:Nat):Int)=x * x:=Int.natAbs_mul_self
 refine⟨by omega,by omega,fun hx=>?_⟩
 have:0 < x.natAbs * x.natAbs:=Nat.mul_pos (by omega) (by omega)
 omega
theorem Fy {a b c d:Int} (h1:H6 (a,b)) (h2:H6 (c,d)):0≤IntKind.i64.wrap (IntKind.i64.wrap (IntKind.i64.wrap (c - a) * IntKind.i64.wrap (c - a))+IntKind.i64.wrap (IntKind.i64.wrap (d - b) * IntKind.i64.wrap (d - b)))∧
 IntKind.i64.wrap (IntKind.i64.wrap (IntKind.i64.wrap (c - a) * IntKind.i64.wrap (c - a))+IntKind.i64.wrap (IntKind.i64.wrap (d - b) * IntKind.i64.wrap (d - b)))≤1125899906842624∧
 (a≠c∨b≠d→1≤IntKind.i64.wrap (IntKind.i64.wrap (IntKind.i64.wrap (c - a) * IntKind.i64.wrap (c - a))+IntKind.i64.wrap (IntKind.i64.wrap (d - b) * IntKind.i64.wrap (d - b)))):=by
 obtain⟨⟨a1,a2⟩,b1,b2⟩:=h1
 obtain⟨⟨c1,c2⟩,d1,d2⟩:=h2
 simp only at a1 a2 b1 b2 c1 c2 d1 d2
 rw[bi (n:=c - a) (by omega) (by omega),bi (n:=d - b) (by omega) (by omega)]
 have e1:=sqr (x:=c - a) (by omega) (by omega)
 have e2:=sqr (x:=d - b) (by omega) (by omega)
 rw[bi (n:=(c - a) * (c - a)) (by omega) (by omega),bi (n:=(d - b) * (d - b)) (by omega) (by omega),bi (by omega) (by omega)]
 refine⟨by omega,by omega,fun h=>?_⟩
 rcases h with h|h
 · have:=e1.2.2 (by omega);omega
 · have:=e2.2.2 (by omega);omega
theorem NO {a b c d s w:Int} (hs: -1≤s∧s≤1) (K4:0≤w) (BU:w≤500) (h1:H6 (a,b)) (h2:H6 (c,d)): -1000000000000000≤IntKind.i64.wrap (IntKind.i64.wrap (s * w) * IntKind.i64.wrap (d - b))∧
 -1000000000000000≤IntKind.i64.wrap (IntKind.i64.wrap (0 - IntKind.i64.wrap (s * w)) * IntKind.i64.wrap (c - a)):=by
 obtain⟨⟨a1,a2⟩,b1,b2⟩:=h1
 obtain⟨⟨c1,c2⟩,d1,d2⟩:=h2
 simp only at a1 a2 b1 b2 c1 c2 d1 d2
 have e:=G5 (m:=s) (s:=w) (B:=500) (C:=1) hs.1 hs.2 (by omega) BU (by omega)
 rw[bi (n:=c - a) (by omega) (by omega),bi (n:=d - b) (by omega) (by omega),bi (n:=s * w) (by omega) (by omega),bi (n:=0 - s * w) (by omega) (by omega)]
 have e1:=G5 (m:=s * w) (s:=d - b) (B:=2097152) (C:=500) (by omega) (by omega) (by omega) (by omega) (by omega)
 have e2:=G5 (m:=0 - s * w) (s:=c - a) (B:=2097152) (C:=500) (by omega) (by omega) (by omega) (by omega) (by omega)
 rw[bi (by omega) (by omega),bi (by omega) (by omega)]
 omega
theorem bY.set {xs:Lz} (h:bY xs) (j:Nat) (a b:Int):bY (xs.set j [tI a,tI b]):=by
 intro e he
 rcases List.mem_or_eq_of_mem_set he with he|rfl
 · exact h e he
 · exact⟨a,b,rfl⟩
theorem bY.I0 (n:Nat):bY (List.replicate n [tI 0,tI 0]):=by
 intro e he
 obtain⟨_,rfl⟩:=List.mem_replicate.1 he
 exact⟨0,0,rfl⟩
theorem bY.snoc {xs:Lz} (h:bY xs) (a b:Int):bY (xs++[[tI a,tI b]]):=by
 intro e he
 simp only[List.mem_append,List.mem_singleton]at he
 rcases he with he|rfl
 · exact h e he
 · exact⟨a,b,rfl⟩
theorem dS {zs:Lz} {n:Nat} (h:n=zs.length):(zs.drop 0).take n=zs:=by subst h;simp
def ZV (N:Nat) (m:Nat) (vs:List V) (xss:List (Lz)):Prop:= ∃ (i:Nat) (zs:Lz),i≤N∧m=N - i∧vs=[iV .i64 (i:Int)]∧xss=[zs]∧zs.length=N∧bY zs
theorem ZV.next {N i j:Nat} {zs:Lz} {a b:Int} (h:(i:Int) < (N:Int)) (hN:N≤1000000) (hl:zs.length=N) (hU:bY zs):ZV N (N - (i+1)) [iV .i64 (IntKind.i64.wrap ((i:Int)+1))] [zs.set j [tI a,tI b]]:=
 ⟨i+1,_,by omega,rfl,by rw[bi (by omega) (by omega)];rfl,rfl,by simp[hl],hU.set j a b⟩
theorem s0 (es ws:Lz) (he:kq es) (hm:es.length≤maxLen) (hw:Is ws) (BT:ws.length≤maxLen):Tg 164 [oL 2 es,oL 1 ws] (Li 2 (fun ss=>(bY ss∧ss.length=iG es)∧tZ es∧(∀e,e∈ws→Wd e)∧ws.length=es.length)):=by
 refine aH ?_
 refine ae Tryz.func164 ?_
 repeat' (conv=>whnf
          first
  |(refine az (fun h=>?_) (fun h=>?_))
  |(refine bC (fun h=>?_) (fun h=>?_))
  |(refine ak (xs:=vs) (n:=(i:Int)) (kU (hP (by omega))).2.2.2.1 (by omega) (by omega) ?_;rintro _ ⟨a,b,rfl,Tl⟩ hs1)
  |(refine ak (xs:=vs) (kU (hP (by omega))).2.2.2.1 (cE (by have:=(kU (hP (by omega))).2.1;rw[bi (by omega) (by omega)];omega)) (cq (by have:=(kU (hP (by omega))).2.1;omega)) ?_;rintro _ ⟨c,d,rfl,Tk⟩ bP)
  |(refine ak (xs:=ws) hw (by omega) (by omega) ?_;rintro _ ⟨w,rfl⟩ hs)
  |(refine ak (xs:=ys) hyW (by omega) (by have:=(kU (hP (by omega))).2.2.2.2;omega) ?_;rintro _ ⟨w2,rfl,K4,BU⟩ hsw)
  |(refine And.intro ⟨by omega,by omega,by have:=(kU (hP (by omega))).2.1;omega,by have:=(kU (hP (by omega))).2.1;omega⟩ ?_)
  |(refine And.intro (show((vs.length:Nat):Int)≠0 by have:=(kU (hP (by omega))).2.1;omega) ?_)
  |(refine And.intro ⟨by omega,by omega⟩ ?_)
  |(refine And.intro (by kernel_rfl) ?_)
  |(refine ag rfl (mN es he hm) ?_;rintro _ ⟨vs,e,rfl,hP⟩)
  |(refine ag rfl (fa vs (kU (hP (by omega))).1 (by have:=(kU (hP (by omega))).2.1;omega)) ?_;rintro _ ⟨sg,rfl,WN⟩)
  |(refine ag rfl (gY es ws (hP (by omega)).2.2.1 (hP (by omega)).2.1.2 (hp.all (by omega)) (by omega)) ?_;rintro _ ⟨ys,rfl,jT,hyW⟩)
  |(refine bM (xs:=zs) rfl hU (by omega) ?_;rintro _ ⟨x,y,rfl⟩ Hp)
  |(refine ag rfl (xC _ (Fy Tl Tk).1 (Fy Tl Tk).2.1) ?_;rintro _ ⟨r,rfl,hr,tF⟩)
  |(refine ag rfl (kO _ _ (NO WN K4 BU Tl Tk).1 (by have:=tF ((Fy Tl Tk).2.2 (NX (kU (hP (by omega))).2.2.1 (by omega) (kU (hP (by omega))).2.1 hs1 bP));omega) (by omega)) ?_;rintro _ ⟨n,rfl⟩)
  |(refine ag rfl (kO _ _ (NO WN K4 BU Tl Tk).2 (by have:=tF ((Fy Tl Tk).2.2 (NX (kU (hP (by omega))).2.2.1 (by omega) (kU (hP (by omega))).2.1 hs1 bP));omega) (by omega)) ?_;rintro _ ⟨n,rfl⟩)
  |exact dh rfl (bJ 2 rfl) (bN rfl) ⟨_,_,rfl,fun h0=>absurd h0 (by omega)⟩
  |exact dh rfl (eO rfl rfl (xs:=zs) rfl (by omega)) (bN rfl) ⟨_,_,rfl,fun _=>by rw[dS (by omega)];exact⟨⟨hU,by have:=(kU (hP (by omega))).2.2.2.2;omega⟩,(hP (by omega)).2,hp.all (by omega),by omega⟩⟩
  |(apply aS [6,10,11,12,54,55,56] [] [56] [(4,2)] (ZV vs.length) (vs.length) [iV .i64 0];(conv=>whnf);exact⟨rfl,rfl,rfl,rfl⟩;exact rfl;exact rfl;exact .cons (av.au (av.replicate _ [tI 0,tI 0]) _) .nil;exact⟨0,_,by omega,rfl,rfl,rfl,by simp,bY.I0 _⟩;rintro _ _ _ ⟨i,zs,hi,rfl,rfl,rfl,hz,hU⟩)
  |(refine aj [6,10,11,12,54,55,56] [] ?_;(conv=>whnf);exact⟨rfl,_,[_],_, .cons (av.au (av.set (xs:=zs) rfl _ [tI _,tI _]) _) .nil,ZV.next (by omega) (by have:=(kU (hP (by omega))).2.1;omega) hz hU,rfl,rfl,by omega⟩)
  |(apply aL [0,1,6,33,34,35] [] [35] (ZN ws) (ws.length) [iV .i64 0];(conv=>whnf);exact⟨rfl,rfl,rfl,rfl⟩;exact rfl;exact rfl;exact⟨0,by omega,fun j e hj=>by omega,rfl,rfl⟩;rintro _ _ ⟨i,hi,hp,rfl,rfl⟩)
  |(refine aj [0,1,6,33,34,35] [] ?_;(conv=>whnf);exact⟨rfl,_,[_],ZN.next (by omega) BT hp hs (by omega) (by omega),rfl,rfl,rfl,by omega⟩))
 all_goals (conv=>whnf)
abbrev VZ (a b:Sp) (w:Int):W:= .agg [.t (tI a.1), .t (tI a.2), .t (tI b.1), .t (tI b.2), .t (tI w)]
theorem adH (a b:Int):bY ((([[tI a,tI b]]:Lz).drop 0).take 1):=by
 intro e he
 simp at he
 exact⟨a,b,he⟩
theorem adG (a b c d:Int):bY ((([[tI a,tI b],[tI c,tI d]]:Lz).drop 0).take 2):=by
 intro e he
 simp at he
 rcases he with he|he
 · exact⟨a,b,he⟩
 · exact⟨c,d,he⟩
theorem sZ (v a1 a2 b1 b2:Sp) (wa wb:Int):Tg 168 [iP v,VZ a1 a2 wa,VZ b1 b2 wb] (GL 2 (fun ps=>bY ps∧ps.length≤2)):=by
 refine aH ?_
 refine ae Tryz.func168 ?_
 repeat' (conv=>whnf
          first
  |(refine az (fun h=>?_) (fun h=>?_))
  |(refine aF (fun h=>?_) (fun h=>?_))
  |(refine And.intro (by kernel_rfl) ?_)
  |(refine aB rfl (uV (_,_)) ?_;rintro _ ⟨b,xs,ds,c,ys,es,rfl,h1,h2⟩)
  |(refine aB rfl (Ec _ _ _ _ _ _ _ _ _ _ _ _ _ _ _ _ _ _ _ _ _ _ _ _ (by assumption) (by assumption) (by assumption) (by assumption) (by assumption) (by assumption) (by assumption) (by assumption)) ?_;rintro _ ⟨b,xs,ds,c,ys,es,n,rfl,h1,h2⟩)
  |(refine aB rfl (lD 341 _ _ _ _ _ _ _ _ _ _ _ _ (by assumption) (by assumption) (iv (k:=2) (by assumption) (by omega)) (iv (k:=2) (by assumption) (by omega)) (by omega) (by omega)) ?_;rintro _ ⟨b,xs,ds,c,ys,es,rfl,h1,h2⟩)
  |(refine aB rfl (Ed 683 _ _ _ _ _ _ (by assumption) (by assumption) (by omega) (by omega)) ?_;rintro _ ⟨⟨x,y⟩,n,rfl⟩)
  |(refine ag rfl (lR (_,_) _) ?_;rintro _ ⟨q,rfl⟩)
  |(refine ag rfl (pw (_,_) (_,_)) ?_;rintro _ ⟨x,y,rfl,_⟩)
  |exact ov rfl (eO rfl rfl (xs:=[[tI _,tI _]]) rfl (by simp)) ⟨_,rfl,adH _ _,by simp⟩
  |exact ov rfl (eO rfl rfl (xs:=[[tI _,tI _],[tI _,tI _]]) rfl (by simp)) ⟨_,rfl,adG _ _ _ _,by simp⟩)
 all_goals (conv=>whnf)
end Go.aR.Cd
end
section
namespace Go.aR.Cd
open Go Go.Proofs
set_option maxRecDepth 100000
set_option maxHeartbeats 2000000
def Sg (e:List T):Prop:= ∃a b c d w,e=[tI a,tI b,tI c,tI d,tI w]
abbrev OL (xs:Lz):Prop:= ∀e,e∈xs→Sg e
theorem OL.set {xs:Lz} (h:OL xs) (j:Nat) (a b c d w:Int):OL (xs.set j [tI a,tI b,tI c,tI d,tI w]):=by
 intro e he
 rcases List.mem_or_eq_of_mem_set he with he|rfl
 · exact h e he
 · exact⟨a,b,c,d,w,rfl⟩
theorem OL.I0 (n:Nat):OL (List.replicate n [tI 0,tI 0,tI 0,tI 0,tI 0]):=by
 intro e he
 obtain⟨_,rfl⟩:=List.mem_replicate.1 he
 exact⟨0,0,0,0,0,rfl⟩
def ZU (N:Nat) (m:Nat) (vs:List V) (xss:List (Lz)):Prop:= ∃ (i:Nat) (zs:Lz),i≤N∧m=N - i∧vs=[iV .i64 (i:Int)]∧xss=[zs]∧zs.length=N∧OL zs
theorem ZU.next {N i j:Nat} {zs:Lz} {a b c d w:Int} (h:(i:Int) < (N:Int)) (hN:N≤1000000) (hl:zs.length=N) (hU:OL zs):ZU N (N - (i+1)) [iV .i64 (IntKind.i64.wrap ((i:Int)+1))] [zs.set j [tI a,tI b,tI c,tI d,tI w]]:=
 ⟨i+1,_,by omega,rfl,by rw[bi (by omega) (by omega)];rfl,rfl,by simp[hl],hU.set j a b c d w⟩
def ZX (zs:Lz) (N:Nat) (m:Nat) (ws:List V) (xss:List (Lz)):Prop:= ∃ (i:Nat) (ps:Lz),i≤N∧m=N - i∧ws=[bn 8 2 ps.length,iV .i64 (i:Int)]∧xss=[zs,ps]∧ps.length≤2 * i∧bY ps
theorem ZX.next {N i:Nat} {zs ps:Lz} (h:(i:Int) < (N:Int)) (hN:N≤1000000) (hp:ps.length≤2 * (i+1)) (hS:bY ps):ZX zs N (N - (i+1)) [bn 8 2 ps.length,iV .i64 (IntKind.i64.wrap ((i:Int)+1))] [zs,ps]:=
 ⟨i+1,_,by omega,rfl,by rw[bi (by omega) (by omega)];rfl,rfl,hp,hS⟩
def Sw (zs:Lz) (b L:Nat) (m:Nat) (ws:List V) (xss:List (Lz)):Prop:= ∃ (j:Nat) (ps:Lz),j≤L∧m=L - j∧ws=[bn 8 2 ps.length,iV .i64 (j:Int)]∧xss=[zs,ps]∧ps.length≤b+j∧bY ps
theorem Sw.same {b L j:Nat} {zs ps:Lz} (h:(j:Int) < (L:Int)) (hL:L≤2) (hp:ps.length≤b+j) (hS:bY ps):Sw zs b L (L - (j+1)) [bn 8 2 ps.length,iV .i64 (IntKind.i64.wrap ((j:Int)+1))] [zs,ps]:=
 ⟨j+1,_,by omega,rfl,by rw[bi (by omega) (by omega)];rfl,rfl,by omega,hS⟩
theorem Sw.Gh {b L j k:Nat} {zs ps:Lz} {x y:Int} (h:(j:Int) < (L:Int)) (hL:L≤2) (hp:ps.length≤b+j) (hS:bY ps) (hk:k=ps.length+1):Sw zs b L (L - (j+1)) [bn 8 2 k,iV .i64 (IntKind.i64.wrap ((j:Int)+1))] [zs,ps++[[tI x,tI y]]]:=
 ⟨j+1,_,by omega,rfl,by rw[bi (by omega) (by omega),hk];simp,rfl,by simp;omega,hS.snoc x y⟩
def ZQ (ps:Lz) (m:Nat) (vs:List V) (xss:List (Lz)):Prop:= ∃k:Nat,k≤ps.length∧m=k∧vs=[bn 4 2 k]∧xss=[ps]
theorem ZQ.next {ps:Lz} {k:Nat} (hk:k≤ps.length) (h2:(k:Int)≥2) (hb:ps.length≤1000):ZQ ps (k - 1) [bn 4 2 ((IntKind.i64.wrap ((k:Int) - 1)).toNat - 0)] [ps]:=by
 have e:(IntKind.i64.wrap ((k:Int) - 1)).toNat - 0=k - 1:=by rw[bi (by omega) (by omega)];omega
 rw[e]
 exact⟨k - 1,by omega,rfl,rfl,rfl⟩
def ZZ (ps:Lz) (k:Nat) (m:Nat) (vs:List V) (xss:List (Lz)):Prop:= ∃i:Nat,i≤k∧m=k - i∧vs=[iV .i64 (i:Int)]∧xss=[ps]
theorem ZZ.next {ps:Lz} {i k:Nat} (h:(i:Int) < (k:Int)) (hk:k≤1000):ZZ ps k (k - (i+1)) [iV .i64 (IntKind.i64.wrap ((i:Int)+1))] [ps]:=
 ⟨i+1,by omega,rfl,by rw[bi (by omega) (by omega)];rfl,rfl⟩
theorem N2 {hp:HS} {id sz len:Nat} {rows:List (List C)} {xs:Lz} (hf:find hp id=some (.row sz rows)) (hR:av rows xs) (hl:len≤xs.length):bE (bI hp) [.one (.own id sz 0 len)]=some [.one (.t (.aA sz (xs.take len)))]:=by
 have:=kI (hp:=hp) (i:=0) hf hR (by omega:0+len≤xs.length)
 simp only[bE,this]
 simp
theorem bY.take {xs:Lz} (h:bY xs) (n:Nat):bY (xs.take n):=fun e he=>h e (List.mem_of_mem_take he)
theorem Fu {xs:Lz} {n B:Nat} (h:xs.length≤B):(xs.take n).length≤B:=by simp;omega
theorem O6 {i N:Nat} (hN:1≤N) (hb:N≤1000000) (hi:i < N):0≤(IntKind.i64.wrap (IntKind.i64.wrap ((i:Int)+(N:Int)) - 1)).tmod (N:Int)∧(IntKind.i64.wrap (IntKind.i64.wrap ((i:Int)+(N:Int)) - 1)).tmod (N:Int) < (N:Int):=
 ⟨cE (by rw[bi (n:=(i:Int)+(N:Int)) (by omega) (by omega),bi (by omega) (by omega)];omega),cq (by omega)⟩
theorem rI {es vs:Lz} (h:vs=ia es∧tZ es):(3≤vs.length∧vs.length≤40)∧vs.length=iG es:=⟨(kU h).2.1,(kU h).2.2.2.2⟩
theorem uW (es ws:Lz) (he:kq es) (hm:es.length≤maxLen) (hw:Is ws) (BT:ws.length≤maxLen):Tg 135 [oL 2 es,oL 1 ws] (Li 2 xG):=by
 refine aH ?_
 refine ae Tryz.func135 ?_
 repeat' (conv=>whnf
          first
  |(refine az (fun h=>?_) (fun h=>?_))
  |(refine bC (fun h=>?_) (fun h=>?_))
  |(refine aF (fun h=>?_) (fun h=>?_))
  |(refine ak (xs:=ss) (hS (by omega)).1.1 (by omega) (by omega) ?_;rintro _ ⟨x0,y0,rfl⟩ hs0;have hi2:(i:Int) < (vs.length:Int):=by(have:=(hS (by omega)).1.2;have:=(rI (hP (by omega))).2;omega))
  |(refine ak (xs:=vs) (n:=(i:Int)) (kU (hP (by omega))).1 (by omega) (by first|omega|(have:=(hS (by omega)).1.2;have:=(rI (hP (by omega))).2;omega)) ?_;rintro _ ⟨a,b,rfl⟩ hs1)
  |(refine ak (xs:=vs) (kU (hP (by omega))).1 (cE (by have:=(rI (hP (by omega))).1;rw[bi (by omega) (by omega)];omega)) (cq (by have:=(rI (hP (by omega))).1;omega)) ?_;rintro _ ⟨c,d,rfl⟩ bP)
  |(refine ak (xs:=ys) hyW (by omega) (by have:=(rI (hP (by omega))).2;have:=(hS (by omega)).1.2;omega) ?_;rintro _ ⟨w2,rfl,K4,BU⟩ hsw)
  |(refine ak (xs:=cs) hcs (by omega) (by omega) ?_;rintro _ ⟨cx,cy,rfl⟩ hsc)
  |(refine And.intro ⟨by omega,by omega,by have:=(rI (hP (by omega))).1;omega,by have:=(rI (hP (by omega))).1;omega⟩ ?_)
  |(refine And.intro (show((vs.length:Nat):Int)≠0 by have:=(rI (hP (by omega))).1;omega) ?_)
  |(refine And.intro ⟨by simp[tr],by have:=(rI (hP (by omega))).1;simp[tr,aT];omega,by have:=(rI (hP (by omega))).1;simp[tr,maxLen];omega⟩ ?_)
  |(refine pB (Nat.zero_le _) (by have:=(rI (hP (by omega))).1;rw[bi (by omega) (by omega)];omega) (.inr rfl) ?_)
  |(refine And.intro (show(0:Int)≤IntKind.i64.wrap ((k:Int) - 1) by rw[bi (by omega) (by have:=(rI (hP (by omega))).1;omega)];omega) ?_)
  |(refine And.intro ⟨cE (by have:=(rI (hP (by omega))).1;rw[bi (n:=(i:Int)+(vs.length:Int)) (by omega) (by omega),bi (by omega) (by omega)];omega),cq (by have:=(rI (hP (by omega))).1;omega)⟩ ?_)
  |(refine And.intro ⟨by omega,by omega⟩ ?_)
  |(refine And.intro ⟨by have:=(rI (hP (by omega))).1;rw[bi (by omega) (by omega)];omega,by have:=(rI (hP (by omega))).1;rw[bi (by omega) (by omega)];omega⟩ ?_)
  |(refine And.intro (by kernel_rfl) ?_)
  |(refine ag rfl (s0 es ws he hm hw BT) ?_;rintro _ ⟨ss,e1,rfl,hS⟩)
  |(refine ag rfl (mN es he hm) ?_;rintro _ ⟨vs,e,rfl,hP⟩)
  |(refine ag rfl (gY es ws (hP (by omega)).2.2.1 (hP (by omega)).2.1.2 (hS (by omega)).2.2.1 (hS (by omega)).2.2.2) ?_;rintro _ ⟨ys,rfl,jT,hyW⟩)
  |(refine bM (xs:=zs) rfl hU (by first|omega|(have:=O6 (i:=i) (N:=vs.length) (by have:=(rI (hP (by omega))).1;omega) (by have:=(rI (hP (by omega))).1;omega) (by omega);omega)) ?_;rintro _ ⟨s1,s2,s3,s4,s5,rfl⟩ Hp)
  |(refine bM (xs:=S0) rfl Mf (by first|omega|(have:=(rI (hP (by omega))).1;rw[bi (by omega) (by omega)];omega)) ?_;rintro _ ⟨x,y,rfl⟩ Hp)
  |(refine bM (xs:=ps) rfl hps (by first|omega|(have:=(rI (hP (by omega))).1;rw[bi (by omega) (by omega)];omega)) ?_;rintro _ ⟨x,y,rfl⟩ Hp)
  |(refine aB rfl (pw (_,_) (_,_)) ?_;rintro _ ⟨x,y,rfl,_⟩)
  |(refine aB rfl (sZ (_,_) (_,_) (_,_) (_,_) (_,_) _ _) ?_;rintro _ ⟨cs,rfl,hcs,dA⟩)
  |(refine ag rfl (lR (_,_) _) ?_;rintro _ ⟨q,rfl⟩)
  |(refine rP (N2 (xs:=ps) rfl rfl (by omega)) (eo _ (hps.take _) (Fu (by have:=(rI (hP (by omega))).1;omega))) ?_ ?_;(rintro _ ⟨d,rfl,hd⟩;rfl);rintro _ ⟨d,rfl,hd⟩)
  |(refine rP (N2 (xs:=ps) rfl rfl (by omega)) (fa _ (hps.take _) (Fu (by have:=(rI (hP (by omega))).1;omega))) ?_ ?_;(rintro _ ⟨o1,rfl,_⟩;rfl);rintro _ ⟨o1,rfl,_⟩)
  |(refine ag rfl (fa vs (kU (hP (by omega))).1 (by have:=(rI (hP (by omega))).1;omega)) ?_;rintro _ ⟨o2,rfl,_⟩)
  |exact dh rfl (bJ 2 rfl) (bN rfl) ⟨_,_,rfl,fun h0=>absurd h0 (by omega)⟩
  |exact dh rfl (eO rfl rfl (xs:=ps) rfl (by omega)) (bN rfl) ⟨_,_,rfl,fun _=>by simpa using hd (by omega)⟩
  |(apply aS [8,14,143,144,145] [] [145] [(4,2)] (ZZ ps k) (k) [iV .i64 0];(conv=>whnf);exact⟨rfl,rfl,rfl,rfl⟩;exact rfl;exact rfl;exact .cons (av.au (xs:=ps) rfl _) .nil;exact⟨0,by omega,rfl,rfl,rfl⟩;rintro _ _ _ ⟨q,hq,rfl,rfl,rfl⟩)
  |(refine aj [8,14,143,144,145] [] ?_;(conv=>whnf);exact⟨rfl,_,[_],_, .cons (av.au (xs:=ps) rfl _) .nil,ZZ.next (by omega) (by have:=(rI (hP (by omega))).1;omega),rfl,rfl,by omega⟩)
  |(apply aS [8,10,11,14,77,78,79,98,99,100] [] [14,100] [(4,5),(8,2)] (Sw zs (2 * i) cs.length) (cs.length) [bn 8 2 ps.length,iV .i64 0];(conv=>whnf);exact⟨rfl,rfl,rfl,rfl⟩;exact rfl;exact rfl;exact .cons (av.au (xs:=zs) rfl _) (.cons (av.au (xs:=ps) rfl _) .nil);exact⟨0,ps,by omega,rfl,rfl,rfl,by omega,hps⟩;rintro _ _ _ ⟨j,S0,hj,rfl,rfl,rfl,WV,Mf⟩)
  |(refine aj [8,10,11,14,77,78,79,98,99,100] [] ?_;(conv=>whnf);first|exact⟨rfl,_,[_,_],_, .cons (av.au (xs:=zs) rfl _) (.cons (av.au (xs:=S0) rfl _) .nil),Sw.same (by omega) dA WV Mf,rfl,rfl,by omega⟩|exact⟨rfl,_,[_,_],_, .cons (av.au (xs:=zs) rfl _) (.cons (av.au (av.snoc (xs:=S0) rfl [tI _,tI _]) _) .nil),Sw.Gh (by omega) dA WV Mf (by simp[tr]),rfl,rfl,by omega⟩)
  |(apply aS [8,14] [] [14] [(4,2)] (ZQ ps) (ps.length) [bn 4 2 ps.length];(conv=>whnf);exact⟨rfl,rfl,rfl,rfl⟩;exact rfl;exact rfl;exact .cons (av.au (xs:=ps) rfl _) .nil;exact⟨ps.length,by omega,rfl,rfl,rfl⟩;rintro _ _ _ ⟨k,hk,hmk,rfl,rfl⟩)
  |(refine aj [8,14] [] ?_;(conv=>whnf);exact⟨rfl,_,[_],_, .cons (av.au (xs:=ps) rfl _) .nil,ZQ.next hk (by omega) (by have:=(rI (hP (by omega))).1;omega),rfl,rfl,by omega⟩)
  |(apply dI [8,10,11,14,77,78,79] [] [14,79] [(4,5),(8,2)] (ZX zs vs.length) (vs.length) [bn 8 2 0,iV .i64 0] (dL.iL 14 2 rfl);(conv=>whnf);exact⟨rfl,rfl,rfl,rfl⟩;exact rfl;exact rfl;exact .cons (av.au (xs:=zs) rfl _) (.cons (av.au av.nil _) .nil);exact⟨0,[],by omega,rfl,rfl,rfl,by simp,fun e he=>by simp at he⟩;rintro _ _ _ ⟨i,ps,hi,rfl,rfl,rfl,fQ,hps⟩)
  |(refine aj [8,10,11,14,77,78,79] [] ?_;(conv=>whnf);exact⟨rfl,_,[_,_],_, .cons (av.au (xs:=zs) rfl _) (.cons (av.au (xs:=S0) rfl _) .nil),ZX.next (by omega) (by have:=(rI (hP (by omega))).1;omega) (by omega) Mf,rfl,rfl,by omega⟩)
  |(apply aS [8,9,10,11,46,47,48] [] [48] [(4,5)] (ZU vs.length) (vs.length) [iV .i64 0];(conv=>whnf);exact⟨rfl,rfl,rfl,rfl⟩;exact rfl;exact rfl;exact .cons (av.au (av.replicate _ [tI 0,tI 0,tI 0,tI 0,tI 0]) _) .nil;exact⟨0,_,by omega,rfl,rfl,rfl,by simp,OL.I0 _⟩;rintro _ _ _ ⟨i,zs,hi,rfl,rfl,rfl,hz,hU⟩)
  |(refine aj [8,9,10,11,46,47,48] [] ?_;(conv=>whnf);exact⟨rfl,_,[_],_, .cons (av.au (av.set (xs:=zs) rfl _ [tI _,tI _,tI _,tI _,tI _]) _) .nil,ZU.next (by have:=(hS (by omega)).1.2;have:=(rI (hP (by omega))).2;omega) (by have:=(rI (hP (by omega))).1;omega) hz hU,rfl,rfl,by omega⟩))
 all_goals (conv=>whnf)
end Go.aR.Cd
end
section
namespace Go.aR
open Go
variable {P:Program} {M A:Nat→Prop} {ρ:Env} {F:Nat→Prop} {st:St} {a:Act} {w:World}
abbrev cD:=List (Value×C×Nat)
structure fg (P:Program) (kt:TypeId) (Kd:Value→Prop):Prop where
 at_: ∀ (es:cD) (kv:Value) (empty:Bool),(∀p,p∈es→Kd p.1)→Kd kv→
  (jo P empty kt kv es=some none∧ ∀p,p∈es→p.1≠kv)∨ ∃i p,jo P empty kt kv es=some (some i)∧es[i]? =some p∧p.1=kv
 same: ∀kv,Kd kv→Instr.sameBits 10000 kv kv=true
theorem wV {d:TypeDesc} {Kd:Value→Prop} {kv:Value} (hs: ∀b,Kd b→ ∃q,Instr.sameNow d kv b=some q∧(q=true↔b=kv)): ∀ (es:cD) (i0:Nat),(∀p,p∈es→Kd p.1)→
 (Instr.findNow d kv (cT es) i0=some none∧ ∀p,p∈es→p.1≠kv)∨ ∃i p v,Instr.findNow d kv (cT es) i0=some (some (i0+i,v))∧es[i]? =some p∧p.1=kv
 | [],i0,_=> .inl ⟨rfl,fun p hp=>by simp at hp⟩
 |e::es,i0,h=>by
  obtain⟨q,h1,h2⟩:=hs e.1 (h e List.mem_cons_self)
  have JV:Instr.sameNow d kv (⟨e.1, .bool false,0⟩:MapEntry).key=some q:=h1
  show((match Instr.sameNow d kv (⟨e.1, .bool false,0⟩:MapEntry).key with
   |some true=>some (some (i0,(⟨e.1, .bool false,0⟩:MapEntry).val))
   |some false=>Instr.findNow d kv (cT es) (i0+1)
   |none=>none)=some none∧_)∨ ∃i p v,(match Instr.sameNow d kv (⟨e.1, .bool false,0⟩:MapEntry).key with
   |some true=>some (some (i0,(⟨e.1, .bool false,0⟩:MapEntry).val))
   |some false=>Instr.findNow d kv (cT es) (i0+1)
   |none=>none)=some (some (i0+i,v))∧_
  rw[JV]
  cases q with
  |true=>exact .inr ⟨0,e,_,rfl,rfl,h2.1 rfl⟩
  |false=>
   have hne:e.1≠kv:=fun he=>by have:=h2.2 he;simp at this
   rcases wV hs es (i0+1) (fun p hp=>h p (List.mem_cons_of_mem _ hp))with⟨h3,h4⟩|⟨i,p,v,h3,h4,h5⟩
   · refine .inl ⟨h3,fun p hp=>?_⟩
     rcases List.mem_cons.1 hp with rfl|hp
     · exact hne
     · exact h4 p hp
   · exact .inr ⟨i+1,p,v,by rw[show i0+(i+1)=i0+1+i by omega];exact h3,by simpa using h4,h5⟩
theorem pn {kt:TypeId} {Kd:Value→Prop} {kv:Value} (hs: ∀b,Kd b→ ∃q,aI P (Op.equal kt kv b)=some q∧(q=true↔b=kv)): ∀ (es:cD) (i0:Nat),(∀p,p∈es→Kd p.1)→
 (aI P (Instr.findAsking kt kv (cT es) i0)=some none∧ ∀p,p∈es→p.1≠kv)∨ ∃i p v,aI P (Instr.findAsking kt kv (cT es) i0)=some (some (i0+i,v))∧es[i]? =some p∧p.1=kv
 | [],i0,_=> .inl ⟨rfl,fun p hp=>by simp at hp⟩
 |e::es,i0,h=>by
  obtain⟨q,h1,h2⟩:=hs e.1 (h e List.mem_cons_self)
  have hd:cT (e::es)=⟨e.1, .bool false,0⟩::cT es:=rfl
  simp only[hd,Instr.findAsking,aJ,h1,Option.bind_some]
  cases q with
  |true=>exact .inr ⟨0,e,_,rfl,rfl,h2.1 rfl⟩
  |false=>
   have hne:e.1≠kv:=fun he=>by have:=h2.2 he;simp at this
   simp only[Bool.false_eq_true,if_false]
   rcases pn hs es (i0+1) (fun p hp=>h p (List.mem_cons_of_mem _ hp))with⟨h3,h4⟩|⟨i,p,v,h3,h4,h5⟩
   · refine .inl ⟨h3,fun p hp=>?_⟩
     rcases List.mem_cons.1 hp with rfl|hp
     · exact hne
     · exact h4 p hp
   · exact .inr ⟨i+1,p,v,by rw[show i0+(i+1)=i0+1+i by omega];exact h3,by simpa using h4,h5⟩
theorem zD {kt:TypeId} {d:TypeDesc} {Kd:Value→Prop} (hu:P.underlying kt=some d) (yA: ∀e kv,Kd kv→ ∃u,aI P (Instr.checkKey e 10000 kt kv)=some u)
 (hs: ∀a b,Kd a→Kd b→ ∃q,Instr.sameNow d a b=some q∧(q=true↔b=a)) (lU: ∀kv,Kd kv→Instr.sameBits 10000 kv kv=true):fg P kt Kd:=by
 refine⟨fun es kv empty he hk=>?_,lU⟩
 obtain⟨u,qk⟩:=yA empty kv hk
 rcases wV (fun b hb=>hs kv b hk hb) es 0 he with⟨h3,h4⟩|⟨i,p,v,h3,h4,h5⟩
 · refine .inl ⟨?_,h4⟩
   have:aI P (Instr.findKey kt kv (cT es))=some none:=by simp only[Instr.findKey,aJ,aN hu,Option.bind_some,h3,aG]
   simp only[jo,qk,this]
 · refine .inr ⟨i,p,?_,h4,h5⟩
   have:aI P (Instr.findKey kt kv (cT es))=some (some (i,v)):=by simp only[Instr.findKey,aJ,aN hu,Option.bind_some,h3,aG,Nat.zero_add]
   simp only[jo,qk,this]
theorem Hg {kt:TypeId} {d:TypeDesc} {Kd:Value→Prop} (hu:P.underlying kt=some d) (yA: ∀e kv,Kd kv→ ∃u,aI P (Instr.checkKey e 10000 kt kv)=some u)
 (hn: ∀a b,Kd a→Kd b→Instr.sameNow d a b=none) (hs: ∀a b,Kd a→Kd b→ ∃q,aI P (Op.equal kt a b)=some q∧(q=true↔b=a)) (lU: ∀kv,Kd kv→Instr.sameBits 10000 kv kv=true):fg P kt Kd:=by
 refine⟨fun es kv empty he hk=>?_,lU⟩
 obtain⟨u,qk⟩:=yA empty kv hk
 cases es with
 |nil=>
  refine .inl ⟨?_,fun p hp=>by simp at hp⟩
  have:aI P (Instr.findKey kt kv (cT []))=some none:=by simp only[Instr.findKey,aJ,aN hu,Option.bind_some,cT,List.map_nil,Instr.findNow,aG]
  simp only[jo,qk,this]
 |cons e es=>
  have hfn:Instr.findNow d kv (cT (e::es)) 0=none:=by
   show(match Instr.sameNow d kv (⟨e.1, .bool false,0⟩:MapEntry).key with
    |some true=>some (some (0,(⟨e.1, .bool false,0⟩:MapEntry).val))
    |some false=>Instr.findNow d kv (cT es) (0+1)
    |none=>none)=none
   have:=hn kv e.1 hk (he e List.mem_cons_self)
   rw[show(⟨e.1, .bool false,0⟩:MapEntry).key=e.1 from rfl,this]
  rcases pn (P:=P) (kt:=kt) (fun b hb=>hs kv b hk hb) (e::es) 0 he with⟨h3,h4⟩|⟨i,p,v,h3,h4,h5⟩
  · refine .inl ⟨?_,h4⟩
    have:aI P (Instr.findKey kt kv (cT (e::es)))=some none:=by simp only[Instr.findKey,aJ,aN hu,Option.bind_some,hfn,h3]
    simp only[jo,qk,this]
  · refine .inr ⟨i,p,?_,h4,h5⟩
    have:aI P (Instr.findKey kt kv (cT (e::es)))=some (some (i,v)):=by simp only[Instr.findKey,aJ,aN hu,Option.bind_some,hfn,h3,Nat.zero_add]
    simp only[jo,qk,this]
theorem bytes_beq (a b:ByteArray):(a==b)=true↔a=b:=by
 cases a;cases b
 show ByteArray.beq _ _=true↔_
 rw[ByteArray.beq.eq_def]
 simp
theorem R7 {kt:TypeId} {j:IntKind} (hu:P.underlying kt=some (.int j)) (k:Nat) (e:Bool) (m:Int):aI P (Instr.checkKey e (k+1) kt (.int .i64 m))=some ():=by
 simp only[Instr.checkKey,aJ,aN hu,Option.bind_some,aG]
theorem R6 {kt:TypeId} (hu:P.underlying kt=some .string) (k:Nat) (e:Bool) (m:ByteArray):aI P (Instr.checkKey e (k+1) kt (.string m))=some ():=by
 simp only[Instr.checkKey,aJ,aN hu,Option.bind_some,aG]
def oN (v:Value):Prop:= ∃n,v= .int .i64 n
def SD (v:Value):Prop:= ∃s,v= .string s
theorem Hf {kt:TypeId} {j:IntKind} (hu:P.underlying kt=some (.int j)):fg P kt oN:=by
 refine zD hu ?_ ?_ ?_
 · rintro e _ ⟨n,rfl⟩
   exact⟨(),R7 hu 9999 e n⟩
 · rintro _ _ ⟨n,rfl⟩ ⟨m,rfl⟩
   refine⟨n==m,by simp[Instr.sameNow],?_⟩
   simp only[beq_iff_eq,Value.int.injEq,true_and]
   exact⟨fun h=>h.symm,fun h=>h.symm⟩
 · rintro _ ⟨n,rfl⟩
   simp[Instr.sameBits]
theorem He {kt:TypeId} (hu:P.underlying kt=some .string):fg P kt SD:=by
 refine zD hu ?_ ?_ ?_
 · rintro e _ ⟨n,rfl⟩
   exact⟨(),R6 hu 9999 e n⟩
 · rintro _ _ ⟨n,rfl⟩ ⟨m,rfl⟩
   refine⟨n==m,by simp[Instr.sameNow],?_⟩
   rw[bytes_beq,Value.string.injEq]
   exact⟨fun h=>h.symm,fun h=>h.symm⟩
 · rintro _ ⟨n,rfl⟩
   show(n==n)=true
   rw[bytes_beq]
def lc (Kd:Value→Prop) (Pc:C→Prop) (es:cD):Prop:= ∀p,p∈es→Kd p.1∧Pc p.2.1
theorem lc.nil {Kd:Value→Prop} {Pc:C→Prop}:lc Kd Pc []:=fun p hp=>by simp at hp
theorem lc.keys {Kd:Value→Prop} {Pc:C→Prop} {es:cD} (h:lc Kd Pc es): ∀p,p∈es→Kd p.1:=fun p hp=>(h p hp).1
abbrev Gt (n:Nat) (tm:TS) (x:Operand):V:=St.get ⟨n,tm,[]⟩ x
theorem jJ {n:Nat} {tm:TS} {hp:HS} (x:Operand):St.get ⟨n,tm,hp⟩ x=Gt n tm x:=by cases x<;>rfl
theorem lq {n ctr:Nat} {t ty:TypeId} {tm:TS} {hp:HS} {K:V→HS→Prop} (hk:K (.w (.one (.map ctr))) ((ctr, .mp [] 0)::hp)):
 ∃v hp',ja P n (.makeMap t none) ty tm hp ctr v hp'∧K v hp':=by
 refine⟨_,_,?_,hk⟩
 rintro⟨dst',op',ty',pos',after',guard'⟩ rfl rfl
 intro M A ρ a w hr
 obtain⟨r1,r2⟩:=Rel.Jf (st:=⟨n,tm,hp⟩) hr (Nat.le_refl ctr)
 refine⟨.map (some w.heap.size),w.alloc (.map #[] 0),_,_, .inl ?_,r1.sub ij,⟨⟨w.heap.size,by simp[dn],rfl⟩,rfl⟩,cJ.alloc M w _,r2,bp.new A w⟩
 simp[execOp,Instr.makeMap]
theorem CC {n ctr:Nat} {t ty kt et:TypeId} {m k:Operand} {ok:Bool} {tm:TS} {hp:HS} {id clock i:Nat} {es:cD} {kv k0:Value} {c:C} {born:Nat} (hm:Gt n tm m= .w (.one (.map id))) (hk:(Gt n tm k).val? =some kv) (hu:P.underlying t=some (.map kt et)) (hf:find hp id=some (.mp es clock))
 (o7:jo P es.isEmpty kt kv es=some (some i)) (Be:es[i]? =some (k0,c,born)):ja P n (.lookup t m k ok) ty tm hp ctr (if ok=true then .ef [cw c,bT true]else .w (cw c)) hp:=by
 rintro⟨dst',op',ty',pos',after',guard'⟩ rfl rfl
 intro M A ρ a w hr
 have vm:=hr.get m
 rw[jJ,hm]at vm
 have vk:=V.bh hk (by have:=hr.get k;rw[jJ]at this;exact this)
 obtain⟨b,en,q1,q2,q3,q4,q5⟩:=fZ hr hf vm
 obtain⟨c1,o2,c2,c3,c4⟩:=cZ o7 (fe (id:=id) (clock:=clock) q4 q5) w
 cases o2 with
 |none=>simp at c3
 |some p=>
  obtain⟨j,v⟩:=p
  simp only[Option.map_some,Option.some.injEq]at c3
  subst c3
  obtain⟨e0,e1,e2,e3,e4,e5⟩:=q5 j k0 c born Be
  obtain⟨e',g1,rfl⟩:=c4 j v rfl
  rw[e1]at g1
  simp only[Option.some.injEq]at g1
  subst g1
  have hrun:(execOp a.eval ⟨dst', .lookup t m k ok,ty',pos',after',guard'⟩).run P w= .ok (.value (if ok then .tuple #[e0.val, .bool true]else e0.val)) w:=by
   simp only[execOp,Instr.lookup,Sem.run_bind,run_underlying hu,Result.andThen_ok,q2,mW q3,Sem.run_pure,vk,dZ q4,c1,c2]
  refine⟨_,w,A,ρ, .inl hrun,hr.sub ct,?_,cJ.refl _ _,cN.refl _,bp.refl _ _⟩
  cases ok with
  |true=>exact Gz (e5.rw e4)
  |false=>exact e5.rw e4
theorem zB {n ctr:Nat} {t ty kt et:TypeId} {m k:Operand} {ok:Bool} {tm:TS} {hp:HS} {id clock:Nat} {es:cD} {kv z:Value} (hm:Gt n tm m= .w (.one (.map id))) (hk:(Gt n tm k).val? =some kv) (hu:P.underlying t=some (.map kt et)) (hf:find hp id=some (.mp es clock))
 (o7:jo P es.isEmpty kt kv es=some none) (hz:mI P et=some z):ja P n (.lookup t m k ok) ty tm hp ctr (if ok=true then .ef [.one (.t (.val z)),bT false]else .w (.one (.t (.val z)))) hp:=by
 rintro⟨dst',op',ty',pos',after',guard'⟩ rfl rfl
 intro M A ρ a w hr
 have vm:=hr.get m
 rw[jJ,hm]at vm
 have vk:=V.bh hk (by have:=hr.get k;rw[jJ]at this;exact this)
 obtain⟨b,en,q1,q2,q3,q4,q5⟩:=fZ hr hf vm
 obtain⟨c1,o2,c2,c3,c4⟩:=cZ o7 (fe (id:=id) (clock:=clock) q4 q5) w
 cases o2 with
 |some p=>simp at c3
 |none=>
  obtain⟨Wu,wA⟩:=rL hz w
  have hrun:(execOp a.eval ⟨dst', .lookup t m k ok,ty',pos',after',guard'⟩).run P w= .ok (.value (if ok then .tuple #[z, .bool false]else z)) w:=by
   simp only[execOp,Instr.lookup,Sem.run_bind,run_underlying hu,Result.andThen_ok,q2,mW q3,Sem.run_pure,vk,dZ q4,c1,c2,Wu]
  refine⟨_,w,A,ρ, .inl hrun,hr.sub ct,?_,cJ.refl _ _,cN.refl _,bp.refl _ _⟩
  cases ok with
  |true=>exact Gz (u0:= .one (.t (.val z))) ⟨RT.val wA,wA⟩
  |false=>exact⟨RT.val wA,wA⟩
theorem It {n ctr:Nat} {t ty kt et:TypeId} {m k:Operand} {tm:TS} {hp:HS} {id clock:Nat} {es:cD} {kv z:Value} {Kd:Value→Prop} {K:V→HS→Prop} (hm:Gt n tm m= .w (.one (.map id))) (hf:find hp id=some (.mp es clock)) (hk:(Gt n tm k).val? =some kv) (hu:P.underlying t=some (.map kt et))
 (hz:mI P et=some z) (hK:fg P kt Kd) (hkv:Kd kv) (jI: ∀p,p∈es→Kd p.1) (h1: ∀ (i:Nat) (p:Value×C×Nat),es[i]? =some p→p.1=kv→K (.w (cw p.2.1)) hp) (h2:(∀p,p∈es→p.1≠kv)→K (.w (.one (.t (.val z)))) hp):
 ∃v hp',ja P n (.lookup t m k false) ty tm hp ctr v hp'∧K v hp':=by
 rcases hK.at_ es kv es.isEmpty jI hkv with⟨h3,h4⟩|⟨i,⟨k0,c,born⟩,h3,h4,h5⟩
 · exact⟨_,_,zB hm hk hu hf h3 hz,by simpa using h2 h4⟩
 · exact⟨_,_,CC hm hk hu hf h3 h4,by simpa using h1 i _ h4 h5⟩
theorem Fi {n ctr:Nat} {t ty kt et:TypeId} {m k:Operand} {tm:TS} {hp:HS} {id clock:Nat} {es:cD} {kv z:Value} {Kd:Value→Prop} {K:V→HS→Prop} (hm:Gt n tm m= .w (.one (.map id))) (hf:find hp id=some (.mp es clock)) (hk:(Gt n tm k).val? =some kv) (hu:P.underlying t=some (.map kt et))
 (hz:mI P et=some z) (hK:fg P kt Kd) (hkv:Kd kv) (jI: ∀p,p∈es→Kd p.1) (h1: ∀ (i:Nat) (p:Value×C×Nat),es[i]? =some p→p.1=kv→K (.ef [cw p.2.1,bT true]) hp) (h2:(∀p,p∈es→p.1≠kv)→K (.ef [.one (.t (.val z)),bT false]) hp):
 ∃v hp',ja P n (.lookup t m k true) ty tm hp ctr v hp'∧K v hp':=by
 rcases hK.at_ es kv es.isEmpty jI hkv with⟨h3,h4⟩|⟨i,⟨k0,c,born⟩,h3,h4,h5⟩
 · exact⟨_,_,zB hm hk hu hf h3 hz,by simpa using h2 h4⟩
 · exact⟨_,_,CC hm hk hu hf h3 h4,by simpa using h1 i _ h4 h5⟩
theorem Fh {n ctr:Nat} {t ty kt et:TypeId} {m k:Operand} {tm:TS} {hp:HS} {id clock:Nat} {es:cD} {kv z:Value} {Kd:Value→Prop} {Pc:C→Prop} {K:V→HS→Prop} (hm:Gt n tm m= .w (.one (.map id))) (hf:find hp id=some (.mp es clock)) (hk:(Gt n tm k).val? =some kv) (hu:P.underlying t=some (.map kt et))
 (hz:mI P et=some z) (hK:fg P kt Kd) (hkv:Kd kv) (jI:lc Kd Pc es) (hzP:Pc (.t (.val z))) (h: ∀c,Pc c→K (.w (cw c)) hp):
 ∃v hp',ja P n (.lookup t m k false) ty tm hp ctr v hp'∧K v hp':=
 It hm hf hk hu hz hK hkv jI.keys (fun i p hp _=>h _ (jI p (List.mem_of_getElem? hp)).2) (fun _=>h _ hzP)
def DC (v:V) (c:C):Prop:=v= .w (.one c)∨ ∃ts,v= .w (.agg (ts.map .t))∧c= .pk ts
theorem DC.spec {v:V} {c:C} {x:Value} (h:DC v c) (hr:RV w A ρ v x):RC w A ρ c x∧xP c x:=by
 rcases h with rfl|⟨ts,rfl,rfl⟩
 · exact⟨hr.1, .inl hr.2⟩
 · exact xP.pk hr
theorem LN {n ctr:Nat} {t ty kt et:TypeId} {m k x:Operand} {tm:TS} {hp:HS} {id clock i:Nat} {es:cD} {kv:Value} {c c0:C} {born:Nat} (hm:Gt n tm m= .w (.one (.map id))) (hk:(Gt n tm k).val? =some kv) (hx:DC (Gt n tm x) c) (hu:P.underlying t=some (.map kt et)) (hf:find hp id=some (.mp es clock))
 (o7:jo P false kt kv es=some (some i)) (Be:es[i]? =some (kv,c0,born)) (lU:Instr.sameBits 10000 kv kv=true):ja P n (.mapUpdate t m k x) ty tm hp ctr .undef (jx hp id (.mp (es.set i (kv,c,born)) clock)):=by
 rintro⟨dst',op',ty',pos',after',guard'⟩ rfl rfl
 intro M A ρ a w hr
 have vm:=hr.get m
 rw[jJ,hm]at vm
 have vk:=V.bh hk (by have:=hr.get k;rw[jJ]at this;exact this)
 have vx:=hx.spec (by have:=hr.get x;rw[jJ]at this;exact this)
 obtain⟨b,en,q1,q2,q3,q4,q5⟩:=fZ hr hf vm
 obtain⟨c1,o2,c2,c3,c4⟩:=cZ o7 (fe (id:=id) (clock:=clock) q4 q5) w
 cases o2 with
 |none=>simp at c3
 |some p=>
  obtain⟨j,v⟩:=p
  simp only[Option.map_some,Option.some.injEq]at c3
  subst c3
  obtain⟨e0,e1,e2,e3,_⟩:=q5 j kv c0 born Be
  have hi:j < en.size:=(Array.getElem?_eq_some_iff.1 e1).1
  obtain⟨r1,r2⟩:=Rel.sc (st:=⟨n,tm,hp⟩) (clock':=clock) (es':=es.set j (kv,c,born)) (en':=en.modify j fun e=>{e with key:=kv,val:=a.eval x}) hr hf q1 q3 (by simp[q4]) (fun i k' c' n' hi'=>by
   by_cases hij:j=i
   · subst hij
     rw[List.getElem?_set_self (by rw[←q4];exact hi)]at hi'
     simp only[Option.some.injEq,Prod.mk.injEq]at hi'
     obtain⟨rfl,rfl,rfl⟩:=hi'
     refine⟨{e0 with key:=kv,val:=a.eval x},by simp[Array.getElem?_modify,e1],rfl,e3,vx.1,vx.2⟩
   · rw[List.getElem?_set_ne hij]at hi'
     obtain⟨e,g1,g2,g3,g4,g5⟩:=q5 i k' c' n' hi'
     exact⟨e,by simp[Array.getElem?_modify,hij,g1],g2,g3,g4,g5⟩)
  refine⟨undef,_,A,ρ, .inr ⟨?_,rfl⟩,r1.sub ct,trivial,r2,cN.refl _,bp.refl _ _⟩
  have hks:(Instr.keyThatStays (((en[j]?).map (·.key)).getD kv) kv).run P w= .ok kv w:=by
   simp[Instr.keyThatStays,e1,e2,lU]
  simp only[execOp,Instr.mapUpdate,Sem.run_bind,run_underlying hu,Result.andThen_ok,q2,mW q3,vk,c1,c2,hks,Cq _ q3,Sem.run_pure]
theorem I2 {n ctr:Nat} {t ty kt et:TypeId} {m k x:Operand} {tm:TS} {hp:HS} {id clock:Nat} {es:cD} {kv:Value} {c:C} (hm:Gt n tm m= .w (.one (.map id))) (hk:(Gt n tm k).val? =some kv) (hx:DC (Gt n tm x) c) (hu:P.underlying t=some (.map kt et)) (hf:find hp id=some (.mp es clock))
 (o7:jo P false kt kv es=some none):ja P n (.mapUpdate t m k x) ty tm hp ctr .undef (jx hp id (.mp (es++[(kv,c,clock)]) (clock+1))):=by
 rintro⟨dst',op',ty',pos',after',guard'⟩ rfl rfl
 intro M A ρ a w hr
 have vm:=hr.get m
 rw[jJ,hm]at vm
 have vk:=V.bh hk (by have:=hr.get k;rw[jJ]at this;exact this)
 have vx:=hx.spec (by have:=hr.get x;rw[jJ]at this;exact this)
 obtain⟨b,en,q1,q2,q3,q4,q5⟩:=fZ hr hf vm
 obtain⟨c1,o2,c2,c3,c4⟩:=cZ o7 (fe (id:=id) (clock:=clock) q4 q5) w
 cases o2 with
 |some p=>simp at c3
 |none=>
  obtain⟨r1,r2⟩:=Rel.sc (st:=⟨n,tm,hp⟩) (clock':=clock+1) (es':=es++[(kv,c,clock)]) (en':=en.push {key:=kv,val:=a.eval x,born:=clock}) hr hf q1 q3 (by simp[q4]) (fun i k' c' n' hi'=>by
   by_cases hlt:i < es.length
   · rw[List.getElem?_append_left hlt]at hi'
     obtain⟨e,g1,g2,g3,g4,g5⟩:=q5 i k' c' n' hi'
     exact⟨e,by rw[Array.getElem?_push,if_neg (by omega)];exact g1,g2,g3,g4,g5⟩
   · rw[List.getElem?_append_right (by omega)]at hi'
     have hz:i - es.length=0:=by
      have:=(List.getElem?_eq_some_iff.1 hi').1
      simp at this
      omega
     rw[hz]at hi'
     simp only[List.getElem?_cons_zero,Option.some.injEq,Prod.mk.injEq]at hi'
     obtain⟨rfl,rfl,rfl⟩:=hi'
     exact⟨⟨kv,a.eval x,clock⟩,by rw[Array.getElem?_push,if_pos (by omega)],rfl,rfl,vx.1,vx.2⟩)
  refine⟨undef,_,A,ρ, .inr ⟨?_,rfl⟩,r1.sub ct,trivial,r2,cN.refl _,bp.refl _ _⟩
  simp only[execOp,Instr.mapUpdate,Sem.run_bind,run_underlying hu,Result.andThen_ok,q2,mW q3,vk,c1,c2,Cq _ q3,Sem.run_pure]
def DF (es:cD) (clock:Nat) (kv:Value) (c:C) (es':cD) (clock':Nat):Prop:=
 (∃i p,es[i]? =some p∧p.1=kv∧es'=es.set i (kv,c,p.2.2)∧clock'=clock)∨((∀p,p∈es→p.1≠kv)∧es'=es++[(kv,c,clock)]∧clock'=clock+1)
theorem OY {n ctr:Nat} {t ty kt et:TypeId} {m k x:Operand} {tm:TS} {hp:HS} {id clock:Nat} {es:cD} {kv:Value} {c:C} {Kd:Value→Prop} {K:V→HS→Prop} (hm:Gt n tm m= .w (.one (.map id))) (hf:find hp id=some (.mp es clock)) (hk:(Gt n tm k).val? =some kv) (hx:DC (Gt n tm x) c) (hu:P.underlying t=some (.map kt et))
 (hK:fg P kt Kd) (hkv:Kd kv) (jI: ∀p,p∈es→Kd p.1) (h: ∀es' clock',DF es clock kv c es' clock'→K .undef (jx hp id (.mp es' clock'))):
 ∃v hp',ja P n (.mapUpdate t m k x) ty tm hp ctr v hp'∧K v hp':=by
 rcases hK.at_ es kv false jI hkv with⟨h3,h4⟩|⟨i,⟨k0,c0,born⟩,h3,h4,h5⟩
 · exact⟨_,_,I2 hm hk hx hu hf h3,h _ _ (.inr ⟨h4,rfl,rfl⟩)⟩
 · simp only at h5
   subst h5
   exact⟨_,_,LN hm hk hx hu hf h3 h4 (hK.same _ hkv),h _ _ (.inl ⟨i,_,h4,rfl,rfl,rfl⟩)⟩
theorem Iq {n ctr:Nat} {t ty kt et:TypeId} {m k x:Operand} {tm:TS} {hp:HS} {id clock:Nat} {es:cD} {kv:Value} {c:C} {Kd:Value→Prop} {K:V→HS→Prop} (hm:Gt n tm m= .w (.one (.map id))) (hf:find hp id=some (.mp es clock)) (hk:(Gt n tm k).val? =some kv) (hx:Gt n tm x= .w (.one c)) (hu:P.underlying t=some (.map kt et))
 (hK:fg P kt Kd) (hkv:Kd kv) (jI: ∀p,p∈es→Kd p.1) (h: ∀es' clock',DF es clock kv c es' clock'→K .undef (jx hp id (.mp es' clock'))):
 ∃v hp',ja P n (.mapUpdate t m k x) ty tm hp ctr v hp'∧K v hp':=OY hm hf hk (.inl hx) hu hK hkv jI h
theorem DF.all {es es':cD} {clock clock':Nat} {kv:Value} {c:C} {Kd:Value→Prop} {Pc:C→Prop} (h:DF es clock kv c es' clock') (jI:lc Kd Pc es) (hk:Kd kv) (hc:Pc c):lc Kd Pc es':=by
 rcases h with⟨i,p,_,_,rfl,_⟩|⟨_,rfl,_⟩
 · intro p hp
   rcases List.mem_or_eq_of_mem_set hp with hp|rfl
   · exact jI p hp
   · exact⟨hk,hc⟩
 · intro p hp
   simp only[List.mem_append,List.mem_singleton]at hp
   rcases hp with hp|rfl
   · exact jI p hp
   · exact⟨hk,hc⟩
theorem DU {n ctr:Nat} {t ty kt et:TypeId} {m k x:Operand} {tm:TS} {hp:HS} {id clock:Nat} {es:cD} {kv:Value} {c:C} {Kd:Value→Prop} {Pc:C→Prop} {K:V→HS→Prop} (hm:Gt n tm m= .w (.one (.map id))) (hf:find hp id=some (.mp es clock)) (hk:(Gt n tm k).val? =some kv) (hx:Gt n tm x= .w (.one c)) (hu:P.underlying t=some (.map kt et))
 (hK:fg P kt Kd) (hkv:Kd kv) (jI:lc Kd Pc es) (hc:Pc c) (h: ∀es' clock',lc Kd Pc es'→K .undef (jx hp id (.mp es' clock'))):
 ∃v hp',ja P n (.mapUpdate t m k x) ty tm hp ctr v hp'∧K v hp':=
 Iq hm hf hk hx hu hK hkv jI.keys (fun es' clock' hp=>h es' clock' (hp.all jI hkv hc))
theorem lc.au {Kd:Value→Prop} {Pc:C→Prop} {es:cD} (h:lc Kd Pc es) {f:C→C} (hf: ∀c,Pc c→Pc (f c)):lc Kd Pc (es.map fun p=>(p.1,f p.2.1,p.2.2)):=by
 intro p hp
 simp only[List.mem_map]at hp
 obtain⟨q,hq,rfl⟩:=hp
 exact⟨(h q hq).1,hf _ (h q hq).2⟩
def xI (c:C):Prop:= ∃b,c= .t (.val (.bool b))
end Go.aR
end
section
namespace Go.aR.Cd
open Go Go.Proofs
set_option maxRecDepth 100000
set_option maxHeartbeats 1000000
theorem uSB:Tryz.prog.underlying 250=some (.map 9 4):=by kernel_rfl
theorem zBo:mI Tryz.prog 4=some (.bool false):=by kernel_rfl
theorem kSt:fg Tryz.prog 9 SD:=He (by kernel_rfl)
theorem xI.au {c:C} (h:xI c) (f:Nat→Option Nat):xI (c.au f):=by
 obtain⟨b,rfl⟩:=h
 exact⟨b,rfl⟩
theorem qx (xs:Lz) (a:Int) (hx:Is xs) (hl:xs.length≤maxLen):Tg 158 [oL 1 xs,oI a] GI:=by
 refine ae Tryz.func158 ?_
 repeat' (conv=>whnf
          first
  |(refine az (fun h=>?_) (fun h=>?_))
  |(refine ak hx (by first|omega|exact cE (by first|omega|(simp (disch:=omega) only[aa];omega))|(simp (disch:=omega) only[aa];omega)) (by first|omega|exact cq (by omega)|(simp (disch:=omega) only[aa];omega)) ?_;rintro _ ⟨b,rfl⟩ hs)
  |exact gI rfl rfl
  |(apply aL [0,1,7,8] [] [8] (RI xs.length) (xs.length) [iV .i64 0];(conv=>whnf);exact⟨rfl,rfl,rfl,rfl⟩;exact rfl;exact rfl;exact RI.zero;rintro _ _ ⟨i,hi,rfl,rfl⟩)
  |(refine aj [0,1,7,8] [] ?_;(conv=>whnf);exact⟨rfl,_,[_],RI.succ (N:=xs.length) (i:=i) (by omega) hl,rfl,rfl,rfl,by omega⟩))
 all_goals (conv=>whnf)
theorem nw (xs:Lz) (a:Int) (hx:Is xs) (hl:xs.length≤maxLen):Tg 131 [oL 1 xs,oI a] GB:=by
 refine ae Tryz.func131 ?_
 repeat' (conv=>whnf
          first
  |(refine ag rfl (qx xs _ hx hl) ?_;rintro _ ⟨n,rfl⟩)
  |exact gB rfl rfl)
 all_goals (conv=>whnf)
def Yw (e:List T):Prop:= ∃a b c,e=[tI a,tI b,tB c]
def Yy (e:List T):Prop:= ∃a b c d q f,e=[tI a,tI b,tI c,tI d,tB q,tI f]
def Fc (e:List T):Prop:= ∃nm m t af us,e=[.val (.string nm),tI m,tI t, .aA 1 af, .aA 1 us]∧nm.size≤maxLen∧(Is af∧af.length≤maxLen)∧Is us∧us.length≤maxLen
abbrev fW (sn:ByteArray) (bz ms ps us ss os:Lz):W:= .agg [.t (.val (.string sn)), .t (.aA 1 bz), .t (.aA 1 ms), .t (.aA 7 ps), .t (.aA 3 us), .t (.aA 6 ss), .t (.aA 5 os)]
structure gZ (sn:ByteArray) (bz ms ps us ss os:Lz):Prop where
 JB:sn.size≤maxLen
 JA:Yn bz
 afO:bz.length≤maxLen
 hms:Is ms
 hml:ms.length≤maxLen
 hps: ∀e,e∈ps→NA e
 fQ:ps.length≤maxLen
 fP: ∀e,e∈us→Yw e
 En:us.length≤maxLen
 hss: ∀e,e∈ss→Yy e
 Me:ss.length≤maxLen
 hos: ∀e,e∈os→Fc e
 Mg:os.length≤maxLen
def RMs (row:List C) (N:Nat) (m:Nat) (vs:List V) (hq:HS):Prop:= ∃ (i:Nat) (es:cD) (c:Nat),i≤N∧lc SD xI es∧m=N - i∧vs=[iV .i64 (i:Int)]∧hq=[(4, .row 7 [row]),(8, .mp es c)]
abbrev Yk (bz ms ps us ss os:Lz):Prop:=(ms.length=bz.length∧1≤bz.length)∧(bz.length≤12∧ps.length≤12∧us.length≤12)∧ss.length≤24∧os.length≤16
theorem rV (sn:ByteArray) (bz ms ps us ss os:Lz) (hS:gZ sn bz ms ps us ss os):Tg 97 [fW sn bz ms ps us ss os] (mS (fun n=>n=0→Yk bz ms ps us ss os)):=by
 have wA:=hS.afO
 have tE:=hS.hml
 refine ae Tryz.func97 ?_
 repeat' (conv=>whnf
          first
  |(refine az (fun h=>?_) (fun h=>?_))
  |(refine bC (fun h=>?_) (fun h=>?_))
  |(refine aF (fun h=>?_) (fun h=>?_))
  |(refine ak (xs:=bz) hS.JA (by omega) (by omega) ?_;rintro _ ⟨s,rfl,hsz⟩ hs)
  |(refine ak (xs:=ms) hS.hms (by omega) (by omega) ?_;rintro _ ⟨a,rfl⟩ hs)
  |(refine ag rfl (qu sn hS.JB) ?_;rintro _ ⟨b,rfl⟩)
  |(refine ag rfl (Ap s hsz) ?_;rintro _ ⟨b,rfl⟩)
  |(refine ag rfl (nw ms _ hS.hms tE) ?_;rintro _ ⟨b,rfl⟩)
  |(refine lq ?_)
  |(refine Fh rfl rfl rfl uSB zBo kSt ⟨_,rfl⟩ hM ⟨false,rfl⟩ ?_;rintro _ ⟨b,rfl⟩)
  |(refine DU rfl rfl rfl rfl uSB kSt ⟨_,rfl⟩ hM ⟨true,rfl⟩ ?_;rintro Tn c2 La)
  |(refine iH rfl rfl (fun h0=>?_);first|(exfalso;omega)|omega|exact⟨⟨by omega,by omega⟩,⟨by omega,by omega,by omega⟩,by omega,by omega⟩)
  |(apply aL [85,86,87] [] [87] (RI ms.length) (ms.length) [iV .i64 0];(conv=>whnf);exact⟨rfl,rfl,rfl,rfl⟩;exact rfl;exact rfl;exact RI.zero;rintro _ _ ⟨i,hi,rfl,rfl⟩)
  |(refine aj [85,86,87] [] ?_;(conv=>whnf);exact⟨rfl,_,[_],RI.succ (N:=ms.length) (i:=i) (by omega) tE,rfl,rfl,rfl,by omega⟩)
  |(apply cz [1,5,46,47,48] [] [48] (RMs [.t (.val (.string sn)), .t (.aA 1 bz), .t (.aA 1 ms), .t (.aA 7 ps), .t (.aA 3 us), .t (.aA 6 ss), .t (.aA 5 os)] bz.length) (bz.length) [iV .i64 0];(conv=>whnf);exact⟨rfl,rfl,rfl,rfl⟩;exact rfl;exact rfl;exact⟨0,_,_,by omega,lc.nil,rfl,rfl,rfl⟩;rintro _ _ _ ⟨i,es,c,hi,hM,rfl,rfl,rfl⟩)
  |(refine aj [1,5,46,47,48] [] ?_;(conv=>whnf);exact⟨rfl,_,[_],⟨i+1,_,_,by omega,La.au (fun c hc=>xI.au hc _),rfl,by simp only[maxLen]at wA;rw[bi (by omega) (by omega)];rfl,rfl⟩,rfl,rfl,by omega⟩)
  |(apply aL [1,21,22,23] [] [23] (RI bz.length) (bz.length) [iV .i64 0];(conv=>whnf);exact⟨rfl,rfl,rfl,rfl⟩;exact rfl;exact rfl;exact RI.zero;rintro _ _ ⟨i,hi,rfl,rfl⟩)
  |(refine aj [1,21,22,23] [] ?_;(conv=>whnf);exact⟨rfl,_,[_],RI.succ (N:=bz.length) (i:=i) (by omega) wA,rfl,rfl,rfl,by omega⟩))
 all_goals (conv=>whnf)
def ZJ (N:Nat) (e:List T):Prop:= ∃a b c,e=[tI a,tI b,tB c]∧(0≤a∧a < (N:Int))∧1≤b∧b≤4
def Np (us:Lz) (N i:Nat):Prop:= ∀j e,j < i→us[j]? =some e→ZJ N e
theorem Np.all {us:Lz} {N i:Nat} (h:Np us N i) (hi:us.length≤i): ∀e,e∈us→ZJ N e:=by
 intro e he
 obtain⟨j,hj,rfl⟩:=List.getElem_of_mem he
 exact h j _ (by omega) (by simp[hj])
def ZP (us:Lz) (N:Nat) (m:Nat) (vs:List V):Prop:= ∃i:Nat,i≤us.length∧Np us N i∧m=us.length - i∧vs=[iV .i64 (i:Int)]
theorem ZP.next {us:Lz} {N i:Nat} {a b:Int} {c:Bool} (hi:(i:Int) < (us.length:Int)) (hl:us.length≤maxLen) (h:Np us N i) (hs:us[((i:Int)).toNat]? =some [tI a,tI b,tB c]) (ha:0≤a) (ha2:a < (N:Int)) (hb:1≤b) (lp:b≤4):ZP us N (us.length - (i+1)) [iV .i64 (IntKind.i64.wrap ((i:Int)+1))]:=by
 refine⟨i+1,by omega,fun j e hj he=>?_,rfl,by simp only[maxLen]at hl;rw[bi (by omega) (by omega)];rfl⟩
 by_cases fK:j=i
 · subst fK
   have hs':us[j]? =some [tI a,tI b,tB c]:=by simpa using hs
   rw[hs']at he
   exact⟨a,b,c,(Option.some.inj he).symm,⟨ha,ha2⟩,hb,lp⟩
 · exact h j e (by omega) he
theorem Aq (sn:ByteArray) (bz ms ps us ss os:Lz) (hp: ∀e,e∈ps→NA e) (a b:Int):Tg 99 [fW sn bz ms ps us ss os,oI a,oI b] GB:=by
 refine ae Tryz.func99 ?_
 repeat' (conv=>whnf
          first
  |(refine az (fun h=>?_) (fun h=>?_))
  |(refine ak (xs:=ps) hp (by omega) (by omega) ?_;rintro _ ⟨nm,es,g,ns,cs,ws,mt,rfl,hnm,⟨he,hm⟩,⟨hn,_⟩,⟨hc,dA⟩,hw,BT⟩ hs)
  |exact gB rfl rfl)
 all_goals (conv=>whnf)
abbrev YK (bz ms ps us ss os:Lz):Prop:=Yk bz ms ps us ss os∧ ∀e,e∈us→ZJ ps.length e
theorem jk (sn:ByteArray) (bz ms ps us ss os:Lz) (hS:gZ sn bz ms ps us ss os):Tg 74 [fW sn bz ms ps us ss os] (mS (fun n=>n=0→YK bz ms ps us ss os)):=by
 have wA:=hS.fQ
 have tE:=hS.En
 have hz3:=hS.Me
 refine ae Tryz.func74 ?_
 repeat' (conv=>whnf
          first
  |(refine az (fun h=>?_) (fun h=>?_))
  |(refine bC (fun h=>?_) (fun h=>?_))
  |(refine aF (fun h=>?_) (fun h=>?_))
  |(refine dm (Nat.zero_le _) (by omega) ?_)
  |(refine ak (xs:=ps) hS.hps (by omega) (by omega) ?_;rintro _ ⟨nm,es,g,ns,cs,ws,mt,rfl,hnm,⟨he,hm⟩,⟨hn,_⟩,⟨hc,dA⟩,hw,BT⟩ hs)
  |(refine ak (xs:=us) hS.fP (by omega) (by omega) ?_;rintro _ ⟨a,b,c,rfl⟩ hs)
  |(refine ak (xs:=ss) hS.hss (by omega) (by omega) ?_;rintro _ ⟨a,b,c,d,q,f,rfl⟩ hs)
  |(refine And.intro (by kernel_rfl) ?_)
  |(refine And.intro (by omega) ?_)
  |(refine ag rfl (rV sn bz ms ps us ss os hS) ?_;rintro _ ⟨e,rfl,hW⟩)
  |(refine aB rfl (rW _ (da hS.hps _ _) (jc wA _ _) nm es g ns cs ws mt hnm he hm hn hc dA hw BT) ?_;rintro _ ⟨e,rfl⟩)
  |(refine ag rfl (Aq sn bz ms ps us ss os hS.hps _ _) ?_;rintro _ ⟨b,rfl⟩)
  |(refine iH rfl rfl (fun h0=>?_);first|(exfalso;omega)|exact⟨hW (by omega),hp.all (by omega)⟩)
  |(apply aL [1,64,65,66] [] [66] (RI ss.length) (ss.length) [iV .i64 0];(conv=>whnf);exact⟨rfl,rfl,rfl,rfl⟩;exact rfl;exact rfl;exact RI.zero;rintro _ _ ⟨i,hi,rfl,rfl⟩)
  |(refine aj [1,64,65,66] [] ?_;(conv=>whnf);exact⟨rfl,_,[_],RI.succ (N:=ss.length) (i:=i) (by omega) hz3,rfl,rfl,rfl,by omega⟩)
  |(apply aL [1,35,36,37] [] [37] (ZP us ps.length) (us.length) [iV .i64 0];(conv=>whnf);exact⟨rfl,rfl,rfl,rfl⟩;exact rfl;exact rfl;exact⟨0,by omega,fun j e hj=>by omega,rfl,rfl⟩;rintro _ _ ⟨i,hi,hp,rfl,rfl⟩)
  |(refine aj [1,35,36,37] [] ?_;(conv=>whnf);exact⟨rfl,_,[_],ZP.next (by omega) tE hp hs (by omega) (by omega) (by omega) (by omega),rfl,rfl,rfl,by omega⟩)
  |(apply aL [1,17,18,19] [] [19] (RI ps.length) (ps.length) [iV .i64 0];(conv=>whnf);exact⟨rfl,rfl,rfl,rfl⟩;exact rfl;exact rfl;exact RI.zero;rintro _ _ ⟨i,hi,rfl,rfl⟩)
  |(refine aj [1,17,18,19] [] ?_;(conv=>whnf);exact⟨rfl,_,[_],RI.succ (N:=ps.length) (i:=i) (by omega) wA,rfl,rfl,rfl,by omega⟩))
 all_goals (conv=>whnf)
end Go.aR.Cd
end
section
namespace Go.aR.Cd
open Go Go.Proofs
set_option maxRecDepth 100000
set_option maxHeartbeats 2000000
theorem aPc:jw Tryz.prog 148=some true:=by kernel_rfl
theorem zPc:cA Tryz.prog 148=some 7:=by kernel_rfl
abbrev Yl (us:Lz) (N:Nat) (Fo:Int):Prop:=(0≤Fo∧Fo < (us.length:Int))∧ ∀e,e∈us→ZJ N e
def GOl (us:Lz) (N:Nat) (Fo:Int) (ts:List W):Prop:= ∃gs nm es g ns cs ws mt e,ts=[oL 2 gs,V0 nm es g ns cs ws mt,oI e]∧(e=0→(tZ gs∧kq gs∧gs.length≤maxLen)∧(Is ws∧ws.length≤maxLen)∧Yl us N Fo)
theorem mJ (sn:ByteArray) (bz ms ps us ss os:Lz) (hS:gZ sn bz ms ps us ss os) (size Fo:Int):Tg 134 [fW sn bz ms ps us ss os,oI size,oI Fo] (GOl us ps.length Fo):=by
 refine aH ?_
 refine ae Tryz.func134 ?_
 repeat' (conv=>whnf
          first
  |(refine az (fun h=>?_) (fun h=>?_))
  |(refine bC (fun h=>?_) (fun h=>?_))
  |(refine ak (xs:=us) (hC (by omega)).2 (by omega) (by omega) ?_;rintro _ ⟨a,b,c,rfl,⟨ha,ha2⟩,hb⟩ hs)
  |(refine ak (xs:=ps) hS.hps ha ha2 ?_;rintro _ ⟨nm,es,g,ns,cs,ws,mt,rfl,hnm,⟨he,hm⟩,⟨hn,_⟩,⟨hc,dA⟩,hw,BT⟩ bP)
  |(refine ak (xs:=ms) hS.hms (by omega) (by have:=(hC (by omega)).1.1.1;omega) ?_;rintro _ ⟨m,rfl⟩ Hp)
  |(refine And.intro (by kernel_rfl) ?_)
  |(refine ag rfl (jk sn bz ms ps us ss os hS) ?_;rintro _ ⟨e,rfl,hC⟩)
  |(refine aB rfl (mw (.val (.string nm)) es (tI g) ns cs ws (tB mt) _ he hm hc dA) ?_;rintro _ ⟨gs,e2,rfl,hG⟩)
  |exact Hz rfl (bJ 2 rfl) (bD aPc zPc rfl rfl (Nat.le_refl _) rfl (fC (.cons (.nil 2) (fC (.cons (.nil 2) (.cons (.nil 2) (.cons (.nil 1) (fC .nil)))))))) (bN rfl) ⟨_,_,_,_,_,_,_,_,_,rfl,fun h0=>absurd h0 (by omega)⟩
  |exact Hz rfl (bN rfl) (bD aPc zPc rfl rfl (Nat.le_refl _) rfl (cM.refl _)) (bN rfl) ⟨gs,_,es,_,ns,cs,ws,_,_,rfl,fun h0=>⟨⟨(hG h0).1.1,(hG h0).1.2.1,by have:=(hG h0).1.2.2;omega⟩,⟨hw,BT⟩,⟨by omega,by omega⟩,(hC (by omega)).2⟩⟩)
 all_goals (conv=>whnf)
theorem za (sn:ByteArray) (bz ms ps us ss os:Lz) (hS:gZ sn bz ms ps us ss os) (size Fo:Int):Tg 100 [fW sn bz ms ps us ss os,oI size,oI Fo] (Li 2 (fun xs=>xG xs∧Yl us ps.length Fo)):=by
 refine aH ?_
 refine ae Tryz.func100 ?_
 repeat' (conv=>whnf
          first
  |(refine bC (fun h=>?_) (fun h=>?_))
  |(refine ag rfl (mJ sn bz ms ps us ss os hS size Fo) ?_;rintro _ ⟨gs,nm,es,g,ns,cs,ws,mt,e,rfl,hO⟩)
  |(refine ag rfl (uW gs ws (hO (by omega)).1.2.1 (hO (by omega)).1.2.2 (hO (by omega)).2.1.1 (hO (by omega)).2.1.2) ?_;rintro _ ⟨xs,e2,rfl,hA⟩)
  |exact dh rfl (bJ 2 rfl) (bN rfl) ⟨_,_,rfl,fun h0=>absurd h0 (by omega)⟩
  |exact dh rfl (bN rfl) (bN rfl) ⟨xs,e2,rfl,fun h0=>⟨hA h0,(hO (by omega)).2.2⟩⟩)
 all_goals (conv=>whnf)
theorem qw (sn:ByteArray) (bz ms ps us ss os:Lz) (hS:gZ sn bz ms ps us ss os) (size Fo:Int):Tg 101 [fW sn bz ms ps us ss os,oI size,oI Fo] YC:=by
 refine aH ?_
 refine ae Tryz.func101 ?_
 repeat' (conv=>whnf
          first
  |(refine bC (fun h=>?_) (fun h=>?_))
  |(refine ak (xs:=gs) (hO (by omega)).1.1.2.1 (by omega) (by have:=(hO (by omega)).1.1.1;omega) ?_;rintro _ ⟨s,xs,rfl,hL⟩ hs)
  |(refine ak (xs:=xs) hL.GD (by omega) (by have:=hL.1;omega) ?_;rintro _ ⟨a,b,rfl⟩ hs)
  |(refine ag rfl (mJ sn bz ms ps us ss os hS size Fo) ?_;rintro _ ⟨gs,nm,es,g,ns,cs,ws,mt,e,rfl,hO⟩)
  |exact dh rfl (bD aSp YU rfl rfl (Nat.le_refl _) rfl (cM.refl _)) (bN rfl) ⟨(_,_),_,rfl⟩)
 all_goals (conv=>whnf)
def alH (N:Nat) (e:List T):Prop:= ∃g u k f q x y,e=[tI g,tI u,tI k,tB f,tI q,tI x,tI y]∧0≤u∧u < (N:Int)
abbrev Gv (N:Nat) (xs:Lz):Prop:= ∀e,e∈xs→alH N e
theorem Gv.snoc {N:Nat} {xs:Lz} (h:Gv N xs) (g u k q x y:Int) (f:Bool) (h0:0≤u) (h1:u < (N:Int)):Gv N (xs++[[tI g,tI u,tI k,tB f,tI q,tI x,tI y]]):=by
 intro e he
 simp only[List.mem_append,List.mem_singleton]at he
 rcases he with he|rfl
 · exact h e he
 · exact⟨g,u,k,f,q,x,y,rfl,h0,h1⟩
def RCo (N:Nat) (m:Nat) (ws:List V) (xss:List (Lz)):Prop:= ∃ (i:Nat) (zs:Lz),i≤N∧m=N - i∧ws=[bn 4 7 zs.length,iV .i64 (i:Int)]∧xss=[zs]∧zs.length≤4 * i∧Gv N zs
theorem RCo.next {N i:Nat} {zs:Lz} (h:(i:Int) < (N:Int)) (hN:N≤12) (hp:zs.length≤4 * (i+1)) (hS:Gv N zs):RCo N (N - (i+1)) [bn 4 7 zs.length,iV .i64 (IntKind.i64.wrap ((i:Int)+1))] [zs]:=
 ⟨i+1,_,by omega,rfl,by rw[bi (by omega) (by omega)];rfl,rfl,hp,hS⟩
def RCi (N:Nat) (row:List T) (b L:Nat) (m:Nat) (ws:List V) (xss:List (Lz)):Prop:= ∃ (j:Nat) (zs:Lz),j≤L∧m=L - j∧ws=[bn 4 7 zs.length,iV .i64 (j:Int)]∧xss=[zs,[row]]∧zs.length≤b+j∧Gv N zs
theorem RCi.next {N b L j k:Nat} {row:List T} {zs:Lz} {u:Int} {g q x y:Int} {f:Bool} (h:j < L) (hL:L≤4) (hp:zs.length≤b+j) (hS:Gv N zs) (h0:0≤u) (h1:u < (N:Int)) (hk:k=zs.length+1):RCi N row b L (L - (j+1)) [bn 4 7 k,iV .i64 (IntKind.i64.wrap ((j:Int)+1))] [zs++[[tI g,tI u,tI (j:Int),tB f,tI q,tI x,tI y]],[row]]:=
 ⟨j+1,_,by omega,rfl,by rw[bi (by omega) (by omega),hk];simp,rfl,by simp;omega,hS.snoc g u _ q x y f h0 h1⟩
theorem qv (sn:ByteArray) (bz ms ps us ss os:Lz) (hS:gZ sn bz ms ps us ss os):Tg 75 [fW sn bz ms ps us ss os] (GL 7 (fun zs=>Gv us.length zs∧zs.length≤48)):=by
 refine aH ?_
 refine ae Tryz.func75 ?_
 repeat' (conv=>whnf
          first
  |(refine az (fun h=>?_) (fun h=>?_))
  |(refine bC (fun h=>?_) (fun h=>?_))
  |(refine aF (fun h=>?_) (fun h=>?_))
  |(refine ak (xs:=us) (hC (by omega)).2 (by omega) (by omega) ?_;rintro _ ⟨a,b,c,rfl,⟨ha,ha2⟩,hb,lp⟩ hs)
  |(refine And.intro ⟨by simp[tr],by have:=(hC (by omega)).1.2.1;simp[tr,aT];omega,by have:=(hC (by omega)).1.2.1;simp[tr,maxLen];omega⟩ ?_)
  |(refine And.intro (by omega) ?_)
  |(refine ag rfl (jk sn bz ms ps us ss os hS) ?_;rintro _ ⟨e,rfl,hC⟩)
  |exact ov rfl (bJ 7 rfl) ⟨[],rfl,fun e he=>by simp at he,by simp⟩
  |exact ov rfl (eO rfl rfl (xs:=zs) rfl (by omega)) ⟨_,rfl,by rw[dS rfl];exact⟨hz,by have:=(hC (by omega)).1.2.1;omega⟩⟩
  |(apply aS [3,4,5,12,13,14,20,21] [] [3,21] [(4,7),(8,3)] (RCi us.length [tI a,tI b,tB c] (4 * i) b.toNat) (b.toNat) [bn 4 7 zs.length,iV .i64 0];(conv=>whnf);exact⟨rfl,rfl,rfl,rfl⟩;exact rfl;exact rfl;exact .cons (av.au (xs:=zs) rfl _) (.cons (av.au (xs:=[[tI a,tI b,tB c]]) rfl _) .nil);exact⟨0,zs,by omega,rfl,rfl,rfl,by omega,hz⟩;rintro _ _ _ ⟨j,xQ,hj,rfl,rfl,rfl,Em,tE⟩)
  |(refine aj [3,4,5,12,13,14,20,21] [] ?_;(conv=>whnf);exact⟨rfl,_,[_,_],_, .cons (av.au (av.snoc (xs:=xQ) rfl [tI _,tI _,tI _,tB _,tI _,tI _,tI _]) _) (.cons (av.au (xs:=[[tI a,tI b,tB c]]) rfl _) .nil),RCi.next (by omega) (by omega) Em tE (by omega) (by omega) (by simp[tr]),rfl,rfl,by omega⟩)
  |(apply dI [3,12,13,14] [] [3,14] [(4,7)] (RCo us.length) (us.length) [bn 4 7 0,iV .i64 0] (dL.iL 3 7 rfl);(conv=>whnf);exact⟨rfl,rfl,rfl,rfl⟩;exact rfl;exact rfl;exact .cons (av.au av.nil _) .nil;exact⟨0,[],by omega,rfl,rfl,rfl,by simp,fun e he=>by simp at he⟩;rintro _ _ _ ⟨i,zs,hi,rfl,rfl,rfl,gR,hz⟩)
  |(refine aj [3,12,13,14] [] ?_;(conv=>whnf);exact⟨rfl,_,[_,_],_, .cons (av.au (xs:=xQ) rfl _) .nil,RCo.next (by omega) (by have:=(hC (by omega)).1.2.1;omega) (by omega) tE,rfl,rfl,by omega⟩))
 all_goals (conv=>whnf)
end Go.aR.Cd
end
section
namespace Go.aR
open Go
variable {P:Program}
theorem J3 {ids:List Nat} {ctr:Nat} (hlt: ∀id,id∈ids→id < ctr) (Hq:ids.Nodup): ∀i j k,gJ ids ctr i=some k→gJ ids ctr j=some k→i=j:=by
 intro i j k hi hj
 unfold gJ at hi hj
 split at hi
 · split at hj
   · simp only[Option.some.injEq]at hi hj
     cases h1:ids[i]? with
     |none=>
      rw[h1]at hi
      simp only[Option.getD_none]at hi
      cases h2:ids[j]? with
      |none=>
       rw[h2]at hj
       simp only[Option.getD_none]at hj
       omega
      |some b=>
       rw[h2]at hj
       simp only[Option.getD_some]at hj
       have:=hlt b (List.mem_of_getElem? h2)
       omega
     |some a=>
      rw[h1]at hi
      simp only[Option.getD_some]at hi
      cases h2:ids[j]? with
      |none=>
       rw[h2]at hj
       simp only[Option.getD_none]at hj
       have:=hlt a (List.mem_of_getElem? h1)
       omega
      |some b=>
       rw[h2]at hj
       simp only[Option.getD_some]at hj
       obtain⟨p1,e1⟩:=List.getElem?_eq_some_iff.1 h1
       obtain⟨p2,e2⟩:=List.getElem?_eq_some_iff.1 h2
       exact(List.getElem_inj Hq).1 (by rw[e1,e2,hi,hj])
   · simp at hj
 · simp at hi
theorem kj {ids:List Nat} {k:Nat} (hn:bA ids k=none): ∀ (hp:HS),find (jE ids hp) k=find hp k
 | []=>rfl
 |(q,c)::r=>by
  simp only[jE]
  split
  · rename_i j hj
    rw[ai,if_neg,kj hn r]
    intro e
    subst e
    rw[hn]at hj
    simp at hj
  · rw[ai,ai,kj hn r]
theorem pV {g:Nat→Option Nat}: ∀ {hout:HS} {k:Nat} {b:bu},find (eX g hout) k=some b→ ∃j b',find hout j=some b'∧g j=some k
 | [],k,b,h=>by simp[eX,find]at h
 |(q,c)::r,k,b,h=>by
  simp only[eX]at h
  split at h
  · rename_i k' hk'
    rw[ai]at h
    split at h
    · rename_i e
      subst e
      exact⟨q,c,by rw[ai,if_pos rfl],hk'⟩
    · obtain⟨j,b',h1,h2⟩:=pV h
      by_cases e:q=j
      · subst e
        exact⟨q,c,by rw[ai,if_pos rfl],h2⟩
      · exact⟨j,b',by rw[ai,if_neg e];exact h1,h2⟩
  · obtain⟨j,b',h1,h2⟩:=pV h
    by_cases e:q=j
    · subst e
      exact⟨q,c,by rw[ai,if_pos rfl],h2⟩
    · exact⟨j,b',by rw[ai,if_neg e];exact h1,h2⟩
theorem tG {g:Nat→Option Nat} {k:Nat}: ∀ {hout:HS} {j:Nat} {b:bu},find hout j=some b→g j=some k→ ∃b',find (eX g hout) k=some b'
 | [],j,b,h,_=>by simp[find]at h
 |(q,c)::r,j,b,h,hg=>by
  rw[ai]at h
  split at h
  · rename_i e
    subst e
    simp only[eX,hg]
    exact⟨_,by rw[ai,if_pos rfl]⟩
  · obtain⟨b',h'⟩:=tG h hg
    simp only[eX]
    split
    · rw[ai]
      split
      · exact⟨_,rfl⟩
      · exact⟨b',h'⟩
    · exact⟨b',h'⟩
theorem wG {f:Nat→Option Nat} {hp:HS}: ∀ {ids:List Nat} {j i id:Nat} {b:bu},ids[i]? =some id→(∀ (i' id':Nat),ids[i']? =some id'→ ∃b',find hp id'=some b')→find hp id=some b→find (cI f hp j ids) (j+i)=some (b.au f)
 | [],j,i,id,b,h,_,_=>by simp at h
 |x::r,j,i,id,b,h,hall,hb=>by
  simp only[cI]
  obtain⟨bx,Zo⟩:=hall 0 x rfl
  rw[Zo]
  cases i with
  |zero=>
   simp only[List.getElem?_cons_zero,Option.some.injEq]at h
   subst h
   rw[hb]at Zo
   simp only[Option.some.injEq]at Zo
   subst Zo
   simp[find]
  |succ i=>
   have:find (cI f hp (j+1) r) (j+1+i)=some (b.au f):=wG (by simpa using h) (fun i' id' h'=>hall (i'+1) id' (by simpa using h')) hb
   rw[show j+(i+1)=j+1+i by omega,ai,if_neg (by omega)]
   exact this
theorem BE {f:FuncId} {us args:List W} {hp hin:HS} {ctr:Nat} {res:V} (ids:List Nat) (hok:wy ids ctr=true) (hfn:Fn P f args hin res hin)
 (ha:us.map (W.au (bA ids))=args) (hh:cI (bA ids) hp 0 ids=hin) (C3: ∀id,id∈ids→ ∃b,find hp id=some b∧(b.au (bA ids)).au (gJ ids ctr)=b):
 eM P f us hp ctr (res.au (gJ ids ctr)) hp (ctr+4):=by
 have uE:=hok
 simp only[wy,Bool.and_eq_true,decide_eq_true_eq,List.all_eq_true]at uE
 obtain⟨⟨hlen,hlt⟩,Hq⟩:=uE
 have hinj:=J3 (ids:=ids) (ctr:=ctr) hlt Hq
 intro M A ρ a w n L xs hr hx
 refine(tT ids hok hfn ha hh M A ρ a w n L xs hr hx).mono ?_
 rintro e w' ⟨x,A',ρ',rfl,r1,r2,r3,r4,r5⟩
 refine⟨x,A',ρ',rfl,r1.forget rfl (fun _ _ h=>h) (fun k b hb=>?_),r2,r3,r4,r5⟩
 simp only at hb⊢
 cases hk:bA ids k with
 |none=>
  have hnone:find (eX (gJ ids ctr) hin) k=none:=by
   cases hq:find (eX (gJ ids ctr) hin) k with
   |none=>rfl
   |some b2=>
    obtain⟨j,b',h1,h2⟩:=pV hq
    rw[←hh]at h1
    obtain⟨i,id,b3,rfl,h3,h4,_⟩:=bZ h1
    have hi4:0+i < 4:=by have:=(List.getElem?_eq_some_iff.1 h3).1;omega
    have ahK:i < 4:=by omega
    simp only[gJ,Nat.zero_add,h3,Option.getD_some,if_pos ahK,Option.some.injEq]at h2
    subst h2
    exact absurd h3 (iR hk i)
  rw[cL,hnone,Option.none_or,kj hk]
  exact hb
 |some j=>
  have hj:=ew hk
  have hj4:j < 4:=by have:=(List.getElem?_eq_some_iff.1 hj).1;omega
  have hg:gJ ids ctr j=some k:=by simp only[gJ,if_pos hj4,hj,Option.getD_some]
  have Xs:find hin j=some (b.au (bA ids)):=by
   rw[←hh]
   have:=wG (f:=bA ids) (hp:=hp) (j:=0) hj (fun i' id' h'=>by
    obtain⟨b',h1,_⟩:=C3 id' (List.mem_of_getElem? h')
    exact⟨b',h1⟩) hb
   simpa using this
  obtain⟨b2,lp⟩:=tG Xs hg
  obtain⟨j',b',g1,g2,g3⟩:=js hinj lp
  have:=hinj _ _ _ g1 hg
  subst this
  rw[Xs]at g2
  simp only[Option.some.injEq]at g2
  subst g2
  obtain⟨b4,h4,h5⟩:=C3 k (List.mem_of_getElem? hj)
  rw[hb]at h4
  simp only[Option.some.injEq]at h4
  subst h4
  rw[cL,lp,Option.some_or,g3,h5]
end Go.aR
end
section
namespace Go.aR
open Go
variable {P:Program} {M A:Nat→Prop} {ρ:Env} {F:Nat→Prop} {st:St} {a:Act} {w:World}
theorem dL.cut {tm:TS} {hp:HS} {ctr sz:Nat} {rows:List (List C)} (id k:Nat) (hf:find hp id=some (.row sz rows)):dL tm hp ctr tm (jx hp id (.row sz (rows.take k))) ctr:=by
 intro M A ρ n a w hr
 refine⟨A,ρ,⟨hr.size,hr.defers,hr.tmps,fun q blk hb=>?_,fun id1 Hj b1 b2 b h1 h2 r1 r2=>?_,hr.fresh,hr.bound,hr.may,hr.dN⟩,iE.refl _,fT.refl M A w⟩
 · simp only[bt]at hb
   split at hb
   · rename_i e
     subst e
     rw[hf]at hb
     simp only[Option.map_some,Option.some.injEq]at hb
     subst hb
     obtain⟨h1,h2⟩:=hr.heap q _ hf
     refine⟨fun e he=>h1 e (List.mem_of_mem_take he),?_⟩
     rcases h2 with⟨b,c,e,k1,k2,k3,k4,k5,k6⟩|⟨k1,k2⟩
     · refine .inl ⟨b,c,e,k1,k2,k3,k4,?_,fun i el j q' hi hj=>k6 i el j q' (B7 hi) hj⟩
       refine Nat.le_trans (Nat.mul_le_mul_right _ ?_) k5
       simp only[List.length_take]
       omega
     · exact .inr ⟨k1,by rw[k2];simp⟩
   · exact hr.heap q blk hb
 · have old: ∀ {q:Nat} {bl:bu},find (jx hp id (.row sz (rows.take k))) q=some bl→ ∃BX,find hp q=some BX:=by
    intro q bl hq
    simp only[bt]at hq
    split at hq
    · rename_i e
      subst e
      exact⟨_,hf⟩
    · exact⟨_,hq⟩
   obtain⟨c1,g1⟩:=old h1
   obtain⟨c2,g2⟩:=old h2
   exact hr.inj id1 Hj c1 c2 b g1 g2 r1 r2
end Go.aR
end
section
namespace Go.aR
open Go
variable {P:Program} {M A:Nat→Prop} {ρ:Env} {F:Nat→Prop} {st:St} {a:Act} {w:World}
theorem DV {n ctr:Nat} {op:Op} {ty:TypeId} {tm:TS} {hp:HS} {v:V} {K:V→HS→Prop} (h:bc P (St.get ⟨n,tm,[]⟩) ⟨none,op,ty, "", #[],none⟩=some v) (hk:K v hp):
 ∃v hp',ja P n op ty tm hp ctr v hp'∧K v hp':=by
 refine⟨_,_,?_,hk⟩
 rintro⟨dst',op',ty',pos',after',guard'⟩ rfl rfl
 intro M A ρ a w hr
 have hg:St.get ⟨n,tm,hp⟩=St.get ⟨n,tm,[]⟩:=by
  funext x
  exact jJ x
 refine iA (st:=⟨n,tm,hp⟩) ?_ hr ct
 rw[hg]
 exact h
theorem O1 {n ctr m size bytes:Nat} {t t' ty e:TypeId} {ik:IntKind} {s x:Operand} {tm:TS} {hp:HS} {z:List C} {N:Int} {K:V→HS→Prop} (hs:Gt n tm s= .w (.one (.t fk))) (hx:(Gt n tm x).fO =some (.i64,N)) (hN:N=((m+1:Nat):Int))
 (hu:P.underlying t=some (.slice e)) (A4:P.underlying t'=some (.int ik)) (hT:nY P e=some (size,bytes)) (hz:jW P e=some z) (hsz:z.length=size) (hb:(m+1) * bytes≤70368744177664) (hm:m+1≤70368744177664)
 (hk:K (.w (.one (.own ctr size 0 (m+1)))) ((ctr, .row size (List.replicate (m+1) z))::hp)):
 ∃v hp',ja P n (.call ⟨.builtin .append, #[s,x], #[t,t']⟩) ty tm hp ctr v hp'∧K v hp':=by
 refine⟨_,_,?_,hk⟩
 rintro⟨dst',op',ty',pos',after',guard'⟩ rfl rfl
 intro M A ρ a w hr
 have vs:=hr.get s
 rw[jJ,hs]at vs
 have vx:=V.iS hx (by have:=hr.get x;rw[jJ]at this;exact this)
 have WI:a.eval s= .slice none 0 0:=V.bh (v:= .slice none 0 0) rfl vs
 obtain⟨inf,zv,z1,z2,z3,z4,z5,z6⟩:=mA hT
 obtain⟨aeP,zv',y1,y2,y3,y4,y5⟩:=fm hz w A ρ
 rw[z1]at y1
 simp only[Option.some.injEq]at y1
 subst y1
 rw[z2]at y2
 simp only[Option.some.injEq]at y2
 subst y2
 have hrun:=lA (P:=P) (ty:=ty') hu A4 z1 z2 (m+1) (by omega) (by omega) hm (by rw[z4];exact hb) w
 have hge:=grownCap_ge w (m+1) 0 e
 obtain⟨e1,e2,e3⟩:=ng y5 (m+1)
 have hlen:(List.replicate (m+1) z).length=m+1:=by simp
 obtain⟨A',ρ',r1,r2,r3,r4,r5⟩:=kg (st:=⟨n,tm,hp⟩) (e:=e) (z:=zv.cells) (cap:=grownCap w (m+1) 0 e) (zs:=List.replicate (m+1) z) (vs:=(Builtin.zeroCells zv.cells (m+1)).toList) (size:=size) hr (Nat.le_refl ctr) z5
  (fun el hel=>by rw[List.eq_of_mem_replicate hel];exact hsz)
  (by rw[Array.length_toList,size_zeroCells,z5,hlen]) (by rw[hlen];exact hge)
  (fun i el j k hi hj=>by
    obtain⟨y,hy,tF,uD⟩:=e3 i el j k hi hj
    refine⟨y,?_,tF,uD⟩
    rw[Array.getElem?_toList, ←hsz]
    have ez:Builtin.zeroCells zv.cells (m+1)=(Array.range ((m+1) * z.length)).map fun k=>zv.cells[k % zv.cells.size]! :=by
     unfold Builtin.zeroCells
     have:zv.cells.size=z.length:=by rw[y3,y4]
     rw[this]
    rw[ez]
    exact hy)
 rw[hlen]at r1 r2 r3
 simp only[Array.toArray_toList]at r1 r2 r3
 refine⟨_,_,A',ρ', .inl ?_,r1.sub ij,r2,r3,r4,r5⟩
 have Wx:a.eval x= .int .i64 ((m+1:Nat):Int):=by rw[vx,hN]
 have Rj:(execOp a.eval ⟨dst',Op.call ⟨.builtin .append, #[s,x], #[t,t']⟩,ty',pos',after',guard'⟩).run P w=((Builtin.append_ #[t,t'] ty' #[a.eval s,a.eval x]).run P w).andThen fun v w'=> .ok (.value v) w':=by
  simp[execOp,resolve,invoke,builtin]
 rw[Rj,WI,Wx,hrun]
 rfl
theorem vu {f:FuncId} {us ts:List W} {hp:HS} {ctr sz:Nat} {K:V→HS→Prop} {p:Lz→Prop} (hl:jz hp us=some ts) (hfl: ∀xs,p xs→(bu.row sz (tr xs)).flat=true) (h: ∃rs hout,BZ P f ts (aO rs) hout∧GN sz p rs hout)
 (hk: ∀xs,p xs→K (.w (.one (.own (0+ctr) sz 0 xs.length))) ((0+ctr, .row sz (tr xs))::hp)): ∃v hp',eL P hp ctr f us v hp'∧K v hp':=by
 obtain⟨rs,hout,h1,xs,rfl,rfl,h2⟩:=h
 have iI:eL P hp ctr f us ((aO [.one (.own 0 sz 0 xs.length)]).up ctr) (fU ctr [(0, .row sz (tr xs))]++hp):=
  .inl ⟨_,_,ts,h1,rfl,rfl, .inr ⟨hl,rfl,fun id blk hf=>by
   simp only[find]at hf
   split at hf
   · simp only[Option.some.injEq]at hf
     subst hf
     exact hfl xs h2
   · simp at hf⟩⟩
 refine⟨_,_,iI,?_⟩
 have:=hk xs h2
 simp only[aO,V.up,W.up,C.up,fU,bu.up,Nat.zero_lt_succ,if_true,NP]at this⊢
 exact this
end Go.aR
end
section
namespace Go.aR
open Go
variable {P:Program} {M A:Nat→Prop} {ρ:Env} {F:Nat→Prop} {st:St} {a:Act} {w:World}
theorem Rel.cut {hp:HS} {n:Nat} {tm:TS} {sz:Nat} {rows:List (List C)} (hr:Rel M A ρ F ⟨n,tm,hp⟩ a w) (id k:Nat) (hf:find hp id=some (.row sz rows)):Rel M A ρ F ⟨n,tm,jx hp id (.row sz (rows.take k))⟩ a w:=by
 refine⟨hr.size,hr.defers,hr.tmps,fun q blk hb=>?_,fun id1 Hj b1 b2 b h1 h2 r1 r2=>?_,hr.fresh,hr.bound,hr.may,hr.dN⟩
 · simp only[bt]at hb
   split at hb
   · rename_i e
     subst e
     rw[hf]at hb
     simp only[Option.map_some,Option.some.injEq]at hb
     subst hb
     obtain⟨h1,h2⟩:=hr.heap q _ hf
     refine⟨fun e he=>h1 e (List.mem_of_mem_take he),?_⟩
     rcases h2 with⟨b,c,e,k1,k2,k3,k4,k5,k6⟩|⟨k1,k2⟩
     · refine .inl ⟨b,c,e,k1,k2,k3,k4,?_,fun i el j q' hi hj=>k6 i el j q' (B7 hi) hj⟩
       refine Nat.le_trans (Nat.mul_le_mul_right _ ?_) k5
       simp only[List.length_take]
       omega
     · exact .inr ⟨k1,by rw[k2];simp⟩
   · exact hr.heap q blk hb
 · have old: ∀ {q:Nat} {bl:bu},find (jx hp id (.row sz (rows.take k))) q=some bl→ ∃BX,find hp q=some BX:=by
    intro q bl hq
    simp only[bt]at hq
    split at hq
    · rename_i e
      subst e
      exact⟨_,hf⟩
    · exact⟨_,hq⟩
   obtain⟨c1,g1⟩:=old h1
   obtain⟨c2,g2⟩:=old h2
   exact hr.inj id1 Hj c1 c2 b g1 g2 r1 r2
theorem BZ.cut {f:FuncId} {args:List W} {v:V} {sz:Nat} {rows:List (List C)} (k:Nat) (h:BZ P f args v [(0, .row sz rows)]):BZ P f args v [(0, .row sz (rows.take k))]:=by
 intro w A xs hH hx
 refine(h w A xs hH hx).mono ?_
 rintro e w' ⟨x,A',ρ',F',h1,h2,h3,h4,h5⟩
 refine⟨x,A',ρ',F',h1,h2,?_,h4,h5⟩
 have:=Rel.cut (sz:=sz) (rows:=rows) h3 0 k (by simp[find])
 exact this
def AH (v:V):List Nat→TS→TS
 | [],tm=>tm
 |t::ts,tm=>(t,v)::AH v ts tm
theorem tL {v u:V} {tm:TS} {k:Nat}: ∀ {ts:List Nat},find (AH v ts tm) k=some u→(k∈ts∧u=v)∨find tm k=some u
 | [],h=> .inr h
 |t::ts,h=>by
  simp only[AH,ai]at h
  split at h
  · rename_i e
    subst e
    simp only[Option.some.injEq]at h
    exact .inl ⟨List.mem_cons_self,h.symm⟩
  · rcases tL h with⟨h1,h2⟩|h
    · exact .inl ⟨List.mem_cons_of_mem _ h1,h2⟩
    · exact .inr h
theorem dL.Rw {tm:TS} {hp:HS} {ctr sz len:Nat} {rows:List (List C)} {xs:Lz} (ts:List Nat) (id:Nat) (h: ∀t,t∈ts→find tm t=some (.w (.one (.own id sz 0 len)))) (hf:find hp id=some (.row sz rows)) (hR:av rows xs) (hl:len≤xs.length):
 dL tm hp ctr (AH (.w (.one (.t (.aA sz (xs.take len))))) ts tm) (del hp id) ctr:=by
 intro M A ρ n a w hr
 have h0:=Rel.forget hr (st':=⟨n,tm,[(id, .row sz rows)]⟩) rfl (fun _ _ h=>h) (fun k b hb=>by
  simp only[ai]at hb
  split at hb
  · rename_i e
    subst e
    rw[←hb]
    exact hf
  · simp[find]at hb)
 let B:Nat→Prop:=fun b=>A b∧ρ id≠some (.fF b)
 have hfz:bI [(id,bu.row sz rows)] (.one (.own id sz 0 len))=some (.one (.t (.aA sz ((xs.drop 0).take len)))):=kI (hp:=[(id,bu.row sz rows)]) (by simp[find]) hR (by omega)
 have hnew: ∀t,t∈ts→RW w B ρ (.one (.t (.aA sz ((xs.drop 0).take len)))) (a.tmps.getD t undef):=fun t ht=>
  gK h0 (B:=B) (fun b hb=>hb.1) (fun k blk b hk hρ hB=>by
   simp only[ai]at hk
   split at hk
   · rename_i e
     subst e
     exact hB.2 hρ
   · simp[find]at hk) hfz (hr.tmps t _ (h t ht)) ρ
 have hs:Rel M B ρ (bg ctr) ⟨n,tm,del hp id⟩ a w:=Rel.shrink (hp:=del hp id) hr (fun b hb=>hb.1) (fun k b hk=>by
  rw[ey]at hk
  split at hk
  · simp at hk
  · exact hk) (fun k blk b hk hρ=>by
  rw[ey]at hk
  split at hk
  · simp at hk
  · rename_i hne
    refine⟨(EB (hr.heap k blk hk) hρ).1,fun h2=>?_⟩
    exact hne (hr.inj k id blk _ b hk hf hρ h2))
 refine⟨B,ρ,⟨hs.size,hs.defers,fun u v hv=>?_,hs.heap,hs.inj,hs.fresh,hs.bound,hs.may,hs.dN⟩,iE.refl _,fun b hA hM=>⟨hA,fun h2=>hM ((hr.heap id _ hf).lt h2).2.1⟩,fun b _ hb=>hb.1⟩
 rcases tL hv with⟨h1,rfl⟩|hv
 · have e:(xs.drop 0).take len=xs.take len:=by simp
   have:=hnew u h1
   rw[e]at this
   exact this
 · exact hs.tmps u v hv
theorem Qy {p:Nat→Prop} {a b:Nat} (ha:p a) (hb:p b): ∀t,t∈ [a,b]→p t:=by
 intro t ht
 simp only[List.mem_cons,List.not_mem_nil,or_false]at ht
 rcases ht with rfl|rfl
 · exact ha
 · exact hb
theorem aeL {p:Nat→Prop} {a:Nat} (ha:p a): ∀t,t∈ [a]→p t:=by
 intro t ht
 simp only[List.mem_singleton]at ht
 subst ht
 exact ha
def YF (sz:Nat) (ts:List W) (hout:HS):Prop:= ∃rows,ts=[.one (.own 0 sz 0 0)]∧hout=[(0, .row sz rows)]
theorem gNc {hp:HS} {tm:TS} {rs:List ResultVar} {t id sz:Nat} {rows:List (List C)} (hr:rs=[.tmp t]) (h:find tm t=some (.w (.one (.own id sz 0 0)))) (hf:find hp id=some (.row sz rows)):
 ∃us ids,aM P hp tm rs=some us∧(ids.length≤4∧ids.Nodup)∧YF sz (us.map (W.au (bA ids))) (cI (bA ids) hp 0 ids):=by
 subst hr
 refine⟨[.one (.own id sz 0 0)],[id],by simp only[aM,cc,h],⟨by simp,by simp⟩,rows.map fun e=>e.map (C.au (bA [id])),?_,?_⟩
 · simp[W.au,C.au,bA]
 · simp only[cI,hf,bu.au]
theorem YF.new {f:FuncId} {args:List W} {sz:Nat} (h: ∃ts hout,BZ P f args (aO ts) hout∧YF sz ts hout): ∃ts hout,BZ P f args (aO ts) hout∧GN sz (fun xs=>xs=[]) ts hout:=by
 obtain⟨ts,hout,h1,rows,rfl,rfl⟩:=h
 have:=h1.cut 0
 rw[List.take_zero]at this
 exact⟨_,_,this,[],rfl,rfl,rfl⟩
theorem j9 {hp:HS} {id sz:Nat} {rows:List (List C)} {xs:Lz} (hf:find hp id=some (.row sz rows)) (hR:av rows xs):cI (bA [id]) hp 0 [id]=[(0, .row sz (tr xs))]:=by
 simp only[cI,hf,bu.au]
 rw[hR,eW]
theorem Fj {f:FuncId} {us ts:List W} {hp:HS} {ctr:Nat} {K:V→HS→Prop} {Good:List W→Prop} (hl:jz hp us=some ts) (h: ∃rs,Fn P f ts [] (aO rs) []∧(aO rs).cV=true∧Good rs) (hf: ∀rs,Good rs→(aO rs).flat=true) (hk: ∀rs,Good rs→K (aO rs) hp): ∃v hp',eL P hp ctr f us v hp'∧K v hp':=by
 obtain⟨rs,h1,h2,h3⟩:=h
 refine⟨aO rs,hp, .inl ⟨aO rs,[],ts,h1.toF,(V.pF h2).symm,rfl, .inr ⟨hl,hf rs h3,fun id blk h=>by simp[find]at h⟩⟩,hk rs h3⟩
end Go.aR
end
section
namespace Go.aR.Cd
open Go Go.Proofs
set_option maxRecDepth 100000
set_option maxHeartbeats 1000000
def ZW (n:Nat) (m:Nat) (ws:List V) (xss:List (Lz)):Prop:= ∃ (i q:Int) (zs:Lz),(0≤i∧i≤(n:Int)∧q < (n:Int)∧ -1≤q)∧m=(q+1 - i).toNat∧ws=[iV .i64 i,iV .i64 q]∧xss=[zs]∧zs.length=n∧bY zs
theorem ZW.next {n:Nat} {i q:Int} {zs:Lz} (hb:0≤i∧i≤(n:Int)∧q < (n:Int)∧ -1≤q) (h:i < q) (hn:n≤1000000) (hz:zs.length=n) (hS:bY zs) (j1 j2:Nat) (a b c d:Int):
 ZW n (q - 1+1 - (i+1)).toNat [iV .i64 (IntKind.i64.wrap (i+1)),iV .i64 (IntKind.i64.wrap (q - 1))] [(zs.set j1 [tI a,tI b]).set j2 [tI c,tI d]]:=
 ⟨i+1,q - 1,_,by omega,rfl,by rw[bi (by omega) (by omega),bi (by omega) (by omega)],rfl,by simp[hz],(hS.set j1 a b).set j2 c d⟩
def GRv (n:Nat) (ts:List W) (hout:HS):Prop:=ts=[]∧ ∃ys,hout=[(0, .row 2 (tr ys))]∧ys.length=n∧bY ys
theorem nt (xs:Lz) (hx:bY xs) (hl:xs.length≤1000000): ∃ts hout,Fn Tryz.prog 150 [.one (.own 0 2 0 xs.length)] [(0, .row 2 (tr xs))] (aO ts) hout∧GRv xs.length ts hout:=by
 refine gx Tryz.func150 ?_
 repeat' (conv=>whnf
          first
  |(refine az (fun h=>?_) (fun h=>?_))
  |(refine And.intro ⟨by omega,by omega⟩ ?_)
  |(refine And.intro (by kernel_rfl) ?_)
  |(refine bM (xs:=zs) rfl hU (by omega) ?_;rintro _ ⟨a,b,rfl⟩ hs)
  |(refine bM (xs:=zs.set _ [tI _,tI _]) (av.set (xs:=zs) rfl _ [tI _,tI _]) (hU.set _ _ _) (by simp;omega) ?_;rintro _ ⟨a,b,rfl⟩ hs)
  |exact⟨[],[],_,rfl,rfl,jA rfl (xs:=xs) (ys:=zs) rfl,rfl,zs,rfl,hz,hU⟩
  |(apply aS [0,2,3] [] [2,3] [(0,2)] (ZW xs.length) (xs.length) [iV .i64 0,iV .i64 (IntKind.i64.wrap ((xs.length:Int) - 1))];(conv=>whnf);exact⟨rfl,rfl,rfl,rfl⟩;exact rfl;exact rfl;exact .cons (av.au (xs:=xs) rfl _) .nil;exact⟨0,(xs.length:Int) - 1,xs,by omega,by omega,by rw[bi (by omega) (by omega)],rfl,rfl,hx⟩;rintro _ _ _ ⟨i,q,zs,hb,rfl,rfl,rfl,hz,hU⟩)
  |(refine aj [0,2,3] [] ?_;(conv=>whnf);exact⟨rfl,_,[_,_],_, .cons (av.au (av.set (av.set (xs:=zs) rfl _ [tI _,tI _]) _ [tI _,tI _]) _) .nil,ZW.next hb (by omega) hl hz hU _ _ _ _ _ _,rfl,rfl,by omega⟩))
 all_goals (conv=>whnf)
def ND (ts:List W):Prop:=ts=[.one (.t fk)]
theorem XS (_u:Unit):Tg 173 [.one (.t fk),oI 0] ND:=by
 refine ae Tryz.func173 ?_
 repeat' (conv=>whnf
          first
  |(refine DV (op:= .call ⟨.builtin .cap, #[.tmp _], #[77]⟩) (v:=iV .i64 0) (by kernel_rfl) ?_)
  |exact g1 rfl rfl rfl)
 all_goals (conv=>whnf)
theorem YX:Tryz.prog.underlying 77=some (.slice 57):=by kernel_rfl
theorem uIn:Tryz.prog.underlying 3=some (.int .i64):=by kernel_rfl
theorem ajK:nY Tryz.prog 57=some (2,16):=by kernel_rfl
theorem abF:jW Tryz.prog 57=some [.t (tI 0), .t (tI 0)]:=by kernel_rfl
theorem JW {n:Nat} (hn:n≤1000000):IntKind.i64.wrap ((n:Int) - IntKind.i64.wrap (0 - ((0:Nat):Int)))=(n:Int):=by
 rw[bi (n:=0 - ((0:Nat):Int)) (by omega) (by omega),bi (by omega) (by omega)]
 omega
theorem Rn {n:Nat} (h1:1≤n) (hn:n≤1000000):IntKind.i64.wrap ((n:Int) - IntKind.i64.wrap (0 - ((0:Nat):Int)))=((n - 1+1:Nat):Int):=by
 rw[JW hn]
 omega
theorem XQ (n:Nat) (h1:1≤n) (hn:n≤1000000): ∃ts hout,BZ Tryz.prog 173 [.one (.t fk),oI n] (aO ts) hout∧YF 2 ts hout:=by
 refine wR Tryz.func173 ?_
 repeat' (conv=>whnf
          first
  |(refine az (fun h=>?_) (fun h=>?_))
  |(refine pB (Nat.zero_le _) (by omega) (.inr rfl) ?_)
  |(refine And.intro (by omega) ?_)
  |(refine DV (op:= .call ⟨.builtin .cap, #[.tmp _], #[77]⟩) (v:=iV .i64 0) (by kernel_rfl) ?_)
  |(refine DV (op:= .slice 77 (.tmp 17) none (some (.tmp 19)) none) (v:=G4) (by kernel_rfl) ?_)
  |(refine O1 (m:=n - 1) rfl rfl (Rn h1 hn) YX uIn ajK abF rfl (by omega) (by omega) ?_)
  |exact gNc rfl rfl rfl
  |(exfalso;rw[JW hn]at h;omega))
 all_goals (conv=>whnf)
theorem Rp (n:Nat) (h:n=0):Lh 173 [.one (.t fk),oI n] ND:=by subst h;exact XS ()
def tl (e:List T):Nat:=
 match e with
 | [.aA _ xs]=>xs.length
 |_=>0
def gG:Lz→Nat
 | []=>0
 |e::r=>tl e+gG r
theorem yW: ∀ (es:Lz) (e:List T),gG (es++[e])=gG es+tl e
 | [],e=>by simp[gG]
 |x::r,e=>by simp only[List.cons_append,gG,yW r e];omega
theorem rT {es:Lz} {i:Nat} {e:List T} (h:es[i]? =some e):gG (es.take (i+1))=gG (es.take i)+tl e:=by
 rw[iN h,yW]
def Fe (e:List T):Prop:= ∃ys,e=[.aA 2 ys]∧bY ys∧ys.length≤100000
theorem Fp: ∀ {es:Lz},(∀e,e∈es→Fe e)→gG es≤100000 * es.length
 | [],_=>by simp[gG]
 |e::r,h=>by
  obtain⟨ys,rfl,_,hl⟩:=h e List.mem_cons_self
  have:=Fp (es:=r) (fun q hq=>h q (List.mem_cons_of_mem _ hq))
  simp only[gG,tl,List.length_cons]
  omega
theorem tb {es:Lz} (h: ∀e,e∈es→Fe e) (hl:es.length≤4) (i:Nat):gG (es.take i)≤400000:=by
 have:=Fp (es:=es.take i) (fun e he=>h e (List.mem_of_mem_take he))
 have h2:(es.take i).length≤es.length:=by simp;omega
 omega
theorem Lt {es:Lz} {i:Nat} {y:List T} {ys:Lz} (h0:gG es=0) (hs:es[i]? =some [.aA 2 (y::ys)]):False:=by
 have h1: ∀ (l:Lz),[T.aA 2 (y::ys)]∈l→1≤gG l:=by
  intro l
  induction l with
  |nil=>intro h;simp at h
  |cons a r ih=>
   intro h
   rcases List.mem_cons.1 h with rfl|h
   · simp only[gG,tl,List.length_cons];omega
   · have:=ih h;simp only[gG];omega
 have:=h1 es (List.mem_of_getElem? hs)
 omega
def TA (ls:Lz) (m:Nat) (vs:List V):Prop:= ∃i:Nat,i≤ls.length∧m=ls.length - i∧vs=[iV .i64 (gG (ls.take i):Int),iV .i64 (i:Int)]
theorem TA.next {ls:Lz} {i:Nat} {ys:Lz} {n:Int} (hls: ∀e,e∈ls→Fe e) (hl:ls.length≤4) (hi:(i:Int) < (ls.length:Int)) (hs:ls[((i:Int)).toNat]? =some [.aA 2 ys]) (hn:n=(ys.length:Int)):TA ls (ls.length - (i+1)) [iV .i64 (IntKind.i64.wrap ((gG (ls.take i):Int)+n)),iV .i64 (IntKind.i64.wrap ((i:Int)+1))]:=by
 have h1:=rT (es:=ls) (i:=i) (by simpa using hs)
 have h2:=tb hls hl (i+1)
 simp only[tl]at h1
 refine⟨i+1,by omega,rfl,?_⟩
 rw[hn,bi (by omega) (by omega),bi (by omega) (by omega),h1]
 simp
theorem OE {ls:Lz} {i:Nat} {n:Nat} (hls: ∀e,e∈ls→Fe e) (hl:ls.length≤4) (hn:n≤100000) (h:IntKind.i64.wrap ((gG (ls.take i):Int)+(n:Int)) < 0):False:=by
 have:=tb hls hl i
 rw[bi (by omega) (by omega)]at h
 omega
def Sz (ls:Lz) (m:Nat) (ws:List V) (xss:List (Lz)):Prop:= ∃ (i:Nat) (zs:Lz),i≤ls.length∧m=ls.length - i∧ws=[bn 4 2 zs.length,iV .i64 (i:Int)]∧xss=[zs]∧zs.length=gG (ls.take i)∧bY zs
theorem Sz.same {ls zs:Lz} {i:Nat} (hl:ls.length≤4) (hi:(i:Int) < (ls.length:Int)) (hs:ls[((i:Int)).toNat]? =some [.aA 2 []]) (hz:zs.length=gG (ls.take i)) (hS:bY zs):Sz ls (ls.length - (i+1)) [bn 4 2 zs.length,iV .i64 (IntKind.i64.wrap ((i:Int)+1))] [zs]:=by
 have h1:=rT (es:=ls) (i:=i) (by simpa using hs)
 simp only[tl,List.length_nil,Nat.add_zero]at h1
 exact⟨i+1,zs,by omega,rfl,by rw[bi (by omega) (by omega)];rfl,rfl,by omega,hS⟩
theorem Sz.Gh {ls zs ys:Lz} {y:List T} {i k:Nat} (hl:ls.length≤4) (hi:(i:Int) < (ls.length:Int)) (hs:ls[((i:Int)).toNat]? =some [.aA 2 (y::ys)]) (hy:bY (y::ys)) (hz:zs.length=gG (ls.take i)) (hS:bY zs) (hk:k=zs.length+(ys.length+1)):Sz ls (ls.length - (i+1)) [bn 4 2 k,iV .i64 (IntKind.i64.wrap ((i:Int)+1))] [zs++y::ys]:=by
 have h1:=rT (es:=ls) (i:=i) (by simpa using hs)
 simp only[tl,List.length_cons]at h1
 refine⟨i+1,_,by omega,rfl,by rw[bi (by omega) (by omega),hk];simp,rfl,by simp;omega,?_⟩
 intro e he
 simp only[List.mem_append]at he
 rcases he with he|he
 · exact hS e he
 · exact hy e he
theorem ajX {zs ys:Lz} (h1:zs.length≤400000) (h2:ys.length≤100000):zs.length=(tr zs).length∧((tr zs).length+((ys.map fun e=>e.map C.t).length+1)) * 16≤aT∧(tr zs).length+((ys.map fun e=>e.map C.t).length+1)≤maxLen:=by
 refine⟨by simp[tr],?_,?_⟩
 · simp only[tr,List.length_map,aT];omega
 · simp only[tr,List.length_map,maxLen];omega
theorem MV (ls:Lz) (hls: ∀e,e∈ls→Fe e) (hl:ls.length≤4) (h1:1≤gG ls): ∃ts hout,BZ Tryz.prog 151 [oL 1 ls] (aO ts) hout∧GN 2 (fun zs=>zs.length=gG ls∧bY zs) ts hout:=by
 refine wR Tryz.func151 ?_
 repeat' (conv=>whnf
          first
  |(refine az (fun h=>?_) (fun h=>?_))
  |(refine ak (xs:=ls) (n:=(i:Int)) hls (by omega) (by omega) ?_;rintro _ ⟨ys,rfl,hys,jT⟩ hs)
  |(refine ak (xs:=ls) (n:=(q:Int)) hls (by omega) (by omega) ?_;rintro _ ⟨_|⟨y,ys⟩,rfl,hys,jT⟩ hs)
  |(exfalso;exact OE hls hl jT h)
  |(refine And.intro (ajX (by have:=tb hls hl q;omega) (by simp at jT;omega)) ?_)
  |(refine U4 rfl (YF.new (XQ (gG (ls.take i)) (by rw[List.take_of_length_le (by omega)];exact h1) (by have:=tb hls hl i;omega))) ?_;rintro _ rfl)
  |exact gN rfl rfl rfl (xs:=zs) rfl rfl ⟨by rw[List.take_of_length_le (by omega)]at hz;exact hz,hS⟩
  |(apply aS [6,25,26,27] [] [6,27] [(4,2)] (Sz ls) (ls.length) [bn 4 2 0,iV .i64 0];(conv=>whnf);exact⟨rfl,rfl,rfl,rfl⟩;exact rfl;exact rfl;exact .cons (av.au (xs:=[]) rfl _) .nil;exact⟨0,[],by omega,rfl,rfl,rfl,by simp[gG],fun e he=>by simp at he⟩;rintro _ _ _ ⟨q,zs,hq,rfl,rfl,rfl,hz,hS⟩)
  |(refine aj [6,25,26,27] [] ?_;(conv=>whnf);first|exact⟨rfl,_,[_,_],_, .cons (av.au (xs:=zs) rfl _) .nil,Sz.same hl (by omega) hs hz hS,rfl,rfl,by omega⟩|exact⟨rfl,_,[_,_],_, .cons (av.au (av.Gh (xs:=zs) rfl (y::ys)) _) .nil,Sz.Gh hl (by omega) hs hys hz hS (by simp[tr]),rfl,rfl,by omega⟩)
  |(apply aL [0,3,9,10,11] [] [3,11] (TA ls) (ls.length) [iV .i64 0,iV .i64 0];(conv=>whnf);exact⟨rfl,rfl,rfl,rfl⟩;exact rfl;exact rfl;exact⟨0,by omega,rfl,by simp[gG]⟩;rintro _ _ ⟨i,hi,rfl,rfl⟩)
  |(refine aj [0,3,9,10,11] [] ?_;(conv=>whnf);exact⟨rfl,_,[_,_],TA.next hls hl (by omega) hs (by simp),rfl,rfl,rfl,by omega⟩))
 all_goals (conv=>whnf)
def RCn (ls:Lz) (m:Nat) (vs:List V):Prop:= ∃i:Nat,i≤ls.length∧m=ls.length - i∧vs=[G4,iV .i64 (i:Int)]
theorem RCn.next {ls:Lz} {i:Nat} (hl:ls.length≤4) (hi:(i:Int) < (ls.length:Int)):RCn ls (ls.length - (i+1)) [G4,iV .i64 (IntKind.i64.wrap ((i:Int)+1))]:=
 ⟨i+1,by omega,rfl,by rw[bi (by omega) (by omega)];rfl⟩
theorem MW (ls:Lz) (hls: ∀e,e∈ls→Fe e) (hl:ls.length≤4) (h0:gG ls=0):Tg 151 [oL 1 ls] ND:=by
 refine ae Tryz.func151 ?_
 repeat' (conv=>whnf
          first
  |(refine az (fun h=>?_) (fun h=>?_))
  |(refine ak (xs:=ls) (n:=(i:Int)) hls (by omega) (by omega) ?_;rintro _ ⟨ys,rfl,hys,jT⟩ hs)
  |(refine ak (xs:=ls) (n:=(q:Int)) hls (by omega) (by omega) ?_;rintro _ ⟨_|⟨y,ys⟩,rfl,hys,jT⟩ hs)
  |(exfalso;exact OE hls hl jT h)
  |(exfalso;exact Lt h0 hs)
  |(refine ag rfl (Rp (gG (ls.take i)) (by rw[List.take_of_length_le (by omega)];exact h0)) ?_;rintro _ rfl)
  |exact g1 rfl rfl rfl
  |(apply aL [6,25,26,27] [] [6,27] (RCn ls) (ls.length) [G4,iV .i64 0];(conv=>whnf);exact⟨rfl,rfl,rfl,rfl⟩;exact rfl;exact rfl;exact⟨0,by omega,rfl,rfl⟩;rintro _ _ ⟨q,hq,rfl,rfl⟩)
  |(refine aj [6,25,26,27] [] ?_;(conv=>whnf);exact⟨rfl,_,[_,_],RCn.next hl (by omega),rfl,rfl,rfl,by omega⟩)
  |(apply aL [0,3,9,10,11] [] [3,11] (TA ls) (ls.length) [iV .i64 0,iV .i64 0];(conv=>whnf);exact⟨rfl,rfl,rfl,rfl⟩;exact rfl;exact rfl;exact⟨0,by omega,rfl,by simp[gG]⟩;rintro _ _ ⟨i,hi,rfl,rfl⟩)
  |(refine aj [0,3,9,10,11] [] ?_;(conv=>whnf);exact⟨rfl,_,[_,_],TA.next hls hl (by omega) hs (by simp),rfl,rfl,rfl,by omega⟩))
 all_goals (conv=>whnf)
end Go.aR.Cd
end
section
namespace Go.aR.Cd
open Go Go.Proofs
set_option maxRecDepth 100000
set_option maxHeartbeats 1000000
theorem Iy {A B:Lz} (hA:bY A) (hB:bY B) (h:A.length+B.length≤100000): ∀e,e∈ ([[.aA 2 A],[.aA 2 B]]:Lz)→Fe e:=by
 intro e he
 simp only[List.mem_cons,List.not_mem_nil,or_false]at he
 rcases he with rfl|rfl
 · exact⟨A,rfl,hA,by omega⟩
 · exact⟨B,rfl,hB,by omega⟩
theorem Al (A B:Lz):gG [[.aA 2 A],[.aA 2 B]]=A.length+B.length:=by simp[gG,tl]
theorem Gb {A B:Lz} (hA:bY A) (hB:bY B) (h1:1≤A.length+B.length) (h:A.length+B.length≤100000): ∃ts hout,BZ Tryz.prog 151 [oL 1 [[.aA 2 A],[.aA 2 B]]] (aO ts) hout∧GN 2 (fun zs=>zs.length=A.length+B.length∧bY zs) ts hout:=by
 have:=MV [[.aA 2 A],[.aA 2 B]] (Iy hA hB h) (by simp) (by rw[Al];exact h1)
 rw[Al]at this
 exact this
theorem Ga {A B:Lz} (hA:bY A) (hB:bY B) (h:A.length+B.length=0):Lh 151 [oL 1 [[.aA 2 A],[.aA 2 B]]] ND:=
 MW [[.aA 2 A],[.aA 2 B]] (Iy hA hB (by omega)) (by simp) (by rw[Al];exact h)
theorem flN {n:Nat}: ∀xs:Lz,xs.length=n∧bY xs→(bu.row 2 (tr xs)).flat=true:=by
 rintro xs ⟨_,h⟩
 simp only[bu.flat,tr,List.all_eq_true,List.mem_map]
 rintro r ⟨e,he,rfl⟩
 obtain⟨a,b,rfl⟩:=h e he
 intro c hc
 simp only[List.map_cons,List.map_nil,List.mem_cons,List.not_mem_nil,or_false]at hc
 rcases hc with rfl|rfl<;>rfl
def Sy (N:Nat) (m:Nat) (ws:List V) (xss:List (Lz)):Prop:= ∃ (i:Nat) (zs:Lz),i≤N∧m=N - i∧ws=[bn 4 2 zs.length,iV .i64 (i:Int)]∧xss=[zs]∧zs.length≤i∧bY zs
theorem Sy.same {N i:Nat} {zs:Lz} (h:(i:Int) < (N:Int)) (hN:N≤1000000) (hz:zs.length≤i) (hS:bY zs):Sy N (N - (i+1)) [bn 4 2 zs.length,iV .i64 (IntKind.i64.wrap ((i:Int)+1))] [zs]:=
 ⟨i+1,zs,by omega,rfl,by rw[bi (by omega) (by omega)];rfl,rfl,by omega,hS⟩
theorem Sy.Gh {N i k:Nat} {zs:Lz} {x y:Int} (h:(i:Int) < (N:Int)) (hN:N≤1000000) (hz:zs.length≤i) (hS:bY zs) (hk:k=zs.length+1):Sy N (N - (i+1)) [bn 4 2 k,iV .i64 (IntKind.i64.wrap ((i:Int)+1))] [zs++[[tI x,tI y]]]:=
 ⟨i+1,_,by omega,rfl,by rw[bi (by omega) (by omega),hk];simp,rfl,by simp;omega,hS.snoc x y⟩
def Nh (N:Nat) (m:Nat) (ws:List V) (xss:List (Lz)):Prop:= ∃ (i f:Nat),i≤N∧(f < N∨N=0∧f=0)∧m=N - i∧ws=[iV .i64 (f:Int),iV .i64 (i:Int)]∧xss=[]
theorem Nh.zero {N:Nat}:Nh N N [iV .i64 0,iV .i64 0] []:=⟨0,0,by omega,by omega,rfl,rfl,rfl⟩
theorem Nh.keep {N i f:Nat} (h:(i:Int) < (N:Int)) (hN:N≤1000000) (hf:f < N):Nh N (N - (i+1)) [iV .i64 (f:Int),iV .i64 (IntKind.i64.wrap ((i:Int)+1))] []:=
 ⟨i+1,f,by omega, .inl hf,rfl,by rw[bi (by omega) (by omega)];rfl,rfl⟩
theorem we (xs:Lz) (hx:bY xs) (hl:xs.length≤1000000):Tg 119 [oL 2 xs] (Li 2 (fun zs=>bY zs∧zs.length≤40)):=by
 refine aH ?_
 refine ae Tryz.func119 ?_
 repeat' (conv=>whnf
          first
  |(refine az (fun h=>?_) (fun h=>?_))
  |(refine bC (fun h=>?_) (fun h=>?_))
  |(refine ak (xs:=xs) hx (by omega) (by omega) ?_;rintro _ ⟨a,b,rfl⟩ hs)
  |(refine ak (xs:=zs.take zs.length) (hz.take _) (by omega) (by simp;omega) ?_;rintro _ ⟨a,b,rfl⟩ hs)
  |(refine ak (xs:=ys.take zs.length) (hys.take _) (by omega) (by simp;omega) ?_;rintro _ ⟨a,b,rfl⟩ hs)
  |(refine And.intro ⟨by simp[tr],by simp[tr,aT];omega,by simp[tr,maxLen];omega⟩ ?_)
  |(refine dm (Nat.zero_le _) (by simp;omega) ?_)
  |(refine dm (by simp;omega) (by simp) ?_)
  |(refine dm (by omega) (by omega) ?_)
  |(refine And.intro (by kernel_rfl) ?_)
  |(refine And.intro (by omega) ?_)
  |(refine ag rfl (eo xs hx hl) ?_;rintro _ ⟨e,rfl,hP⟩)
  |(refine ag rfl (AI xs i hx hl (by omega)) ?_;rintro _ ⟨n,rfl⟩)
  |(refine ag rfl (qD xs hx hl) ?_;rintro _ ⟨n,rfl⟩)
  |(refine fc [4] rfl (nt zs hz (by omega)) rfl (j9 rfl rfl) ?_;rintro _ _ ⟨rfl,ys,rfl,jT,hys⟩)
  |(refine vu rfl flN (Gb (da (hz.take _) _ _) (da (hz.take _) _ _) (by simp;omega) (by have:=(hP (by omega)).1.2.1;simp;omega)) ?_;rintro ws ⟨BT,Hl⟩)
  |(refine vu rfl flN (Gb (da (hys.take _) _ _) (da (hys.take _) _ _) (by simp;omega) (by have:=(hP (by omega)).1.2.1;simp;omega)) ?_;rintro ws ⟨BT,Hl⟩)
  |(refine Fj rfl (Ga (da (hz.take _) _ _) (da (hz.take _) _ _) (by simp only[List.length_take,List.length_drop];omega)) (fun rs h=>by subst h;rfl) ?_;rintro _ rfl)
  |(refine Fj rfl (Ga (da (hys.take _) _ _) (da (hys.take _) _ _) (by simp only[List.length_take,List.length_drop];omega)) (fun rs h=>by subst h;rfl) ?_;rintro _ rfl)
  |exact dh rfl (bJ 2 rfl) (bN rfl) ⟨_,_,rfl,fun h0=>absurd h0 (by omega)⟩
  |exact dh rfl (eO rfl rfl (xs:=ws) rfl (by omega)) (bN rfl) ⟨_,_,rfl,fun _=>by rw[dS rfl];exact⟨Hl,by have:=(hP (by omega)).1.2.1;simp at BT;omega⟩⟩
  |exact dh rfl (bJ 2 rfl) (bN rfl) ⟨_,_,rfl,fun _=>⟨fun e he=>by simp at he,by simp⟩⟩
  |(apply dI [5,8,38,39,40] [] [8,40] [] (Nh zs.length) (zs.length) [iV .i64 0,iV .i64 0] (dL.Rw (xs:=ys) [5,38] 4 (Qy rfl rfl) rfl (av.au rfl _) (by omega));(conv=>whnf);exact⟨rfl,rfl,rfl,rfl⟩;exact rfl;exact rfl;exact .nil;exact Nh.zero;rintro _ _ _ ⟨q,f,hq,(hf|⟨hc,rfl⟩),rfl,rfl,rfl⟩)
  |(refine aj [5,8,38,39,40] [] ?_;(conv=>whnf);exact⟨rfl,_,[_,_],_, .nil,Nh.keep (by omega) (by omega) (by omega),rfl,rfl,by omega⟩)
  |(apply dI [5,8,38,39,40] [] [8,40] [] (Nh zs.length) (zs.length) [iV .i64 0,iV .i64 0] (dL.Rw (xs:=zs) [5,38] 4 (Qy rfl rfl) rfl rfl (Nat.le_refl _));(conv=>whnf);exact⟨rfl,rfl,rfl,rfl⟩;exact rfl;exact rfl;exact .nil;exact Nh.zero;rintro _ _ _ ⟨q,f,hq,(hf|⟨hc,rfl⟩),rfl,rfl,rfl⟩)
  |(apply dI [0,5,17,18,19] [] [5,19] [(4,2)] (Sy xs.length) (xs.length) [bn 4 2 0,iV .i64 0] (dL.iL 5 2 rfl);(conv=>whnf);exact⟨rfl,rfl,rfl,rfl⟩;exact rfl;exact rfl;exact .cons (av.au av.nil _) .nil;exact⟨0,[],by omega,rfl,rfl,rfl,by simp,fun e he=>by simp at he⟩;rintro _ _ _ ⟨i,zs,hi,rfl,rfl,rfl,gR,hz⟩)
  |(refine aj [0,5,17,18,19] [] ?_;(conv=>whnf);first|exact⟨rfl,_,[_,_],_, .cons (av.au (xs:=zs) rfl _) .nil,Sy.same (by omega) hl gR hz,rfl,rfl,by omega⟩|exact⟨rfl,_,[_,_],_, .cons (av.au (av.snoc (xs:=zs) rfl [tI _,tI _]) _) .nil,Sy.Gh (by omega) hl gR hz (by simp[tr]),rfl,rfl,by omega⟩))
 all_goals (conv=>whnf)
end Go.aR.Cd
end
section
namespace Go.aR
open Go
variable {P:Program} {M A:Nat→Prop} {ρ:Env} {F:Nat→Prop} {st:St} {a:Act} {w:World}
theorem zk (j:IntKind) (x y:Int): ∃n,aI P (Builtin.min2 (.int j x) (.int j y))=some (.int j n):=by
 unfold Builtin.min2
 simp[aG]
theorem GX (iM:Array TypeId) (ty:TypeId) (j:IntKind) (x y z:Int): ∃n,aI P (Builtin.min_ iM ty #[.int j x, .int j y, .int j z])=some (.int j n):=by
 obtain⟨a,ha⟩:=zk (P:=P) j x y
 obtain⟨b,hb⟩:=zk (P:=P) j a z
 refine⟨b,?_⟩
 unfold Builtin.min_
 simp[aJ,ha,hb]
theorem Lo {ctr a b c:Nat} {ty:TypeId} {iM:Array TypeId} {tm:TS} {hp:HS} {x y z:Int} {K:V→HS→Prop} (ha:find tm a=some (iV .i64 x)) (hb:find tm b=some (iV .i64 y)) (hc:find tm c=some (iV .i64 z)) (hk: ∀m,K (iV .i64 m) hp):
 ∃v hp',EvR P (.call ⟨.builtin .min, #[.tmp a, .tmp b, .tmp c],iM⟩) ty tm hp ctr v hp'∧K v hp':=by
 obtain⟨m,hm⟩:=GX (P:=P) iM ty .i64 x y z
 refine⟨iV .i64 m,hp,⟨fun get=>rfl,?_⟩,hk m⟩
 rintro n ⟨dst',op',ty',pos',after',guard'⟩ rfl rfl
 have e:bc P (St.get ⟨n,tm,hp⟩) ⟨dst', .call ⟨.builtin .min, #[.tmp a, .tmp b, .tmp c],iM⟩,ty',pos',after',guard'⟩=some (iV .i64 m):=by
  unfold bc
  have hall:(gn (Op.call ⟨.builtin .min, #[.tmp a, .tmp b, .tmp c],iM⟩)&& (Op.call ⟨.builtin .min, #[.tmp a, .tmp b, .tmp c],iM⟩).operands.toList.all fun x=>(St.get ⟨n,tm,hp⟩ x).val?.isSome)=true:=by
   have agK:(Op.call ⟨.builtin .min, #[.tmp a, .tmp b, .tmp c],iM⟩).operands.toList=[.tmp a, .tmp b, .tmp c]:=rfl
   rw[agK]
   simp[gn,St.get,ha,hb,hc,V.val?,W.val?,C.val?]
  rw[if_pos hall]
  have:aI P (execOp (fun x=>((St.get ⟨n,tm,hp⟩ x).val?).getD undef) ⟨dst', .call ⟨.builtin .min, #[.tmp a, .tmp b, .tmp c],iM⟩,ty',pos',after',guard'⟩)=some (.value (.int .i64 m)):=by
   simp[execOp,resolve,invoke,builtin,dw,St.get,ha,hb,hc,V.val?,W.val?,C.val?,hm]
  rw[this]
  rfl
 simp only[aq,e,Option.map_some]
theorem HO {hp:HS} {id sz i len:Nat} {rows:List (List C)} {xs:Lz} (hf:find hp id=some (.row sz rows)) (hR:av rows xs) (hl:i+len≤xs.length):elems hp (.own id sz i len)=some (sz,tr ((xs.drop i).take len)):=by
 have hl':i+len≤rows.length:=by rw[hR.len];exact hl
 simp only[elems,hf,true_and,hl',if_true]
 rw[hR,vF]
theorem Fk {d s t1 t2 ty e id sz i len ctr:Nat} {tm:TS} {hp:HS} {c:C} {rows:List (List C)} {xs ys:Lz} {K:V→HS→Prop}
 (hd:find tm d=some (.w (.one (.own id sz i len)))) (hs:find tm s=some (.w (.one c))) (hn:isNil c=false) (he:elems hp c=some (sz,tr ys))
 (ht:P.underlying t1=some (.slice e)) (hz:cA P e=some sz) (hf:find hp id=some (.row sz rows)) (hR:av rows xs) (hl:i+len≤xs.length)
 (h0: ∀n,K (iV .i64 n) hp) (hk: ∀n,K (iV .i64 n) (jx hp id (.row sz (tr (aV xs i (ys.take len)))))):
 ∃v hp',EvR P (.call ⟨.builtin .copy, #[.tmp d, .tmp s], #[t1,t2]⟩) ty tm hp ctr v hp'∧K v hp':=by
 have ED:rows=tr xs:=hR
 subst ED
 by_cases hc:(ys.take len).length=0
 · refine⟨_,hp,⟨fun get=>rfl,?_⟩,h0 0⟩
   rintro n ⟨dst',op',ty',pos',after',guard'⟩ rfl rfl
   simp only[aq,St.get,hd,hs,Option.getD_some,eP,ht,hz,hn,he,Bool.false_eq_true,if_false,ve,An,hc,if_true]
   rfl
 · refine⟨_,_,⟨fun get=>rfl,?_⟩,hk ((ys.take len).length:Nat)⟩
   rintro n ⟨dst',op',ty',pos',after',guard'⟩ rfl rfl
   have hl':True∧True∧True∧i+len≤xs.length:=⟨trivial,trivial,trivial,hl⟩
   simp only[aq,St.get,hd,hs,Option.getD_some,eP,ht,hz,hn,he,hf,Bool.false_eq_true,if_false,ve,An,hc,y9]
   rw[if_pos hl']
   rfl
theorem vM {α:Type} {xs ys:List α} {i:Nat} (h:i+ys.length≤xs.length):(aV xs i ys).length=xs.length:=by
 unfold aV
 simp only[List.length_append,List.length_take,List.length_drop]
 omega
theorem D2 {α:Type} {xs ys:List α} {i:Nat} {e:α} (h:e∈aV xs i ys):e∈xs∨e∈ys:=by
 unfold aV at h
 simp only[List.mem_append]at h
 rcases h with(h|h)|h
 · exact .inl (List.mem_of_mem_take h)
 · exact .inr h
 · exact .inl (List.mem_of_mem_drop h)
theorem ji {n:Nat} {b:Rc} {Q:Exit→TS→HS→Nat→Prop} {tm uj:TS} {hp Bd:HS} {ctr c0:Nat} (keys:List Nat) (nest:List (Nat×Nat)) (ks:List Nat) (R:Nat→List V→HS→Prop) (m0:Nat) (Ai:List V) {me:TS} {nc:HS} {cB:Nat}
 (hW:dL tm hp ctr uj Bd c0)
 (hB:C9 (xw keys nest uj Bd) fun S=>qZ (S.tm uj) fun t=>sL (S.hp Bd) fun q=>S.ok=true∧t=me∧q=nc∧S.ctr=cB)
 (Gj:me.length=keys.length) (h0:me=kQ ks Ai me) (Mv:R m0 Ai nc)
 (hstep: ∀m vs hq,R m vs hq→qZ (kQ ks vs me) fun lT=>X P n b (gj (bQ fun aY hp' c'=> ∃m' vs',R m' vs' hp'∧aY=kQ ks vs' me∧c'=cB∧m' < m) Q) lT hq cB):
 ∃I:Nat→TS→HS→Nat→Prop,bQ (fun tm hp c=> ∃m,I m tm hp c) tm hp ctr∧
  ∀m tm hp c,I m tm hp c→X P n b (gj (bQ fun tm hp c=> ∃m',m' < m∧I m' tm hp c) Q) tm hp c:=by
 rw[ow,gF,je]at hB
 obtain⟨hS,e1,e2,e3⟩:=hB
 refine⟨fun m aY hp' c'=> ∃vs',R m vs' hp'∧aY=kQ ks vs' me∧c'=cB, .sem hW (bQ.mk' ⟨xw keys nest uj Bd,hS,m0,Ai,by rw[e2];exact Mv,e1.trans h0,e3⟩),?_⟩
 rintro m aY hq c' ⟨vs,hR,rfl,rfl⟩
 have:=hstep m vs hq hR
 rw[gF]at this
 refine(congrArg (fun J=>X P n b (gj (bQ J) Q) _ _ _) ?_).mp this
 funext aY hp' ZF
 exact propext ⟨fun⟨m',vs',h1,h2,h4,h5⟩=>⟨m',h5,vs',h1,h2,h4⟩,fun⟨m',h5,vs',h1,h2,h4⟩=>⟨m',vs',h1,h2,h4,h5⟩⟩
theorem pA {f:FuncId} {us args:List W} {hp hin:HS} {ctr:Nat} {K:V→HS→Nat→Prop} {Good:List W→Prop} (ids:List Nat) (hok:wy ids ctr=true) (hb: ∀id,id∈ids→ ∃b,find hp id=some b∧(b.au (bA ids)).au (gJ ids ctr)=b)
 (ha:us.map (W.au (bA ids))=args) (hh:cI (bA ids) hp 0 ids=hin) (h: ∃ts hout,Fn P f args hin (aO ts) hout∧hout=hin∧Good ts) (hk: ∀ts,Good ts→K ((aO ts).au (gJ ids ctr)) hp (ctr+4)): ∃v hp' c',eM P f us hp ctr v hp' c'∧K v hp' c':=by
 obtain⟨ts,hout,h1,rfl,h2⟩:=h
 exact⟨_,_,_,BE ids hok h1 ha hh hb,hk ts h2⟩
theorem PM {hp:HS} {tm:TS} {t id dz sl QB len k:Nat} {rs zs:Lz} {rows zd:List (List C)} (h:find tm t=some (.w (.one (.own id 1 0 len)))) (hf:find hp id=some (.row 1 rows)) (hrows:rows=tr rs++[[.own QB dz 0 k]]) (hl:len=rs.length+1)
 (DO:find hp QB=some (.row dz zd)) (Zs:av zd zs) (hk:k≤zs.length) (_:sl=dz):Rs P hp tm (.tmp t) (.one (.t (.aA 1 (rs++[[.aA dz (zs.take k)]])))):=by
 subst hrows
 subst hl
 have hk':0+k≤zd.length:=by rw[Zs.len];omega
 have o6:cW 5 hp (.own QB dz 0 k)=some (.aA dz (zs.take k)):=by
  simp only[cW,DO,true_and,hk',if_true]
  rw[Zs,vF,sI]
  simp
 have aiJ: ∀ (xs:Lz),bE (bE (cW 5 hp)) (tr xs++[[.own QB dz 0 k]])=some (xs++[[.aA dz (zs.take k)]]):=by
  intro xs
  induction xs with
  |nil=>simp only[tr,List.map_nil,List.nil_append,bE,o6]
  |cons e xs ih=>
   have hone:=sI (hp:=hp) (d:=5) [e]
   have he:bE (cW 5 hp) (e.map .t)=some e:=by
    simp only[tr,List.map_cons,List.map_nil,bE]at hone
    split at hone
    · rename_i y l hy hl
      simp only[Option.some.injEq]at hl
      subst hl
      simp only[Option.some.injEq,List.cons.injEq,and_true]at hone
      subst hone
      exact hy
    · simp at hone
   have ih':=ih
   simp only[tr]at ih'⊢
   simp only[List.map_cons,List.cons_append,bE,he,ih']
 have hlen:0+(rs.length+1)≤(tr rs++[[C.own QB dz 0 k]]).length:=by simp[tr]
 have Mq:((tr rs++[[C.own QB dz 0 k]]).drop 0).take (rs.length+1)=tr rs++[[C.own QB dz 0 k]]:=by
  rw[List.drop_zero]
  exact List.take_of_length_le (by simp[tr])
 refine⟨.one (.own id 1 0 (rs.length+1)), .one (.t (.aA 1 (rs++[[.aA dz (zs.take k)]]))),by simp only[cc,h],?_,BY.refl _⟩
 have:cW 6 hp (.own id 1 0 (rs.length+1))=some (.aA 1 (rs++[[.aA dz (zs.take k)]])):=by
  simp only[cW,hf,true_and,hlen,if_true]
  rw[Mq,aiJ]
  rfl
 simp only[bI,this,Option.map_some]
end Go.aR
end
section
namespace Go.aR.Cd
open Go Go.Proofs
set_option maxRecDepth 100000
set_option maxHeartbeats 1000000
theorem vE (xs:Lz) (q:Sp) (hx:bY xs):Tg 124 [oL 2 xs,iP q] GI:=by
 refine ae Tryz.func124 ?_
 repeat' (conv=>whnf
          first
  |(refine az (fun h=>?_) (fun h=>?_))
  |(refine bC (fun h=>?_) (fun h=>?_))
  |(refine aF (fun h=>?_) (fun h=>?_))
  |(refine ak hx (by first|omega|exact cE (by first|omega|(simp (disch:=omega) only[aa];omega))|(simp (disch:=omega) only[aa];omega)) (by first|omega|exact cq (by omega)|(simp (disch:=omega) only[aa];omega)) ?_;rintro _ ⟨a,b,rfl⟩ hs)
  |(refine And.intro (by kernel_rfl) ?_)
  |(refine ag rfl (rU (_,_)) ?_;rintro _ ⟨b,rfl⟩)
  |(refine ag rfl (ii (_,_) (_,_) (_,_)) ?_;rintro _ ⟨n,rfl⟩)
  |(refine aB rfl (ii (_,_) (_,_) (_,_)) ?_;rintro _ ⟨n,rfl⟩)
  |(refine Lo rfl rfl rfl ?_;intro mn)
  |exact gI rfl rfl)
 all_goals (conv=>whnf)
abbrev XI (k:Nat) (zs:Lz):HS:=[(0, .row 1 [[.own 1 2 0 k]]),(1, .row 2 (tr zs))]
abbrev JS (k:Nat) (zs:Lz):HS:=[(0, .row 1 [[.own 1 2 0 k]]),(1, .row 2 (tr zs)),(2, .row 1 [[.kM 120 [(0,1,0,0)]]])]
theorem IX {hin:HS} (xs:Lz) (sz:Nat):KJ hin (.row sz (tr xs)):=by
 intro e he c hc
 simp only[tr,List.mem_map]at he
 obtain⟨e',_,rfl⟩:=he
 simp only[List.mem_map]at hc
 obtain⟨c',_,rfl⟩:=hc
 rfl
theorem L7 {hp:HS} {k:Nat} {zs:Lz} {rows:List (List C)} (h0:find hp 0=some (.row 1 [[.own 1 2 0 k]])) (h1:find hp 1=some (.row 2 rows)) (hR:av rows zs):lj (XI k zs) hp (XI k zs):=by
 have ED:rows=tr zs:=hR
 subst ED
 refine⟨fun q b hq=>?_,fun q blk hq=>?_⟩
 · simp only[find]at hq
   split at hq
   · rename_i e;subst e;exact⟨by omega,_,h0⟩
   · split at hq
     · rename_i e;subst e;exact⟨by omega,_,h1⟩
     · simp at hq
 · simp only[find]at hq
   split at hq
   · rename_i e
     subst e
     simp only[Option.some.injEq]at hq
     subst hq
     refine⟨h0,rfl,fun e he c hc=>?_⟩
     simp only[List.mem_singleton]at he
     subst he
     simp only[List.mem_singleton]at hc
     subst hc
     rfl
   · split at hq
     · rename_i e
       subst e
       simp only[Option.some.injEq]at hq
       subst hq
       exact⟨h1,rfl,IX _ _⟩
     · simp at hq
theorem qQ {hp:HS} {k:Nat} {zs:Lz} {rows:List (List C)} (h0:find hp 0=some (.row 1 [[.own 1 2 0 k]])) (h1:find hp 1=some (.row 2 rows)) (h2:find hp 2=some (.row 1 [[.kM 120 [(0,1,0,0)]]])) (hR:av rows zs):lj (JS k zs) hp (JS k zs):=by
 have ED:rows=tr zs:=hR
 subst ED
 refine⟨fun q b hq=>?_,fun q blk hq=>?_⟩
 · simp only[find]at hq
   split at hq
   · rename_i e;subst e;exact⟨by omega,_,h0⟩
   · split at hq
     · rename_i e;subst e;exact⟨by omega,_,h1⟩
     · split at hq
       · rename_i e;subst e;exact⟨by omega,_,h2⟩
       · simp at hq
 · simp only[find]at hq
   split at hq
   · rename_i e
     subst e
     simp only[Option.some.injEq]at hq
     subst hq
     refine⟨h0,rfl,fun e he c hc=>?_⟩
     simp only[List.mem_singleton]at he
     subst he
     simp only[List.mem_singleton]at hc
     subst hc
     rfl
   · split at hq
     · rename_i e
       subst e
       simp only[Option.some.injEq]at hq
       subst hq
       exact⟨h1,rfl,IX _ _⟩
     · split at hq
       · rename_i e
         subst e
         simp only[Option.some.injEq]at hq
         subst hq
         refine⟨h2,rfl,fun e he c hc=>?_⟩
         simp only[List.mem_singleton]at he
         subst he
         simp only[List.mem_singleton]at hc
         subst hc
         rfl
       · simp at hq
theorem Mm {hp:HS} {a l k:Nat} {rows:List (List C)} {zs:Lz} (h0:find hp a=some (.row 1 [[.own l 2 0 k]])) (h1:find hp l=some (.row 2 rows)) (hR:av rows zs) (hl:bA [a,l] l=some 1):cI (bA [a,l]) hp 0 [a,l]=XI k zs:=by
 have ED:rows=tr zs:=hR
 subst ED
 simp only[cI,h0,h1,bu.au,List.map_cons,List.map_nil,C.au,hl,eW]
theorem bk1 {hp:HS} {a l k ctr:Nat} {rows:List (List C)} {zs:Lz} (h0:find hp a=some (.row 1 [[.own l 2 0 k]])) (h1:find hp l=some (.row 2 rows)) (hR:av rows zs) (hl:bA [a,l] l=some 1) (hf:gJ [a,l] ctr 1=some l): ∀id,id∈ [a,l]→ ∃b,find hp id=some b∧(b.au (bA [a,l])).au (gJ [a,l] ctr)=b:=by
 have ED:rows=tr zs:=hR
 subst ED
 refine Qy ⟨_,h0,?_⟩ ⟨_,h1,?_⟩
 · simp only[bu.au,List.map_cons,List.map_nil,C.au,hl,hf]
 · simp only[bu.au,eW]
theorem hi2 {hp:HS} {a l b k:Nat} {rows:List (List C)} {zs:Lz} (h0:find hp a=some (.row 1 [[.own l 2 0 k]])) (h1:find hp l=some (.row 2 rows)) (h2:find hp b=some (.row 1 [[.kM 120 [(a,1,0,0)]]])) (hR:av rows zs) (hl:bA [a,l,b] l=some 1) (ha:bA [a,l,b] a=some 0):cI (bA [a,l,b]) hp 0 [a,l,b]=JS k zs:=by
 have ED:rows=tr zs:=hR
 subst ED
 simp only[cI,h0,h1,h2,bu.au,List.map_cons,List.map_nil,C.au,hl,ha,eW,List.all_cons,List.all_nil,Option.isSome_some,Bool.and_self,if_true,Option.getD_some]
theorem ZI {hp:HS} {a l b k ctr:Nat} {rows:List (List C)} {zs:Lz} (h0:find hp a=some (.row 1 [[.own l 2 0 k]])) (h1:find hp l=some (.row 2 rows)) (h2:find hp b=some (.row 1 [[.kM 120 [(a,1,0,0)]]])) (hR:av rows zs) (hl:bA [a,l,b] l=some 1) (ha:bA [a,l,b] a=some 0) (hf:gJ [a,l,b] ctr 1=some l) (hg:gJ [a,l,b] ctr 0=some a): ∀id,id∈ [a,l,b]→ ∃bl,find hp id=some bl∧(bl.au (bA [a,l,b])).au (gJ [a,l,b] ctr)=bl:=by
 have ED:rows=tr zs:=hR
 subst ED
 intro id bG
 simp only[List.mem_cons,List.not_mem_nil,or_false]at bG
 rcases bG with rfl|rfl|rfl
 · exact⟨_,h0,by simp only[bu.au,List.map_cons,List.map_nil,C.au,hl,hf]⟩
 · exact⟨_,h1,by simp only[bu.au,eW]⟩
 · exact⟨_,h2,by simp only[bu.au,List.map_cons,List.map_nil,C.au,ha,hg,List.all_cons,List.all_nil,Option.isSome_some,Bool.and_self,if_true,Option.getD_some]⟩
theorem RN:enters Tryz.prog 120=true:=by kernel_rfl
theorem ajJ:enters Tryz.prog 121=true:=by kernel_rfl
theorem ajI:enters Tryz.prog 123=true:=by kernel_rfl
def akZ (ts:List W):Prop:= ∃a b c d e f:Int,ts=[iP (a,b),iP (c,d),iP (e,f)]
theorem PC (k:Nat) (zs:Lz) (hz:bY zs) (hk:k≤zs.length) (Hr:zs.length≤1000000) (i:Int) (DN:0≤i) (hi:i < (k:Int)): ∃ts hout,Fn Tryz.prog 120 [oI i, .one (.ptr 0 1 0 0)] (XI k zs) (aO ts) hout∧(fun ts hout=>hout=XI k zs∧akZ ts) ts hout:=by
 refine gx Tryz.func120 ?_
 repeat' (conv=>whnf
          first
  |(refine And.intro ⟨by omega,by omega⟩ ?_)
  |(refine And.intro ⟨cE (by rw[bi (n:=i+(k:Int)) (by omega) (by omega),bi (by omega) (by omega)];omega),cq (by omega)⟩ ?_)
  |(refine And.intro ⟨cE (by rw[bi (by omega) (by omega)];omega),cq (by omega)⟩ ?_)
  |(refine And.intro (show((k:Nat):Int)≠0 by omega) ?_)
  |(refine And.intro (by kernel_rfl) ?_)
  |(refine bM (xs:=zs) rfl hz (by first|omega|(have h1:=cq (a:=IntKind.i64.wrap (IntKind.i64.wrap (i+(k:Int)) - 1)) (b:=(k:Int)) (by omega);have h2:=cq (a:=IntKind.i64.wrap (i+1)) (b:=(k:Int)) (by omega);omega)) ?_;rintro _ ⟨x,y,rfl⟩ hs)
  |exact⟨_,_,_,rfl,rfl,L7 rfl rfl rfl,rfl,_,_,_,_,_,_,rfl⟩)
 all_goals (conv=>whnf)
theorem adJ (k:Nat) (zs:Lz) (hz:bY zs) (hk:k≤zs.length) (Hr:zs.length≤1000000) (i:Int) (DN:0≤i) (hi:i < (k:Int)): ∃ts hout,Fn Tryz.prog 121 [oI i, .one (.ptr 2 1 0 0)] (JS k zs) (aO ts) hout∧(fun ts hout=>hout=JS k zs∧GB ts) ts hout:=by
 refine gx Tryz.func121 ?_
 repeat' (conv=>whnf
          first
  |(refine And.intro RN ?_)
  |(refine pA [0,1] rfl (bk1 rfl rfl rfl rfl rfl) rfl (Mm rfl rfl rfl rfl) (PC k zs hz hk Hr i DN hi) ?_;rintro _ ⟨a,b,c,d,e,f,rfl⟩)
  |(refine ag rfl (ii (_,_) (_,_) (_,_)) ?_;rintro _ ⟨n,rfl⟩)
  |exact⟨_,_,_,rfl,rfl,qQ rfl rfl rfl rfl,rfl,_,rfl⟩)
 all_goals (conv=>whnf)
theorem LA (a b c d e f:Int):bY ([[tI a,tI b],[tI c,tI d],[tI e,tI f]]:Lz):=by
 intro q hq
 simp at hq
 rcases hq with hq|hq|hq
 · exact⟨a,b,hq⟩
 · exact⟨c,d,hq⟩
 · exact⟨e,f,hq⟩
theorem Iv {n ctr ty t1 t2 t3:Nat} {a b c d e f:Int} {tm:TS} {hp:HS} {K:V→HS→Prop} (h1:find tm t1=some (.w (.agg [.t (tI a), .t (tI b)]))) (h2:find tm t2=some (.w (.agg [.t (tI c), .t (tI d)]))) (h3:find tm t3=some (.w (.agg [.t (tI e), .t (tI f)])))
 (hk:K (.w (.one (.t (.aA 2 [[tI a,tI b],[tI c,tI d],[tI e,tI f]])))) hp): ∃v hp',ja Tryz.prog n (.buildSlice 77 3 #[(0, .tmp t1),(1, .tmp t2),(2, .tmp t3)]) ty tm hp ctr v hp'∧K v hp':=by
 refine⟨_,_,LK (sz:=2) (l:=[(0, .agg [.t (tI a), .t (tI b)]),(1, .agg [.t (tI c), .t (tI d)]),(2, .agg [.t (tI e), .t (tI f)])]) (xs:=[[tI a,tI b],[tI c,tI d],[tI e,tI f]]) ?_ ?_ rfl,hk⟩
 · simp only[gH,St.get,h1,h2,h3,Option.getD_some]
 · kernel_rfl
def RS3 (k:Nat) (zs:Lz) (a b c d e f:Int) (m:Nat) (vs:List V) (hq:HS):Prop:= ∃ (i:Nat) (rows:List (List C)),i≤k∧m=k - i∧vs=[iV .i64 (i:Int)]∧av rows zs∧
 hq=[(0, .row 1 [[.own 1 2 0 k]]),(1, .row 2 rows),(2, .row 1 [[.kM 120 [(0,1,0,0)]]]),(4, .row 2 [[.t (tI a), .t (tI b)]]),(8, .row 2 [[.t (tI c), .t (tI d)]]),(12, .row 2 [[.t (tI e), .t (tI f)]])]
theorem adI (k:Nat) (zs:Lz) (hz:bY zs) (hk:k≤zs.length) (Hr:zs.length≤1000000) (i:Int) (DN:0≤i) (hi:i < (k:Int)): ∃ts hout,Fn Tryz.prog 123 [oI i, .one (.ptr 2 1 0 0), .one (.ptr 0 1 0 0)] (JS k zs) (aO ts) hout∧(fun ts hout=>hout=JS k zs∧GB ts) ts hout:=by
 refine gx Tryz.func123 ?_
 repeat' (conv=>whnf
          first
  |(refine az (fun h=>?_) (fun h=>?_))
  |(refine aF (fun h=>?_) (fun h=>?_))
  |(refine And.intro RN ?_)
  |(refine And.intro ⟨by omega,by omega⟩ ?_)
  |(refine pA [0,1] rfl (bk1 rfl rfl rfl rfl rfl) rfl (Mm rfl rfl rfl rfl) (PC k zs hz hk Hr i DN hi) ?_;rintro _ ⟨a,b,c,d,e,f,rfl⟩)
  |(refine bM (xs:=zs) hR hz (by omega) ?_;rintro _ ⟨x,y,rfl⟩ hs)
  |(refine Iv rfl rfl rfl ?_)
  |(refine ag rfl (ii (_,_) (_,_) (_,_)) ?_;rintro _ ⟨n,rfl⟩)
  |(refine ag rfl (vE _ (_,_) (LA _ _ _ _ _ _)) ?_;rintro _ ⟨n,rfl⟩)
  |exact⟨_,_,_,rfl,rfl,qQ rfl rfl rfl rfl,rfl,_,rfl⟩
  |exact⟨_,_,_,rfl,rfl,qQ rfl rfl rfl hR,rfl,_,rfl⟩
  |(apply cz [5,6,7,22,23,24] [] [24] (RS3 k zs a b c d e f) (k) [iV .i64 0];(conv=>whnf);exact⟨rfl,rfl,rfl,rfl⟩;exact rfl;exact rfl;exact⟨0,_,by omega,rfl,rfl,av.au (xs:=zs) rfl _,rfl⟩;rintro _ _ _ ⟨j,rows,hj,rfl,rfl,hR,rfl⟩)
  |(refine aj [5,6,7,22,23,24] [] ?_;(conv=>whnf);exact⟨rfl,_,[_],⟨j+1,_,by omega,rfl,by rw[bi (by omega) (by omega)];rfl,hR.au _,rfl⟩,rfl,rfl,by omega⟩))
 all_goals (conv=>whnf)
def GIr (k:Nat) (ts:List W):Prop:= ∃r:Int,ts=[oI r]∧ -1≤r∧r < (k:Int)
def RF (k:Nat) (zs:Lz) (m:Nat) (vs:List V) (hq:HS):Prop:= ∃ (i:Nat) (rows:List (List C)),i≤k∧m=k - i∧vs=[iV .i64 (i:Int)]∧av rows zs∧
 hq=[(0, .row 1 [[.own 1 2 0 k]]),(1, .row 2 rows),(2, .row 1 [[.kM 120 [(0,1,0,0)]]])]
theorem RG (k:Nat) (zs:Lz) (hz:bY zs) (hk:k≤zs.length) (Hr:zs.length≤1000000): ∃ts hout,Fn Tryz.prog 125 [oI k, .one (.kM 121 [(2,1,0,0)])] (JS k zs) (aO ts) hout∧(fun ts hout=>hout=JS k zs∧GIr k ts) ts hout:=by
 refine gx Tryz.func125 ?_
 repeat' (conv=>whnf
          first
  |(refine az (fun h=>?_) (fun h=>?_))
  |(refine aF (fun h=>?_) (fun h=>?_))
  |(refine And.intro ajJ ?_)
  |(refine pA [0,1,2] rfl (ZI rfl rfl rfl hR rfl rfl rfl rfl) rfl (hi2 rfl rfl rfl hR rfl rfl) (adJ k zs hz hk Hr (j:Int) (by omega) (by omega)) ?_;rintro _ ⟨b,rfl⟩)
  |exact⟨_,_,_,rfl,rfl,qQ rfl rfl rfl hR,rfl,_,rfl,by omega,by omega⟩
  |(apply cz [1,6,7] [] [7] (RF k zs) (k) [iV .i64 0];(conv=>whnf);exact⟨rfl,rfl,rfl,rfl⟩;exact rfl;exact rfl;exact⟨0,_,by omega,rfl,rfl,av.au (xs:=zs) rfl _,rfl⟩;rintro _ _ _ ⟨j,rows,hj,rfl,rfl,hR,rfl⟩)
  |(refine aj [1,6,7] [] ?_;(conv=>whnf);exact⟨rfl,_,[_],⟨j+1,_,by omega,rfl,by rw[bi (by omega) (by omega)];rfl,hR.au _,rfl⟩,rfl,rfl,by omega⟩))
 all_goals (conv=>whnf)
theorem RD (k:Nat) (zs:Lz) (hz:bY zs) (hk:k≤zs.length) (Hr:zs.length≤1000000): ∃ts hout,Fn Tryz.prog 125 [oI k, .one (.kM 123 [(2,1,0,0),(0,1,0,0)])] (JS k zs) (aO ts) hout∧(fun ts hout=>hout=JS k zs∧GIr k ts) ts hout:=by
 refine gx Tryz.func125 ?_
 repeat' (conv=>whnf
          first
  |(refine az (fun h=>?_) (fun h=>?_))
  |(refine aF (fun h=>?_) (fun h=>?_))
  |(refine And.intro ajI ?_)
  |(refine pA [0,1,2] rfl (ZI rfl rfl rfl hR rfl rfl rfl rfl) rfl (hi2 rfl rfl rfl hR rfl rfl) (adI k zs hz hk Hr (j:Int) (by omega) (by omega)) ?_;rintro _ ⟨b,rfl⟩)
  |exact⟨_,_,_,rfl,rfl,qQ rfl rfl rfl hR,rfl,_,rfl,by omega,by omega⟩
  |(apply cz [1,6,7] [] [7] (RF k zs) (k) [iV .i64 0];(conv=>whnf);exact⟨rfl,rfl,rfl,rfl⟩;exact rfl;exact rfl;exact⟨0,_,by omega,rfl,rfl,av.au (xs:=zs) rfl _,rfl⟩;rintro _ _ _ ⟨j,rows,hj,rfl,rfl,hR,rfl⟩)
  |(refine aj [1,6,7] [] ?_;(conv=>whnf);exact⟨rfl,_,[_],⟨j+1,_,by omega,rfl,by rw[bi (by omega) (by omega)];rfl,hR.au _,rfl⟩,rfl,rfl,by omega⟩))
 all_goals (conv=>whnf)
end Go.aR.Cd
end
section
namespace Go.aR.Cd
open Go Go.Proofs
set_option maxRecDepth 100000
set_option maxHeartbeats 1000000
def Yx (e:List T):Prop:= ∃K3,e=[.aA 2 K3]∧bY K3∧K3.length≤1000000
abbrev HY (rs:Lz):Prop:= ∀e,e∈rs→Yx e
theorem HY.snoc {rs:Lz} (h:HY rs) {K3:Lz} (ht:bY K3) (hl:K3.length≤1000000):HY (rs++[[.aA 2 K3]]):=by
 intro e he
 simp only[List.mem_append,List.mem_singleton]at he
 rcases he with he|rfl
 · exact h e he
 · exact⟨K3,rfl,ht,hl⟩
theorem Lq {id sz i len l h:Nat} {K:C→Prop} (h1:l≤h) (h2:h≤len) (hk:h≠l→K (.own id sz (i+l) (h - l))) (JL:h=l→l≠0→K (.t (.aA sz []))) (h0:h=l→l=0→False):(l≤h∧h≤len)∧xh (.own id sz i len) l h K:=by
 refine⟨⟨h1,h2⟩,?_⟩
 by_cases e:h=l
 · by_cases e0:l=0
   · exact(h0 e e0).elim
   · simp only[xh,BA,if_pos (⟨e,e0⟩:h=l∧l≠0)]
     exact JL e e0
 · have e':¬ (h=l∧l≠0):=fun q=>e q.1
   simp only[xh,BA,if_neg e',if_pos (⟨h1,h2⟩:l≤h∧h≤len)]
   exact hk e
theorem zSz:cA Tryz.prog 57=some 2:=YU
theorem bY.aV {xs ys:Lz} (h:bY xs) (g:bY ys) (i:Nat):bY (aV xs i ys):=by
 intro e he
 rcases D2 he with he|he
 · exact h e he
 · exact g e he
def Na (m:Nat) (vs:List V) (hq:HS):Prop:= ∃ (k:Nat) (zs rs:Lz) (rl rr:List (List C)),m=k∧(k≤zs.length∧zs.length≤40)∧bY zs∧rs.length+k≤40∧HY rs∧av rr rs∧av rl zs∧vs=[bn 12 1 rs.length]∧
 hq=[(4, .row 1 [[.own 16 2 0 k]]),(8, .row 1 [[.kM 120 [(4,1,0,0)]]]),(12, .row 1 rr),(16, .row 2 rl)]
theorem Na.next {k q:Nat} {zs rs:Lz} {rl rr:List (List C)} (h4:(k:Int) > 3) (hk:k≤zs.length∧zs.length≤40) (hz:bY zs) (hn:rs.length+(k - 1)≤40) (ht:HY rs) (h1:av rr rs) (h2:av rl zs) (hq:q=rs.length):
 Na (k - 1) [bn 12 1 q] [(4, .row 1 [[.own 16 2 0 ((IntKind.i64.wrap ((k:Int) - 1)).toNat - 0)]]),(8, .row 1 [[.kM 120 [(4,1,0,0)]]]),(12, .row 1 rr),(16, .row 2 rl)]:=by
 have e:(IntKind.i64.wrap ((k:Int) - 1)).toNat - 0=k - 1:=by rw[bi (by omega) (by omega)];omega
 rw[e,hq]
 exact⟨k - 1,zs,rs,rl,rr,rfl,by omega,hz,hn,ht,h1,h2,rfl,rfl⟩
theorem OC {form:Lz} (h:form.length≤40):(aV (List.replicate ((form.length:Nat):Int).toNat [tI 0,tI 0]) 0 (form.take ((form.length:Nat):Int).toNat)).length=form.length:=by
 have e:((form.length:Nat):Int).toNat=form.length:=by omega
 rw[e,vM (by simp)]
 simp
theorem FA {zs ys:Lz} {i k n:Nat} (hk:k≤zs.length∧zs.length≤40) (hi:i+n≤k):k≤(aV zs i (ys.take n)).length∧(aV zs i (ys.take n)).length≤40:=by
 rw[vM]
 · exact hk
 · simp only[List.length_take]
   omega
theorem jZ (xs:Lz) (hx:bY xs) (hl:xs.length≤1000000):Tg 90 [oL 2 xs] (Li 1 (fun rs=>HY rs∧rs.length≤41)):=by
 refine aH ?_
 refine ae Tryz.func90 ?_
 repeat' (conv=>whnf
          first
  |(refine az (fun h=>?_) (fun h=>?_))
  |(refine bC (fun h=>?_) (fun h=>?_))
  |(refine And.intro ⟨by omega,by omega,by have:=(hF (by omega)).2;omega,by have:=(hF (by omega)).2;omega⟩ ?_)
  |(refine And.intro RN ?_)
  |(refine And.intro ⟨h1.len.symm,by rw[h1.len];simp[aT];omega,by rw[h1.len];simp[maxLen];omega⟩ ?_)
  |(refine And.intro (show(0:Int)≤IntKind.i64.wrap (r+1) by rw[bi (by omega) (by omega)];omega) ?_)
  |(refine And.intro (show(0:Int)≤IntKind.i64.wrap ((k:Int) - 1) by rw[bi (by omega) (by omega)];omega) ?_)
  |(refine And.intro (show(0:Int)≤r by omega) ?_)
  |(refine pB (l:=r.toNat) (by omega) (Nat.le_refl _) (.inl (by omega)) ?_)
  |(refine pB (l:=0) (Nat.zero_le _) (by rw[bi (by omega) (by omega)];omega) (.inr rfl) ?_)
  |(refine Lq (by rw[bi (by omega) (by omega)];omega) (Nat.le_refl _) (fun hne=>?_) (fun heq Mi=>?_) (fun heq Mi=>by omega))
  |(refine And.intro (by kernel_rfl) ?_)
  |(refine ag rfl (we xs hx hl) ?_;rintro _ ⟨form,e,rfl,hF⟩)
  |(refine Iu (ys:=form) rfl rfl rfl rfl YX zSz rfl (av.replicate _ [tI 0,tI 0]) (by simp) ?_)
  |(refine pA [4,16,8] rfl (ZI rfl rfl rfl h2 rfl rfl rfl rfl) rfl (hi2 rfl rfl rfl h2 rfl rfl) (RG k zs hz hk.1 (by omega)) ?_;rintro _ ⟨r,rfl,wC,tF⟩)
  |(refine pA [4,16,8] rfl (ZI rfl rfl rfl h2 rfl rfl rfl rfl) rfl (hi2 rfl rfl rfl h2 rfl rfl) (RD k zs hz hk.1 (by omega)) ?_;rintro _ ⟨r,rfl,wC,tF⟩)
  |(refine pA [4,16] rfl (bk1 rfl rfl h2 rfl rfl) rfl (Mm rfl rfl h2 rfl) (PC k zs hz hk.1 (by omega) r (by omega) (by omega)) ?_;rintro _ ⟨a,b,c,d,e,f,rfl⟩)
  |(refine Iv rfl rfl rfl ?_)
  |(refine Fk rfl rfl rfl (HO rfl h2 (by rw[bi (by omega) (by omega)];omega)) YX zSz rfl h2 (by omega) (fun n=>?_) (fun n=>?_))
  |(refine Fk (ys:=[]) rfl rfl rfl rfl YX zSz rfl h2 (by omega) (fun n=>?_) (fun n=>?_))
  |exact dh rfl (bJ 1 rfl) (bN rfl) ⟨_,_,rfl,fun h0=>absurd h0 (by omega)⟩
  |exact dh rfl (PM rfl rfl (rs:=rs) (zs:=zs) (by rw[show rr=tr rs from h1];rfl) (by rw[h1.len];rfl) rfl h2 hk.1 rfl) (bN rfl) ⟨_,_,rfl,fun _=>⟨ht.snoc (hz.take _) (by simp;omega),by simp;omega⟩⟩
  |(apply ji [6,7,8,9,10] [(6,0)] [10] (Na) (form.length) [bn 12 1 0] (dL.iL 10 1 rfl);(conv=>whnf);exact⟨rfl,rfl,rfl,rfl⟩;exact rfl;exact rfl;exact⟨((form.length:Nat):Int).toNat,_,[],_,_,by omega,⟨by rw[OC (hF (by omega)).2];omega,by rw[OC (hF (by omega)).2];exact(hF (by omega)).2⟩,(bY.I0 _).aV ((hF (by omega)).1.take _) _,by have:=(hF (by omega)).2;simp;omega,fun e he=>by simp at he,av.au av.nil _,av.au (xs:=aV (List.replicate _ [tI 0,tI 0]) 0 _) rfl _,rfl,rfl⟩;rintro _ _ _ ⟨k,zs,rs,rl,rr,hmk,hk,hz,hn,ht,h1,h2,rfl,rfl⟩)
  |(refine aj [6,7,8,9,10] [(6,0)] ?_;(conv=>whnf);first|exact⟨rfl,_,[_],Na.next (by omega) hk hz (by omega) ht (h1.au _) (h2.au _) rfl,rfl,rfl,by omega⟩|exact⟨rfl,_,[_],Na.next (by omega) hk hz (by simp;omega) (ht.snoc (LA _ _ _ _ _ _) (by simp)) ((av.snoc h1 [.aA 2 [[tI _,tI _],[tI _,tI _],[tI _,tI _]]]).au _) (h2.au _) (by have:=h1.len;simp;omega),rfl,rfl,by omega⟩|exact⟨rfl,_,[_],Na.next (by omega) (FA hk (by omega)) (hz.aV (bY.take (da hz _ _) _) _) (by omega) ht (h1.au _) (av.au (xs:=aV zs _ _) rfl _) rfl,rfl,rfl,by omega⟩|exact⟨rfl,_,[_],Na.next (by omega) (FA hk (by omega)) (hz.aV (bY.take (da hz _ _) _) _) (by simp;omega) (ht.snoc (LA _ _ _ _ _ _) (by simp)) ((av.snoc h1 [.aA 2 [[tI _,tI _],[tI _,tI _],[tI _,tI _]]]).au _) (av.au (xs:=aV zs _ _) rfl _) (by have:=h1.len;simp;omega),rfl,rfl,by omega⟩|exact⟨rfl,_,[_],Na.next (by omega) (FA hk (by omega)) (hz.aV (fun e he=>by simp at he) _) (by omega) ht (h1.au _) (av.au (xs:=aV zs _ _) rfl _) rfl,rfl,rfl,by omega⟩|exact⟨rfl,_,[_],Na.next (by omega) (FA hk (by omega)) (hz.aV (fun e he=>by simp at he) _) (by simp;omega) (ht.snoc (LA _ _ _ _ _ _) (by simp)) ((av.snoc h1 [.aA 2 [[tI _,tI _],[tI _,tI _],[tI _,tI _]]]).au _) (av.au (xs:=aV zs _ _) rfl _) (by have:=h1.len;simp;omega),rfl,rfl,by omega⟩))
 all_goals (conv=>whnf)
end Go.aR.Cd
end
section
namespace Go.aR.Cd
open Go Go.Proofs
set_option maxRecDepth 100000
set_option maxHeartbeats 1000000
def Tz (N:Nat) (m:Nat) (vs:List V):Prop:= ∃ (i:Nat) (n:Int),i≤N∧m=N - i∧vs=[iV .i64 n,iV .i64 (i:Int)]
theorem Tz.next {N i:Nat} {n:Int} (h:(i:Int) < (N:Int)) (hN:N≤1000000):Tz N (N - (i+1)) [iV .i64 n,iV .i64 (IntKind.i64.wrap ((i:Int)+1))]:=⟨i+1,n,by omega,rfl,by rw[bi (by omega) (by omega)];rfl⟩
def GII (ts:List W):Prop:= ∃n e,ts=[oI n,oI e]
theorem sw (xs ys:Lz) (hx:bY xs) (hy:bY ys) (hl:xs.length≤1000000) (hm:ys.length≤1000000):Tg 138 [oL 2 xs,oL 2 ys] GII:=by
 refine aH ?_
 refine ae Tryz.func138 ?_
 repeat' (conv=>whnf
          first
  |(refine az (fun h=>?_) (fun h=>?_))
  |(refine bC (fun h=>?_) (fun h=>?_))
  |(refine ak (xs:=ts) (hT (by omega)).1 (by omega) (by omega) ?_;rintro _ ⟨t1,rfl,WD,Tc⟩ hs)
  |(refine ak (xs:=us) (hU (by omega)).1 (by omega) (by omega) ?_;rintro _ ⟨t2,rfl,WC,qX⟩ hs)
  |(refine ag rfl (jZ xs hx hl) ?_;rintro _ ⟨ts,e,rfl,hT⟩)
  |(refine ag rfl (jZ ys hy hm) ?_;rintro _ ⟨us,e2,rfl,hU⟩)
  |(refine ag rfl (mM t1 t2 WD WC Tc qX) ?_;rintro _ ⟨c,rfl⟩)
  |exact dh rfl (bN rfl) (bN rfl) ⟨_,_,rfl⟩
  |(apply aL [8,9,11,30,31,32,36,37,38] [] [9,38] (Tz us.length) (us.length) [iV .i64 n,iV .i64 0];(conv=>whnf);exact⟨rfl,rfl,rfl,rfl⟩;exact rfl;exact rfl;exact⟨0,n,by omega,rfl,rfl⟩;rintro _ _ ⟨j,n2,hj,rfl,rfl⟩)
  |(refine aj [8,9,11,30,31,32,36,37,38] [] ?_;(conv=>whnf);exact⟨rfl,_,[_,_],Tz.next (by omega) (by have:=(hU (by omega)).2;omega),rfl,rfl,rfl,by omega⟩)
  |(apply aL [8,9,30,31,32] [] [9,32] (Tz ts.length) (ts.length) [iV .i64 (-1),iV .i64 0];(conv=>whnf);exact⟨rfl,rfl,rfl,rfl⟩;exact rfl;exact rfl;exact⟨0, -1,by omega,rfl,rfl⟩;rintro _ _ ⟨i,n,hi,rfl,rfl⟩)
  |(refine aj [8,9,30,31,32] [] ?_;(conv=>whnf);exact⟨rfl,_,[_,_],Tz.next (by omega) (by have:=(hT (by omega)).2;omega),rfl,rfl,rfl,by omega⟩))
 all_goals (conv=>whnf)
def GBI (ts:List W):Prop:= ∃b e,ts=[oB b,oI e]
theorem uq (xs ys:Lz) (hx:bY xs) (hy:bY ys) (hl:xs.length≤1000000) (hm:ys.length≤1000000):Tg 104 [oL 2 xs,oL 2 ys] GBI:=by
 refine aH ?_
 refine ae Tryz.func104 ?_
 repeat' (conv=>whnf
          first
  |(refine az (fun h=>?_) (fun h=>?_))
  |(refine ag rfl (sw xs ys hx hy hl hm) ?_;rintro _ ⟨n,e,rfl⟩)
  |exact dh rfl (bN rfl) (bN rfl) ⟨_,_,rfl⟩)
 all_goals (conv=>whnf)
def akF (e:List T):Prop:= ∃poly g m x y,e=[.aA 2 poly,tI g,tB m,tI x,tI y]∧bY poly∧poly.length≤1000000
def akI (e:List T):Prop:= ∃sh f q x y,e=[tI sh,tB f,tI q,tI x,tI y]
abbrev P7 (sh:Int) (f:Bool) (q x y:Int):W:= .agg [.t (tI sh), .t (tB f), .t (tI q), .t (tI x), .t (tI y)]
abbrev Gk (xs:Lz):Prop:= ∀e,e∈xs→akF e
abbrev Pts (xs:Lz):Prop:= ∀e,e∈xs→akI e
theorem pN (eN:Lz) (hs:Gk eN) (sh:Int) (f:Bool) (q x y:Int):Tg 31 [oL 5 eN,P7 sh f q x y] (Li 2 (fun ps=>(bY ps∧ps.length≤1000000)∧0≤sh∧sh < (eN.length:Int))):=by
 refine aH ?_
 refine ae Tryz.func31 ?_
 repeat' (conv=>whnf
          first
  |(refine az (fun h=>?_) (fun h=>?_))
  |(refine bC (fun h=>?_) (fun h=>?_))
  |(refine aF (fun h=>?_) (fun h=>?_))
  |(refine ak (xs:=eN) hs (by omega) (by omega) ?_;rintro _ ⟨poly,g,m,px,py,rfl,hp,fQ⟩ hs1)
  |(refine And.intro (by kernel_rfl) ?_)
  |(refine ag rfl (qE (_,_)) ?_;rintro _ ⟨b,rfl,_⟩)
  |(refine ag rfl (eo poly hp fQ) ?_;rintro _ ⟨d,rfl,_⟩)
  |(refine aB rfl (rS _ _ poly hp fQ) ?_;rintro _ ⟨ys,rfl,jT,hys⟩)
  |(refine aB rfl (AJ ys (_,_) hys (by omega)) ?_;rintro _ ⟨zs,rfl,gR,hzs⟩)
  |(refine ag rfl (eo zs hzs (by omega)) ?_;rintro _ ⟨d2,rfl,_⟩)
  |exact dh rfl (bJ 2 rfl) (bN rfl) ⟨_,_,rfl,fun h0=>absurd h0 (by omega)⟩
  |exact dh rfl (bN rfl) (bN rfl) ⟨zs,_,rfl,fun _=>⟨⟨hzs,by omega⟩,by omega,by omega⟩⟩)
 all_goals (conv=>whnf)
theorem yh (r a:Sp) (sh:Int) (f:Bool) (q x y:Int):Tg 103 [iP r,iP a,P7 sh f q x y] GB:=by
 refine ae Tryz.func103 ?_
 repeat' (conv=>whnf
          first
  |(refine aF (fun h=>?_) (fun h=>?_))
  |(refine ag rfl (qE (_,_)) ?_;rintro _ ⟨b,rfl,_⟩)
  |(refine ag rfl (lZ _ _ (_,_)) ?_;rintro _ ⟨u,v,rfl,_⟩)
  |(refine ag rfl (Ca (_,_) (_,_) (_,_)) ?_;rintro _ ⟨b,rfl⟩)
  |exact gB rfl rfl)
 all_goals (conv=>whnf)
abbrev V1 (l w rx ry:Int):W:= .agg [.t (tI l), .t (tI w), .t (tI rx), .t (tI ry)]
theorem Ef (bl bw ZH ZG:Int) (eN fh:Lz) (hs:Gk eN) (hp:Pts fh) (fQ:fh.length≤maxLen) (sh:Int) (f:Bool) (q x y:Int):Tg 78 [V1 bl bw ZH ZG,oL 5 eN,oL 5 fh,P7 sh f q x y] GI:=by
 refine ae Tryz.func78 ?_
 repeat' (conv=>whnf
          first
  |(refine az (fun h=>?_) (fun h=>?_))
  |(refine bC (fun h=>?_) (fun h=>?_))
  |(refine aF (fun h=>?_) (fun h=>?_))
  |(refine ak (xs:=eN) hs (hP (by omega)).2.1 (hP (by omega)).2.2 ?_;rintro _ ⟨poly,g,m,px,py,rfl,_,_⟩ hs1)
  |(refine ak (xs:=ps) (hP (by omega)).1.1 (by omega) (by omega) ?_;rintro _ ⟨a,b,rfl⟩ bP)
  |(refine ak (xs:=fh) hp (by omega) (by omega) ?_;rintro _ ⟨sh2,f2,q2,x2,y2,rfl⟩ Hp)
  |(refine ag rfl (pN eN hs sh f q x y) ?_;rintro _ ⟨ps,e,rfl,hP⟩)
  |(refine ag rfl (Am _ _ _ _) ?_;rintro _ ⟨b,rfl⟩)
  |(refine ag rfl (yh (_,_) (_,_) _ _ _ _ _) ?_;rintro _ ⟨b,rfl⟩)
  |(refine ag rfl (pN eN hs sh2 f2 q2 x2 y2) ?_;rintro _ ⟨S0,e2,rfl,hP2⟩)
  |(refine ag rfl (uq S0 ps (hP2 (by omega)).1.1 (hP (by omega)).1.1 (hP2 (by omega)).1.2 (hP (by omega)).1.2) ?_;rintro _ ⟨b,e3,rfl⟩)
  |exact gI rfl rfl
  |(apply aL [1,9,97,98,99] [] [99] (RI fh.length) (fh.length) [iV .i64 0];(conv=>whnf);exact⟨rfl,rfl,rfl,rfl⟩;exact rfl;exact rfl;exact RI.zero;rintro _ _ ⟨i,hi,rfl,rfl⟩)
  |(refine aj [1,9,97,98,99] [] ?_;(conv=>whnf);exact⟨rfl,_,[_],RI.succ (N:=fh.length) (i:=i) (by omega) fQ,rfl,rfl,rfl,by omega⟩)
  |(apply aL [1,2,4,7,9,11,57,58,59] [] [59] (RI ps.length) (ps.length) [iV .i64 0];(conv=>whnf);exact⟨rfl,rfl,rfl,rfl⟩;exact rfl;exact rfl;exact RI.zero;rintro _ _ ⟨i,hi,rfl,rfl⟩)
  |(refine aj [1,2,4,7,9,11,57,58,59] [] ?_;(conv=>whnf);exact⟨rfl,_,[_],RI.succ (N:=ps.length) (i:=i) (by omega) (by have:=(hP (by omega)).1.2;simp only[maxLen];omega),rfl,rfl,rfl,by omega⟩))
 all_goals (conv=>whnf)
theorem tv (bl bw ZH ZG:Int) (eN fh:Lz) (hs:Gk eN) (hp:Pts fh) (fQ:fh.length≤maxLen):Tg 53 [V1 bl bw ZH ZG,oL 5 eN,oL 5 fh] GI:=by
 refine ae Tryz.func53 ?_
 repeat' (conv=>whnf
          first
  |(refine az (fun h=>?_) (fun h=>?_))
  |(refine bC (fun h=>?_) (fun h=>?_))
  |(refine dm (Nat.zero_le _) (by omega) ?_)
  |(refine ak (xs:=fh) hp (by omega) (by omega) ?_;rintro _ ⟨sh,f,q,x,y,rfl⟩ Hp)
  |(refine And.intro (by kernel_rfl) ?_)
  |(refine And.intro (by omega) ?_)
  |(refine aB rfl (Ef bl bw ZH ZG eN _ hs (da hp _ _) (jc fQ _ _) sh f q x y) ?_;rintro _ ⟨n,rfl⟩)
  |exact gI rfl rfl
  |(apply aL [1,2,3,13,14,15] [] [15] (RI fh.length) (fh.length) [iV .i64 0];(conv=>whnf);exact⟨rfl,rfl,rfl,rfl⟩;exact rfl;exact rfl;exact RI.zero;rintro _ _ ⟨i,hi,rfl,rfl⟩)
  |(refine aj [1,2,3,13,14,15] [] ?_;(conv=>whnf);exact⟨rfl,_,[_],RI.succ (N:=fh.length) (i:=i) (by omega) fQ,rfl,rfl,rfl,by omega⟩))
 all_goals (conv=>whnf)
end Go.aR.Cd
end
section
namespace Go.aR.Cd
open Go Go.Proofs
set_option maxRecDepth 100000
set_option maxHeartbeats 1000000
theorem aSh:jw Tryz.prog 166=some true:=by kernel_rfl
theorem zSh:cA Tryz.prog 166=some 5:=by kernel_rfl
theorem aKy:jw Tryz.prog 158=some true:=by kernel_rfl
theorem zKy:cA Tryz.prog 158=some 3:=by kernel_rfl
abbrev oPl (g u k:Int) (f:Bool) (q x y:Int):W:= .agg [.t (tI g), .t (tI u), .t (tI k), .t (tB f), .t (tI q), .t (tI x), .t (tI y)]
theorem wo (g u k:Int) (f:Bool) (q x y:Int): ∃ts,Fn Tryz.prog 51 [oPl g u k f q x y] [] (aO ts) []∧(aO ts).cV=true∧(fun ts=>ts=[.agg [.t (tI g), .t (tI u), .t (tI k)]]) ts:=by
 refine aH ?_
 refine ae Tryz.func51 ?_
 repeat' (conv=>whnf
          first
  |(refine az (fun h=>?_) (fun h=>?_))
  |(refine rA (fun h=>?_) (fun h=>?_))
  |(refine bC (fun h=>?_) (fun h=>?_))
  |(refine aF (fun h=>?_) (fun h=>?_))
  |(refine iK (by omega) (by omega) ?_;intro bb)
  |(refine dm (by omega) (by omega) ?_)
  |(refine And.intro (by kernel_rfl) ?_)
  |(refine And.intro (by omega) ?_)
  |exact ov rfl (bD aKy zKy rfl rfl (Nat.le_refl _) rfl (cM.refl _)) rfl
  |(exfalso;omega))
 all_goals (conv=>whnf)
abbrev aeD (poly:Lz) (g:Int) (m:Bool) (x y:Int):W:= .agg [.t (.aA 2 poly), .t (tI g), .t (tB m), .t (tI x), .t (tI y)]
def alB (ts:List W):Prop:= ∃poly g m x y e,ts=[aeD poly g m x y,oI e]∧(e=0→bY poly∧poly.length≤1000000)
theorem xG.GD {xs:Lz} (h:xG xs):bY xs∧xs.length≤40:=⟨fun e he=>by obtain⟨a,b,r,_⟩:=h.1.2.2 e he;exact⟨a,b,r⟩,h.1.2.1⟩
theorem nK (sn:ByteArray) (bz ms ps us ss os:Lz) (hS:gZ sn bz ms ps us ss os) (size:Int) (g u k:Int) (f:Bool) (q x y:Int):Tg 76 [fW sn bz ms ps us ss os,oI size,oPl g u k f q x y] alB:=by
 refine aH ?_
 refine ae Tryz.func76 ?_
 repeat' (conv=>whnf
          first
  |(refine az (fun h=>?_) (fun h=>?_))
  |(refine rA (fun h=>?_) (fun h=>?_))
  |(refine bC (fun h=>?_) (fun h=>?_))
  |(refine aF (fun h=>?_) (fun h=>?_))
  |(refine ak (xs:=us) (hC (by assumption)).2.2 (hC (by assumption)).2.1.1 (hC (by assumption)).2.1.2 ?_;rintro _ ⟨a,b,c,rfl,⟨ha,ha2⟩,hb⟩ hs)
  |(refine ak (xs:=ps) hS.hps ha ha2 ?_;rintro _ ⟨nm,es,gr,ns,cs,ws,mt,rfl,hnm,⟨he,hm⟩,⟨hn,_⟩,⟨hc,dA⟩,hw,BT⟩ bP)
  |(refine iK (by omega) (by omega) ?_;intro bb)
  |(refine dm (by omega) (by omega) ?_)
  |(refine And.intro (by kernel_rfl) ?_)
  |(refine And.intro (by omega) ?_)
  |(refine ag rfl (za sn bz ms ps us ss os hS size u) ?_;rintro _ ⟨poly,e,rfl,hC⟩)
  |(refine aB rfl (za sn bz ms ps us ss os hS size u) ?_;rintro _ ⟨poly,e,rfl,hC⟩)
  |(refine ag rfl (qw sn bz ms ps us ss os hS size u) ?_;rintro _ ⟨⟨ax,ay⟩,e2,rfl⟩)
  |(refine aB rfl (qw sn bz ms ps us ss os hS size u) ?_;rintro _ ⟨⟨ax,ay⟩,e2,rfl⟩)
  |(refine ag rfl (rS _ _ poly (hC (by assumption)).1.GD.1 (by have:=(hC (by assumption)).1.GD.2;omega)) ?_;rintro _ ⟨ys,rfl,jT,hys⟩)
  |(refine aB rfl (rS _ _ poly (hC (by assumption)).1.GD.1 (by have:=(hC (by assumption)).1.GD.2;omega)) ?_;rintro _ ⟨ys,rfl,jT,hys⟩)
  |(refine ag rfl (lZ _ _ (_,_)) ?_;rintro _ ⟨bx,b_y,rfl,_⟩)
  |(refine aB rfl (lZ _ _ (_,_)) ?_;rintro _ ⟨bx,b_y,rfl,_⟩)
  |exact dh rfl (bD aSh zSh rfl rfl (Nat.le_refl _) rfl (.cons (.nil 2) (cM.refl _))) (bN rfl) ⟨_,_,_,_,_,_,rfl,fun h0=>absurd h0 (by assumption)⟩
  |exact dh rfl (bD aSh zSh rfl rfl (Nat.le_refl _) rfl (cM.refl _)) (bN rfl) ⟨poly,_,_,_,_,_,rfl,fun _=>⟨(hC (by assumption)).1.GD.1,by have:=(hC (by assumption)).1.GD.2;omega⟩⟩
  |exact dh rfl (bD aSh zSh rfl rfl (Nat.le_refl _) rfl (cM.refl _)) (bN rfl) ⟨ys,_,_,_,_,_,rfl,fun _=>⟨hys,by have:=(hC (by assumption)).1.GD.2;omega⟩⟩
  |(exfalso;omega))
 all_goals (conv=>whnf)
abbrev pH (sn:ByteArray) (bz ms ps us ss os:Lz):List T:=[.val (.string sn), .aA 1 bz, .aA 1 ms, .aA 7 ps, .aA 3 us, .aA 6 ss, .aA 5 os]
theorem Gk.snoc {xs:Lz} (h:Gk xs) {poly:Lz} (hp:bY poly) (hl:poly.length≤1000000) (g:Int) (m:Bool) (x y:Int):Gk (xs++[[.aA 2 poly,tI g,tB m,tI x,tI y]]):=by
 intro e he
 simp only[List.mem_append,List.mem_singleton]at he
 rcases he with he|rfl
 · exact h e he
 · exact⟨poly,g,m,x,y,rfl,hp,hl⟩
def nI (k:Nat) (e:List T):Int:=
 match e[k]? with
 |some (.val (.int .i64 n))=>n
 |_=>0
def nB (k:Nat) (e:List T):Bool:=
 match e[k]? with
 |some (.val (.bool b))=>b
 |_=>false
def nL (k:Nat) (e:List T):Lz:=
 match e[k]? with
 |some (.aA _ xs)=>xs
 |_=>[]
def Pre (Q:List T→Prop) (xs:Lz) (i:Nat):Prop:= ∀j e,j < i→xs[j]? =some e→Q e
theorem Pre.zero {Q:List T→Prop} {xs:Lz}:Pre Q xs 0:=fun j e hj=>by omega
theorem Pre.succ {Q:List T→Prop} {xs:Lz} {i:Nat} {e:List T} (h:Pre Q xs i) (hs:xs[i]? =some e) (hq:Q e):Pre Q xs (i+1):=by
 intro j e' hj he
 by_cases fK:j=i
 · subst fK
   rw[hs]at he
   cases he
   exact hq
 · exact h j e' (by omega) he
theorem Pre.all {Q:List T→Prop} {xs:Lz} {i:Nat} (h:Pre Q xs i) (hi:xs.length≤i): ∀e,e∈xs→Q e:=by
 intro e he
 obtain⟨j,hj,rfl⟩:=List.getElem_of_mem he
 exact h j _ (by omega) (by simp[hj])
def NB (n:Int) (e:List T):Prop:= ∃a,e=[tI a]∧0≤a∧a < n
def Nr (xs:Lz) (n:Int) (i:Nat):Prop:= ∀j e,j < i→xs[j]? =some e→NB n e
theorem Nr.all {xs:Lz} {n:Int} {i:Nat} (h:Nr xs n i) (hi:xs.length≤i): ∀e,e∈xs→NB n e:=by
 intro e he
 obtain⟨j,hj,rfl⟩:=List.getElem_of_mem he
 exact h j _ (by omega) (by simp[hj])
def Tx (xs:Lz) (n:Int) (m:Nat) (vs:List V):Prop:= ∃i:Nat,i≤xs.length∧Nr xs n i∧m=xs.length - i∧vs=[iV .i64 (i:Int)]
theorem Tx.next {xs:Lz} {n a:Int} {i:Nat} (hi:(i:Int) < (xs.length:Int)) (hl:xs.length≤maxLen) (h:Nr xs n i) (hs:xs[((i:Int)).toNat]? =some [tI a]) (h0:0≤a) (h1:a < n):Tx xs n (xs.length - (i+1)) [iV .i64 (IntKind.i64.wrap ((i:Int)+1))]:=by
 refine⟨i+1,by omega,fun j e hj he=>?_,rfl,by simp only[maxLen]at hl;rw[bi (by omega) (by omega)];rfl⟩
 by_cases fK:j=i
 · subst fK
   have hs':xs[j]? =some [tI a]:=by simpa using hs
   rw[hs']at he
   exact⟨a,(Option.some.inj he).symm,h0,h1⟩
 · exact h j e (by omega) he
def GaI (N:Nat) (e:List T):Prop:= ∃g r,e=tI g::r∧0≤g∧g < (N:Int)
abbrev Gq (N:Nat) (xs:Lz):Prop:= ∀e,e∈xs→GaI N e
theorem Gq.snoc {N:Nat} {xs:Lz} (h:Gq N xs) {g:Int} (r:List T) (h0:0≤g) (h1:g < (N:Int)):Gq N (xs++[tI g::r]):=by
 intro e he
 simp only[List.mem_append,List.mem_singleton]at he
 rcases he with he|rfl
 · exact h e he
 · exact⟨g,r,rfl,h0,h1⟩
def Nd (row:List T) (U N:Nat) (m:Nat) (ws:List V) (xss:List (Lz)):Prop:= ∃ (i:Nat) (eN ko:Lz),i≤N∧m=N - i∧ws=[bn 8 5 eN.length,bn 12 7 ko.length,iV .i64 (i:Int)]∧xss=[[row],eN,ko]∧ko.length=eN.length∧eN.length≤48 * i∧Gk eN∧Gv U ko∧Gq N ko
theorem Nd.next {row:List T} {U N i:Nat} {eN ko:Lz} (h:(i:Int) < (N:Int)) (hN:N≤6) (hl:ko.length=eN.length) (hb:eN.length≤48 * (i+1)) (h1:Gk eN) (h2:Gv U ko) (h3:Gq N ko):Nd row U N (N - (i+1)) [bn 8 5 eN.length,bn 12 7 ko.length,iV .i64 (IntKind.i64.wrap ((i:Int)+1))] [[row],eN,ko]:=
 ⟨i+1,eN,ko,by omega,rfl,by rw[bi (by omega) (by omega)];rfl,rfl,hl,hb,h1,h2,h3⟩
def Nc (row:List T) (U N b L:Nat) (m:Nat) (ws:List V) (xss:List (Lz)):Prop:= ∃ (j:Nat) (eN ko:Lz),j≤L∧m=L - j∧ws=[bn 8 5 eN.length,bn 12 7 ko.length,iV .i64 (j:Int)]∧xss=[[row],eN,ko]∧ko.length=eN.length∧eN.length≤b+j∧Gk eN∧Gv U ko∧Gq N ko
theorem Nc.next {row:List T} {U N b L j k1 k2:Nat} {eN ko poly:Lz} {g x y gg u k qq xx yy:Int} {m f:Bool} (h:(j:Int) < (L:Int)) (hL:L≤48) (hl:ko.length=eN.length) (hb:eN.length≤b+j) (h1:Gk eN) (h2:Gv U ko) (hp:bY poly∧poly.length≤1000000) (hu:0≤u∧u < (U:Int)) (h3:Gq N ko) (hg:0≤gg∧gg < (N:Int)) (e1:k1=eN.length+1) (e2:k2=ko.length+1):
 Nc row U N b L (L - (j+1)) [bn 8 5 k1,bn 12 7 k2,iV .i64 (IntKind.i64.wrap ((j:Int)+1))] [[row],eN++[[.aA 2 poly,tI g,tB m,tI x,tI y]],ko++[[tI gg,tI u,tI k,tB f,tI qq,tI xx,tI yy]]]:=
 ⟨j+1,_,_,by omega,rfl,by rw[bi (by omega) (by omega),e1,e2];simp,rfl,by simp[hl],by simp;omega,h1.snoc hp.1 hp.2 g m x y,h2.snoc gg u k qq xx yy f hu.1 hu.2,h3.snoc _ hg.1 hg.2⟩
def alA (U N M:Nat) (sizes:Lz) (ts:List W):Prop:= ∃eN ko e,ts=[oL 5 eN,oL 7 ko,oI e]∧(e=0→Gk eN∧Gv U ko∧ko.length=eN.length∧eN.length≤336∧Gq N ko∧(∀e,e∈sizes→NB M e)∧sizes.length≤6)
theorem oW (sn:ByteArray) (bz ms ps us ss os:Lz) (hS:gZ sn bz ms ps us ss os) (sizes:Lz) (hz:Is sizes) (gR:sizes.length≤maxLen):Tg 50 [fW sn bz ms ps us ss os,oL 1 sizes] (alA us.length sizes.length bz.length sizes):=by
 refine aH ?_
 refine ae Tryz.func50 ?_
 repeat' (conv=>whnf
          first
  |(refine az (fun h=>?_) (fun h=>?_))
  |(refine rA (fun h=>?_) (fun h=>?_))
  |(refine bC (fun h=>?_) (fun h=>?_))
  |(refine aF (fun h=>?_) (fun h=>?_))
  |(refine ak (xs:=sizes) hz (by omega) (by omega) ?_;rintro _ ⟨a,rfl⟩ hs)
  |(refine ak (xs:=cs) hcs (by omega) (by omega) ?_;rintro _ ⟨g,u,k,f,q,x,y,rfl,mv,qk⟩ hs)
  |(refine And.intro ⟨by simp[tr],by simp[tr,aT];omega,by simp[tr,maxLen];omega⟩ ?_)
  |(refine iK (by omega) (by omega) ?_;intro bb)
  |(refine dm (by omega) (by omega) ?_)
  |(refine And.intro (by kernel_rfl) ?_)
  |(refine And.intro (by omega) ?_)
  |(refine ag rfl (jk sn bz ms ps us ss os hS) ?_;rintro _ ⟨e,rfl,hC⟩)
  |(refine aB rfl (jk sn bz ms ps us ss os hS) ?_;rintro _ ⟨e,rfl,hC⟩)
  |(refine ag rfl (qv sn bz ms ps us ss os hS) ?_;rintro _ ⟨cs,rfl,hcs,dA⟩)
  |(refine aB rfl (qv sn bz ms ps us ss os hS) ?_;rintro _ ⟨cs,rfl,hcs,dA⟩)
  |(refine ag rfl (nK sn bz ms ps us ss os hS _ _ _ _ _ _ _ _) ?_;rintro _ ⟨poly,pg,pm,px,py,e3,rfl,hp⟩)
  |(refine aB rfl (nK sn bz ms ps us ss os hS _ _ _ _ _ _ _ _) ?_;rintro _ ⟨poly,pg,pm,px,py,e3,rfl,hp⟩)
  |exact Hz rfl (bJ 5 rfl) (bJ 7 rfl) (bN rfl) ⟨_,_,_,rfl,fun h0=>absurd h0 (by omega)⟩
  |exact Hz rfl (eO rfl rfl (xs:=eN) rfl (by omega)) (eO rfl rfl (xs:=ko) rfl (by omega)) (bN rfl) ⟨_,_,_,rfl,fun _=>by rw[dS rfl,dS rfl];exact⟨hs1,mX,Tc,by omega,Zj,nc.all (by omega),by omega⟩⟩
  |(apply aS [2,10,11,12,13,14,56,57,58,63,64,65] [] [11,12,65] [(4,7),(8,5),(12,7)] (Nc (pH sn bz ms ps us ss os) us.length sizes.length (48 * i) cs.length) (cs.length) [bn 8 5 eN.length,bn 12 7 ko.length,iV .i64 0];(conv=>whnf);exact⟨rfl,rfl,rfl,rfl⟩;exact rfl;exact rfl;exact .cons (av.au (xs:=[pH sn bz ms ps us ss os]) rfl _) (.cons (av.au (xs:=eN) rfl _) (.cons (av.au (xs:=ko) rfl _) .nil));exact⟨0,eN,ko,by omega,rfl,rfl,rfl,Tc,by omega,hs1,mX,Zj⟩;rintro _ _ _ ⟨j,Vx,X3,hj,rfl,rfl,rfl,qX,lp,bP,wL,xS⟩)
  |(refine aj [2,10,11,12,13,14,56,57,58,63,64,65] [] ?_;(conv=>whnf);exact⟨rfl,_,[_,_,_],_, .cons (av.au (xs:=[pH sn bz ms ps us ss os]) rfl _) (.cons (av.au (av.snoc (xs:=Vx) rfl [.aA 2 _,tI _,tB _,tI _,tI _]) _) (.cons (av.au (av.snoc (xs:=X3) rfl [tI _,tI _,tI _,tB _,tI _,tI _,tI _]) _) .nil)),Nc.next (by omega) dA qX lp bP wL (hp (by omega)) ⟨mv,qk⟩ xS ⟨by omega,by omega⟩ (by simp[tr]) (by simp[tr]),rfl,rfl,by omega⟩)
  |(apply dI [2,10,11,12,56,57,58] [] [11,12,58] [(4,7),(8,5),(12,7)] (Nd (pH sn bz ms ps us ss os) us.length sizes.length) (sizes.length) [bn 8 5 0,bn 12 7 0,iV .i64 0] (dL.trans (dL.iL 11 5 rfl) (dL.iL 12 7 rfl));(conv=>whnf);exact⟨rfl,rfl,rfl,rfl⟩;exact rfl;exact rfl;exact .cons (av.au (xs:=[pH sn bz ms ps us ss os]) rfl _) (.cons (av.au av.nil _) (.cons (av.au av.nil _) .nil));exact⟨0,[],[],by omega,rfl,rfl,rfl,rfl,by simp,fun e he=>by simp at he,fun e he=>by simp at he,fun e he=>by simp at he⟩;rintro _ _ _ ⟨i,eN,ko,hi,rfl,rfl,rfl,Tc,pZ,hs1,mX,Zj⟩)
  |(refine aj [2,10,11,12,56,57,58] [] ?_;(conv=>whnf);exact⟨rfl,_,[_,_,_],_, .cons (av.au (xs:=[pH sn bz ms ps us ss os]) rfl _) (.cons (av.au (xs:=Vx) rfl _) (.cons (av.au (xs:=X3) rfl _) .nil)),Nd.next (by omega) (by omega) qX (by omega) bP wL xS,rfl,rfl,by omega⟩)
  |(apply aL [1,2,32,33,34] [] [34] (Tx sizes bz.length) (sizes.length) [iV .i64 0];(conv=>whnf);exact⟨rfl,rfl,rfl,rfl⟩;exact rfl;exact rfl;exact⟨0,by omega,fun j e hj=>by omega,rfl,rfl⟩;rintro _ _ ⟨i,hi,nc,rfl,rfl⟩)
  |(refine aj [1,2,32,33,34] [] ?_;(conv=>whnf);exact⟨rfl,_,[_],Tx.next (by omega) gR nc hs (by omega) (by omega),rfl,rfl,rfl,by omega⟩)
  |(exfalso;omega))
 all_goals (conv=>whnf)
end Go.aR.Cd
end
section
namespace Go.aR.Cd
open Go Go.Proofs
set_option maxRecDepth 100000
set_option maxHeartbeats 1000000
theorem Wo {hp:HS} {id sz len:Nat} {rows:List (List C)} {xs:Lz} {x:T} (hf:find hp id=some (.row sz rows)) (hR:av rows xs) (hl:len=xs.length):bE (bI hp) [.one (.own id sz 0 len), .one (.t x)]=some [.one (.t (.aA sz xs)), .one (.t x)]:=by
 have:=kI (hp:=hp) (i:=0) hf hR (by omega:0+len≤xs.length)
 have hx:bI hp (.one (.t x))=some (.one (.t x)):=rfl
 simp only[bE,this,hx]
 simp[hl]
def IsB (e:List T):Prop:= ∃b,e=[tB b]
abbrev Bs (xs:Lz):Prop:= ∀e,e∈xs→IsB e
theorem pK (xs:Lz) (b:Bool) (hx:Bs xs) (hl:xs.length≤maxLen):Tg 77 [oL 1 xs,oB b] GI:=by
 refine ae Tryz.func77 ?_
 repeat' (conv=>whnf
          first
  |(refine az (fun h=>?_) (fun h=>?_))
  |(refine ak hx (by first|omega|exact cE (by first|omega|(simp (disch:=omega) only[aa];omega))|(simp (disch:=omega) only[aa];omega)) (by first|omega|exact cq (by omega)|(simp (disch:=omega) only[aa];omega)) ?_;rintro _ ⟨c,rfl⟩ hs)
  |exact gI rfl rfl
  |(apply aL [0,1,7,8] [] [8] (RI xs.length) (xs.length) [iV .i64 0];(conv=>whnf);exact⟨rfl,rfl,rfl,rfl⟩;exact rfl;exact rfl;exact RI.zero;rintro _ _ ⟨i,hi,rfl,rfl⟩)
  |(refine aj [0,1,7,8] [] ?_;(conv=>whnf);exact⟨rfl,_,[_],RI.succ (N:=xs.length) (i:=i) (by omega) hl,rfl,rfl,rfl,by omega⟩))
 all_goals (conv=>whnf)
theorem mT (xs:Lz) (b:Bool) (hx:Bs xs) (hl:xs.length≤maxLen):Tg 52 [oL 1 xs,oB b] GB:=by
 refine ae Tryz.func52 ?_
 repeat' (conv=>whnf
          first
  |(refine ag rfl (pK xs _ hx hl) ?_;rintro _ ⟨n,rfl⟩)
  |exact gB rfl rfl)
 all_goals (conv=>whnf)
def SE (v:Value):Prop:= ∃a b c,v= .agg #[.int .i64 a, .int .i64 b, .int .i64 c]
theorem sb3 (k:Nat) (a b c:Int):Instr.sameBits (k+1) (.agg #[.int .i64 a, .int .i64 b, .int .i64 c]) (.agg #[.int .i64 a, .int .i64 b, .int .i64 c])=true:=by
 simp[Instr.sameBits]
theorem L6: ∃d,Tryz.prog.underlying 158=some (.struct d):=by
 have h:(match Tryz.prog.underlying 158 with|some (.struct _)=>true|_=>false)=true:=by kernel_rfl
 split at h
 · rename_i d hd;exact⟨d,hd⟩
 · simp at h
theorem kKy:fg Tryz.prog 158 SE:=by
 obtain⟨d,hd⟩:=L6
 refine Hg hd ?_ ?_ ?_ ?_
 · rintro e _ ⟨a,b,c,rfl⟩
   exact⟨(),by cases e<;>kernel_rfl⟩
 · rintro _ _ ⟨a,b,c,rfl⟩ ⟨a',b',c',rfl⟩
   rfl
 · rintro _ _ ⟨a,b,c,rfl⟩ ⟨a',b',c',rfl⟩
   have h:=(nA (P:=Tryz.prog) (t:=158) (ks:=[0,0,0]) (cs:=[.t (tI a), .t (tI b), .t (tI c)]) (ds:=[.t (tI a'), .t (tI b'), .t (tI c')]) (vs:=[.int .i64 a, .int .i64 b, .int .i64 c]) (us:=[.int .i64 a', .int .i64 b', .int .i64 c']) (b:=(a==a')&& ((b==b')&& ((c==c')&&true))) (by kernel_rfl) rfl rfl rfl).1
   refine⟨_,h,?_⟩
   simp only[Bool.and_true,Bool.and_eq_true,beq_iff_eq,Value.agg.injEq]
   constructor
   · rintro⟨rfl,rfl,rfl⟩;rfl
   · intro h
     simp at h
     exact⟨h.1.symm,h.2.1.symm,h.2.2.symm⟩
 · rintro _ ⟨a,b,c,rfl⟩
   exact sb3 9999 a b c
theorem uMk:Tryz.prog.underlying 156=some (.map 158 3):=by kernel_rfl
theorem zIt:mI Tryz.prog 3=some (.int .i64 0):=by kernel_rfl
theorem fg.sub {kt:TypeId} {K1 K2:Value→Prop} (h:fg Tryz.prog kt K1) (hs: ∀v,K2 v→K1 v):fg Tryz.prog kt K2:=
 ⟨fun es kv empty he hk=>h.at_ es kv empty (fun p hp=>hs _ (he p hp)) (hs _ hk),fun kv hk=>h.same kv (hs _ hk)⟩
def OO (N:Nat) (v:Value):Prop:= ∃a b c,v= .agg #[.int .i64 a, .int .i64 b, .int .i64 c]∧0≤a∧a < (N:Int)
theorem OO.key {N:Nat} (v:Value) (h:OO N v):SE v:=by
 obtain⟨a,b,c,rfl,_⟩:=h
 exact⟨a,b,c,rfl⟩
def yP (n:Nat) (c:C):Prop:= ∃m:Int,c= .t (tI m)∧0≤m∧m < (n:Int)
theorem yP.au {n:Nat} {c:C} (h:yP n c) (f:Nat→Option Nat):yP n (c.au f):=by
 obtain⟨m,rfl,h⟩:=h
 exact⟨m,rfl,h⟩
theorem Lp {n ctr N G:Nat} {t ty kt et:TypeId} {m k:Operand} {tm:TS} {hp:HS} {id clock:Nat} {es:cD} {a1 b1 c1:Int} {K:V→HS→Prop} (hm:Gt n tm m= .w (.one (.map id))) (hf:find hp id=some (.mp es clock)) (hk:(Gt n tm k).val? =some (.agg #[.int .i64 a1, .int .i64 b1, .int .i64 c1])) (hu:Tryz.prog.underlying t=some (.map kt et))
 (hz:mI Tryz.prog et=some (.int .i64 0)) (hK:fg Tryz.prog kt SE) (jI:lc (OO G) (yP N) es) (h: ∀ (i:Int) (b:Bool),(b=true→(0≤i∧i < (N:Int))∧0≤a1∧a1 < (G:Int))→K (.ef [.one (.t (tI i)), .one (.t (.val (.bool b)))]) hp):
 ∃v hp',ja Tryz.prog n (.lookup t m k true) ty tm hp ctr v hp'∧K v hp':=by
 refine Fi hm hf hk hu hz hK ⟨_,_,_,rfl⟩ (fun p hp=>OO.key _ (jI p hp).1) (fun i p hp he=>?_) (fun _=>h 0 false (fun h=>by simp at h))
 obtain⟨h1,j,hj,h2⟩:=jI p (List.mem_of_getElem? hp)
 rw[hj]
 refine h j true (fun _=>⟨h2,?_⟩)
 obtain⟨a,b,c,h3,h4⟩:=h1
 rw[he]at h3
 simp only[Value.agg.injEq,Array.mk.injEq,List.cons.injEq,Value.int.injEq,true_and,and_true]at h3
 rw[h3.1]
 exact h4
abbrev LS (ln wd rx ry:Int) (sizes places:Lz):W:= .agg [.t (tI ln), .t (tI wd), .t (tI rx), .t (tI ry), .t (.aA 1 sizes), .t (.aA 7 places)]
abbrev Wg (ln wd rx ry:Int) (sizes places:Lz):List T:=[tI ln,tI wd,tI rx,tI ry, .aA 1 sizes, .aA 7 places]
def akP (e:List T):Prop:= ∃g u k f q x y,e=[tI g,tI u,tI k,tB f,tI q,tI x,tI y]
abbrev KR (xs:Lz):Prop:= ∀e,e∈xs→akP e
def RA0 (row:List T) (C0 N G:Nat) (m:Nat) (vs:List V) (hq:HS):Prop:= ∃ (i:Nat) (es:cD) (c:Nat),i≤N∧lc (OO G) (yP C0) es∧m=N - i∧vs=[iV .i64 (i:Int)]∧hq=[(4, .row 6 [row.map .t]),(8, .mp es c)]
def PtS (n:Nat) (e:List T):Prop:= ∃sh f q x y,e=[tI sh,tB f,tI q,tI x,tI y]∧0≤sh∧sh < (n:Int)
abbrev yO (n:Nat) (xs:Lz):Prop:= ∀e,e∈xs→PtS n e
theorem yO.snoc {n:Nat} {xs:Lz} (h:yO n xs) (sh:Int) (f:Bool) (q x y:Int) (h0:0≤sh∧sh < (n:Int)):yO n (xs++[[tI sh,tB f,tI q,tI x,tI y]]):=by
 intro e he
 simp only[List.mem_append,List.mem_singleton]at he
 rcases he with he|rfl
 · exact h e he
 · exact⟨sh,f,q,x,y,rfl,h0⟩
theorem yO.pts {n:Nat} {xs:Lz} (h:yO n xs):Pts xs:=fun e he=>by
 obtain⟨sh,f,q,x,y,r,_⟩:=h e he
 exact⟨sh,f,q,x,y,r⟩
theorem Bs.set {xs:Lz} (h:Bs xs) (j:Nat) (b:Bool):Bs (xs.set j [tB b]):=by
 intro e he
 rcases List.mem_or_eq_of_mem_set he with he|rfl
 · exact h e he
 · exact⟨b,rfl⟩
theorem Bs.I0 (n:Nat) (b:Bool):Bs (List.replicate n [tB b]):=by
 intro e he
 obtain⟨_,rfl⟩:=List.mem_replicate.1 he
 exact⟨b,rfl⟩
def RA1 (row:List T) (places:Lz) (C0 N G:Nat) (m:Nat) (vs:List V) (hq:HS):Prop:= ∃ (i:Nat) (es:cD) (c:Nat) (sn ps:Lz) (rs rp:List (List C)),i≤N∧(lc (OO G) (yP C0) es∧Pre (GaI G) places i)∧m=N - i∧vs=[bn 16 5 ps.length,iV .i64 (i:Int)]∧av rs sn∧av rp ps∧(sn.length=C0∧Bs sn)∧(ps.length=i∧yO C0 ps)∧
 hq=[(4, .row 6 [row.map .t]),(8, .mp es c),(12, .row 1 rs),(16, .row 5 rp)]
theorem RA1.next {row:List T} {places:Lz} {C0 N G i k j:Nat} {g:Int} {r:List T} {es:cD} {c:Nat} {sn ps:Lz} {rs rp:List (List C)} {sh q x y:Int} {f b:Bool} (h:(i:Int) < (N:Int)) (hN:N≤maxLen) (hM:lc (OO G) (yP C0) es) (hpre:Pre (GaI G) places i) (hpi:places[((i:Int)).toNat]? =some (tI g::r)) (hgg:0≤g∧g < (G:Int)) (h1:av rs (sn.set j [tB b])) (h2:av rp (ps++[[tI sh,tB f,tI q,tI x,tI y]])) (hs:sn.length=C0∧Bs sn) (hp:ps.length=i∧yO C0 ps) (hsh:0≤sh∧sh < (C0:Int)) (hk:k=ps.length+1):
 RA1 row places C0 N G (N - (i+1)) [bn 16 5 k,iV .i64 (IntKind.i64.wrap ((i:Int)+1))] [(4, .row 6 [row.map .t]),(8, .mp es c),(12, .row 1 rs),(16, .row 5 rp)]:=
 ⟨i+1,es,c,_,_,rs,rp,by omega,⟨hM,hpre.succ (by simpa using hpi) ⟨g,r,rfl,hgg⟩⟩,rfl,by simp only[maxLen]at hN;rw[bi (by omega) (by omega),hk];simp,h1,h2,⟨by simp[hs.1],hs.2.set j b⟩,⟨by simp[hp.1],hp.2.snoc sh f q x y hsh⟩,rfl⟩
def RA2 (row:List T) (N:Nat) (m:Nat) (vs:List V) (xss:List (Lz)):Prop:= ∃i:Nat,i≤N∧m=N - i∧vs=[iV .i64 (i:Int)]∧xss=[[row]]
theorem RA2.next {row:List T} {N i:Nat} (h:(i:Int) < (N:Int)) (hN:N≤maxLen):RA2 row N (N - (i+1)) [iV .i64 (IntKind.i64.wrap ((i:Int)+1))] [[row]]:=
 ⟨i+1,by omega,rfl,by simp only[maxLen]at hN;rw[bi (by omega) (by omega)];rfl,rfl⟩
theorem JY {N i:Nat} {xs:Lz} {g:Int} {r:List T} (h:Gq N xs) (hs:xs[i]? =some (tI g::r)):0≤g∧g < (N:Int):=by
 obtain⟨g',r',he,h0⟩:=h _ (List.mem_of_getElem? hs)
 injection he with h1 h2
 injection h1 with h1
 injection h1 with _ h1
 rw[h1]
 exact h0
theorem Yj {eN ko fh sizes places:Lz} {U M i:Nat} (hA:Gk eN∧Gv U ko∧ko.length=eN.length∧eN.length≤336∧Gq sizes.length ko∧(∀e,e∈sizes→NB M e)∧sizes.length≤6) (hpt:fh.length=i∧yO ko.length fh) (hg: ∀e,e∈places→GaI sizes.length e) (hi:i=places.length):
 Gk eN∧yO eN.length (fh.take fh.length)∧(fh.take fh.length).length=places.length∧Gq sizes.length places∧(∀e,e∈sizes→NB M e)∧sizes.length≤6:=by
 obtain⟨h1,_,h2,_,_,h3,h4⟩:=hA
 refine⟨h1,fun e he=>?_,by simp;omega,hg,h3,h4⟩
 rw[←h2]
 exact hpt.2 e (List.mem_of_mem_take he)
def GAr (sizes places:Lz) (M:Nat) (ts:List W):Prop:= ∃eN fh e,ts=[oL 5 eN,oL 5 fh,oI e]∧(e=0→Gk eN∧yO eN.length fh∧fh.length=places.length∧Gq sizes.length places∧(∀e,e∈sizes→NB M e)∧sizes.length≤6)
theorem jy (sn:ByteArray) (bz ms ps us ss os:Lz) (hS:gZ sn bz ms ps us ss os) (ln wd rx ry:Int) (sizes places:Lz) (hz:Is sizes) (gR:sizes.length≤maxLen) (fQ:KR places) (Bb:places.length≤1000000):Tg 30 [fW sn bz ms ps us ss os,LS ln wd rx ry sizes places] (GAr sizes places bz.length):=by
 refine aH ?_
 refine ae Tryz.func30 ?_
 repeat' (conv=>whnf
          first
  |(refine az (fun h=>?_) (fun h=>?_))
  |(refine rA (fun h=>?_) (fun h=>?_))
  |(refine bC (fun h=>?_) (fun h=>?_))
  |(refine aF (fun h=>?_) (fun h=>?_))
  |(have sD:=hmm (by simpa using h);clear hmm)
  |(refine ak (xs:=ko) (hA (by omega)).2.1 (n:=(i:Int)) (by omega) (by omega) ?_;rintro _ ⟨g,u,k,f,qq,x,y,rfl,mv,qk⟩ hs;have hgi:=JY (hA (by omega)).2.2.2.2.1 hs)
  |(refine ak (xs:=places) fQ (by omega) (by omega) ?_;rintro _ ⟨g,u,k,f,qq,x,y,rfl⟩ hs)
  |(refine ak (xs:=fh.take fh.length) (fun e he=>hpt.2 e (List.mem_of_mem_take he)) (by omega) (by have:=hpt.1;simp;omega) ?_;rintro _ ⟨sh2,f2,q2,x2,y2,rfl,WM,WL⟩ bP)
  |(refine ak (xs:=ko) (hA (by omega)).2.1 WM WL ?_;rintro _ ⟨g3,u3,k3,f3,q3,x3,y3,rfl,_,_⟩ hs)
  |(refine And.intro ⟨by omega,by omega,by have:=hA (by omega);omega,by have:=hA (by omega);omega⟩ ?_)
  |(refine And.intro ⟨sD.1.1,by have:=JB.1;have:=sD.1.2;omega⟩ ?_)
  |(refine And.intro ⟨S5.len.symm,by rw[S5.len];have:=hpt.1;simp[aT];omega,by rw[S5.len];have:=hpt.1;simp[maxLen];omega⟩ ?_)
  |(refine iK (by omega) (by omega) ?_;intro bb)
  |(refine dm (by omega) (by omega) ?_)
  |(refine And.intro (by kernel_rfl) ?_)
  |(refine And.intro (by omega) ?_)
  |(refine ag rfl (oW sn bz ms ps us ss os hS sizes hz gR) ?_;rintro _ ⟨eN,ko,e,rfl,hA⟩)
  |(refine aB rfl (oW sn bz ms ps us ss os hS sizes hz gR) ?_;rintro _ ⟨eN,ko,e,rfl,hA⟩)
  |(refine lq ?_)
  |(refine DU rfl rfl rfl rfl uMk (fg.sub kKy OO.key) ⟨_,_,_,rfl,hgi.1,hgi.2⟩ hM ⟨_,rfl,by omega,by omega⟩ ?_;rintro es3 c3 La)
  |(refine Lp rfl rfl rfl uMk zIt kKy hMM ?_;intro mi mb hmm)
  |(refine bM (xs:=seen) eU JB.2 (by have:=JB.1;have:=sD.1;omega) ?_;rintro _ ⟨b2,rfl⟩ Za)
  |(refine ag rfl (wo _ _ _ _ _ _ _) ?_;rintro _ rfl)
  |(refine aB rfl (wo _ _ _ _ _ _ _) ?_;rintro _ rfl)
  |(refine rP (Wo (xs:=seen) rfl eU (by have:=JB.1;omega)) (mT seen _ JB.2 (by have:=JB.1;have:=hA (by omega);simp only[maxLen];omega)) ?_ ?_;(rintro _ ⟨b3,rfl⟩;rfl);rintro _ ⟨b3,rfl⟩)
  |(refine ag rfl (tv _ _ _ _ eN _ (hA (by omega)).1 (fun e he=>hpt.2.pts e (List.mem_of_mem_take he)) (by have:=hpt.1;simp[maxLen];omega)) ?_;rintro _ ⟨n,rfl⟩)
  |(refine aB rfl (tv _ _ _ _ eN _ (hA (by omega)).1 (fun e he=>hpt.2.pts e (List.mem_of_mem_take he)) (by have:=hpt.1;simp[maxLen];omega)) ?_;rintro _ ⟨n,rfl⟩)
  |exact Hz rfl (bJ 5 rfl) (bJ 5 rfl) (bN rfl) ⟨_,_,_,rfl,fun h0=>by omega⟩
  |exact Hz rfl (bN rfl) (bN rfl) (bN rfl) ⟨_,_,_,rfl,fun _=>Yj (hA (by omega)) hpt (S7.all (by omega)) (by omega)⟩
  |(apply dI [3,7,8,14,88,89,90] [] [90] [(4,6)] (RA2 (Wg ln wd rx ry sizes places) places.length) (places.length) [iV .i64 0] (dL.Rw (xs:=fh) [14] 16 (aeL rfl) rfl S5 (Nat.le_refl _));(conv=>whnf);exact⟨rfl,rfl,rfl,rfl⟩;exact rfl;exact rfl;exact .cons (av.au (xs:=[Wg ln wd rx ry sizes places]) rfl _) .nil;exact⟨0,by omega,rfl,rfl,rfl⟩;rintro _ _ _ ⟨q,hq,rfl,rfl,rfl⟩)
  |(refine aj [3,7,8,14,88,89,90] [] ?_;(conv=>whnf);exact⟨rfl,_,[_],_, .cons (av.au (xs:=[Wg ln wd rx ry sizes places]) rfl _) .nil,RA2.next (by omega) (by simp only[maxLen];omega),rfl,rfl,by omega⟩)
  |(apply ji [3,7,8,10,13,14,51,52,53] [] [14,53] (RA1 (Wg ln wd rx ry sizes places) places ko.length places.length sizes.length) (places.length) [bn 16 5 0,iV .i64 0] (dL.iL 14 5 rfl);(conv=>whnf);exact⟨rfl,rfl,rfl,rfl⟩;exact rfl;exact rfl;exact⟨0,_,_,_,[],_,_,by omega,⟨hM.au (fun c hc=>yP.au hc _),Pre.zero⟩,rfl,rfl,av.au (av.replicate _ [tB false]) _,av.au av.nil _,⟨by simp,Bs.I0 _ _⟩,⟨rfl,fun e he=>by simp at he⟩,rfl⟩;rintro _ _ _ ⟨i2,Tn,c2,seen,fh,rs,rp,hi2,⟨hMM,S7⟩,rfl,rfl,eU,S5,JB,hpt,rfl⟩)
  |(refine aj [3,7,8,10,13,14,51,52,53] [] ?_;(conv=>whnf);exact⟨rfl,_,[_,_],RA1.next (by omega) (by simp only[maxLen];omega) (hMM.au (fun c hc=>yP.au hc _)) S7 hs sD.2 ((av.set eU _ [tB _]).au _) ((av.snoc S5 [tI _,tB _,tI _,tI _,tI _]).au _) JB hpt sD.1 (by have:=S5.len;simp;omega),rfl,rfl,by omega⟩)
  |(apply cz [3,7,8,10,35,36,37] [] [37] (RA0 (Wg ln wd rx ry sizes places) ko.length ko.length sizes.length) (ko.length) [iV .i64 0];(conv=>whnf);exact⟨rfl,rfl,rfl,rfl⟩;exact rfl;exact rfl;exact⟨0,_,_,by omega,lc.nil,rfl,rfl,rfl⟩;rintro _ _ _ ⟨i,es,c,hi,hM,rfl,rfl,rfl⟩)
  |(refine aj [3,7,8,10,35,36,37] [] ?_;(conv=>whnf);exact⟨rfl,_,[_],⟨i+1,_,_,by omega,La.au (fun c hc=>yP.au hc _),rfl,by have:=hA (by omega);rw[bi (by omega) (by omega)];rfl,rfl⟩,rfl,rfl,by omega⟩)
  |(exfalso;omega))
 all_goals (conv=>whnf)
theorem AW (sn:ByteArray) (bz ms ps us ss os:Lz) (hS:gZ sn bz ms ps us ss os) (ln wd rx ry:Int) (sizes places:Lz) (hz:Is sizes) (gR:sizes.length≤maxLen) (fQ:KR places) (Bb:places.length≤1000000):Tg 72 [fW sn bz ms ps us ss os,LS ln wd rx ry sizes places] GI:=by
 refine ae Tryz.func72 ?_
 repeat' (conv=>whnf
          first
  |(refine az (fun h=>?_) (fun h=>?_))
  |(refine rA (fun h=>?_) (fun h=>?_))
  |(refine bC (fun h=>?_) (fun h=>?_))
  |(refine aF (fun h=>?_) (fun h=>?_))
  |(refine iK (by omega) (by omega) ?_;intro bb)
  |(refine dm (by omega) (by omega) ?_)
  |(refine And.intro (by kernel_rfl) ?_)
  |(refine And.intro (by omega) ?_)
  |(refine ag rfl (jy sn bz ms ps us ss os hS ln wd rx ry sizes places hz gR fQ Bb) ?_;rintro _ ⟨eN,fh,e,rfl,_⟩)
  |(refine aB rfl (jy sn bz ms ps us ss os hS ln wd rx ry sizes places hz gR fQ Bb) ?_;rintro _ ⟨eN,fh,e,rfl,_⟩)
  |exact gI rfl rfl
  |exact gB rfl rfl
  |(exfalso;omega))
 all_goals (conv=>whnf)
end Go.aR.Cd
end
section
namespace Go.aR.Cd
open Go Go.Proofs
set_option maxRecDepth 100000
set_option maxHeartbeats 1000000
theorem Vr:Tryz.prog.underlying 272=some (.map 3 4):=by kernel_rfl
theorem N4:fg Tryz.prog 3 oN:=Hf uIn
def RRp (N:Nat) (m:Nat) (vs:List V) (hq:HS):Prop:= ∃ (i:Nat) (es:cD) (c:Nat),i≤N∧lc oN xI es∧m=N - i∧vs=[iV .i64 (i:Int)]∧hq=[(4, .mp es c)]
theorem kC (xs:Lz) (hx:Is xs) (hl:xs.length≤maxLen):Tg 155 [oL 1 xs] GB:=by
 refine ae Tryz.func155 ?_
 repeat' (conv=>whnf
          first
  |(refine az (fun h=>?_) (fun h=>?_))
  |(refine aF (fun h=>?_) (fun h=>?_))
  |(refine ak (xs:=xs) hx (by omega) (by omega) ?_;rintro _ ⟨a,rfl⟩ hs)
  |(refine lq ?_)
  |(refine Fh rfl rfl rfl Vr zBo N4 ⟨_,rfl⟩ hM ⟨false,rfl⟩ ?_;rintro _ ⟨b,rfl⟩)
  |(refine DU rfl rfl rfl rfl Vr N4 ⟨_,rfl⟩ hM ⟨true,rfl⟩ ?_;rintro Tn c2 La)
  |exact gB rfl rfl
  |(apply cz [3,7,8,9] [] [9] (RRp xs.length) (xs.length) [iV .i64 0];(conv=>whnf);exact⟨rfl,rfl,rfl,rfl⟩;exact rfl;exact rfl;exact⟨0,_,_,by omega,lc.nil,rfl,rfl,rfl⟩;rintro _ _ _ ⟨i,es,c,hi,hM,rfl,rfl,rfl⟩)
  |(refine aj [3,7,8,9] [] ?_;(conv=>whnf);exact⟨rfl,_,[_],⟨i+1,_,_,by omega,La.au (fun c hc=>xI.au hc _),rfl,by simp only[maxLen]at hl;rw[bi (by omega) (by omega)];rfl,rfl⟩,rfl,rfl,by omega⟩))
 all_goals (conv=>whnf)
theorem tY (xs:Lz) (n:Int) (hx:Is xs) (hl:xs.length≤maxLen):Tg 154 [oL 1 xs,oI n] (GBt (∀e,e∈xs→NB n e)):=by
 refine ae Tryz.func154 ?_
 repeat' (conv=>whnf
          first
  |(refine az (fun h=>?_) (fun h=>?_))
  |(refine rA (fun h=>?_) (fun h=>?_))
  |(refine bC (fun h=>?_) (fun h=>?_))
  |(refine aF (fun h=>?_) (fun h=>?_))
  |(refine ak (xs:=xs) hx (by omega) (by omega) ?_;rintro _ ⟨a,rfl⟩ hs)
  |(refine iK (by omega) (by omega) ?_;intro bb)
  |(refine dm (by omega) (by omega) ?_)
  |(refine And.intro (by kernel_rfl) ?_)
  |(refine And.intro (by omega) ?_)
  |(refine Zy rfl rfl ?_;first|(intro _;exact hp.all (by omega))|(intro hf;simp at hf))
  |(apply aL [1,7,8,9] [] [9] (Tx xs n) (xs.length) [iV .i64 0];(conv=>whnf);exact⟨rfl,rfl,rfl,rfl⟩;exact rfl;exact rfl;exact⟨0,by omega,fun j e hj=>by omega,rfl,rfl⟩;rintro _ _ ⟨i,hi,hp,rfl,rfl⟩)
  |(refine aj [1,7,8,9] [] ?_;(conv=>whnf);exact⟨rfl,_,[_],Tx.next (by omega) hl hp hs (by omega) (by omega),rfl,rfl,rfl,by omega⟩)
  |(exfalso;omega))
 all_goals (conv=>whnf)
def M8 (n:Int) (e:List T):Prop:= ∃nm m t af us,e=[.val (.string nm),tI m,tI t, .aA 1 af, .aA 1 us]∧us.length≤maxLen∧ ∀q,q∈us→NB n q
theorem pP (l:Lz) (i xU:Int) (hop: ∀e,e∈l→Fc e) (hl:l.length≤maxLen) (DN:0≤i) (hi:i < (l.length:Int)):Tg 127 [oL 5 l,oI i,oI xU] (mS (fun n=>n=0→0≤xU→ ∀e,l[i.toNat]? =some e→M8 xU e)):=by
 refine ae Tryz.func127 ?_
 repeat' (conv=>whnf
          first
  |(refine az (fun h=>?_) (fun h=>?_))
  |(refine aF (fun h=>?_) (fun h=>?_))
  |(refine ak (xs:=l) (n:=i) hop DN hi ?_;rintro _ ⟨nm,m,t,af,us,rfl,hnm,⟨Ti,Mu⟩,fP,Mc⟩ hs)
  |(refine And.intro DN ?_)
  |(refine dm (Nat.zero_le _) (by omega) ?_)
  |(refine ak (xs:=(l.drop 0).take (i.toNat - 0)) (da hop _ _) (by omega) (by omega) ?_;rintro _ ⟨nm2,m2,t2,af2,mZ,rfl,agP,_⟩ bP)
  |(refine ag rfl (sx nm hnm) ?_;rintro _ ⟨b,rfl⟩)
  |(refine ag rfl (tY af _ Ti Mu) ?_;rintro _ ⟨b1,rfl,_⟩)
  |(refine ag rfl (tY us _ fP Mc) ?_;rintro _ ⟨b2,rfl,lp⟩)
  |(refine ag rfl (kC af Ti Mu) ?_;rintro _ ⟨b3,rfl⟩)
  |(refine ag rfl (kC us fP Mc) ?_;rintro _ ⟨b4,rfl⟩)
  |(refine iH rfl rfl (fun h0=>?_);first|(exfalso;omega)|(intro hu e he;rw[hs]at he;cases he;exact⟨_,_,_,_,_,rfl,Mc,lp (by simp_all)⟩)|(intro hu;exfalso;omega))
  |(apply aL [0,2,7,20,21,22] [] [22] (RI ((l.drop 0).take (i.toNat - 0)).length) (((l.drop 0).take (i.toNat - 0)).length) [iV .i64 0];(conv=>whnf);exact⟨rfl,rfl,rfl,rfl⟩;exact rfl;exact rfl;exact RI.zero;rintro _ _ ⟨j,hj,rfl,rfl⟩)
  |(refine aj [0,2,7,20,21,22] [] ?_;(conv=>whnf);exact⟨rfl,_,[_],RI.succ (N:=((l.drop 0).take (i.toNat - 0)).length) (i:=j) (by omega) (jc hl _ _),rfl,rfl,rfl,by omega⟩))
 all_goals (conv=>whnf)
end Go.aR.Cd
end
section
namespace Go.aR.Cd
open Go Go.Proofs
set_option maxRecDepth 100000
set_option maxHeartbeats 1000000
def RQ (Q:List T→Prop) (xs:Lz) (m:Nat) (vs:List V):Prop:= ∃i:Nat,i≤xs.length∧Pre Q xs i∧m=xs.length - i∧vs=[iV .i64 (i:Int)]
theorem RQ.zero {Q:List T→Prop} {xs:Lz}:RQ Q xs xs.length [iV .i64 0]:=⟨0,by omega,Pre.zero,rfl,rfl⟩
theorem RQ.next {Q:List T→Prop} {xs:Lz} {i:Nat} {e:List T} (hi:(i:Int) < (xs.length:Int)) (hl:xs.length≤maxLen) (h:Pre Q xs i) (hs:xs[((i:Int)).toNat]? =some e) (hq:Q e):RQ Q xs (xs.length - (i+1)) [iV .i64 (IntKind.i64.wrap ((i:Int)+1))]:=
 ⟨i+1,by omega,h.succ (by simpa using hs) hq,rfl,by simp only[maxLen]at hl;rw[bi (by omega) (by omega)];rfl⟩
def akQ (e:List T):Prop:= ∃t g s l f o,e=[tI t,tI g,tI s,tI l,tI f,tI o]
abbrev B0 (xs:Lz):Prop:= ∀e,e∈xs→akQ e
def akO (e:List T):Prop:= ∃l q,e=[tI l, .aA 4 q]
abbrev SA (xs:Lz):Prop:= ∀e,e∈xs→akO e
abbrev oBd (t g s l f o:Int):W:= .agg [.t (tI t), .t (tI g), .t (tI s), .t (tI l), .t (tI f), .t (tI o)]
abbrev jK (t g s l f o:Int):List T:=[tI t,tI g,tI s,tI l,tI f,tI o]
abbrev fM (ln wd rx ry:Int) (sizes places plies:Lz):W:= .agg [.t (tI ln), .t (tI wd), .t (tI rx), .t (tI ry), .t (.aA 1 sizes), .t (.aA 7 places), .t (.aA 2 plies)]
abbrev cU (ln wd rx ry:Int) (sizes places plies:Lz):List T:=[tI ln,tI wd,tI rx,tI ry, .aA 1 sizes, .aA 7 places, .aA 2 plies]
structure NH (sizes plies dr:Lz) (e:List T):Prop where
 g:0≤nI 1 e∧nI 1 e < (sizes.length:Int)
 f:0≤nI 4 e∧nI 4 e < nI 5 e∧nI 5 e≤(plies.length:Int)
 t: ∀o,o∈dr→nI 0 o≠nI 0 e
 s:sizes[(nI 1 e).toNat]? =some [tI (nI 2 e)]
 l: ∀ (k:Nat) (p:List T),nI 4 e≤(k:Int)→(k:Int) < nI 5 e→plies[k]? =some p→nI 0 p=nI 3 e
 o: ∀o,o∈dr→¬ (nI 1 o=nI 1 e∧nI 4 o < nI 5 e∧nI 4 e < nI 5 o)
theorem Yi {sizes plies dr:Lz} {t g s l f o z:Int} (hg:0≤g∧g < (sizes.length:Int)) (hf:0≤f∧f < o∧o≤(plies.length:Int)) (ht: ∀e,e∈dr→nI 0 e≠t) (hz:sizes[g.toNat]? =some [tI z]) (hs:s=z)
 (hl: ∀e,e∈ (plies.drop f.toNat).take (o.toNat - f.toNat)→nI 0 e=l) (ho: ∀e,e∈dr→¬ (nI 1 e=g∧nI 4 e < o∧f < nI 5 e)):NH sizes plies dr (jK t g s l f o):=by
 refine⟨hg,hf,ht,by rw[hs];exact hz,fun k p h1 h2 hp=>hl p ?_,ho⟩
 have JV:f≤(k:Int):=h1
 have Tm:(k:Int) < o:=h2
 refine List.mem_of_getElem? (i:=k - f.toNat) ?_
 rw[List.getElem?_take,if_pos (by omega),List.getElem?_drop]
 rw[show f.toNat+(k - f.toNat)=k by omega]
 exact hp
theorem uS (ln wd rx ry:Int) (sizes places plies dr:Lz) (hz:Is sizes) (hpy:SA plies) (fQ:plies.length≤maxLen) (he:B0 dr) (hel:dr.length≤maxLen) (t g s l f o:Int):Tg 96 [fM ln wd rx ry sizes places plies,oL 6 dr,oBd t g s l f o] (mS (fun n=>n=0→NH sizes plies dr (jK t g s l f o))):=by
 refine ae Tryz.func96 ?_
 repeat' (conv=>whnf
          first
  |(refine az (fun h=>?_) (fun h=>?_))
  |(refine bC (fun h=>?_) (fun h=>?_))
  |(refine ak (xs:=dr) (n:=(i3:Int)) he (by omega) (by omega) ?_;rintro _ ⟨t3,g3,s3,l3,f3,o3,rfl⟩ hs)
  |(refine ak (xs:=dr) he (by omega) (by omega) ?_;rintro _ ⟨t2,g2,s2,l2,f2,o2,rfl⟩ hs)
  |(refine ak (xs:=sizes) hz (by omega) (by omega) ?_;rintro _ ⟨z,rfl⟩ hsz)
  |(refine ak (xs:=(plies.drop f.toNat).take (o.toNat - f.toNat)) (da hpy _ _) (by omega) (by omega) ?_;rintro _ ⟨pl,q,rfl⟩ hs)
  |(refine And.intro (show(0:Int)≤f by omega) ?_)
  |(refine And.intro (show(0:Int)≤o by omega) ?_)
  |(refine dm (by omega) (by omega) ?_)
  |(refine And.intro (by kernel_rfl) ?_)
  |(refine iH rfl rfl (fun h0=>?_);first|(exfalso;omega)|exact Yi ⟨by omega,by omega⟩ ⟨by omega,by omega,by omega⟩ (hp1.all (by omega)) hsz (by omega) (hp2.all (by omega)) (S9.all (by omega)))
  |(apply aL [5,85,86,87] [] [87] (RQ (fun e=>¬ (nI 1 e=g∧nI 4 e < o∧f < nI 5 e)) dr) (dr.length) [iV .i64 0];(conv=>whnf);exact⟨rfl,rfl,rfl,rfl⟩;exact rfl;exact rfl;exact RQ.zero;rintro _ _ ⟨i3,hi3,S9,rfl,rfl⟩)
  |(refine aj [5,85,86,87] [] ?_;(conv=>whnf);exact⟨rfl,_,[_],RQ.next (by omega) hel S9 hs (fun hc=>by have c1:g3=g:=hc.1;have c2:f3 < o:=hc.2.1;have c3:f < o3:=hc.2.2;first|omega|simp_all),rfl,rfl,rfl,by omega⟩)
  |(apply aL [1,5,73,74,75] [] [75] (RQ (fun e=>nI 0 e=l) ((plies.drop f.toNat).take (o.toNat - f.toNat))) (((plies.drop f.toNat).take (o.toNat - f.toNat)).length) [iV .i64 0];(conv=>whnf);exact⟨rfl,rfl,rfl,rfl⟩;exact rfl;exact rfl;exact RQ.zero;rintro _ _ ⟨i2,hi2,hp2,rfl,rfl⟩)
  |(refine aj [1,5,73,74,75] [] ?_;(conv=>whnf);exact⟨rfl,_,[_],RQ.next (by omega) (jc fQ _ _) hp2 hs (by assumption),rfl,rfl,rfl,by omega⟩)
  |(apply aL [1,3,5,45,46,47] [] [47] (RQ (fun e=>nI 0 e≠t) dr) (dr.length) [iV .i64 0];(conv=>whnf);exact⟨rfl,rfl,rfl,rfl⟩;exact rfl;exact rfl;exact RQ.zero;rintro _ _ ⟨i,hi,hp1,rfl,rfl⟩)
  |(refine aj [1,3,5,45,46,47] [] ?_;(conv=>whnf);exact⟨rfl,_,[_],RQ.next (by omega) hel hp1 hs (by assumption),rfl,rfl,rfl,by omega⟩))
 all_goals (conv=>whnf)
def Ag (sizes plies bs:Lz) (i:Nat):Prop:= ∀j e,j < i→bs[j]? =some e→NH sizes plies (bs.take j) e
def RBk (row:List T) (sizes plies bs:Lz) (m:Nat) (vs:List V) (xss:List (Lz)):Prop:= ∃ (i:Nat) (zs:Lz),i≤bs.length∧Ag sizes plies bs i∧m=bs.length - i∧vs=[iV .i64 (i:Int)]∧xss=[[row],zs]∧zs.length=sizes.length∧Is zs
theorem Is.set {xs:Lz} (h:Is xs) (j:Nat) (n:Int):Is (xs.set j [tI n]):=by
 intro e he
 rcases List.mem_or_eq_of_mem_set he with he|rfl
 · exact h e he
 · exact⟨n,rfl⟩
theorem Is.I0 (n:Nat) (a:Int):Is (List.replicate n [tI a]):=by
 intro e he
 obtain⟨_,rfl⟩:=List.mem_replicate.1 he
 exact⟨a,rfl⟩
theorem RBk.next {row:List T} {sizes plies bs zs:Lz} {i j:Nat} {e:List T} {n:Int} (hi:(i:Int) < (bs.length:Int)) (hl:bs.length≤maxLen) (h:Ag sizes plies bs i) (hs:bs[((i:Int)).toNat]? =some e) (hq:NH sizes plies ((bs.drop 0).take (((i:Int)).toNat - 0)) e) (hz:zs.length=sizes.length) (hZ:Is zs):
 RBk row sizes plies bs (bs.length - (i+1)) [iV .i64 (IntKind.i64.wrap ((i:Int)+1))] [[row],zs.set j [tI n]]:=by
 refine⟨i+1,_,by omega,fun j' e' hj he=>?_,rfl,by simp only[maxLen]at hl;rw[bi (by omega) (by omega)];rfl,rfl,by simp[hz],hZ.set j n⟩
 by_cases fK:j'=i
 · subst fK
   have hs':bs[j']? =some e:=by simpa using hs
   rw[hs']at he
   cases he
   simpa using hq
 · exact h j' e' (by omega) he
def RBn (row:List T) (zs:Lz) (m:Nat) (vs:List V) (xss:List (Lz)):Prop:= ∃i:Nat,i≤zs.length∧m=zs.length - i∧vs=[iV .i64 (i:Int)]∧xss=[[row],zs]
theorem RBn.next {row:List T} {zs:Lz} {i:Nat} (hi:(i:Int) < (zs.length:Int)) (hl:zs.length≤maxLen):RBn row zs (zs.length - (i+1)) [iV .i64 (IntKind.i64.wrap ((i:Int)+1))] [[row],zs]:=
 ⟨i+1,by omega,rfl,by simp only[maxLen]at hl;rw[bi (by omega) (by omega)];rfl,rfl⟩
theorem BG (ln wd rx ry:Int) (sizes places plies bs:Lz) (hz:Is sizes) (gR:sizes.length≤1000000) (hpy:SA plies) (fQ:plies.length≤maxLen) (hb:B0 bs) (Ig:bs.length≤maxLen):Tg 73 [fM ln wd rx ry sizes places plies,oL 6 bs] (mS (fun n=>n=0→Ag sizes plies bs bs.length)):=by
 refine ae Tryz.func73 ?_
 repeat' (conv=>whnf
          first
  |(refine az (fun h=>?_) (fun h=>?_))
  |(refine bC (fun h=>?_) (fun h=>?_))
  |(refine And.intro ⟨by omega,by omega,by omega,by omega⟩ ?_)
  |(refine And.intro ⟨(hc (by omega)).g.1,by have:=(hc (by omega)).g.2;simp only[nI]at this;simp at this;omega⟩ ?_)
  |(refine dm (Nat.zero_le _) (by omega) ?_)
  |(refine And.intro ⟨by omega,by omega⟩ ?_)
  |(refine ak (xs:=bs) hb (by omega) (by omega) ?_;rintro _ ⟨t,g,s,l,f,o,rfl⟩ hs)
  |(refine And.intro (by kernel_rfl) ?_)
  |(refine And.intro (by omega) ?_)
  |(refine bM (xs:=zs) rfl hZ (by first|omega|(have h1:=(hc (by omega)).g.1;have h2:=(hc (by omega)).g.2;simp[nI]at h1 h2;omega)) ?_;rintro _ ⟨n,rfl⟩ Za)
  |(refine aB rfl (uS ln wd rx ry sizes places plies _ hz hpy fQ (da hb _ _) (jc Ig _ _) t g s l f o) ?_;rintro _ ⟨e,rfl,hc⟩)
  |(refine iH rfl rfl (fun h0=>?_);first|(exfalso;omega)|(intro j e hj;exact hA j e (by omega)))
  |(apply aS [2,45,46,47] [] [47] [(4,7),(8,1)] (RBn (cU ln wd rx ry sizes places plies) zs) (zs.length) [iV .i64 0];(conv=>whnf);exact⟨rfl,rfl,rfl,rfl⟩;exact rfl;exact rfl;exact .cons (av.au (xs:=[cU ln wd rx ry sizes places plies]) rfl _) (.cons (av.au (xs:=zs) rfl _) .nil);exact⟨0,by omega,rfl,rfl,rfl⟩;rintro _ _ _ ⟨q,hq,rfl,rfl,rfl⟩)
  |(refine aj [2,45,46,47] [] ?_;(conv=>whnf);exact⟨rfl,_,[_],_, .cons (av.au (xs:=[cU ln wd rx ry sizes places plies]) rfl _) (.cons (av.au (xs:=zs) rfl _) .nil),RBn.next (by omega) (by simp only[maxLen];omega),rfl,rfl,by omega⟩)
  |(apply aS [1,2,5,16,17,18] [] [18] [(4,7),(8,1)] (RBk (cU ln wd rx ry sizes places plies) sizes plies bs) (bs.length) [iV .i64 0];(conv=>whnf);exact⟨rfl,rfl,rfl,rfl⟩;exact rfl;exact rfl;exact .cons (av.au (xs:=[cU ln wd rx ry sizes places plies]) rfl _) (.cons (av.au (av.replicate _ [tI 0]) _) .nil);exact⟨0,_,by omega,fun j e hj=>by omega,rfl,rfl,rfl,by simp,Is.I0 _ _⟩;rintro _ _ _ ⟨i,zs,hi,hA,rfl,rfl,rfl,hzs,hZ⟩)
  |(refine aj [1,2,5,16,17,18] [] ?_;(conv=>whnf);exact⟨rfl,_,[_],_, .cons (av.au (xs:=[cU ln wd rx ry sizes places plies]) rfl _) (.cons (av.au (av.set (xs:=zs) rfl _ [tI _]) _) .nil),RBk.next (by omega) Ig hA hs (hc (by omega)) hzs hZ,rfl,rfl,by omega⟩))
 all_goals (conv=>whnf)
def ON (Q:List T→Prop) (xs:Lz) (iJ:List (Lz)) (m:Nat) (vs:List V) (xss:List (Lz)):Prop:= ∃i:Nat,i≤xs.length∧Pre Q xs i∧m=xs.length - i∧vs=[iV .i64 (i:Int)]∧xss=iJ
theorem ON.next {Q:List T→Prop} {xs:Lz} {iJ:List (Lz)} {i:Nat} {e:List T} (hi:(i:Int) < (xs.length:Int)) (hl:xs.length≤maxLen) (h:Pre Q xs i) (hs:xs[((i:Int)).toNat]? =some e) (hq:Q e):ON Q xs iJ (xs.length - (i+1)) [iV .i64 (IntKind.i64.wrap ((i:Int)+1))] iJ:=
 ⟨i+1,by omega,h.succ (by simpa using hs) hq,rfl,by simp only[maxLen]at hl;rw[bi (by omega) (by omega)];rfl,rfl⟩
theorem dB {b:Bool} (h:(!b)=false):b=true:=by simpa using h
theorem Vs {b:Bool} (h:(!b)=true):b=false:=by simpa using h
end Go.aR.Cd
end
section
namespace Go.aR
open Go
abbrev Y2:TypeId:=271
abbrev VC:TypeId:=272
end Go.aR
end
section
namespace Go.aR
open Go
open Go.ChangeMaps (setBlock)
variable {P:Program} {M A:Nat→Prop} {ρ:Env} {F:Nat→Prop} {st:St} {a:Act} {w:World}
def isKey (k:Int) (p:Value×C×Nat):Bool:=match p.1 with
 | .int .i64 m=>m==k
 |_=>false
def er (k:Int) (es:cD):cD:=es.filter fun p=> !isKey k p
def NK (es:cD):Prop:=(es.map (·.1)).Nodup
theorem lG {k:Int} {p:Value×C×Nat}:isKey k p=true↔p.1= .int .i64 k:=by
 unfold isKey
 split
 · rename_i m h
   rw[h]
   simp
 · rename_i h
   simp only[Bool.false_eq_true,false_iff]
   exact fun e=>h k e
theorem F5 {k:Int} {es:cD} (h: ∀p,p∈es→p.1≠ .int .i64 k):er k es=es:=by
 unfold er
 rw[List.filter_eq_self]
 intro p hp
 have:isKey k p=false:=by
  cases hq:isKey k p with
  |false=>rfl
  |true=>exact absurd (lG.1 hq) (h p hp)
 rw[this]
 rfl
theorem Kg {k:Int}: ∀ {es:cD} {i:Nat} {p:Value×C×Nat},NK es→es[i]? =some p→p.1= .int .i64 k→es.eraseIdx i=er k es
 | [],i,p,_,h,_=>by simp at h
 |e::es,0,p,hn,h,hp=>by
  simp only[List.getElem?_cons_zero,Option.some.injEq]at h
  subst h
  have hn':=List.nodup_cons.1 hn
  have h1:isKey k e=true:=lG.2 hp
  have h2:er k es=es:=F5 (fun q hq hqk=>hn'.1 (List.mem_map.2 ⟨q,hq,hqk.trans hp.symm⟩))
  simp only[List.eraseIdx_cons_zero,er,List.filter_cons,h1,Bool.not_true,Bool.false_eq_true,if_false]
  exact h2.symm
 |e::es,i+1,p,hn,h,hp=>by
  have hn':=List.nodup_cons.1 hn
  have hi:es[i]? =some p:=by simpa using h
  have ih:=Kg hn'.2 hi hp
  have h1:isKey k e=false:=by
   cases hq:isKey k e with
   |false=>rfl
   |true=>exact absurd (List.mem_map.2 ⟨p,List.mem_of_getElem? hi,hp.trans (lG.1 hq).symm⟩) hn'.1
  simp only[List.eraseIdx_cons_succ,er,List.filter_cons,h1,Bool.not_false,if_true]
  rw[ih]
  rfl
theorem sS {k:Int} {es:cD} {p:Value×C×Nat} (h:p∈er k es):p∈es∧p.1≠ .int .i64 k:=by
 simp only[er,List.mem_filter,Bool.not_eq_true']at h
 refine⟨h.1,fun e=>?_⟩
 rw[lG.2 e]at h
 simp at h
theorem NK.er {es:cD} (h:NK es) (k:Int):NK (er k es):=List.Nodup.sublist (List.filter_sublist.map _) h
theorem NK.nil:NK []:=by simp[NK]
theorem NK.put {es es':cD} {clock clock':Nat} {kv:Value} {c:C} (h:NK es) (hp:DF es clock kv c es' clock'):NK es':=by
 rcases hp with⟨i,p,hi,rfl,rfl,_⟩|⟨hne,rfl,_⟩
 · unfold NK
   have:(es.set i (p.1,c,p.2.2)).map (·.1)=es.map (·.1):=by
    apply List.ext_getElem?
    intro j
    simp only[List.getElem?_map,List.getElem?_set]
    by_cases hij:i=j
    · subst hij
      have hlt:i < es.length:=(List.getElem?_eq_some_iff.1 hi).1
      simp[hlt,hi]
      have:=(List.getElem?_eq_some_iff.1 hi)
      obtain⟨_,h2⟩:=this
      rw[h2]
    · simp[hij]
   rw[this]
   exact h
 · unfold NK
   rw[List.map_append,List.nodup_append]
   refine⟨h,by simp,?_⟩
   intro x hx y hy
   simp only[List.mem_map]at hx
   obtain⟨p,hp,rfl⟩:=hx
   simp only[List.map_cons,List.map_nil,List.mem_singleton]at hy
   subst hy
   exact hne p hp
theorem FF {n ctr:Nat} {t t' ty kt et:TypeId} {m k:Operand} {tm:TS} {hp:HS} {id clock:Nat} {es:cD} {kk:Int} (hm:Gt n tm m= .w (.one (.map id))) (hf:find hp id=some (.mp es clock)) (hk:(Gt n tm k).val? =some (.int .i64 kk)) (hu:P.underlying t=some (.map kt et))
 (hK:fg P kt oN) (jI: ∀p,p∈es→oN p.1) (hn:NK es):ja P n (.call ⟨.builtin .delete, #[m,k], #[t,t']⟩) ty tm hp ctr (.ef []) (jx hp id (.mp (er kk es) clock)):=by
 rintro⟨dst',op',ty',pos',after',guard'⟩ rfl rfl
 intro M A ρ a w hr
 have vm:=hr.get m
 rw[jJ,hm]at vm
 have vk:=V.bh hk (by have:=hr.get k;rw[jJ]at this;exact this)
 obtain⟨b,en,q1,q2,q3,q4,q5⟩:=fZ hr hf vm
 rcases hK.at_ es (.int .i64 kk) es.isEmpty jI ⟨kk,rfl⟩with⟨h3,h4⟩|⟨i,p,h3,h4,h5⟩
 · obtain⟨c1,o2,c2,c3,c4⟩:=cZ h3 (fe (id:=id) (clock:=clock) q4 q5) w
   cases o2 with
   |some p=>simp at c3
   |none=>
    have JQ:b < w.heap.size:=by
     rcases Nat.lt_or_ge b w.heap.size with hl|hg
     · exact hl
     · simp[Array.getElem?_eq_none hg]at q3
    have JE:({w with heap:=w.heap.setIfInBounds b (.map en clock)}:World)=w:=by
     have:w.heap.setIfInBounds b (.map en clock)=w.heap:=by
      apply Array.ext_getElem?
      intro i
      by_cases hi:b=i
      · subst hi;simp[JQ,q3];simpa[JQ]using q3.symm
      · rw[Array.getElem?_setIfInBounds_ne hi]
     rw[this]
    have hrun:(execOp a.eval ⟨dst', .call ⟨.builtin .delete, #[m,k], #[t,t']⟩,ty',pos',after',guard'⟩).run P w= .ok (.value (.tuple #[])) w:=by
     simp only[execOp,resolve,invoke,builtin,Builtin.delete_]
     simp[run_underlying hu,q2,mW q3,vk,dZ q4,c1,c2,Cq _ q3,JE]
    refine⟨_,_,A,ρ, .inl hrun,(hr.sub ct).forget rfl (fun _ _ h=>h) (fun q bl hq=>?_),⟨#[],rfl,rfl,by simp⟩,cJ.refl _ _,cN.refl _,bp.refl _ _⟩
    rw[F5 h4]at hq
    simp only[bt]at hq
    split at hq
    · rename_i e
      subst e
      rw[hf]at hq⊢
      exact hq
    · exact hq
 · obtain⟨c1,o2,c2,c3,c4⟩:=cZ h3 (fe (id:=id) (clock:=clock) q4 q5) w
   cases o2 with
   |none=>simp at c3
   |some pv=>
    obtain⟨j,v⟩:=pv
    simp only[Option.map_some,Option.some.injEq]at c3
    subst c3
    obtain⟨e',g1,_⟩:=c4 j v rfl
    have hj:j < en.size:=(Array.getElem?_eq_some_iff.1 g1).1
    obtain⟨r1,r2⟩:=Rel.sc (st:=⟨n,tm,hp⟩) (clock':=clock) (es':=es.eraseIdx j) (en':=en.eraseIdxIfInBounds j) hr hf q1 q3
     (by rw[Array.eraseIdxIfInBounds,dif_pos hj,Array.size_eraseIdx,List.length_eraseIdx,if_pos (by omega),q4]) (fun i k' c' n' hi'=>by
     rw[List.getElem?_eraseIdx]at hi'
     have he:(en.eraseIdxIfInBounds j)[i]? =if i < j then en[i]? else en[i+1]? :=by
      rw[Array.eraseIdxIfInBounds,dif_pos hj,Array.getElem?_eraseIdx]
     rw[he]
     split at hi'
     · rename_i hlt;rw[if_pos hlt];exact q5 i k' c' n' hi'
     · rename_i hlt;rw[if_neg hlt];exact q5 (i+1) k' c' n' hi')
    have hrun:(execOp a.eval ⟨dst', .call ⟨.builtin .delete, #[m,k], #[t,t']⟩,ty',pos',after',guard'⟩).run P w= .ok (.value (.tuple #[])) {w with heap:=w.heap.setIfInBounds b (.map (en.eraseIdxIfInBounds j) clock)}:=by
     simp only[execOp,resolve,invoke,builtin,Builtin.delete_]
     simp[run_underlying hu,q2,mW q3,vk,dZ q4,c1,c2,Cq _ q3]
    rw[Kg hn h4 h5]at r1
    exact⟨_,_,A,ρ, .inl hrun,r1.sub ct,⟨#[],rfl,rfl,by simp⟩,r2,cN.refl _,bp.refl _ _⟩
theorem U7 {n ctr:Nat} {t t' ty kt et:TypeId} {m k:Operand} {tm:TS} {hp:HS} {id clock:Nat} {es:cD} {kk:Int} {K:V→HS→Prop} (hm:Gt n tm m= .w (.one (.map id))) (hf:find hp id=some (.mp es clock)) (hk:(Gt n tm k).val? =some (.int .i64 kk)) (hu:P.underlying t=some (.map kt et))
 (hK:fg P kt oN) (jI: ∀p,p∈es→oN p.1) (hn:NK es) (h:K (.ef []) (jx hp id (.mp (er kk es) clock))):
 ∃v hp',ja P n (.call ⟨.builtin .delete, #[m,k], #[t,t']⟩) ty tm hp ctr v hp'∧K v hp':=⟨_,_,FF hm hf hk hu hK jI hn,h⟩
theorem Ir {n ctr:Nat} {t ty kt et:TypeId} {m:Operand} {tm:TS} {hp:HS} {id clock:Nat} {es:cD} {K:V→HS→Prop} (hm:Gt n tm m= .w (.one (.map id))) (hf:find hp id=some (.mp es clock)) (hu:P.underlying t=some (.map kt et))
 (h:K (iV .i64 (es.length:Int)) hp): ∃v hp',ja P n (.call ⟨.builtin .len, #[m], #[t]⟩) ty tm hp ctr v hp'∧K v hp':=by
 refine⟨_,_,?_,h⟩
 rintro⟨dst',op',ty',pos',after',guard'⟩ rfl rfl
 intro M A ρ a w hr
 have vm:=hr.get m
 rw[jJ,hm]at vm
 obtain⟨b,en,q1,q2,q3,q4,q5⟩:=fZ hr hf vm
 have hrun:(execOp a.eval ⟨dst', .call ⟨.builtin .len, #[m], #[t]⟩,ty',pos',after',guard'⟩).run P w= .ok (.value (goInt en.size)) w:=by
  simp[execOp,resolve,invoke,builtin,Builtin.len_,run_underlying hu,q2,mW q3]
 refine⟨_,w,A,ρ, .inl hrun,hr.sub ct,?_,cJ.refl _ _,cN.refl _,bp.refl _ _⟩
 rw[q4]
 exact RV.ofValue w A ρ (goInt es.length)
def qj (M:Nat→Prop) (r:Nat):Nat→Prop:=fun b=>M b∧b≠r
theorem HB.less {id:Nat} {blk:bu} {r:Nat} (h:HB w M A ρ id blk) (hr: ∀b:Nat,ρ id=Option.some (Loc.fF b)→b≠r):HB w (qj M r) A ρ id blk:=by
 cases blk with
 |row sz xs=>
  obtain⟨h1,h2⟩:=h
  refine⟨h1,?_⟩
  rcases h2 with⟨b,c,e,k1,k2,k3⟩|h2
  · exact .inl ⟨b,c,e,k1,⟨k2,hr b k1⟩,k3⟩
  · exact .inr h2
 |mp es clock=>
  obtain⟨b,en,k1,k2,k3⟩:=h
  exact⟨b,en,k1,⟨k2,hr b k1⟩,k3⟩
theorem Rel.iter (h:Rel M A ρ F st a w) (o:Obj):Rel (qj M w.heap.size) (fun b=>A b∨b=w.heap.size) ρ F st a (w.alloc o):=by
 have hk:=nN (A:=A) (w:=w) o
 have hs:=kx (w:=w) o
 refine⟨h.size,h.defers,fun t v hv=>(h.tmps t v hv).keeps hk hs (cN.refl _),fun id blk hf=>?_,h.inj,h.fresh,fun b hb=>?_,fun b hb=>?_,?_⟩
 · have hb:=h.heap id blk hf
   have lp:HB (w.alloc o) M (fun b=>A b∨b=w.heap.size) ρ id blk:=hb.keeps hk hs (cN.refl _) (fun _ h=>Or.inl h) (fun b zK=>RowKit.Below.heap_alloc w _ b (hb.lt zK).1)
   refine lp.less (fun b hb'=>?_)
   have:=(hb.lt hb').1
   omega
 · simp only[World.alloc,Array.size_push]
   rcases hb with hb|hb
   · have:=h.bound b hb;omega
   · omega
 · simp only[World.alloc,Array.size_push]at hb
   exact⟨h.may b (by omega),by omega⟩
 · have hg:yR M (fun b=>A b∨b=w.heap.size) (w.alloc o):=h.dN.EN (cJ.alloc _ _ _) (fun b hb h=>h.elim id (fun e=>by omega))
   exact hg.sub (fun b _ hb=>hb.1) (fun _ h=>h)
theorem oR {r:Nat} {m m':Option Nat} {s s' c c':Nat} {seen seen':Array Nat} (hr:w.heap[r]? =some (.mapIter m s seen c)) (k:Nat):(setBlock w r (.mapIter m' s' seen' c')).shape? k=w.shape? k:=by
 simp only[World.shape?,setBlock]
 by_cases hk:r=k
 · subst hk
   have hlt:r < w.heap.size:=by
    rcases Nat.lt_or_ge r w.heap.size with h|h
    · exact h
    · simp[Array.getElem?_eq_none h]at hr
   have e:(w.heap.setIfInBounds r (.mapIter m' s' seen' c'))[r]? =some (.mapIter m' s' seen' c'):=by simp[hlt]
   rw[e,hr]
 · rw[Array.getElem?_setIfInBounds_ne hk]
theorem Rel.setIter {r:Nat} (h:Rel (qj M r) A ρ F st a w) (hA:A r) {m m':Option Nat} {s s' c c':Nat} {seen seen':Array Nat} (hr:w.heap[r]? =some (.mapIter m s seen c)):
 Rel (qj M r) A ρ F st a (setBlock w r (.mapIter m' s' seen' c')):=by
 have CU: ∀k,k≠r→(setBlock w r (.mapIter m' s' seen' c')).heap[k]? =w.heap[k]? :=fun k hk=>Array.getElem?_setIfInBounds_ne (fun e=>hk e.symm)
 have hsz:(setBlock w r (.mapIter m' s' seen' c')).heap.size=w.heap.size:=by simp[setBlock]
 have hk:ej A A w (setBlock w r (.mapIter m' s' seen' c')):=⟨by rw[hsz];exact Nat.le_refl _,fun k _ hn=>⟨CU k (fun e=>hn (e▸hA)),hn⟩⟩
 have hsh: ∀k,k < w.heap.size→(setBlock w r (.mapIter m' s' seen' c')).shape? k=w.shape? k:=fun k _=>oR hr k
 refine⟨h.size,h.defers,fun t v hv=>(h.tmps t v hv).keeps hk hsh (cN.refl _),fun id blk hf=>?_,h.inj,h.fresh,fun b hb=>by rw[hsz];exact h.bound b hb,fun b hb=>h.may b (by rw[hsz]at hb;exact hb),fun g vs hg=>?_⟩
 · have hb:=h.heap id blk hf
   exact hb.keeps hk hsh (cN.refl _) (fun _ h=>h) (fun b zK=>CU b (hb.lt zK).2.1.2)
 · obtain⟨h1,h2,h3,hb,h4⟩:=h.dN g vs hg
   have hne:g≠r:=fun e=>h3 (e▸hA)
   refine⟨by rw[hsz];exact h1,h2,h3,by rw[CU g hne];exact hb,fun k v hk=>?_⟩
   obtain⟨h5,h6⟩:=h4 k v hk
   exact⟨by rw[jh (w:=w) (CU g hne)];exact h5,h6⟩
theorem cJ.setIter {r:Nat} (hM:M r) {m m':Option Nat} {s s' c c':Nat} {seen seen':Array Nat} (hr:w.heap[r]? =some (.mapIter m s seen c)):cJ M w (setBlock w r (.mapIter m' s' seen' c')):=
 ⟨rfl,rfl,rfl,by simp[setBlock],fun k _ ho=>Array.getElem?_setIfInBounds_ne (fun e:r=k=>ho (e▸hM)),fun k _=>oR hr k⟩
end Go.aR
end
section
namespace Go.aR
open Go
open Go.ChangeMaps (setBlock)
variable {P:Program} {M A:Nat→Prop} {ρ:Env} {F:Nat→Prop} {st:St} {a:Act} {w:World}
theorem qT {c:Code} {x y:Rc} (h:aC P c=some (.seq x y)): ∃cx cy,c= .seq cx cy∧aC P cx=some x∧aC P cy=some y:=by
 cases c with
 |seq cx cy=>
  simp only[aC]at h
  split at h
  · rename_i rx ry hx hy
    simp only[Option.some.injEq,Rc.seq.injEq]at h
    obtain⟨rfl,rfl⟩:=h
    exact⟨cx,cy,rfl,hx,hy⟩
  · simp at h
 |region id ops d=>cases d<;>simp only[aC]at h<;>(repeat' split at h)<;>simp at h
 |_=>simp only[aC]at h<;>(repeat' split at h)<;>simp at h
theorem sB {c:Code} {id:Nat} {x:Rc} (h:aC P c=some (.block id x)): ∃cx,c= .block id cx∧aC P cx=some x:=by
 cases c with
 |block id cx=>
  simp only[aC]at h
  split at h
  · rename_i rx hx
    simp only[Option.some.injEq,Rc.block.injEq]at h
    obtain⟨rfl,rfl⟩:=h
    exact⟨cx,rfl,hx⟩
  · simp at h
 |region id ops d=>cases d<;>simp only[aC]at h<;>(repeat' split at h)<;>simp at h
 |_=>simp only[aC]at h<;>(repeat' split at h)<;>simp at h
theorem CI {c:Code} {x:Rc} (h:aC P c=some (.loop x)): ∃cx,c= .loop cx∧aC P cx=some x:=by
 cases c with
 |loop cx=>
  simp only[aC]at h
  split at h
  · rename_i rx hx
    simp only[Option.some.injEq,Rc.loop.injEq]at h
    subst h
    exact⟨cx,rfl,hx⟩
  · simp at h
 |region id ops d=>cases d<;>simp only[aC]at h<;>(repeat' split at h)<;>simp at h
 |_=>simp only[aC]at h<;>(repeat' split at h)<;>simp at h
theorem CJ {c:Code} {t:Nat} {x y:Rc} (h:aC P c=some (.cond (.t t) x y)): ∃cx cy,c= .cond (.tmp t) cx cy∧aC P cx=some x∧aC P cy=some y:=by
 cases c with
 |cond o cx cy=>
  simp only[aC]at h
  split at h
  · rename_i rx ry hx hy
    simp only[Option.some.injEq,Rc.cond.injEq]at h
    obtain⟨h0,rfl,rfl⟩:=h
    cases o with
    |tmp t'=>
     simp only[dy,di.t.injEq]at h0
     subst h0
     exact⟨cx,cy,rfl,hx,hy⟩
    |_=>simp[dy]at h0
  · simp at h
 |region id ops d=>cases d<;>simp only[aC]at h<;>(repeat' split at h)<;>simp at h
 |_=>simp only[aC]at h<;>(repeat' split at h)<;>simp at h
theorem Jp {c:Code} (h:aC P c=some .skip):c= .skip:=by
 cases c with
 |skip=>rfl
 |region id ops d=>cases d<;>simp only[aC]at h<;>(repeat' split at h)<;>simp at h
 |_=>simp only[aC]at h<;>(repeat' split at h)<;>simp at h
theorem Jq {c:Code} {id:Nat} (h:aC P c=some (.exit id)):c= .exit id:=by
 cases c with
 |exit id'=>simp only[aC,Option.some.injEq,Rc.exit.injEq]at h;rw[h]
 |region id ops d=>cases d<;>simp only[aC]at h<;>(repeat' split at h)<;>simp at h
 |_=>simp only[aC]at h<;>(repeat' split at h)<;>simp at h
theorem mu {c:Code} {l:List kp} (h:aC P c=some (.region l)): ∃id ops,c= .region id ops false∧aQ P ops ops.toList=some l:=by
 cases c with
 |region id ops d=>
  cases d with
  |false=>
   simp only[aC]at h
   split at h
   · rename_i l' hl
     simp only[Option.some.injEq,Rc.region.injEq]at h
     subst h
     exact⟨id,ops,rfl,hl⟩
   · simp at h
  |true=>simp only[aC]at h<;>(repeat' split at h)<;>simp at h
 |_=>simp only[aC]at h<;>(repeat' split at h)<;>simp at h
theorem jd {all:Array Oper} {l:List Oper} {d:Option Nat} {x:Ro} {rs:List kp} (h:aQ P all l=some (⟨d,none,x⟩::rs)): ∃o l',l=o::l'∧aX P o=some x∧o.dst=d∧o.guard=none∧aQ P all l'=some rs:=by
 cases l with
 |nil=>simp[aQ]at h
 |cons o l'=>
  simp only[aQ]at h
  split at h
  · rename_i x' l2 hx hl
    split at h
    · rename_i hg
      simp only[Option.some.injEq,List.cons.injEq,kp.mk.injEq]at h
      obtain⟨⟨rfl,_,rfl⟩,rfl⟩:=h
      exact⟨o,l',rfl,hx,rfl,hg,hl⟩
    · split at h
      · simp at h
      · simp at h
  · simp at h
theorem qU {all:Array Oper} {l:List Oper} (h:aQ P all l=some []):l=[]:=by
 cases l with
 |nil=>rfl
 |cons o l'=>
  simp only[aQ]at h
  split at h
  · split at h
    · simp at h
    · split at h<;>simp at h
  · simp at h
theorem gO {ops:Array Oper} {i n ctr:Nat} {rest:List Nat} {o:Oper} {tm:TS} {hp hp':HS} {v:V} {Q:Exit→Act→World→Prop} (hi:ops[i]? =some o) (hg:o.guard=none) (hd: ∀d,o.dst=some d→d < n) (hrun:rH P o n tm hp ctr v hp')
 (hr:Rel M A ρ (bg ctr) ⟨n,tm,hp⟩ a w) (hk: ∀A' ρ' a' w',Rel M A' ρ' (bg (ctr+4)) ⟨n,dj tm o.dst v,hp'⟩ a' w'→cJ M w w'→cN ρ ρ'→bp A A' w→wpOps P ops Q rest a' w'):wpOps P ops Q (i::rest) a w:=by
 rw[wpOps_cons]
 unfold wpOp
 have hw:Region.wanted o (yielded ops a.tmps)=true:=by simp[Region.wanted,hg]
 simp only[hi,hw,if_true]
 refine .inl ?_
 obtain⟨x,w',A',ρ',CR,r1,r2,r3,r4,r5⟩:=hrun M A ρ a w hr
 have r6:=r1.put (dst:=o.dst) r2 hd
 rw[fu]at r6
 rcases CR with CR|⟨CR,rfl⟩
 · simp only[Oper.wp,CR,Oper.upon]
   exact hk _ _ _ _ r6 r3 r4 r5
 · simp only[Oper.wp,CR,Oper.upon]
   exact hk _ _ _ _ r6 r3 r4 r5
theorem ol {ops:Array Oper} {i:Nat} {rest:List Nat} {o:Oper} {x:Value} {w':World} {Q:Exit→Act→World→Prop} (hi:ops[i]? =some o) (hg:o.guard=none) (hrun:(execOp a.eval o).run P w= .ok (.value x) w')
 (hk:wpOps P ops Q rest (a.put o.dst x) w'):wpOps P ops Q (i::rest) a w:=by
 rw[wpOps_cons]
 unfold wpOp
 have hw:Region.wanted o (yielded ops a.tmps)=true:=by simp[Region.wanted,hg]
 simp only[hi,hw,if_true]
 refine .inl ?_
 simp only[Oper.wp,hrun,Oper.upon]
 exact hk
theorem j7 {o:Oper} {x:Ro} {n ctr:Nat} {tm:TS} {hp hp':HS} {v:V} (hx:aX P o=some x) (h:XR x tm hp ctr (fun v2 hp2=>v2=v∧hp2=hp')):rH P o n tm hp ctr v hp':=by
 obtain⟨_,v',hp2,he,rfl,rfl⟩:=rD (st:=⟨n,tm,hp⟩) hx h
 exact jQ he
theorem G1 {o:Oper} {op:Op} {ty:TypeId} {n ctr:Nat} {tm:TS} {hp hp':HS} {v:V} (hx:aX P o=some (.raw op ty)) (h:ja P n op ty tm hp ctr v hp'):rH P o n tm hp ctr v hp':=by
 obtain⟨rfl,rfl⟩:=eB hx
 exact h o rfl rfl
end Go.aR
end
section
namespace Go.aR
open Go
open Go.ChangeMaps (setBlock)
variable {P:Program} {M A:Nat→Prop} {ρ:Env} {F:Nat→Prop} {st:St} {a:Act} {w:World}
def Y6 (q:Nat):C→Bool
 | .map id=>id==q
 |_=>false
theorem FP {q:Nat} {c:C}:Y6 q c=true↔c= .map q:=by
 cases c<;>simp[Y6]
def Sn (es:cD) (seen:Array Nat) (q:Nat):Bool:=es.any fun p=>seen.contains p.2.2&&Y6 q p.2.1
def Sa (es:cD) (q:Nat):Bool:=es.any fun p=>Y6 q p.2.1
def erB (k:Int):bu→bu
 | .mp e c=> .mp (er k e) c
 |b=>b
def hE (S:Nat→Bool) (k:Int) (hp:HS):HS:=hp.map fun q=>(q.1,if S q.1 then erB k q.2 else q.2)
theorem jg {S:Nat→Bool} {k:Int}: ∀ {hp:HS} (q:Nat),find (hE S k hp) q=(find hp q).map fun b=>if S q then erB k b else b
 | [],q=>rfl
 |(i,b)::r,q=>by
  show find ((i,if S i then erB k b else b)::hE S k r) q=_
  rw[ai,ai]
  split
  · rename_i e
    subst e
    rfl
  · exact jg q
theorem qi {es:cD} {seen:Array Nat} {q:Nat}:Sn es seen q=true↔ ∃p,p∈es∧seen.contains p.2.2=true∧p.2.1= .map q:=by
 simp only[Sn,List.any_eq_true,Bool.and_eq_true,FP]
theorem E3 {es:cD} {q:Nat}:Sa es q=true↔ ∃p,p∈es∧p.2.1= .map q:=by
 simp only[Sa,List.any_eq_true,FP]
structure KK (es:cD) (ck o:Nat) (hp:HS):Prop where
 out:find hp o=some (.mp es ck)
 FQ: ∀p,p∈es→oN p.1∧p.2.2 < ck∧ ∃id ei ci,p.2.1= .map id∧id≠o∧find hp id=some (.mp ei ci)∧NK ei∧ ∀x,x∈ei→oN x.1
 born:(es.map (·.2.2)).Nodup
 HU: ∀ (p q:Value×C×Nat) (id:Nat),p∈es→q∈es→p.2.1= .map id→q.2.1= .map id→p.2.2=q.2.2
abbrev Ea:Rc:= .seq (.region [⟨some 68,none, .raw (.next (.tmp 67) false) 0⟩,⟨some 69,none, .extract (.t 68) 0⟩])
 (.seq (.cond (.t 69) .skip (.exit 8)) (.block 9 (.seq (.region [⟨some 70,none, .raw (.entry (.tmp 67)) 0⟩,⟨some 71,none, .extract (.t 70) 1⟩,⟨some 14,none, .DL (.t 71)⟩])
   (.region [⟨some 72,none, .DL (.t 14)⟩,⟨some 73,none, .DL (.t 10)⟩,⟨none,none, .raw (.call ⟨.builtin .delete, #[(.tmp 72),(.tmp 73)], #[VC,3]⟩) 0⟩]))))
abbrev Hh (r:Nat):V:= .w (.one (.t (.val (.pointer (some ⟨r,0,none⟩)))))
def Ld (es:cD) (seen:Array Nat):Nat:=(es.filter fun p=> !seen.contains p.2.2).length
theorem Kr {es:cD} {seen:Array Nat} {p:Value×C×Nat} (hp:p∈es) (hs:seen.contains p.2.2=false):Ld es (seen.push p.2.2) < Ld es seen:=
 filter_lt (fun x:Value×C×Nat=> !seen.contains x.2.2) (fun x=> !(seen.push p.2.2).contains x.2.2) (fun x hx=>by
  rw[contains_push]at hx
  cases hc:seen.contains x.2.2 with
  |false=>rfl
  |true=>rw[hc,Bool.true_or]at hx;exact absurd hx (by decide)) p (by rw[hs];rfl) (by rw[contains_push,beq_self_eq_true,Bool.or_true];rfl) es hp
theorem Kn {es:cD} {en:Array MapEntry} (hs:en.size=es.length) (h: ∀ (i:Nat) (k:Value) (c:C) (n:Nat),es[i]? =some (k,c,n)→ ∃e,en[i]? =some e∧e.key=k∧e.born=n∧RC w A ρ c e.val∧xP c e.val)
 {e:MapEntry} (he:e∈en.toList): ∃ (i:Nat) (p:Value×C×Nat),es[i]? =some p∧en[i]? =some e∧e.key=p.1∧e.born=p.2.2∧RC w A ρ p.2.1 e.val∧xP p.2.1 e.val:=by
 obtain⟨i,hi,hie⟩:=List.getElem_of_mem he
 have hi':i < en.size:=by simpa using hi
 have zH:i < es.length:=by omega
 have hp:es[i]? =some es[i]:=by simp[zH]
 obtain⟨e',h1,h2,h3,h4,h5⟩:=h i es[i].1 es[i].2.1 es[i].2.2 hp
 have:en[i]? =some e:=by simp[hi'];simpa using hie
 rw[this]at h1
 simp only[Option.some.injEq]at h1
 subst h1
 exact⟨i,es[i],hp,this,h2,h3,h4,h5⟩
theorem M4 {es:cD} {en:Array MapEntry} (hs:en.size=es.length) (h: ∀ (i:Nat) (k:Value) (c:C) (n:Nat),es[i]? =some (k,c,n)→ ∃e,en[i]? =some e∧e.key=k∧e.born=n∧RC w A ρ c e.val∧xP c e.val):en.toList.map (·.born)=es.map (·.2.2):=by
 apply List.ext_getElem?
 intro i
 simp only[List.getElem?_map,Array.getElem?_toList]
 cases he:es[i]? with
 |none=>
  have:en[i]? =none:=by
   rw[Array.getElem?_eq_none_iff,hs]
   exact List.getElem?_eq_none_iff.1 he
  rw[this]
  rfl
 |some p=>
  obtain⟨e,h1,_,h3,_⟩:=h i p.1 p.2.1 p.2.2 he
  rw[h1]
  simp only[Option.map_some,h3]
theorem zA {α β:Type} {f:α→β}: ∀ {l:List α},(l.map f).Nodup→ ∀ {x y:α},x∈l→y∈l→f x=f y→x=y
 | [],_,x,y,hx,_,_=>by simp at hx
 |z::l,hn,x,y,hx,hy,he=>by
  have hn':=List.nodup_cons.1 hn
  rcases List.mem_cons.1 hx with h1|h1<;>rcases List.mem_cons.1 hy with h2|h2
  · rw[h1,h2]
  · exact absurd (List.mem_map.2 ⟨y,h2,by rw[←he,h1]⟩) hn'.1
  · exact absurd (List.mem_map.2 ⟨x,h1,by rw[he,h2]⟩) hn'.1
  · exact zA hn'.2 h1 h2 he
theorem aW {α:Type} {k:Nat} {v:α} {r:List (Nat×α)} {t:Nat} (h:k≠t):find ((k,v)::r) t=find r t:=by
 rw[ai,if_neg h]
theorem Cp {cb:Code} (hcb:aC P cb=some Ea) {kt et:TypeId} (Jy:P.underlying VC=some (.map kt et)) (hK:fg P kt oN) {es:cD} {ck o r b:Nat} {kk:Int} {hp:HS} {tm:TS} (hok:KK es ck o hp)
 (JU:find tm 10=some (iV .i64 kk)) (hfr: ∀t v,find tm t=some v→t≠14∧(t < 66∨73 < t)) {seen:Array Nat} {last ctr:Nat}
 (bR:Rel (qj M r) A ρ (bg ctr) ⟨79,(67,Hh r)::tm,hE (Sn es seen) kk hp⟩ a w) (hA:A r) (hM:M r) (hit:w.heap[r]? =some (.mapIter (some b) ck seen last)) (yA:ck≤last) (hρ:ρ o=some (.fF b)):
 cb.wp P (fun e a' w'=> ∃A' ρ',cJ M w w'∧cN ρ ρ'∧bp A A' w∧
  ((e= .exit 8∧Rel (qj M r) A' ρ' (bg (ctr+40)) ⟨79,tm,hE (Sa es) kk hp⟩ a' w')∨
   (e= .normal∧ ∃n last',Ld es (seen.push n) < Ld es seen∧Rel (qj M r) A' ρ' (bg (ctr+40)) ⟨79,(67,Hh r)::tm,hE (Sn es (seen.push n)) kk hp⟩ a' w'∧w'.heap[r]? =some (.mapIter (some b) ck (seen.push n) last')∧ck≤last'))) a w:=by
 obtain⟨c1,cr,rfl,mX,hcr⟩:=qT hcb
 obtain⟨c2,c9,rfl,wL,Bl⟩:=qT hcr
 obtain⟨cs,cx,rfl,hcs,hcx⟩:=CJ wL
 obtain⟨c10,rfl,aiF⟩:=sB Bl
 obtain⟨c3,c4,rfl,XD,hc4⟩:=qT aiF
 obtain rfl:=Jp hcs
 obtain rfl:=Jq hcx
 obtain⟨i1,Jb,rfl,Ic⟩:=mu mX
 obtain⟨i2,VW,rfl,QY⟩:=mu XD
 obtain⟨i3,VV,rfl,Mh⟩:=mu hc4
 obtain⟨LR,l1,e1,x68,d68,g68,Ic⟩:=jd Ic
 obtain⟨PY,l1',rfl,x69,d69,g69,Ic⟩:=jd Ic
 obtain rfl:=qU Ic
 obtain⟨S1,l2,e2,x70,d70,g70,QY⟩:=jd QY
 obtain⟨p71,l2',rfl,x71,d71,g71,QY⟩:=jd QY
 obtain⟨p14,asQ,rfl,x14,d14,g14,QY⟩:=jd QY
 obtain rfl:=qU QY
 obtain⟨p72,l3,e3,x72,d72,g72,Mh⟩:=jd Mh
 obtain⟨p73,l3',rfl,x73,d73,g73,Mh⟩:=jd Mh
 obtain⟨pd,asP,rfl,xd,dd,gd,Mh⟩:=jd Mh
 obtain rfl:=qU Mh
 have JI:Jb= #[LR,PY]:=by rw[←Array.toArray_toList (xs:=Jb),e1]
 have WZ:VW= #[S1,p71,p14]:=by rw[←Array.toArray_toList (xs:=VW),e2]
 have WY:VV= #[p72,p73,pd]:=by rw[←Array.toArray_toList (xs:=VV),e3]
 subst JI
 subst WZ
 subst WY
 have hSo: ∀seen',Sn es seen' o=false:=by
  intro seen'
  cases hq:Sn es seen' o with
  |false=>rfl
  |true=>
   obtain⟨p,hp1,_,hp2⟩:=qi.1 hq
   obtain⟨_,_,id,_,_,h3,h4,_⟩:=hok.FQ p hp1
   rw[h3]at hp2
   exact absurd (C.map.inj hp2) h4
 have hfo: ∀seen',find (hE (Sn es seen') kk hp) o=some (.mp es ck):=fun seen'=>by rw[jg,hok.out,hSo seen'];rfl
 obtain⟨b',en,q1,q2,q3,q4,q5,q6⟩:=bR.heap o (.mp es ck) (hfo seen)
 rw[hρ]at q1
 simp only[Option.some.injEq,Loc.fF.injEq]at q1
 subst q1
 have hold: ∀x∈en.toList,x.born < ck:=by
  intro x hx
  obtain⟨i,p,h1,_,_,h4,_⟩:=Kn q5 q6 hx
  rw[h4]
  exact(hok.FQ p (List.mem_of_getElem? h1)).2.1
 have agE:a.eval (.tmp 67)= .pointer (some ⟨r,0,none⟩):=by
  have:=bR.tmps 67 (Hh r) (by rw[ai,if_pos rfl])
  exact V.bh (u:=Hh r) rfl this
 obtain⟨W5,N9⟩:=eB x68
 obtain⟨W4,N8⟩:=eB x70
 have Oq:(execOp a.eval LR).run P w=(Bind.bind (Instr.next (.pointer (some ⟨r,0,none⟩)) false 0) fun v=>Pure.pure (Next.value v):Sem Next).run P w:=by
  obtain⟨ds,op,ty,ps,af,gu⟩:=LR
  simp only at W5 N9
  subst W5
  subst N9
  simp only[execOp,agE]
 have hlt:r < w.heap.size:=bR.bound r hA
 rcases run_next_at (P:=P) w 0 r b ck last seen en ck hit q4 hold yA with⟨hz,hrun⟩|⟨e,he,w1,BU,hrun⟩
 ·
  have hall: ∀p,p∈es→seen.contains p.2.2=true:=by
   intro p hp
   obtain⟨i,hi,hip⟩:=List.getElem_of_mem hp
   have hpi:es[i]? =some p:=by simp[hi,hip]
   obtain⟨e,h1,_,h3,_⟩:=q6 i p.1 p.2.1 p.2.2 hpi
   have:=all_seen en seen hz e (by rw[Array.mem_toList_iff];exact Array.mem_of_getElem? h1)
   rw[h3]at this
   exact this
  refine wp_seq (wp_region ?_)
  show wpOps P #[LR,PY] _ [0,1] a w
  refine ol (i:=0) (o:=LR) rfl g68 (x:= .tuple #[.bool false]) (w':=w) (by rw[Oq,Sem.run_bind,hrun];rfl) ?_
  rw[d68]
  have r1:=bR.put (dst:=LR.dst) (v:= .ef [.one (.t (.val (.bool false)))]) (x:= .tuple #[.bool false]) ⟨#[.bool false],rfl,rfl,fun k u x hu hx=>by
   cases k with
   |zero=>
    simp only[List.getElem?_cons_zero,Option.some.injEq]at hu
    simp at hx
    subst hu
    subst hx
    exact⟨RT.val rfl,rfl⟩
   |succ k=>simp at hu⟩ (fun d hd=>by rw[d68]at hd;simp only[Option.some.injEq]at hd;subst hd;exact(by decide:(68:Nat) < 79))
  rw[fu,d68]at r1
  have h69:rH P PY 79 (dj ((67,Hh r)::tm) (some 68) (.ef [.one (.t (.val (.bool false)))])) (hE (Sn es seen) kk hp) ctr (bV false) (hE (Sn es seen) kk hp):=j7 x69 ⟨rfl,rfl⟩
  refine gO (i:=1) (o:=PY) rfl g69 (fun d hd=>by rw[d69]at hd;simp only[Option.some.injEq]at hd;subst hd;exact(by decide:(69:Nat) < 79)) h69 r1 ?_
  intro A1 ρ1 a1 w1 r2 v2 x2 gr2
  rw[d69]at r2
  show Exit.then _ _ .normal a1 w1
  refine wp_seq ?_
  refine wp_cond_false ?_ ?_
  · exact V.iX (v:=bV false) rfl (r2.tmps 69 (bV false) (by simp[dj,ai]))
  · refine wp_exit ?_
    show ∃A' ρ',_
    refine⟨A1,ρ1,v2.weaken (fun i _ h=>h.1),x2,gr2, .inl ⟨rfl,Rel.sub (F:=bg (ctr+4)) (Rel.forget (st':=⟨79,tm,hE (Sa es) kk hp⟩) r2 rfl (fun t v hv=>?_) (fun q bl hq=>?_)) (fun id h=>Nat.le_trans (by omega:ctr+4≤ctr+40) h)⟩⟩
    · obtain⟨n1,n2⟩:=hfr t v hv
      simp only[dj]
      rw[aW (by omega),aW (by omega),aW (by omega)]
      exact hv
    · rw[jg]at hq⊢
      have:Sn es seen q=Sa es q:=by
       rw[Bool.eq_iff_iff,qi,E3]
       exact⟨fun⟨p,h1,_,h3⟩=>⟨p,h1,h3⟩,fun⟨p,h1,h3⟩=>⟨p,h1,hall p h1,h3⟩⟩
      rw[this]
      exact hq
 ·
  obtain⟨he1,Ht⟩:=mem_left he
  obtain⟨i,pe,hpi,Xy,hkey,zJ,hval,hcell⟩:=Kn q5 q6 he1
  have JH:=List.mem_of_getElem? hpi
  obtain⟨o7,agW,id,ei,ci,wF,Xl,Rb,hnk,ahD⟩:=hok.FQ pe JH
  have hcell:bW e.val=true:=by rw[wF]at hcell;exact hcell.elim (fun h=>h) (fun h=>by simp[C.DM]at h)
  have Mj:w1.heap[r]? =some (.mapIter (some b) ck seen last):=by rcases BU with rfl|rfl<;>exact hit
  have WS:Rel (qj M r) A ρ (bg ctr) ⟨79,(67,Hh r)::tm,hE (Sn es seen) kk hp⟩ a w1:=by rcases BU with rfl|rfl;exact bR;exact bR.drew
  have ahS:cJ M w w1:=by rcases BU with rfl|rfl;exact cJ.refl _ _;exact cJ.drew M w
  have WG:w1.heap.size=w.heap.size:=by rcases BU with rfl|rfl<;>rfl
  have Od:=WS.setIter (m':=some b) (s':=ck) (c':=ck) (seen':=seen.push e.born) hA Mj
  have Xw:cJ M w1 (setBlock w1 r (.mapIter (some b) ck (seen.push e.born) ck)):=cJ.setIter hM Mj
  have Xi:(setBlock w1 r (.mapIter (some b) ck (seen.push e.born) ck)).heap[r]? =some (.mapIter (some b) ck (seen.push e.born) ck):=by
   have:r < w1.heap.size:=by rw[WG];exact hlt
   simp[setBlock,this]
  have Ba:(setBlock w1 r (.mapIter (some b) ck (seen.push e.born) ck)).heap.size=w.heap.size:=by simp[setBlock,WG]
  generalize N7:setBlock w1 r (.mapIter (some b) ck (seen.push e.born) ck)=w2 at hrun Od Xw Xi Ba
  refine wp_seq (wp_region ?_)
  show wpOps P #[LR,PY] _ [0,1] a w
  refine ol (i:=0) (o:=LR) rfl g68 (x:= .tuple #[.bool true,e.key,e.val]) (w':=w2) (by rw[Oq,Sem.run_bind,hrun];rfl) ?_
  rw[d68]
  have hkc:bW e.key=true:=by
   obtain⟨n,hn⟩:=o7
   rw[hkey,hn]
   rfl
  have r1:=Od.put (dst:=LR.dst) (v:= .ef [.one (.t (.val (.bool true))), .one .any, .one .any]) (x:= .tuple #[.bool true,e.key,e.val]) ⟨#[.bool true,e.key,e.val],rfl,rfl,fun k u x hu hx=>by
   match k with
   |0=>
    simp at hu hx
    subst hu
    subst hx
    exact⟨RT.val rfl,rfl⟩
   |1=>
    simp at hu hx
    subst hu
    subst hx
    exact⟨trivial,hkc⟩
   |2=>
    simp at hu hx
    subst hu
    subst hx
    exact⟨trivial,hcell⟩
   |k+3=>simp at hu⟩ (fun d hd=>by rw[d68]at hd;simp only[Option.some.injEq]at hd;subst hd;exact(by decide:(68:Nat) < 79))
  rw[fu,d68]at r1
  have h69:rH P PY 79 (dj ((67,Hh r)::tm) (some 68) (.ef [.one (.t (.val (.bool true))), .one .any, .one .any])) (hE (Sn es seen) kk hp) ctr (bV true) (hE (Sn es seen) kk hp):=j7 x69 ⟨rfl,rfl⟩
  refine gO (i:=1) (o:=PY) rfl g69 (fun d hd=>by rw[d69]at hd;simp only[Option.some.injEq]at hd;subst hd;exact(by decide:(69:Nat) < 79)) h69 r1 ?_
  intro A3 ρ3 a3 w3 r3 v3 x3 gr3
  rw[d69]at r3
  show Exit.then _ _ .normal a3 w3
  refine wp_seq (wp_cond_true ?_ (wp_skip ?_))
  · exact V.iX (v:=bV true) rfl (r3.tmps 69 (bV true) (by simp[dj,ai]))
  show Exit.then _ _ .normal a3 w3
  refine wp_block (wp_seq (wp_region ?_))
  show wpOps P #[S1,p71,p14] _ [0,1,2] a3 w3
  have Xh:w3.heap[r]? =some (.mapIter (some b) ck (seen.push e.born) ck):=by
   rw[v3.block r (by rw[Ba];exact hlt) (fun h=>h.2 rfl)]
   exact Xi
  obtain⟨b3,en3,z1,z2,z3,z4,z5,z6⟩:=r3.heap o (.mp es ck) (hfo seen)
  rw[x3 o _ hρ]at z1
  simp only[Option.some.injEq,Loc.fF.injEq]at z1
  subst z1
  obtain⟨e4,y1,y2,y3,y4,y5⟩:=z6 i pe.1 pe.2.1 pe.2.2 hpi
  have WU:a3.eval (.tmp 67)= .pointer (some ⟨r,0,none⟩):=by
   have:=r3.tmps 67 (Hh r) (by simp[dj,ai])
   exact V.bh (u:=Hh r) rfl this
  have WQ:=run_entry_at (P:=P) w3 r b ck seen en3 ck e4 (by rw[Xh,zJ,y3]) z4 (by rw[Array.mem_toList_iff];exact Array.mem_of_getElem? y1) (by rw[M4 z5 z6];exact hok.born)
  have Xu:(execOp a3.eval S1).run P w3= .ok (.value (.tuple #[e4.key,e4.val])) w3:=by
   obtain⟨ds,op,ty,ps,af,gu⟩:=S1
   simp only at W4 N8
   subst W4
   subst N8
   simp only[execOp,WU,Sem.run_bind,WQ]
   rfl
  refine ol (i:=0) (o:=S1) rfl g70 Xu ?_
  rw[d70]
  have ahE:bW e4.key=true:=by
   obtain⟨n,hn⟩:=o7
   rw[y2,hn]
   rfl
  have y5:bW e4.val=true:=by rw[wF]at y5;exact y5.elim (fun h=>h) (fun h=>by simp[C.DM]at h)
  rw[wF]at y4
  have r4:=r3.put (dst:=S1.dst) (v:= .ef [.one .any, .one (.map id)]) (x:= .tuple #[e4.key,e4.val]) ⟨#[e4.key,e4.val],rfl,rfl,fun k u x hu hx=>by
   match k with
   |0=>
    simp at hu hx
    subst hu
    subst hx
    exact⟨trivial,ahE⟩
   |1=>
    simp at hu hx
    subst hu
    subst hx
    exact⟨y4,y5⟩
   |k+2=>simp at hu⟩ (fun d hd=>by rw[d70]at hd;simp only[Option.some.injEq]at hd;subst hd;exact(by decide:(70:Nat) < 79))
  rw[fu,d70]at r4
  refine gO (i:=1) (o:=p71) rfl g71 (fun d hd=>by rw[d71]at hd;simp only[Option.some.injEq]at hd;subst hd;exact(by decide:(71:Nat) < 79)) (j7 (v:= .w (.one (.map id))) (hp':=hE (Sn es seen) kk hp) x71 (by exact⟨rfl,rfl⟩)) r4 ?_
  intro A5 ρ5 a5 w5 r5 v5 x5 gr5
  rw[d71]at r5
  refine gO (i:=2) (o:=p14) rfl g14 (fun d hd=>by rw[d14]at hd;simp only[Option.some.injEq]at hd;subst hd;exact(by decide:(14:Nat) < 79)) (j7 (v:= .w (.one (.map id))) (hp':=hE (Sn es seen) kk hp) x14 (by exact⟨rfl,rfl⟩)) r5 ?_
  intro A6 ρ6 a6 w6 r6 v6 x6 gr6
  rw[d14]at r6
  show Exit.then _ _ .normal a6 w6
  refine wp_region ?_
  show wpOps P #[p72,p73,pd] _ [0,1,2] a6 w6
  refine gO (i:=0) (o:=p72) rfl g72 (fun d hd=>by rw[d72]at hd;simp only[Option.some.injEq]at hd;subst hd;exact(by decide:(72:Nat) < 79)) (j7 (v:= .w (.one (.map id))) (hp':=hE (Sn es seen) kk hp) x72 (by exact⟨rfl,rfl⟩)) r6 ?_
  intro A7 ρ7 a7 w7 r7 v7 x7 gr7
  rw[d72]at r7
  refine gO (i:=1) (o:=p73) rfl g73 (fun d hd=>by rw[d73]at hd;simp only[Option.some.injEq]at hd;subst hd;exact(by decide:(73:Nat) < 79)) (j7 (v:=iV .i64 kk) (hp':=hE (Sn es seen) kk hp) x73 (by
   simp only[XR,cF]
   exact⟨by simp[di.get,dj,ai,JU],trivial⟩)) r7 ?_
  intro A8 ρ8 a8 w8 r8 v8 x8 gr8
  rw[d73]at r8
  have XH:Sn es seen id=false:=by
   cases hq:Sn es seen id with
   |false=>rfl
   |true=>
    obtain⟨p2,h1,h2,h3⟩:=qi.1 hq
    have:=hok.HU p2 pe id h1 JH h3 wF
    rw[this, ←zJ,Ht]at h2
    simp at h2
  have K8:find (hE (Sn es seen) kk hp) id=some (.mp ei ci):=by rw[jg,Rb,XH];rfl
  refine gO (i:=2) (o:=pd) rfl gd (fun d hd=>by rw[dd]at hd;simp at hd) (G1 xd (FF (id:=id) (es:=ei) (clock:=ci) (kk:=kk) rfl K8 rfl Jy hK ahD hnk)) r8 ?_
  intro A9 ρ9 a9 w9 r9 v9 x9 gr9
  rw[dd]at r9
  show ∃A' ρ',_
  have s2:w.heap.size≤w2.heap.size:=by rw[Ba];exact Nat.le_refl _
  have s3:=Nat.le_trans s2 v3.size
  have s5:=Nat.le_trans s3 v5.size
  have s6:=Nat.le_trans s5 v6.size
  have s7:=Nat.le_trans s6 v7.size
  have s8:=Nat.le_trans s7 v8.size
  have evL:cJ (qj M r) w3 w9:=v5.trans (v6.trans (v7.trans (v8.trans v9)))
  have wk: ∀ {x y:World},cJ (qj M r) x y→cJ M x y:=fun h=>h.weaken (fun i _ h=>h.1)
  refine⟨A9,ρ9,ahS.trans (Xw.trans ((wk v3).trans (wk evL))),x3.trans (x5.trans (x6.trans (x7.trans (x8.trans x9)))),?_, .inr ⟨rfl,e.born,ck,?_,?_,?_,Nat.le_refl _⟩⟩
  · have g3:bp A A3 w:=⟨gr3.1,fun b hb=>gr3.2 b (by rw[Ba];exact hb)⟩
    exact((((g3.trans gr5 s3).trans gr6 s5).trans gr7 s6).trans gr8 s7).trans gr9 s8
  · rw[zJ]
    exact Kr JH (by rw[←zJ];exact Ht)
  · refine Rel.sub (F:=bg (ctr+4+4+4+4+4+4)) (Rel.forget (st':=⟨79,(67,Hh r)::tm,hE (Sn es (seen.push e.born)) kk hp⟩) r9 rfl (fun t v hv=>?_) (fun q bl hq=>?_)) (fun id h=>Nat.le_trans (by omega:ctr+4+4+4+4+4+4≤ctr+40) h)
    · simp only[dj]
      rw[ai]at hv
      split at hv
      · rename_i e
        subst e
        simpa[ai]using hv
      · obtain⟨n1,n2⟩:=hfr t v hv
        rw[aW (by omega),aW (by omega),aW (by omega),aW (by omega),aW (by omega),aW (by omega),aW (by omega),aW (by omega)]
        exact hv
    · rw[jg]at hq
      simp only[bt,jg]
      have hSn: ∀q,q≠id→Sn es (seen.push e.born) q=Sn es seen q:=by
       intro q hne
       rw[Bool.eq_iff_iff,qi,qi]
       constructor
       · rintro⟨p2,h1,h2,h3⟩
         rw[contains_push,Bool.or_eq_true]at h2
         rcases h2 with h2|h2
         · exact⟨p2,h1,h2,h3⟩
         · exfalso
           have lp:p2.2.2=pe.2.2:=by rw[beq_iff_eq]at h2;rw[h2,zJ]
           have S7:=zA hok.born h1 JH lp
           subst S7
           rw[wF]at h3
           exact hne (C.map.inj h3).symm
       · rintro⟨p2,h1,h2,h3⟩
         exact⟨p2,h1,by rw[contains_push,h2,Bool.true_or],h3⟩
      by_cases hqi:q=id
      · subst hqi
        have:Sn es (seen.push e.born) q=true:=qi.2 ⟨pe,JH,by rw[contains_push,zJ,beq_self_eq_true,Bool.or_true],wF⟩
        rw[this,Rb]at hq
        rw[if_pos rfl,Rb,XH]
        exact hq
      · rw[if_neg hqi, ←hSn q hqi]
        exact hq
  · rw[evL.block r (Nat.lt_of_lt_of_le hlt s3) (fun h=>h.2 rfl)]
    exact Xh
end Go.aR
end
section
namespace Go.aR
open Go
open Go.ChangeMaps (setBlock)
variable {P:Program} {M A:Nat→Prop} {ρ:Env} {F:Nat→Prop} {st:St} {a:Act} {w:World}
theorem Eb {cb:Code} (hcb:aC P cb=some Ea) {kt et:TypeId} (Jy:P.underlying VC=some (.map kt et)) (hK:fg P kt oN) {es:cD} {ck o r b:Nat} {kk:Int} {hp:HS} {tm:TS} (hok:KK es ck o hp)
 (JU:find tm 10=some (iV .i64 kk)) (hfr: ∀t v,find tm t=some v→t≠14∧(t < 66∨73 < t)) (hM:M r): ∀ (m:Nat) (seen:Array Nat) (last ctr:Nat) (A:Nat→Prop) (ρ:Env) (a:Act) (w:World),Ld es seen=m→
 Rel (qj M r) A ρ (bg ctr) ⟨79,(67,Hh r)::tm,hE (Sn es seen) kk hp⟩ a w→A r→w.heap[r]? =some (.mapIter (some b) ck seen last)→ck≤last→ρ o=some (.fF b)→ ∀ (bf:Frame) (k:List Item) (cs:List Frame),
 ∃a' w' A' ρ',cJ M w w'∧cN ρ ρ'∧bp A A' w∧Rel (qj M r) A' ρ' (bg (ctr+40 * (m+1))) ⟨79,tm,hE (Sa es) kk hp⟩ a' w'∧Arrives P (lone (bf.at a (.code cb:: .inLoop cb::k)) cs w) bf k cs (.exit 8) a' w':=by
 intro m
 induction m using Nat.strongRecOn with
 |_ m ih=>
  intro seen last ctr A ρ a w hm bR hA hit yA hρ bf k cs
  obtain⟨e,a1,w1,⟨A1,ρ1,v1,x1,g1,h1⟩,fD⟩:=Cp hcb Jy hK hok JU hfr bR hA hM hit yA hρ bf (.inLoop cb::k) cs
  rcases h1 with⟨rfl,r1⟩|⟨rfl,n,last',hlt,r1,Mj,aiB⟩
  · exact⟨a1,w1,A1,ρ1,v1,x1,g1,r1.sub (fun id h=>Nat.le_trans (by omega:ctr+40≤ctr+40 * (m+1)) h), .pass (x:= .inLoop cb) rfl (fun _ _=> .inl (by simp)) fD⟩
  · rw[hm]at hlt
    obtain⟨a2,w2,A2,ρ2,v2,x2,g2,r2,qY⟩:=ih _ hlt (seen.push n) last' (ctr+40) A1 ρ1 a1 w1 rfl r1 (g1.1 r hA) Mj aiB (x1 _ _ hρ) bf k cs
    refine⟨a2,w2,A2,ρ2,v1.trans v2,x1.trans x2,g1.trans g2 v1.size,r2.sub (fun id h=>Nat.le_trans (?_ :_≤ctr+40 * (m+1)) h), .of_steps (Steps.trans fD (.one step_inLoop)) qY⟩
    omega
theorem HB.more {id:Nat} {blk:bu} {r:Nat} (h:HB w (qj M r) A ρ id blk):HB w M A ρ id blk:=by
 cases blk with
 |row sz xs=>
  obtain⟨h1,h2⟩:=h
  refine⟨h1,?_⟩
  rcases h2 with⟨b,c,e,k1,k2,k3⟩|h2
  · exact .inl ⟨b,c,e,k1,k2.1,k3⟩
  · exact .inr h2
 |mp es clock=>
  obtain⟨b,en,k1,k2,k3⟩:=h
  exact⟨b,en,k1,k2.1,k3⟩
theorem Rel.more {r:Nat} (h:Rel (qj M r) A ρ F st a w) (hA:A r):Rel M A ρ F st a w:=by
 refine⟨h.size,h.defers,h.tmps,fun id blk hf=>(h.heap id blk hf).more,h.inj,h.fresh,h.bound,fun b hb=>(h.may b hb).1,fun g vs hg=>?_⟩
 obtain⟨h1,h2,h3,h4⟩:=h.dN g vs hg
 exact⟨h1,fun hm=>h2 ⟨hm,fun e=>h3 (e▸hA)⟩,h3,h4⟩
abbrev NV:Rc:= .seq (.region [⟨some 66,none, .DL (.t 4)⟩,⟨some 67,none, .raw (.range Y2 (.tmp 66)) 0⟩]) (.block 8 (.loop Ea))
theorem Iw {c:Code} (hc:aC P c=some NV) {kt et Y4 ZA:TypeId} (qk:P.underlying Y2=some (.map Y4 ZA)) (Jy:P.underlying VC=some (.map kt et)) (hK:fg P kt oN) {es:cD} {ck o ctr:Nat} {kk:Int} {hp:HS} {tm:TS} (hok:KK es ck o hp)
 (h4:find tm 4=some (.w (.one (.map o)))) (JU:find tm 10=some (iV .i64 kk)) (hfr: ∀t v,find tm t=some v→t≠14∧(t < 66∨73 < t)):
 Wp P c (fun e s c'=>e= .normal∧Is ⟨79,tm,hE (Sa es) kk hp⟩ (ctr+4+40 * (es.length+1)) s c') ⟨79,tm,hp⟩ ctr:=by
 obtain⟨c1,c2,rfl,mX,wL⟩:=qT hc
 obtain⟨c3,rfl,XD⟩:=sB wL
 obtain⟨cb,rfl,hcb⟩:=CI XD
 obtain⟨i1,Jb,rfl,Ic⟩:=mu mX
 obtain⟨Y3,l1,e1,x66,d66,g66,Ic⟩:=jd Ic
 obtain⟨VS,l1',rfl,x67,d67,g67,Ic⟩:=jd Ic
 obtain rfl:=qU Ic
 have JI:Jb= #[Y3,VS]:=by rw[←Array.toArray_toList (xs:=Jb),e1]
 subst JI
 intro M A ρ a w hr
 obtain⟨W6,Oa⟩:=eB x67
 refine wp_seq (wp_region ?_)
 show wpOps P #[Y3,VS] _ [0,1] a w
 have h66:rH P Y3 79 tm hp ctr (.w (.one (.map o))) hp:=j7 x66 (by
  simp only[XR,cF]
  exact⟨by simp[di.get,h4],trivial⟩)
 refine gO (i:=0) (o:=Y3) rfl g66 (fun d hd=>by rw[d66]at hd;simp only[Option.some.injEq]at hd;subst hd;exact(by decide:(66:Nat) < 79)) h66 hr ?_
 intro A1 ρ1 a1 w1 r1 v1 x1 g1
 rw[d66]at r1
 have ho:=r1.heap o _ hok.out
 have vm:=r1.tmps 66 (.w (.one (.map o))) (by simp[dj,ai])
 obtain⟨b,en,q1,q2,q3,q4,q5⟩:=fZ r1 hok.out vm
 have Xv:(execOp a1.eval VS).run P w1= .ok (.value (.pointer (some ⟨w1.heap.size,0,none⟩))) (w1.alloc (.mapIter (some b) ck #[] ck)):=by
  obtain⟨ds,op,ty,ps,af,gu⟩:=VS
  simp only at W6 Oa
  subst W6
  subst Oa
  have e66:a1.eval (.tmp 66)= .map (some b):=q2
  have:=run_range_map (P:=P) w1 Y2 Y4 ZA b en ck qk q3
  simp only[execOp,e66,Sem.run_bind,this]
  rfl
 refine ol (i:=1) (o:=VS) rfl g67 Xv ?_
 rw[d67]
 have r2:=r1.iter (.mapIter (some b) ck #[] ck)
 have r3:=r2.put (dst:=some 67) (v:=Hh w1.heap.size) (x:= .pointer (some ⟨w1.heap.size,0,none⟩)) ⟨RT.val rfl,rfl⟩ (fun d hd=>by simp only[Option.some.injEq]at hd;subst hd;exact(by decide:(67:Nat) < 79))
 rw[fu]at r3
 show Exit.then _ _ .normal _ _
 refine wp_block ?_
 intro bf k cs
 have hit:(w1.alloc (.mapIter (some b) ck #[] ck)).heap[w1.heap.size]? =some (.mapIter (some b) ck #[] ck):=heap_alloc_new w1 _
 have hS: ∀q,Sn es #[] q=false:=by
  intro q
  cases hq:Sn es #[] q with
  |false=>rfl
  |true=>
   obtain⟨p,_,h2,_⟩:=qi.1 hq
   simp at h2
 have r4:Rel (qj M w1.heap.size) (fun b=>A1 b∨b=w1.heap.size) ρ1 (bg (ctr+4)) ⟨79,(67,Hh w1.heap.size)::tm,hE (Sn es #[]) kk hp⟩ (a1.put (some 67) (.pointer (some ⟨w1.heap.size,0,none⟩))) (w1.alloc (.mapIter (some b) ck #[] ck)):=by
  refine r3.forget rfl (fun t v hv=>?_) (fun q bl hq=>?_)
  · simp only[dj]
    rw[ai]at hv
    split at hv
    · rename_i e
      subst e
      simpa[ai]using hv
    · rename_i hne
      obtain⟨n1,n2⟩:=hfr t v hv
      rw[aW hne,aW (by omega)]
      exact hv
  · rw[jg,hS q]at hq
    simpa using hq
 obtain⟨a2,w2,A2,ρ2,v2,x2,g2,r5,fD⟩:=Eb (r:=w1.heap.size) (M:=M) hcb Jy hK hok JU hfr (r1.may _ (Nat.le_refl _)) _ #[] ck (ctr+4) _ ρ1 _ _ rfl r4 (Or.inr rfl) hit (Nat.le_refl _) q1 bf k cs
 refine⟨.exit 8,a2,w2,?_, .of_steps (.one step_loop) fD⟩
 have Ex:Ld es #[]≤es.length:=List.length_filter_le _ _
 have hsz:(w1.alloc (.mapIter (some b) ck #[] ck)).heap.size=w1.heap.size+1:=by simp only[World.alloc,Array.size_push]
 simp only[Exit.inBlock,if_true]
 refine⟨_,_,A2,ρ2,⟨trivial,rfl,rfl⟩,(r5.more (g2.1 _ (.inr rfl))).sub (fun id h=>Nat.le_trans (?_ :_≤ctr+4+40 * (es.length+1)) h),v1.trans ((cJ.alloc M w1 _).trans v2),(x1.trans x2).Lv,?_⟩
 · omega
 · refine bp.m ⟨fun b hb=>g2.1 b (.inl (g1.1 b hb)),fun b hb h2=>?_⟩
   have hlt:b < w1.heap.size:=Nat.lt_of_lt_of_le hb v1.size
   have:=g2.2 b (by rw[hsz];omega) h2
   rcases this with h|h
   · exact g1.2 b hb h
   · omega
end Go.aR
end
section
namespace Go.aR
open Go
variable {P:Program}
inductive DX (P:Program) (n:Nat) (r:Rc) (Q:Exit→TS→HS→Nat→Prop) (tm:TS) (hp:HS) (ctr:Nat):Prop
 |mk (h: ∀c,aC P c=some r→ ∃e st' c',nJ n (Q e) st' c'∧Wp P c (fun e2 s k=>e2=e∧Is st' c' s k) ⟨n,tm,hp⟩ ctr)
theorem DX.get {n:Nat} {r:Rc} {Q:Exit→TS→HS→Nat→Prop} {tm:TS} {hp:HS} {ctr:Nat} (h:DX P n r Q tm hp ctr): ∀c,aC P c=some r→ ∃e st' c',nJ n (Q e) st' c'∧Wp P c (fun e2 s k=>e2=e∧Is st' c' s k) ⟨n,tm,hp⟩ ctr:=by
 cases h with
 |mk h=>exact h
variable {n:Nat} {Q:Exit→TS→HS→Nat→Prop} {tm:TS} {hp:HS} {ctr:Nat}
theorem MN {r:Rc} (h:X P n r Q tm hp ctr):DX P n r Q tm hp ctr:= .mk fun _ hc=>X.MU hc h
theorem bk {l:List kp} (h:iZ P n l tm hp ctr (Q .normal)):DX P n (.region l) Q tm hp ctr:=MN h
theorem mB (h:Q .normal tm hp ctr):DX P n .skip Q tm hp ctr:=MN h
theorem EO (h:Q .ret tm hp ctr):DX P n .ret Q tm hp ctr:=MN h
theorem ri {id:Nat} (h:Q (.exit id) tm hp ctr):DX P n (.exit id) Q tm hp ctr:=MN h
theorem cu {x y:Rc} (h:DX P n x (gj (DX P n y Q) Q) tm hp ctr):DX P n (.seq x y) Q tm hp ctr:=by
 refine .mk fun c hc=>?_
 obtain⟨cx,cy,rfl,hx,hy⟩:=qT hc
 obtain⟨e1,st1,c1,⟨ou,h1⟩,w1⟩:=h.get _ hx
 obtain⟨n1,lT,hp1⟩:=st1
 simp only at ou h1
 subst ou
 by_cases kX:e1= .normal
 · subst kX
   obtain⟨e2,st2,c2,h2,w2⟩:=(h1:DX P n1 y Q lT hp1 c1).get _ hy
   refine⟨e2,st2,c2,h2,Wp.seq (w1.mono ?_)⟩
   rintro e s c ⟨rfl,rfl,rfl⟩
   exact w2
 · rw[qn kX]at h1
   refine⟨e1,⟨n1,lT,hp1⟩,c1,⟨rfl,h1⟩,Wp.seq (w1.mono ?_)⟩
   rintro e s c ⟨rfl,rfl,rfl⟩
   rw[B6 kX]
   exact⟨rfl,rfl,rfl⟩
theorem mC {t:Nat} {x y:Rc} {b:Bool} (hb:find tm t=some (bV b)) (h1:b=true→DX P n x Q tm hp ctr) (h2:b=false→DX P n y Q tm hp ctr):DX P n (.cond (.t t) x y) Q tm hp ctr:=by
 refine .mk fun c hc=>?_
 obtain⟨cx,cy,rfl,hx,hy⟩:=CJ hc
 have hb':((⟨n,tm,hp⟩:St).get (.tmp t)).gA =some b:=by simp only[St.get,hb];rfl
 cases b with
 |true=>
  obtain⟨e,s,c',h1,h2⟩:=(h1 rfl).get _ hx
  exact⟨e,s,c',h1,Wp.cond hb' h2⟩
 |false=>
  obtain⟨e,s,c',h1,h2⟩:=(h2 rfl).get _ hy
  exact⟨e,s,c',h1,Wp.cond hb' h2⟩
theorem jv {id:Nat} {x:Rc} (h:DX P n x (rN id Q) tm hp ctr):DX P n (.block id x) Q tm hp ctr:=by
 refine .mk fun c hc=>?_
 obtain⟨cx,rfl,hx⟩:=sB hc
 obtain⟨e1,st1,c1,⟨ou,h1⟩,w1⟩:=h.get _ hx
 cases e1 with
 |exit id'=>
  simp only[rN]at h1
  split at h1
  · rename_i bG
    refine⟨_,_,_,⟨ou,h1⟩,Wp.block (w1.mono ?_)⟩
    rintro e s c ⟨rfl,rfl,rfl⟩
    simp only[ob,bG,if_true]
    exact⟨trivial,rfl,rfl⟩
  · rename_i bG
    refine⟨_,_,_,⟨ou,h1⟩,Wp.block (w1.mono ?_)⟩
    rintro e s c ⟨rfl,rfl,rfl⟩
    simp only[ob,bG,if_false]
    exact⟨trivial,rfl,rfl⟩
 |_=>
  rw[yT (by simp)]at h1
  refine⟨_,st1,c1,⟨ou,h1⟩,Wp.block (w1.mono ?_)⟩
  rintro e s c ⟨rfl,rfl,rfl⟩
  rw[zZ (by simp)]
  exact⟨rfl,rfl,rfl⟩
theorem RR {r:Rc} {aY:TS} {hp':HS} {c':Nat} (hw:dL tm hp ctr aY hp' c') (h:DX P n r Q aY hp' c'):DX P n r Q tm hp ctr:=by
 refine .mk fun c hc=>?_
 obtain⟨e,s,c2,h1,h2⟩:=h.get c hc
 exact⟨e,s,c2,h1,Wp.DY (st:=⟨n,tm,hp⟩) hw h2⟩
theorem dL.forget {aY:TS} {hp':HS} {c':Nat} (hc:ctr≤c') (ht: ∀t v,find aY t=some v→find tm t=some v) (hh: ∀id b,find hp' id=some b→find hp id=some b):dL tm hp ctr aY hp' c':=
 fun M A ρ _ _ w hr=>⟨A,ρ,(Rel.forget (st':=⟨_,aY,hp'⟩) hr rfl ht hh).sub (fun _ h=>Nat.le_trans hc h),iE.refl _,fT.refl M A w⟩
def qR (ks:List Nat) (tm:TS):TS:=ks.filterMap fun t=>(find tm t).map fun v=>(t,v)
theorem EK {tm:TS}: ∀ {ks:List Nat} {t:Nat} {v:V},find (qR ks tm) t=some v→find tm t=some v:=by
 intro ks t v h
 have hm:=eE h
 simp only[qR,List.mem_filterMap,Option.map_eq_some_iff,Prod.mk.injEq]at hm
 obtain⟨t',_,u,hu,rfl,rfl⟩:=hm
 exact hu
theorem dL.keep (ks:List Nat):dL tm hp ctr (qR ks tm) hp ctr:=dL.forget (Nat.le_refl _) (fun _ _ h=>EK h) (fun _ _ h=>h)
theorem F8 {r:Rc} (ks:List Nat) (h:DX P n r Q (qR ks tm) hp ctr):DX P n r Q tm hp ctr:=RR (dL.keep ks) h
def Nxt (I:Nat→TS→HS→Nat→Prop) (ks:List Nat) (m:Nat) (tm:TS) (hp:HS) (c:Nat):Prop:= ∃m',m' < m∧I m' (qR ks tm) hp c
theorem vp {b:Rc} (ks:List Nat) (I:Nat→TS→HS→Nat→Prop) (m:Nat) (h0:I m (qR ks tm) hp ctr) (wB: ∀m tm hp c,I m tm hp c→DX P n b (gj (Nxt I ks m) Q) tm hp c):DX P n (.loop b) Q tm hp ctr:=by
 refine .mk fun c hc=>?_
 obtain⟨cb,rfl,hb⟩:=CI hc
 have key: ∀ (m:Nat) (tm:TS) (hp:HS) (c:Nat),I m tm hp c→ ∃e st' c',nJ n (Q e) st' c'∧ ∀ (M A:Nat→Prop) (ρ:Env) (a:Act) (w:World) (b':Frame) (kk:List _) (cs:List _),Rel M A ρ (bg c) ⟨n,tm,hp⟩ a w→
  ∃a' w',Post M A ρ w (Is st' c') a' w'∧Arrives P (lone (b'.at a (.code cb:: .inLoop cb::kk)) cs w) b' kk cs e a' w':=by
  intro m
  induction m using Nat.strongRecOn with
  |_ m ihm=>
   intro tm hp c hI
   obtain⟨e1,st1,c1,⟨ou,h1⟩,w1⟩:=(wB m tm hp c hI).get _ hb
   obtain⟨n1,lT,hp1⟩:=st1
   simp only at ou h1
   subst ou
   by_cases kX:e1= .normal
   · subst kX
     obtain⟨m',hm',Rl⟩:=(h1:Nxt I ks m lT hp1 c1)
     obtain⟨e2,st2,c2,h2,qX⟩:=ihm m' hm' _ _ _ Rl
     refine⟨e2,st2,c2,h2,fun M A ρ a w b' kk cs hr=>?_⟩
     obtain⟨e,a1,Ah,⟨rfl,st',c',A',ρ',⟨rfl,rfl⟩,r2,r3,r4,r5⟩,fD⟩:=(by
      obtain⟨e,a1,Ah,hp1,fD⟩:=w1 M A ρ a w hr b' (.inLoop cb::kk) cs
      obtain⟨st',c',A',ρ',⟨he,hs⟩,r⟩:=hp1
      exact⟨e,a1,Ah,⟨he,st',c',A',ρ',hs,r⟩,fD⟩: ∃e a1 Ah,(e=Exit.normal∧ ∃st' c' A' ρ',Is ⟨n1,lT,hp1⟩ c1 st' c'∧Rel M A' ρ' (bg c') st' a1 Ah∧cJ M w Ah∧iE ρ ρ'∧fT M A A' w)∧Arrives P (lone (b'.at a (.code cb:: .inLoop cb::kk)) cs w) b' (.inLoop cb::kk) cs e a1 Ah)
     obtain⟨A2,ρ2,uD,Ht,xS⟩:=dL.keep ks _ _ _ _ _ _ r2
     obtain⟨a2,w2,hp2,qY⟩:=qX M A2 ρ2 a1 Ah b' kk cs uD
     exact⟨a2,w2,hp2.trans r3 (r4.trans Ht) (r5.trans xS r3.size), .of_steps (Steps.trans fD (.one step_inLoop)) qY⟩
   · rw[qn kX]at h1
     refine⟨e1,⟨n1,lT,hp1⟩,c1,⟨rfl,h1⟩,fun M A ρ a w b' kk cs hr=>?_⟩
     obtain⟨e,a1,Ah,QV,fD⟩:=w1 M A ρ a w hr b' (.inLoop cb::kk) cs
     obtain⟨st',c',A',ρ',⟨rfl,hs⟩,r⟩:=QV
     refine⟨a1,Ah,⟨st',c',A',ρ',hs,r⟩,?_⟩
     cases e with
     |normal=>exact absurd rfl kX
     |_=>exact .pass (x:= .inLoop cb) rfl (fun _ _=> .inl (by simp)) fD
 obtain⟨e,st',c',h1,h2⟩:=key m _ _ _ h0
 refine⟨e,st',c',h1,Wp.DY (st:=⟨n,tm,hp⟩) (dL.keep ks) ?_⟩
 intro M A ρ a w hr b' kk cs
 obtain⟨a',w',hp',fD⟩:=h2 M A ρ a w b' kk cs hr
 obtain⟨s1,s2,s3,s4,s5,s6⟩:=hp'
 exact⟨e,a',w',⟨s1,s2,s3,s4,⟨rfl,s5⟩,s6⟩, .of_steps (.one step_loop) fD⟩
theorem Kp {kt et Y4 ZA:TypeId} (qk:P.underlying Y2=some (.map Y4 ZA)) (Jy:P.underlying VC=some (.map kt et)) (hK:fg P kt oN) {es:cD} {ck o:Nat} {kk:Int} (hok:KK es ck o hp)
 (h4:find tm 4=some (.w (.one (.map o)))) (JU:find tm 10=some (iV .i64 kk)) (hfr: ∀t v,find tm t=some v→t≠14∧(t < 66∨73 < t)) (h:Q .normal tm (hE (Sa es) kk hp) (ctr+4+40 * (es.length+1))):DX P 79 NV Q tm hp ctr:=by
 refine .mk fun c hc=>?_
 refine⟨.normal,⟨79,tm,hE (Sa es) kk hp⟩,ctr+4+40 * (es.length+1),⟨rfl,h⟩,?_⟩
 exact Iw hc qk Jy hK hok h4 JU hfr
theorem J7 {Tb:Tables} [mG P Tb] {f:FuncId} {fn:Func} {r:Rc} {args:List W} {n:Nat} {rs:List ResultVar} {Good:List W→Prop} (hf:P.funcs[f]? =some fn) (h:DX P n r (OI P rs Good) (cO 0 args) [] 4)
 (hi:Ox Tb fn=some (n,rs,r):=by conv=>lhs;cbv) (hl:args.length≤n:=by simp): ∃ts,Fn P f args [] (aO ts) []∧(aO ts).cV=true∧Good ts:=by
 obtain⟨c,hb,hr,hn,eU⟩:=wS (P:=P) hi
 subst hn
 subst eU
 obtain⟨e,st',c',⟨hn',hq⟩,hw⟩:=h.get _ hr
 obtain⟨n',aY,hp'⟩:=st'
 simp only at hn' hq
 subst hn'
 have main: ∀us ts,qS e→aM P hp' aY fn.results.toList=some us→bE (bI hp') us=some ts→Good ts→ ∃ts,Fn P f args [] (aO ts) []∧(aO ts).cV=true∧Good ts:=by
  intro vs ts he fP hts hg
  refine⟨ts,?_,qB ?_,hg⟩
  · intro w A ρ xs hH hxs
    refine calls_of_wp hf hb ?_
    have hl':args.length=xs.size:=by simpa using hxs.1
    have bR:Rel (fun b=>oM ρ [] b∨w.heap.size≤b) A ρ (bg 4) ⟨fn.ntmps,cO 0 args,[]⟩ {tmps:=xs++Array.replicate (fn.ntmps - xs.size) undef,defers:=[]} w:=by
     refine⟨by simp;omega,rfl,fun t v hv=>?_,hH.heap,hH.inj,hH.fresh,hH.bound,hH.may,hH.dN⟩
     obtain⟨_,u,hu,rfl⟩:=ee _ _ _ _ hv
     simp only[Nat.sub_zero]at hu
     have ht:t < xs.size:=by rw[←hl'];exact(List.getElem?_eq_some_iff.1 hu).1
     have AZ:xs.toList[t]? =some xs[t]:=by simp[ht]
     have:=hxs.2 t u _ hu AZ
     have e:(xs++Array.replicate (fn.ntmps - xs.size) undef).getD t undef=xs[t]:=by simp[Array.getD_eq_getD_getElem?,Array.getElem?_append_left ht,ht]
     rw[e]
     exact this
    refine wp_mono (hw _ A ρ _ w bR) ?_
    rintro e2 a' w' ⟨st2,c2,A',ρ',⟨rfl,rfl,rfl⟩,dl,dJ,cC,Ol⟩
    have jH:=sE hH.bound Ol
    obtain⟨ws,hvs,hR⟩:=dQ dl fP
    have hm:(fn.results.mapM fun(r:ResultVar)=>match r with
     | .tmp t=>(pure (a'.tmps.getD t undef):Sem Value)
     | .cell b t=>do loadVar t (←asAddr (a'.tmps.getD b undef))).run P w'= .ok ws.toArray w':=by
     rw[Array.mapM_eq_mapM_toList]
     simp only[Sem.run_map]
     exact(congrArg (fun r:Result (List Value)=>Result.andThen r fun a w'=>Result.ok a.toArray w') hvs).trans rfl
    have hrun:(results fn a'.tmps).run P w'= .ok (if h:ws.toArray.size=1 then ws.toArray[0]else .tuple ws.toArray) w':=by
     show(Bind.bind (fn.results.mapM fun(r:ResultVar)=>match r with
      | .tmp t=>(pure (a'.tmps.getD t undef):Sem Value)
      | .cell b t=>do loadVar t (←asAddr (a'.tmps.getD b undef))) fun vs=>Pure.pure (if h:vs.size=1 then vs[0]else .tuple vs)).run P w'=_
     rw[Sem.run_bind,hm]
     rfl
    have hB: ∀id blk b,find hp' id=some blk→ρ' id=some (.fF b)→¬A b:=by
     intro id blk b hf hρ hA
     have hM:=(Rel.own dl hf hρ).1
     rcases hM with⟨id',fH,lJ,_⟩|hM
     · simp[find]at lJ
     · have:=hH.bound b hA
       omega
    have hlen:=gm hts
    have one: ∀ (k:Nat) (u:W) (y:Value),ts[k]? =some u→(∀v,vs[k]? =some v→RW w' A' ρ' v y)→RW w' A ρ u y:=by
     intro k u y hu hv
     obtain⟨v,jB,CW⟩:=dV hts k u hu
     exact gK dl (fun b hb=>jH.1 b hb) hB CW (hv v jB) ρ
    have fin:a'.defers=[]∧ ∃v,(results fn a'.tmps).run P w'= .ok v w'∧ ∃x A' ρ' F',Ending.returned v= .returned x∧RV w' A' ρ' (aO ts) x∧HR (fun b=>oM ρ [] b∨w.heap.size≤b) A' ρ' F' [] w'∧
     cJ (fun b=>oM ρ [] b∨w.heap.size≤b) w w'∧iE ρ ρ'∧bp A A' w:=by
     refine⟨dl.defers,_,hrun,_,A,ρ,bg 4,rfl,?_,⟨rfl,rfl,fun t v hv=>by simp[find]at hv,fun id blk hb=>by simp[find]at hb,fun id id' b b' q hb=>by simp[find]at hb,hH.fresh,fun b hb=>Nat.lt_of_lt_of_le (hH.bound b hb) dJ.size,fun b hb=> .inr (Nat.le_trans dJ.size hb),hH.dN.EN dJ (fun _ _ h=>h)⟩,dJ,iE.refl _,bp.refl _ _⟩
     match vs,ws,ts,hR,hlen,one with
     | [],[],[],_,_,_=>exact⟨#[],by simp,rfl,by simp⟩
     | [u],[v],[t],hR,_,one=>exact one 0 t v rfl (fun v' jB=>by simp only[List.getElem?_cons_zero,Option.some.injEq]at jB;subst jB;exact hR.2 0 u v rfl rfl)
     |u::u2::r,v::v2::s,t::t2::q,hR,hlen,one=>
      have hne:¬ (v::v2::s).toArray.size=1:=by simp
      simp only[hne,dite_false]
      refine⟨_,rfl,?_,fun k x y hx hy=>one k x y hx (fun v' jB=>hR.2 k v' y jB (by simpa using hy))⟩
      have:=hR.1
      simp at this hlen⊢
      omega
     | [],_::_,_,hR,_,_=>exact absurd hR.1 (by simp)
     |_::_,[],_,hR,_,_=>exact absurd hR.1 (by simp)
     | [_],_::_::_,_,hR,_,_=>exact absurd hR.1 (by simp)
     |_::_::_,[_],_,hR,_,_=>exact absurd hR.1 (by simp)
     | [],[],_::_,_,hlen,_=>simp at hlen
     | [_],[_],[],_,hlen,_=>simp at hlen
     | [_],[_],_::_::_,_,hlen,_=>simp at hlen
     |_::_::_,_::_::_,[],_,hlen,_=>simp at hlen
     |_::_::_,_::_::_,[_],_,hlen,_=>simp at hlen
    rcases he with rfl|rfl
    · exact fin
    · exact fin
  · rw[List.all_eq_true]
    intro u hu
    obtain⟨k',hk',hke⟩:=List.getElem_of_mem hu
    obtain⟨v,_,CW⟩:=dV hts k' u (by rw[←hke];simp[hk'])
    exact fR CW
 cases e with
 |normal=>obtain⟨us,ts,h1,h2,h3⟩:=hq;exact main us ts (.inl rfl) h1 h2 h3
 |ret=>obtain⟨us,ts,h1,h2,h3⟩:=hq;exact main us ts (.inr rfl) h1 h2 h3
 |_=>exact hq.elim
end Go.aR
end
section
namespace Go.aR
open Go
variable {P:Program}
structure Ms (n:Nat) (es:cD) (ck o:Nat) (hp:HS) (c:Nat):Prop where
 rg:KK es ck o hp
 nk:NK es
 keys: ∀p,p∈es→ ∃j:Nat,j < n∧p.1= .int .i64 (j:Int)
 lo:o < c
 li: ∀ (p:Value×C×Nat) (id:Nat),p∈es→p.2.1= .map id→id < c
theorem Ms.new {o c n:Nat} {hp:HS} (h:find hp o=some (.mp [] 0)) (hc:o < c):Ms n [] 0 o hp c:=
 ⟨⟨h,fun p hp=>by simp at hp,by simp,fun p q id hp=>by simp at hp⟩,NK.nil,fun p hp=>by simp at hp,hc,fun p id hp=>by simp at hp⟩
theorem Ms.mono {n n':Nat} {es:cD} {ck o c c':Nat} {hp:HS} (h:Ms n es ck o hp c) (hn:n≤n') (hc:c≤c'):Ms n' es ck o hp c':=
 ⟨h.rg,h.nk,fun p hp=>by obtain⟨j,h1,h2⟩:=h.keys p hp;exact⟨j,by omega,h2⟩,Nat.lt_of_lt_of_le h.lo hc,fun p id h1 h2=>Nat.lt_of_lt_of_le (h.li p id h1 h2) hc⟩
theorem Ms.heap {n:Nat} {es:cD} {ck o c:Nat} {hp hp':HS} (h:Ms n es ck o hp c) (he: ∀q Tn c2,q < c→find hp q=some (.mp Tn c2)→find hp' q=some (.mp Tn c2)):Ms n es ck o hp' c:=by
 refine⟨⟨he _ _ _ h.lo h.rg.out,fun p hp=>?_,h.rg.born,h.rg.HU⟩,h.nk,h.keys,h.lo,h.li⟩
 obtain⟨h1,h2,id,ei,ci,h3,h4,h5,h6⟩:=h.rg.FQ p hp
 exact⟨h1,h2,id,ei,ci,h3,h4,he _ _ _ (h.li p id hp h3) h5,h6⟩
theorem Ms.L5 {n:Nat} {es:cD} {ck o c:Nat} {hp:HS} (h:Ms n es ck o hp c): ∀p,p∈es→oN p.1:=fun p hp=>(h.rg.FQ p hp).1
theorem Ms.inner {n:Nat} {es To:cD} {ck o c id ci':Nat} {hp:HS} {p:Value×C×Nat} (h:Ms n es ck o hp c) (hp1:p∈es) (bG:p.2.1= .map id) (hn:NK To) (hk: ∀x,x∈To→oN x.1):Ms n es ck o (jx hp id (.mp To ci')) c:=by
 obtain⟨_,_,id0,ei0,ci0,k3,k4,k5,_⟩:=h.rg.FQ p hp1
 rw[bG]at k3
 have k3:=C.map.inj k3
 subst k3
 refine⟨⟨?_,fun q hq=>?_,h.rg.born,h.rg.HU⟩,h.nk,h.keys,h.lo,h.li⟩
 · rw[bt,if_neg (fun e=>k4 e.symm)]
   exact h.rg.out
 · obtain⟨h1,h2,Hj,e2,c2,h3,h4,h5,h6,h7⟩:=h.rg.FQ q hq
   by_cases he:Hj=id
   · subst he
     exact⟨h1,h2,Hj,To,ci',h3,h4,by rw[bt,if_pos rfl,k5];rfl,hn,hk⟩
   · exact⟨h1,h2,Hj,e2,c2,h3,h4,by rw[bt,if_neg he];exact h5,h6,h7⟩
theorem Ms.add {i:Nat} {es:cD} {ck o c cm c':Nat} {hp hq:HS} (h:Ms i es ck o hp c) (hc:c≤cm) (Ey:cm < c') (hm:find hq cm=some (.mp [] 0)) (he: ∀q,q < c→find hq q=find hp q):
 Ms (i+1) (es++[(.int .i64 (i:Int), .map cm,ck)]) (ck+1) o (jx hq o (.mp (es++[(.int .i64 (i:Int), .map cm,ck)]) (ck+1))) c':=by
 have hlo:=h.lo
 refine⟨⟨?_,fun p hp=>?_,?_,fun p q id hp hq h1 h2=>?_⟩,?_,fun p hp=>?_,by omega,fun p id hp h1=>?_⟩
 · rw[bt,if_pos rfl,he o hlo,h.rg.out]
   rfl
 · rcases List.mem_append.1 hp with hp|hp
   · obtain⟨h1,h2,id,ei,ci,h3,h4,h5,h6⟩:=h.rg.FQ p hp
     exact⟨h1,by omega,id,ei,ci,h3,h4,by rw[bt,if_neg h4,he id (h.li p id hp h3)];exact h5,h6⟩
   · rw[List.mem_singleton]at hp
     subst hp
     exact⟨⟨_,rfl⟩,by simp,cm,[],0,rfl,by omega,by rw[bt,if_neg (by omega)];exact hm,NK.nil,fun x hx=>by simp at hx⟩
 · rw[List.map_append,List.nodup_append]
   refine⟨h.rg.born,by simp,?_⟩
   intro x hx y hy
   simp only[List.mem_map]at hx
   obtain⟨p,hp,rfl⟩:=hx
   simp only[List.map_cons,List.map_nil,List.mem_singleton]at hy
   subst hy
   have:=(h.rg.FQ p hp).2.1
   omega
 · rcases List.mem_append.1 hp with hp|hp<;>rcases List.mem_append.1 hq with hq|hq
   · exact h.rg.HU p q id hp hq h1 h2
   · rw[List.mem_singleton]at hq
     subst hq
     have:=h.li p id hp h1
     have e:=C.map.inj h2
     omega
   · rw[List.mem_singleton]at hp
     subst hp
     have:=h.li q id hq h2
     have e:=C.map.inj h1
     omega
   · rw[List.mem_singleton]at hp hq
     rw[hp,hq]
 · unfold NK
   rw[List.map_append,List.nodup_append]
   refine⟨h.nk,by simp,?_⟩
   intro x hx y hy
   simp only[List.mem_map]at hx
   obtain⟨p,hp,rfl⟩:=hx
   simp only[List.map_cons,List.map_nil,List.mem_singleton]at hy
   subst hy
   obtain⟨j,h1,h2⟩:=h.keys p hp
   rw[h2]
   intro e
   simp only[Value.int.injEq,true_and]at e
   omega
 · rcases List.mem_append.1 hp with hp|hp
   · obtain⟨j,h1,h2⟩:=h.keys p hp
     exact⟨j,by omega,h2⟩
   · rw[List.mem_singleton]at hp
     subst hp
     exact⟨i,by omega,rfl⟩
 · rcases List.mem_append.1 hp with hp|hp
   · have:=h.li p id hp h1
     omega
   · rw[List.mem_singleton]at hp
     subst hp
     have e:=C.map.inj h1
     omega
theorem Ms.del {n:Nat} {es:cD} {ck o c:Nat} {hp:HS} (h:Ms n es ck o hp c) (k:Int):Ms n (er k es) ck o (jx hp o (.mp (er k es) ck)) c:=by
 refine⟨⟨?_,fun p hp=>?_,List.Nodup.sublist (List.filter_sublist.map _) h.rg.born,fun p q id hp hq h1 h2=>h.rg.HU p q id (sS hp).1 (sS hq).1 h1 h2⟩,h.nk.er k,fun p hp=>h.keys p (sS hp).1,h.lo,fun p id hp h1=>h.li p id (sS hp).1 h1⟩
 · rw[bt,if_pos rfl,h.rg.out]
   rfl
 · obtain⟨h1,h2,id,ei,ci,h3,h4,h5,h6⟩:=h.rg.FQ p (sS hp).1
   exact⟨h1,h2,id,ei,ci,h3,h4,by rw[bt,if_neg h4];exact h5,h6⟩
theorem Ms.erase {n:Nat} {es:cD} {ck o c:Nat} {hp:HS} (h:Ms n es ck o hp c) (k:Int):Ms n es ck o (hE (Sa es) k hp) c:=by
 have hSo:Sa es o=false:=by
  cases hq:Sa es o with
  |false=>rfl
  |true=>
   obtain⟨p,hp1,hp2⟩:=E3.1 hq
   obtain⟨_,_,id,_,_,h3,h4,_⟩:=h.rg.FQ p hp1
   rw[h3]at hp2
   exact absurd (C.map.inj hp2) h4
 refine⟨⟨?_,fun p hp=>?_,h.rg.born,h.rg.HU⟩,h.nk,h.keys,h.lo,h.li⟩
 · rw[jg,h.rg.out,hSo]
   rfl
 · obtain⟨h1,h2,id,ei,ci,h3,h4,h5,h6,h7⟩:=h.rg.FQ p hp
   have hS:Sa es id=true:=E3.2 ⟨p,hp,h3⟩
   exact⟨h1,h2,id,er k ei,ci,h3,h4,by rw[jg,h5,hS];rfl,h6.er k,fun x hx=>h7 x (sS hx).1⟩
theorem XW {es:cD} {k:Int} {p:Value×C×Nat} (hp:p∈es) (hk:p.1= .int .i64 k):(er k es).length < es.length:=by
 have:=filter_lt (fun _:Value×C×Nat=>true) (fun x=> !isKey k x) (fun _ _=>rfl) p rfl (by rw[lG.2 hk];rfl) es hp
 have e:List.filter (fun _:Value×C×Nat=>true) es=es:=by simp
 rw[e]at this
 exact this
theorem Dc {S:Nat→Bool} {k:Int} {hp:HS} {q sz:Nat} {xs:List (List C)} (h:find hp q=some (.row sz xs)):find (hE S k hp) q=some (.row sz xs):=by
 rw[jg,h]
 simp only[Option.map_some]
 split<;>rfl
def Ro.DM:Ro→Bool
 | .call _ _| .kN _ _| .raw _ _=>false
 |_=>true
variable {n ctr:Nat} {tm:TS} {hp:HS} {K:TS→HS→Nat→Prop}
theorem rM {d:Nat} {r:Ro} {rest:List kp} (hd:d < n) (hr:r.DM=true) (h:XR r tm hp ctr fun v hp'=>iZ P n rest ((d,v)::tm) hp' (ctr+4) K):iZ P n (⟨some d,none,r⟩::rest) tm hp ctr K:=by
 have e:fE n (some d)=true:=by simp[fE,hd]
 unfold iZ KI
 simp only[e]
 cases r<;>first|(simp only[Ro.DM]at hr;exact absurd hr (by decide))|(simp only[uY,cF,iw,fS,dj];exact h)
theorem abI {r:Ro} {rest:List kp} (hr:r.DM=true) (h:XR r tm hp ctr fun _ hp'=>iZ P n rest tm hp' (ctr+4) K):iZ P n (⟨none,none,r⟩::rest) tm hp ctr K:=by
 unfold iZ KI
 simp only[fE]
 cases r<;>first|(simp only[Ro.DM]at hr;exact absurd hr (by decide))|(simp only[uY,cF,iw,fS,dj];exact h)
end Go.aR
end
section
namespace Go.aR.Cd
open Go Go.Proofs
set_option maxRecDepth 100000
set_option maxHeartbeats 1000000
theorem SX:Tryz.prog.underlying 271=some (.map 3 272):=by kernel_rfl
theorem zMp:mI Tryz.prog 272=some (.map none):=by kernel_rfl
abbrev mV (o:Nat):V:= .w (.one (.map o))
theorem U8 {P:Program} {tm:TS} {hp:HS} {ctr:Nat} {K:TS→HS→Nat→Prop} {z:List C} {cs:List T} {v:V} (h21:find tm 21=some (.w (.one (.rJ cs 0)))) (h20:find tm 20=some v) (hz:z.length=5) (hc:cs.length=5)
 (h:K ((5,v)::(6, .w (.one (.ptr (ctr+4) 5 0 0)))::(22, .w (.agg (cs.map .t)))::tm) ((ctr+4, .row 5 [cs.map .t])::hp) (ctr+16)):
 iZ P 79 (p 22 (.load (some 5) (t 21))::p 6 (.alloc z)::p 5 (.DL (t 20))::q (.store 5 (t 6) (t 22))::[]) tm hp ctr K:=by
 match cs,hc with
 | [a0,a1,a2,a3,a4],_=>
 match z,hz with
 | [z0,z1,z2,z3,z4],_=>
 refine rM (by decide) rfl ?_
 simp only[XR,di.get,h21,Option.getD_some]
 show iZ P 79 _ ((22, .w (.agg [.t a0, .t a1, .t a2, .t a3, .t a4]))::tm) hp (ctr+4) K
 refine rM (by decide) rfl ?_
 show iZ P 79 _ ((6, .w (.one (.ptr (ctr+4) 5 0 0)))::(22, .w (.agg [.t a0, .t a1, .t a2, .t a3, .t a4]))::tm) ((ctr+4, .row 5 [[z0,z1,z2,z3,z4]])::hp) (ctr+8) K
 refine rM (by decide) rfl ?_
 simp only[XR,cF]
 have e:(di.t 20).get ((6, .w (.one (.ptr (ctr+4) 5 0 0)))::(22, .w (.agg [.t a0, .t a1, .t a2, .t a3, .t a4]))::tm)=v:=by simp[di.get,ai,h20]
 rw[e]
 refine abI rfl ?_
 have f: ∀b:bu,find ((ctr+4,b)::hp) (ctr+4)=some b:=fun b=>by simp[ai]
 have g: ∀b b':bu,jx ((ctr+4,b)::hp) (ctr+4) b'=(ctr+4,b')::hp:=fun b b'=>by simp[jx]
 have e1:(di.t 6).get ((5,v)::(6, .w (.one (.ptr (ctr+4) 5 0 0)))::(22, .w (.agg [.t a0, .t a1, .t a2, .t a3, .t a4]))::tm)= .w (.one (.ptr (ctr+4) 5 0 0)):=rfl
 have e2:(di.t 22).get ((5,v)::(6, .w (.one (.ptr (ctr+4) 5 0 0)))::(22, .w (.agg [.t a0, .t a1, .t a2, .t a3, .t a4]))::tm)= .w (.agg [.t a0, .t a1, .t a2, .t a3, .t a4]):=rfl
 simp only[XR,e1,e2,f,qA,bX,g]
 exact h
theorem Va {P:Program} {tm:TS} {hp:HS} {ctr id:Nat} {K:TS→HS→Nat→Prop} {cs:List T} {xs:Lz} (h6:find tm 6=some (.w (.one (.ptr id 5 0 0)))) (hf:find hp id=some (.row 5 [cs.map .t])) (hc:cs[3]? =some (.aA 1 xs))
 (h:K ((29,iV .i64 0)::(28,iV .i64 (xs.length:Int))::(27, .w (oL 1 xs))::(26, .w (.one (.ptr id 5 0 3)))::tm) hp (ctr+16)):
 iZ P 79 (p 26 (.zP 3 (t 6))::p 27 (.load none (t 26))::p 28 (.len (t 27))::p 29 (.DL (k 0))::[]) tm hp ctr K:=by
 refine rM (by decide) rfl ?_
 simp only[XR,di.get,h6,Option.getD_some]
 refine rM (by decide) rfl ?_
 have e1:(di.t 26).get ((26, .w (.one (.ptr id 5 0 (0+3))))::tm)= .w (.one (.ptr id 5 0 3)):=rfl
 simp only[XR,e1,hf,qA,List.getElem?_cons_zero,if_true,qF,List.getElem?_map,hc,Option.map_some]
 show iZ P 79 [p 28 (.len (t 27)),p 29 (.DL (k 0))] ((27, .w (oL 1 xs))::(26, .w (.one (.ptr id 5 0 3)))::tm) hp (ctr+8) K
 refine rM (by decide) rfl ?_
 show iZ P 79 [p 29 (.DL (k 0))] ((28,iV .i64 (xs.length:Int))::(27, .w (oL 1 xs))::(26, .w (.one (.ptr id 5 0 3)))::tm) hp (ctr+12) K
 refine rM (by decide) rfl ?_
 exact h
def xJ (v:V) (hp:HS) (c:Nat) (xs:Lz):Prop:=
 (v= .w (.one (.t (.val (.slice none 0 0))))∧xs=[])∨ ∃FH,FH < c∧v= .w (.one (.own FH 1 0 xs.length))∧find hp FH=some (.row 1 (tr xs))
theorem U3 {P:Program} {tm:TS} {hp:HS} {ctr:Nat} {K:TS→HS→Nat→Prop} {xs:Lz} {v:V} {kk:Int} (h9:find tm 9=some v) (JU:find tm 10=some (iV .i64 kk)) (ho:xJ v hp ctr xs) (hl:xs.length≤1000000)
 (h: ∀hp' v',xJ v' hp' (ctr+20) (xs++[[tI kk]])→(∀q e c,q < ctr→find hp q=some (.mp e c)→find hp' q=some (.mp e c))→K ((9,v')::(77,v')::(76, .w (.one (.own (ctr+8) 1 0 1)))::(75,iV .i64 kk)::(74,v)::tm) hp' (ctr+20)):
 iZ P 79 (p 74 (.DL (t 9))::p 75 (.DL (t 10))::p 76 (.sY [.t (.val (.int .i64 0))] 1 [(0,t 75)])::p 77 (.append 1 8 (t 74) (t 76))::p 9 (.DL (t 77))::[]) tm hp ctr K:=by
 refine rM (by decide) rfl ?_
 simp only[XR,cF]
 have e9:(di.t 9).get tm=v:=by simp[di.get,h9]
 rw[e9]
 refine rM (by decide) rfl ?_
 simp only[XR,cF]
 have ZE:(di.t 10).get ((74,v)::tm)=iV .i64 kk:=by simp[di.get,ai,JU]
 rw[ZE]
 refine rM (by decide) rfl ?_
 show iZ P 79 _ ((76, .w (.one (.own (ctr+8) 1 0 1)))::(75,iV .i64 kk)::(74,v)::tm) ((ctr+8, .row 1 [[.t (tI kk)]])::hp) (ctr+12) K
 refine rM (by decide) rfl ?_
 have e1:(di.t 74).get ((76, .w (.one (.own (ctr+8) 1 0 1)))::(75,iV .i64 kk)::(74,v)::tm)=v:=rfl
 have e2:(di.t 76).get ((76, .w (.one (.own (ctr+8) 1 0 1)))::(75,iV .i64 kk)::(74,v)::tm)= .w (.one (.own (ctr+8) 1 0 1)):=rfl
 have e3:sV ((ctr+8, .row 1 [[.t (tI kk)]])::hp) (.own (ctr+8) 1 0 1)=some (1,[[.t (tI kk)]]):=by simp[sV,elems,ai]
 simp only[XR,e1,e2,e3]
 rcases ho with⟨rfl,rfl⟩|⟨FH,hr,rfl,hf⟩
 · simp only[e3,if_true,List.length_nil]
   refine⟨⟨by decide,by decide⟩,?_⟩
   refine rM (by decide) rfl ?_
   simp only[XR,cF]
   refine h ((ctr+12, .row 1 [[.t (tI kk)]])::(ctr+8, .row 1 [[.t (tI kk)]])::hp) (.w (.one (.own (ctr+12) 1 0 1))) (.inr ⟨ctr+12,by omega,rfl,by rw[ai,if_pos rfl];rfl⟩) ?_
   intro q e c hq Xq
   rw[aW (by omega),aW (by omega)]
   exact Xq
 · have DO:find ((ctr+8,bu.row 1 [[.t (tI kk)]])::hp) FH=some (.row 1 (tr xs)):=by rw[aW (by omega)];exact hf
   have hlen:(tr xs).length=xs.length:=by simp[tr]
   simp only[e3,DO,and_self,if_true,hlen,true_and,List.length_nil,bX]
   refine⟨⟨by simp only[aT];omega,by simp only[maxLen];omega⟩,?_⟩
   refine rM (by decide) rfl ?_
   simp only[XR,cF]
   refine h _ (.w (.one (.own (ctr+12) 1 0 (xs.length+1)))) (.inr ⟨ctr+12,by omega,by simp,by rw[ai,if_pos rfl];simp[tr]⟩) ?_
   intro q e c hq Xq
   rw[aW (by omega),ey]
   have hne:q≠FH:=by
    rintro rfl
    rw[hf]at Xq
    simp at Xq
   rw[if_neg hne,aW (by omega)]
   exact Xq
end Go.aR.Cd
end
section
namespace Go.aR
open Go
theorem DX.mono {P:Program} {n:Nat} {r:Rc} {Q Q':Exit→TS→HS→Nat→Prop} {tm:TS} {hp:HS} {ctr:Nat} (h:DX P n r Q tm hp ctr) (hq: ∀e tm hp c,Q e tm hp c→Q' e tm hp c):DX P n r Q' tm hp ctr:=by
 refine .mk fun c hc=>?_
 obtain⟨e,st',c',⟨h1,h2⟩,h3⟩:=h.get c hc
 exact⟨e,st',c',⟨h1,hq _ _ _ _ h2⟩,h3⟩
theorem MO {P:Program} {n:Nat} {x y:Rc} {Q:Exit→TS→HS→Nat→Prop} {tm:TS} {hp:HS} {ctr:Nat} (Mid:TS→HS→Nat→Prop) (h:DX P n x (gj Mid Q) tm hp ctr) (h2: ∀tm hp c,Mid tm hp c→DX P n y Q tm hp c):DX P n (.seq x y) Q tm hp ctr:=by
 refine cu (h.mono fun e tm hp c hq=>?_)
 cases e with
 |normal=>exact h2 _ _ _ hq
 |_=>exact hq
theorem wU {tm:TS} {ks:List Nat} {t:Nat} {v:V} (h:find (qR ks tm) t=some v):t∈ks:=by
 have hm:=eE h
 simp only[qR,List.mem_filterMap,Option.map_eq_some_iff,Prod.mk.injEq]at hm
 obtain⟨t',h1,u,hu,rfl,rfl⟩:=hm
 exact h1
end Go.aR
namespace Go.aR.Cd
open Go Go.Proofs
set_option maxRecDepth 100000
set_option maxHeartbeats 1000000
theorem xJ.of {v:V} {hp hp':HS} {c c':Nat} {xs:Lz} (h:xJ v hp c xs) (hc:c≤c') (hh: ∀q sz xs,find hp q=some (.row sz xs)→find hp' q=some (.row sz xs)):xJ v hp' c' xs:=by
 rcases h with h|⟨FH,h1,h2,h3⟩
 · exact .inl h
 · exact .inr ⟨FH,Nat.lt_of_lt_of_le h1 hc,h2,hh _ _ _ h3⟩
def YE (ts:List W):Prop:= ∃ord b,ts=[oL 1 ord,oB b]∧Is ord
def IA (l:Lz) (m:Nat) (tm:TS) (hp:HS) (c:Nat):Prop:=
 ∃ (i o:Nat) (es:cD) (ck:Nat),i≤l.length∧Ms i es ck o hp c∧es.length=i∧m=l.length - i∧tm=[(0, .w (oL 5 l)),(4,mV o),(16, .w (oL 5 l)),(17,iV .i64 (l.length:Int)),(18,iV .i64 (i:Int))]
def IB (l:Lz) (i:Nat) (af:Lz) (m:Nat) (tm:TS) (hp:HS) (c:Nat):Prop:=
 ∃ (j o:Nat) (es:cD) (ck:Nat),j≤af.length∧Ms (i+1) es ck o hp c∧es.length=i+1∧(∃p,p∈es∧p.1= .int .i64 (i:Int))∧m=af.length - j∧
  tm=[(0, .w (oL 5 l)),(4,mV o),(5,iV .i64 (i:Int)),(16, .w (oL 5 l)),(17,iV .i64 (l.length:Int)),(18,iV .i64 (i:Int)),(27, .w (oL 1 af)),(28,iV .i64 (af.length:Int)),(29,iV .i64 (j:Int))]
def IC (l:Lz) (m:Nat) (tm:TS) (hp:HS) (c:Nat):Prop:=
 ∃ (o:Nat) (es:cD) (ck:Nat) (v:V) (xs:Lz),Ms l.length es ck o hp c∧xJ v hp c xs∧Is xs∧xs.length+es.length≤l.length∧m=es.length∧tm=[(0, .w (oL 5 l)),(4,mV o),(9,v)]
def ID (l:Lz) (o:Nat) (v:V) (nc:HS) (c0:Nat) (m:Nat) (tm:TS) (hp:HS) (c:Nat):Prop:=
 ∃k:Nat,k≤l.length∧hp=nc∧c0≤c∧m=l.length - k∧tm=[(0, .w (oL 5 l)),(4,mV o),(9,v),(10,iV .i64 (k:Int))]
def MD (l:Lz) (es:cD) (o:Nat) (v:V) (nc:HS) (c0:Nat) (tm:TS) (hp:HS) (c:Nat):Prop:=
 ∃k:Nat,k≤l.length∧(k < l.length→ ∃p,p∈es∧p.1= .int .i64 (k:Int))∧hp=nc∧c0≤c∧qR [0,4,9,10] tm=[(0, .w (oL 5 l)),(4,mV o),(9,v),(10,iV .i64 (k:Int))]
theorem pQ (l:Lz) (hop: ∀e,e∈l→Fc e) (hl:l.length≤1000000):Tg 128 [oL 5 l] (Wk YE):=by
 refine J7 Tryz.func128 ?_
 refine cu (bk ?_)
 conv=>whnf
 refine cu (bk ?_)
 conv=>whnf
 refine lq ?_
 conv=>whnf
 refine cu ?_
 refine cu (bk ?_)
 conv=>whnf
 refine jv (vp [0,4,16,17,18] (IA l) l.length ⟨0,_,[],0,by omega,Ms.new rfl (by decide),rfl,rfl,rfl⟩ ?_)
 rintro m tm hp c ⟨i,o,es,ck,hi,hM,Xy,rfl,rfl⟩
 refine cu (bk ?_)
 conv=>whnf
 refine cu (mC (b:=decide ((i:Int) < (l.length:Int))) rfl (fun h=>mB ?_) (fun h=>ri ?_))
 · conv=>whnf
   have hlt:i < l.length:=by simpa using h
   have hlo:=hM.lo
   refine cu (jv (cu (bk ?_)))
   conv=>whnf
   refine ak (xs:=l) hop (by omega) (by omega) ?_
   rintro _ ⟨nm,a,b,af,us,rfl,hnm,⟨Ti,Mu⟩,fP,Mc⟩ hs
   rw[iw,fS]
   refine U8 (tm:=(21, .w (.one (.rJ [.val (.string nm),tI a,tI b, .aA 1 af, .aA 1 us] 0)))::(20,iV .i64 (i:Int))::(19,bV (decide ((i:Int) < (l.length:Int))))::[(0, .w (oL 5 l)),(4,mV o),(16, .w (oL 5 l)),(17,iV .i64 (l.length:Int)),(18,iV .i64 (i:Int))])
    (cs:=[.val (.string nm),tI a,tI b, .aA 1 af, .aA 1 us]) (v:=iV .i64 (i:Int)) rfl rfl (by exact rfl) rfl ?_
   conv=>whnf
   refine cu (bk ?_)
   conv=>whnf
   refine lq ?_
   conv=>whnf
   refine Iq (id:=o) rfl (by rw[aW (by omega),aW (by omega)];exact hM.rg.out) rfl rfl SX N4 ⟨_,rfl⟩ hM.L5 ?_
   rintro es' ck' (⟨i',p,h1,h2,_,_⟩|⟨_,rfl,rfl⟩)
   · exfalso
     obtain⟨j,h3,h4⟩:=hM.keys p (List.mem_of_getElem? h1)
     rw[h2]at h4
     simp only[Value.int.injEq,true_and]at h4
     omega
   conv=>whnf
   have La:=Ms.add (hq:=((c+35).succ, .mp [] 0)::((c+7).succ+4+4, .row 5 [List.map C.t [.val (.string nm),tI a,tI b, .aA 1 af, .aA 1 us]])::hp) (cm:=(c+35).succ) (c':=(c+36).succ) hM (by omega) (by omega) (by rw[ai,if_pos rfl]) (fun q hq=>by rw[aW (by omega),aW (by omega)])
   refine cu (bk ?_)
   refine Va (id:=(c+7).succ+4+4) (cs:=[.val (.string nm),tI a,tI b, .aA 1 af, .aA 1 us]) rfl (by rw[bt,if_neg (by omega),aW (by omega),ai,if_pos rfl]) rfl ?_
   conv=>whnf
   refine jv (vp [0,4,5,16,17,18,27,28,29] (IB l i af) af.length ⟨0,o,_,_,by omega,La.mono (Nat.le_refl _) (by omega),by simp[Xy],⟨_,List.mem_append_right _ (List.mem_singleton.2 rfl),rfl⟩,rfl,rfl⟩ ?_)
   rintro m tm hp c ⟨j,o,es,ck,hj,hM,Xy,⟨pe,hpe,hpk⟩,rfl,rfl⟩
   refine cu (bk ?_)
   conv=>whnf
   refine cu (mC (b:=decide ((j:Int) < (af.length:Int))) rfl (fun h=>mB ?_) (fun h=>ri ?_))
   · conv=>whnf
     have agW:j < af.length:=by simpa using h
     refine cu (jv (cu (bk ?_)))
     conv=>whnf
     refine ak (xs:=af) Ti (by omega) (by omega) ?_
     rintro _ ⟨x,rfl⟩ hs
     conv=>whnf
     refine bk ?_
     conv=>whnf
     refine It (id:=o) rfl hM.rg.out rfl SX zMp N4 ⟨_,rfl⟩ hM.L5 (fun i2 p hp2 JL=>?_) (fun hne=>absurd hpk (hne pe hpe))
     have JH:=List.mem_of_getElem? hp2
     obtain⟨_,_,id,ei,ci,wF,Xl,K8,hnk,hkk⟩:=hM.rg.FQ p JH
     rw[wF]
     conv=>whnf
     refine Iq (id:=id) rfl K8 rfl rfl Vr N4 ⟨_,rfl⟩ hkk ?_
     rintro To ci' hput
     conv=>whnf
     refine bk ?_
     conv=>whnf
     have hw:IntKind.i64.wrap ((j:Int)+1)=((j+1:Nat):Int):=by
      simp only[maxLen]at Mu
      rw[bi (by omega) (by omega)]
      rfl
     have ahC: ∀x,x∈To→oN x.1:=by
      intro x hx
      rcases hput with⟨i3,p3,h3,h4,rfl,_⟩|⟨_,rfl,_⟩
      · rcases List.mem_or_eq_of_mem_set hx with hx|rfl
        · exact hkk x hx
        · exact⟨_,rfl⟩
      · rcases List.mem_append.1 hx with hx|hx
        · exact hkk x hx
        · rw[List.mem_singleton]at hx
          rw[hx]
          exact⟨_,rfl⟩
     exact⟨af.length - (j+1),by omega,j+1,o,es,ck,by omega,(hM.inner JH wF (hnk.put hput) ahC).mono (Nat.le_refl _) (by omega),Xy,⟨pe,hpe,hpk⟩,rfl,congrArg (fun z=>[(0,V.w (oL 5 l)),(4,mV o),(5,iV .i64 (i:Int)),(16, .w (oL 5 l)),(17,iV .i64 (l.length:Int)),(18,iV .i64 (i:Int)),(27, .w (oL 1 af)),(28,iV .i64 (af.length:Int)),(29,iV .i64 z)]) hw⟩
   · conv=>whnf
     refine bk ?_
     conv=>whnf
     have hw:IntKind.i64.wrap ((i:Int)+1)=((i+1:Nat):Int):=by
      rw[bi (by omega) (by omega)]
      rfl
     exact⟨l.length - (i+1),by omega,i+1,o,es,ck,by omega,hM.mono (Nat.le_refl _) (by omega),Xy,rfl,congrArg (fun z=>[(0,V.w (oL 5 l)),(4,mV o),(16, .w (oL 5 l)),(17,iV .i64 (l.length:Int)),(18,iV .i64 z)]) hw⟩
 · conv=>whnf
   have zH:i=l.length:=by
    have:¬ ((i:Int) < (l.length:Int)):=by simpa using h
    omega
   refine cu (bk ?_)
   conv=>whnf
   refine cu (jv (vp [0,4,9] (IC l) es.length ⟨o,es,ck,_,[],hM.mono (by omega) (by omega), .inl ⟨rfl,rfl⟩,fun e he=>by simp at he,by simp only[List.length_nil];omega,rfl,rfl⟩ ?_))
   rintro m tm hp c ⟨o,es,ck,v,xs,hM,QW,hxs,hlen,rfl,rfl⟩
   refine cu (cu (bk ?_))
   conv=>whnf
   refine Ir (id:=o) rfl hM.rg.out SX ?_
   conv=>whnf
   refine mC (b:=decide ((es.length:Int) > 0)) rfl (fun h=>mB ?_) (fun h=>ri ?_)
   · conv=>whnf
     refine jv (cu (bk ?_))
     conv=>whnf
     refine MO (MD l es o v hp c) (jv (vp [0,4,9,10] (ID l o v hp c) l.length ⟨0,by omega,rfl,by omega,rfl,rfl⟩ ?_)) ?_
     · rintro m tm hp' c' ⟨k,hk,rfl,hc,rfl,rfl⟩
       refine cu (cu (bk ?_))
       conv=>whnf
       refine mC (b:=decide ((k:Int) < (l.length:Int))) rfl (fun h=>mB ?_) (fun h=>ri ?_)
       · have Hr:k < l.length:=by simpa using h
         conv=>whnf
         refine jv (cu (cu (bk ?_)))
         conv=>whnf
         refine Fi (id:=o) rfl hM.rg.out rfl SX zMp N4 ⟨_,rfl⟩ hM.L5 (fun i2 p hp2 JL=>?_) (fun hne=>?_)
         · have JH:=List.mem_of_getElem? hp2
           obtain⟨_,_,id,ei,ci,wF,Xl,K8,hnk,hkk⟩:=hM.rg.FQ p JH
           rw[wF]
           conv=>whnf
           refine cu (bk ?_)
           conv=>whnf
           refine Ir (id:=id) rfl K8 Vr ?_
           conv=>whnf
           refine mC (b:=((ei.length:Int)==0)) rfl (fun h=>ri ?_) (fun h=>mB ?_)
           · conv=>whnf
             exact⟨k,hk,fun _=>⟨p,JH,JL⟩,rfl,by omega,rfl⟩
           · conv=>whnf
             refine bk ?_
             conv=>whnf
             have hw:IntKind.i64.wrap ((k:Int)+1)=((k+1:Nat):Int):=by
              rw[bi (by omega) (by omega)]
              rfl
             exact⟨l.length - (k+1),by omega,k+1,by omega,rfl,by omega,rfl,congrArg (fun z=>[(0,V.w (oL 5 l)),(4,mV o),(9,v),(10,iV .i64 z)]) hw⟩
         · conv=>whnf
           refine cu (bk ?_)
           conv=>whnf
           refine mC (b:=false) rfl (fun h=>absurd h (by decide)) (fun h=>mB ?_)
           conv=>whnf
           refine bk ?_
           conv=>whnf
           have hw:IntKind.i64.wrap ((k:Int)+1)=((k+1:Nat):Int):=by
            rw[bi (by omega) (by omega)]
            rfl
           exact⟨l.length - (k+1),by omega,k+1,by omega,rfl,by omega,rfl,congrArg (fun z=>[(0,V.w (oL 5 l)),(4,mV o),(9,v),(10,iV .i64 z)]) hw⟩
       · conv=>whnf
         exact⟨k,hk,fun h2=>by simp at h;omega,rfl,by omega,rfl⟩
     · rintro tm hp' c' ⟨k,hk,hkey,rfl,hc,hkeep⟩
       refine F8 [0,4,9,10] ?_
       rw[hkeep]
       clear hkeep
       refine cu (cu (bk ?_))
       conv=>whnf
       refine mC (b:=((k:Int)== (l.length:Int))) rfl (fun h=>cu (bk ?_)) (fun h=>mB ?_)
       · conv=>whnf
         refine EO ?_
         conv=>whnf
         exact⟨[.one (.t (.val (.slice none 0 0))),oB false],[.one (.t (.val (.slice none 0 0))),oB false],rfl,rfl,[oL 1 [],oB false], .cons (.one (.nil 1)) (.cons (.one (.refl _)) .nil),rfl,[],false,rfl,fun e he=>by simp at he⟩
       · have Hr:k < l.length:=by
          have:(k:Int)≠ (l.length:Int):=by simpa using h
          omega
         obtain⟨pk,hpk,agI⟩:=hkey Hr
         conv=>whnf
         refine cu (bk ?_)
         conv=>whnf
         refine U7 (id:=o) rfl hM.rg.out rfl SX N4 hM.L5 hM.nk ?_
         conv=>whnf
         have La:=hM.del (k:Int)
         have hM3:=La.erase (k:Int)
         refine cu (F8 [0,4,9,10] ?_)
         refine Kp (es:=er (k:Int) es) (ck:=ck) (o:=o) (kk:=(k:Int)) SX Vr N4 La.rg rfl rfl (fun t v hv=>?_) ?_
         · have:=wU hv
           simp only[List.mem_cons,List.not_mem_nil,or_false]at this
           omega
         · have hel:=XW hpk agI
           have Of:xJ v (hE (Sa (er (k:Int) es)) (k:Int) (jx hp' o (.mp (er (k:Int) es) ck))) c xs:=by
            refine QW.of (Nat.le_refl _) (fun q sz ys hq=>Dc ?_)
            rw[bt,if_neg]
            · exact hq
            · rintro rfl
              rw[hM.rg.out]at hq
              simp at hq
           generalize hE (Sa (er (k:Int) es)) (k:Int) (jx hp' o (.mp (er (k:Int) es) ck))=hq at hM3 Of⊢
           conv=>whnf
           refine bk ?_
           refine U3 (v:=v) (kk:=(k:Int)) rfl rfl (Of.of ?_ (fun _ _ _ h=>h)) (by omega) ?_
           · omega
           · intro S9 v3 Mh hm3
             conv=>whnf
             refine⟨(er (k:Int) es).length,hel,o,er (k:Int) es,ck,v3,xs++[[tI (k:Int)]],?_,Mh,?_,?_,rfl,rfl⟩
             · exact(hM3.mono (Nat.le_refl _) (by omega)).heap hm3 |>.mono (Nat.le_refl _) (by omega)
             · intro e he
               rcases List.mem_append.1 he with he|he
               · exact hxs e he
               · rw[List.mem_singleton]at he
                 exact⟨_,he⟩
             · simp only[List.length_append,List.length_singleton]
               omega
   · conv=>whnf
     refine cu (bk ?_)
     rcases QW with⟨rfl,rfl⟩|⟨FH,h1,rfl,h3⟩
     · conv=>whnf
       refine EO ?_
       conv=>whnf
       exact⟨[.one (.t (.val (.slice none 0 0))),oB true],[.one (.t (.val (.slice none 0 0))),oB true],rfl,rfl,[oL 1 [],oB true], .cons (.one (.nil 1)) (.cons (.one (.refl _)) .nil),rfl,[],true,rfl,fun e he=>by simp at he⟩
     · conv=>whnf
       refine EO ?_
       conv=>whnf
       refine⟨[.one (.own FH 1 0 xs.length),oB true],[oL 1 xs,oB true],rfl,?_,[oL 1 xs,oB true],jF.refl _,rfl,xs,true,rfl,hxs⟩
       have hfr:=kI (i:=0) (len:=xs.length) h3 rfl (by omega)
       have e:((xs.drop 0).take xs.length)=xs:=by simp
       rw[e]at hfr
       simp only[bE,hfr]
       rfl
theorem qI (l:Lz) (hop: ∀e,e∈l→Fc e) (hl:l.length≤1000000):Tg 128 [oL 5 l] YE:=aH (pQ l hop hl)
end Go.aR.Cd
end
section
namespace Go.aR.Cd
open Go Go.Proofs
set_option maxRecDepth 100000
set_option maxHeartbeats 1000000
theorem RQ.Wf {Q:List T→Prop} {xs:Lz} {i:Nat} (hi:(i:Int) < (xs.length:Int)) (hl:xs.length≤maxLen) (h:Pre Q xs i) (hq: ∀e,xs[((i:Int)).toNat]? =some e→Q e):RQ Q xs (xs.length - (i+1)) [iV .i64 (IntKind.i64.wrap ((i:Int)+1))]:=by
 have hlt:i < xs.length:=by omega
 have hs:xs[((i:Int)).toNat]? =some xs[i]:=by simp[hlt]
 exact RQ.next hi hl h hs (hq _ hs)
theorem oD (l:Lz) (xU:Int) (hop: ∀e,e∈l→Fc e) (hl:l.length≤maxLen):Tg 95 [oL 5 l,oI xU] (Li 1 (fun _=>0≤xU→ ∀e,e∈l→M8 xU e)):=by
 refine aH ?_
 refine ae Tryz.func95 ?_
 repeat' (conv=>whnf
          first
  |(refine az (fun h=>?_) (fun h=>?_))
  |(refine bC (fun h=>?_) (fun h=>?_))
  |(refine aF (fun h=>?_) (fun h=>?_))
  |(refine ag rfl (pP l _ xU hop hl (by omega) (by omega)) ?_;rintro _ ⟨e,rfl,hc⟩)
  |(refine ag rfl (qI l hop (by omega)) ?_;rintro _ ⟨ord,b,rfl,QW⟩)
  |exact dh rfl (bJ 1 rfl) (bN rfl) ⟨_,_,rfl,fun h0=>absurd h0 (by omega)⟩
  |exact dh rfl (bN rfl) (bN rfl) ⟨_,_,rfl,fun _ hu e he=>hp.all (by omega) e he hu⟩
  |(apply aL [0,1,14,15] [] [15] (RQ (fun e=>0≤xU→M8 xU e) l) (l.length) [iV .i64 0];(conv=>whnf);exact⟨rfl,rfl,rfl,rfl⟩;exact rfl;exact rfl;exact RQ.zero;rintro _ _ ⟨i,hi,hp,rfl,rfl⟩)
  |(refine aj [0,1,14,15] [] ?_;(conv=>whnf);exact⟨rfl,_,[_],RQ.Wf (by omega) hl hp (fun e he hu=>hc (by omega) hu e he),rfl,rfl,rfl,by omega⟩))
 all_goals (conv=>whnf)
def Tw (N:Nat) (xs:Lz) (m:Nat) (vs:List V) (xss:List (Lz)):Prop:= ∃ (i:Nat) (zs:Lz),i≤xs.length∧m=xs.length - i∧vs=[iV .i64 (i:Int)]∧xss=[zs]∧zs.length=N∧Bs zs
theorem Tw.next {N:Nat} {xs zs:Lz} {i:Nat} (hi:(i:Int) < (xs.length:Int)) (hl:xs.length≤maxLen) (hz:zs.length=N) (hZ:Bs zs):Tw N xs (xs.length - (i+1)) [iV .i64 (IntKind.i64.wrap ((i:Int)+1))] [zs]:=
 ⟨i+1,zs,by omega,rfl,by simp only[maxLen]at hl;rw[bi (by omega) (by omega)];rfl,rfl,hz,hZ⟩
def ZR (zs:Lz) (m:Nat) (vs:List V) (xss:List (Lz)):Prop:= ∃i:Nat,i≤zs.length∧m=zs.length - i∧vs=[iV .i64 (i:Int)]∧xss=[zs]
theorem ZR.next {zs:Lz} {i:Nat} (hi:(i:Int) < (zs.length:Int)) (hl:zs.length≤maxLen):ZR zs (zs.length - (i+1)) [iV .i64 (IntKind.i64.wrap ((i:Int)+1))] [zs]:=
 ⟨i+1,by omega,rfl,by simp only[maxLen]at hl;rw[bi (by omega) (by omega)];rfl,rfl⟩
theorem uu (sn:ByteArray) (bz ms ps us ss os:Lz) (hS:gZ sn bz ms ps us ss os):Tg 71 [fW sn bz ms ps us ss os] (mS (fun n=>n=0→YK bz ms ps us ss os)):=by
 have Mg:=hS.Mg
 have hxl:=hS.En
 refine ae Tryz.func71 ?_
 repeat' (conv=>whnf
          first
  |(refine az (fun h=>?_) (fun h=>?_))
  |(refine bC (fun h=>?_) (fun h=>?_))
  |(refine aF (fun h=>?_) (fun h=>?_))
  |(refine And.intro ⟨by omega,by omega,by have:=(hC (by omega)).1.2.1;omega,by have:=(hC (by omega)).1.2.1;omega⟩ ?_)
  |(refine ak (xs:=ul) huu (by omega) (by omega) ?_;rintro _ ⟨x,rfl,hx0,rK⟩ bP)
  |(refine ak (xs:=os) (fun e he=>(⟨hS.hos e he,hU (by omega) (by omega) e he⟩:Fc e∧M8 us.length e)) (by omega) (by omega) ?_;rintro _ ⟨_,nm,om,ot,af,ul,rfl,En,huu⟩ hs)
  |(refine And.intro ⟨by omega,by omega⟩ ?_)
  |(refine ag rfl (jk sn bz ms ps us ss os hS) ?_;rintro _ ⟨e,rfl,hC⟩)
  |(refine ag rfl (oD os us.length hS.hos hS.Mg) ?_;rintro _ ⟨ord,e2,rfl,hU⟩)
  |(refine bM (xs:=xQ) rfl hZ2 (by omega) ?_;rintro _ ⟨b,rfl⟩ Za)
  |(refine bM (xs:=zs) rfl hZ (by omega) ?_;rintro _ ⟨b,rfl⟩ Za)
  |(refine iH rfl rfl (fun h0=>?_);first|(exfalso;omega)|exact hC (by omega))
  |(apply aS [53,54,55] [] [55] [(4,1)] (ZR zs) (zs.length) [iV .i64 0];(conv=>whnf);exact⟨rfl,rfl,rfl,rfl⟩;exact rfl;exact rfl;exact .cons (av.au (xs:=zs) rfl _) .nil;exact⟨0,by omega,rfl,rfl,rfl⟩;rintro _ _ _ ⟨q,hq,rfl,rfl,rfl⟩)
  |(refine aj [53,54,55] [] ?_;(conv=>whnf);exact⟨rfl,_,[_],_, .cons (av.au (xs:=zs) rfl _) .nil,ZR.next (by omega) (by omega),rfl,rfl,by omega⟩)
  |(apply aS [6,35,36,37,42,43,44] [] [44] [(4,1)] (Tw us.length ul) (ul.length) [iV .i64 0];(conv=>whnf);exact⟨rfl,rfl,rfl,rfl⟩;exact rfl;exact rfl;exact .cons (av.au (xs:=zs) rfl _) .nil;exact⟨0,zs,by omega,rfl,rfl,rfl,hz,hZ⟩;rintro _ _ _ ⟨j,xQ,hj,rfl,rfl,rfl,tE,hZ2⟩)
  |(refine aj [6,35,36,37,42,43,44] [] ?_;(conv=>whnf);exact⟨rfl,_,[_],_, .cons (av.au (av.set (xs:=xQ) rfl _ [tB _]) _) .nil,Tw.next (by omega) En (by simp[tE]) (hZ2.set _ _),rfl,rfl,by omega⟩)
  |(apply aS [6,35,36,37] [] [37] [(4,1)] (Tw us.length os) (os.length) [iV .i64 0];(conv=>whnf);exact⟨rfl,rfl,rfl,rfl⟩;exact rfl;exact rfl;exact .cons (av.au (av.replicate _ [tB false]) _) .nil;exact⟨0,_,by omega,rfl,rfl,rfl,by simp,Bs.I0 _ _⟩;rintro _ _ _ ⟨i,zs,hi,rfl,rfl,rfl,hz,hZ⟩)
  |(refine aj [6,35,36,37] [] ?_;(conv=>whnf);exact⟨rfl,_,[_],_, .cons (av.au (xs:=xQ) rfl _) .nil,Tw.next (by omega) Mg tE hZ2,rfl,rfl,by omega⟩))
 all_goals (conv=>whnf)
end Go.aR.Cd
end
section
namespace Go.aR.Cd
open Go Go.Proofs
set_option maxRecDepth 100000
set_option maxHeartbeats 1000000
def YA (e:List T):Prop:= ∃p q l s rs d,e=[tI p,tI q,tI l,tI s, .aA 1 rs,tB d]
abbrev Im (xs:Lz):Prop:= ∀e,e∈xs→YA e
def Ik (np nq:Nat) (e:List T):Prop:=0≤nI 0 e∧nI 0 e < (np:Int)∧0≤nI 1 e∧nI 1 e < (nq:Int)
instance (np nq:Nat) (e:List T):Decidable (Ik np nq e):=by unfold Ik;exact inferInstance
def BW (e1 e2 e3:Int) (np:Nat):Int:=if e1≠0 then e1 else if e2≠0 then e2 else if 40 < np then 5 else e3
def zT (e0:Int) (np nq:Nat) (cuts:Lz):Int:=if e0≠0 then e0 else if 2400 < cuts.length then 5 else if cuts.all (fun c=>decide (Ik np nq c))=true then 0 else 3
section
variable {e1 e2 e3:Int} {np nq:Nat} {cuts:Lz}
theorem ajU (h:e1≠0):e1=zT (BW e1 e2 e3 np) np nq cuts:=by simp[zT,BW,h]
theorem ajT (h:e1=0) (h2:e2≠0):e2=zT (BW e1 e2 e3 np) np nq cuts:=by simp[zT,BW,h,h2]
theorem ajS (h:e1=0) (h2:e2=0) (h3:40 < np):5=zT (BW e1 e2 e3 np) np nq cuts:=by simp[zT,BW,h,h2,h3]
theorem ajR (h:e1=0) (h2:e2=0) (h3:np≤40) (h4:e3≠0):e3=zT (BW e1 e2 e3 np) np nq cuts:=by
 have BV:¬40 < np:=by omega
 simp[zT,BW,h,h2,BV,h4]
theorem ajQ (h:e1=0) (h2:e2=0) (h3:np≤40) (h4:e3=0) (h5:2400 < cuts.length):5=zT (BW e1 e2 e3 np) np nq cuts:=by
 have BV:¬40 < np:=by omega
 simp[zT,BW,h,h2,BV,h4,h5]
theorem ajP (h:e1=0) (h2:e2=0) (h3:np≤40) (h4:e3=0) (h5:cuts.length≤2400) {i:Nat} {e:List T} (hs:cuts[i]? =some e) (hn:¬Ik np nq e):3=zT (BW e1 e2 e3 np) np nq cuts:=by
 have BV:¬40 < np:=by omega
 have XP:¬2400 < cuts.length:=by omega
 have h6:¬ (cuts.all (fun c=>decide (Ik np nq c))=true):=by
  intro ha
  have:=List.all_eq_true.1 ha e (List.mem_of_getElem? hs)
  exact hn (by simpa using this)
 simp only[zT,BW,h,h2,BV,h4,XP,h6,ne_eq,not_true_eq_false,if_false,Bool.false_eq_true]
theorem ajO (h:e1=0) (h2:e2=0) (h3:np≤40) (h4:e3=0) (h5:cuts.length≤2400) (ha: ∀e,e∈cuts→Ik np nq e):0=zT (BW e1 e2 e3 np) np nq cuts:=by
 have BV:¬40 < np:=by omega
 have XP:¬2400 < cuts.length:=by omega
 have h6:cuts.all (fun c=>decide (Ik np nq c))=true:=List.all_eq_true.2 (fun e he=>by simpa using ha e he)
 simp only[zT,BW,h,h2,BV,h4,XP,h6,ne_eq,not_true_eq_false,if_false,if_true]
end
theorem X8 {e1 e2 e3:Int} {np:Nat} (h:BW e1 e2 e3 np=0):e1=0∧e2=0∧np≤40∧e3=0:=by
 unfold BW at h
 split at h
 · omega
 · split at h
   · omega
   · split at h
     · omega
     · refine⟨by omega,by omega,by omega,h⟩
theorem zS {e0:Int} {np nq:Nat} {cuts:Lz} (h:zT e0 np nq cuts=0):e0=0∧cuts.length≤2400∧ ∀e,e∈cuts→Ik np nq e:=by
 unfold zT at h
 split at h
 · omega
 · split at h
   · omega
   · split at h
     · rename_i h1 h2 h3
       exact⟨by omega,by omega,fun e he=>by simpa using List.all_eq_true.1 h3 e he⟩
     · omega
theorem uU (sn:ByteArray) (bz ms ps us ss os:Lz) (ln wd rx ry:Int) (sizes places plies bs cuts:Lz) (e1 e2 e3:Int) (h1:Te 71 [fW sn bz ms ps us ss os] [oI e1]) (h2:Te 72 [fW sn bz ms ps us ss os,LS ln wd rx ry sizes places] [oI e2]) (h3:Te 73 [fM ln wd rx ry sizes places plies,oL 6 bs] [oI e3]) (hc:Im cuts) (dA:cuts.length≤maxLen):Tg 43 [fW sn bz ms ps us ss os,fM ln wd rx ry sizes places plies,oL 6 bs,oL 6 cuts] (mS (fun n=>n=zT (BW e1 e2 e3 plies.length) plies.length places.length cuts)):=by
 refine ae Tryz.func43 ?_
 repeat' (conv=>whnf
          first
  |(refine az (fun h=>?_) (fun h=>?_))
  |(refine bC (fun h=>?_) (fun h=>?_))
  |(refine ak (xs:=cuts) hc (by omega) (by omega) ?_;rintro _ ⟨p,q,lo,sz,rs,d,rfl⟩ hs)
  |(refine ag rfl (h1) ?_;rintro _ rfl)
  |(refine ag rfl (h2) ?_;rintro _ rfl)
  |(refine ag rfl (h3) ?_;rintro _ rfl)
  |(refine iH rfl rfl ?_;first|exact ajU (by omega)|exact ajT (by omega) (by omega)|exact ajS (by omega) (by omega) (by omega)|exact ajR (by omega) (by omega) (by omega) (by omega)|exact ajQ (by omega) (by omega) (by omega) (by omega) (by omega)|exact ajO (by omega) (by omega) (by omega) (by omega) (by omega) (hp.all (by omega))|exact ajP (by omega) (by omega) (by omega) (by omega) (by omega) hs (fun hc=>by have c1:(0:Int)≤p:=hc.1;have c2:p < (plies.length:Int):=hc.2.1;have c3:(0:Int)≤q:=hc.2.2.1;have c4:q < (places.length:Int):=hc.2.2.2;omega))
  |(apply aL [5,39,40,41] [] [41] (RQ (Ik plies.length places.length) cuts) (cuts.length) [iV .i64 0];(conv=>whnf);exact⟨rfl,rfl,rfl,rfl⟩;exact rfl;exact rfl;exact RQ.zero;rintro _ _ ⟨i,hi,hp,rfl,rfl⟩)
  |(refine aj [5,39,40,41] [] ?_;(conv=>whnf);exact⟨rfl,_,[_],RQ.next (by omega) dA hp hs ⟨show(0:Int)≤p by omega,show p < (plies.length:Int) by omega,show(0:Int)≤q by omega,show q < (places.length:Int) by omega⟩,rfl,rfl,rfl,by omega⟩))
 all_goals (conv=>whnf)
end Go.aR.Cd
end
section
namespace Go.aR.Cd
open Go Go.Proofs
set_option maxRecDepth 100000
set_option maxHeartbeats 1000000
structure xK (sizes places plies:Lz):Prop where
 hz:Is sizes
 gR:sizes.length≤1000000
 hp:KR places
 Bb:places.length≤1000000
 hy:SA plies
 jT:plies.length≤1000000
theorem xz (sn:ByteArray) (bz ms ps us ss os:Lz) (hS:gZ sn bz ms ps us ss os) (ln wd rx ry:Int) (sizes places plies:Lz) (hL:xK sizes places plies) (bs:Lz) (hb:B0 bs) (Ig:bs.length≤maxLen):
 ∃e0:Int,(e0=0→plies.length≤40∧Ag sizes plies bs bs.length)∧ ∀cuts,Im cuts→cuts.length≤maxLen→
  Te 43 [fW sn bz ms ps us ss os,fM ln wd rx ry sizes places plies,oL 6 bs,oL 6 cuts] [oI (zT e0 plies.length places.length cuts)]:=by
 have h1:=hL.gR
 have h2:=hL.jT
 obtain⟨ts1,f1,i1,e1,rfl,_⟩:=uu sn bz ms ps us ss os hS
 obtain⟨ts2,f2,i2,e2,rfl⟩:=AW sn bz ms ps us ss os hS ln wd rx ry sizes places hL.hz (by simp only[maxLen];omega) hL.hp hL.Bb
 obtain⟨ts3,f3,i3,e3,rfl,Ou⟩:=BG ln wd rx ry sizes places plies bs hL.hz hL.gR hL.hy (by simp only[maxLen];omega) hb Ig
 refine⟨BW e1 e2 e3 plies.length,fun h0=>?_,fun cuts hc dA=>?_⟩
 · obtain⟨_,_,h3,h4⟩:=X8 h0
   exact⟨h3,Ou h4⟩
 · obtain⟨ts,f,i,n,rfl,rfl⟩:=uU sn bz ms ps us ss os ln wd rx ry sizes places plies bs cuts e1 e2 e3 ⟨_,f1,i1,rfl⟩ ⟨_,f2,i2,rfl⟩ ⟨_,f3,i3,rfl⟩ hc dA
   exact⟨_,f,i,rfl⟩
def pY (place dc fN size:Int) (c:List T):Bool:=decide (nI 1 c=place)&&decide (nI 0 c=dc)&& !nB 5 c&&decide (nI 2 c=fN)&&decide (nI 3 c=size)
def F4 (cuts:Lz) (dc fN size:Int) (j:Nat):Option Nat:=cuts.findIdx? (pY (j:Int) dc fN size)
def eD (g:Int) (fi:Nat→Option Nat) (places:Lz):Nat→Option (Lz)
 |0=>some []
 |j+1=>match eD g fi places j with
  |none=>none
  |some zs=>match places[j]? with
   |none=>some zs
   |some p=>if nI 0 p=g then match fi j with
     |none=>none
     |some i=>some (zs++[[tI (i:Int)]])
    else some zs
theorem wg {g:Int} {fi:Nat→Option Nat} {places:Lz} {j:Nat} (h:eD g fi places j=none): ∀d,eD g fi places (j+d)=none
 |0=>h
 |d+1=>by
  have:=wg h d
  rw[←Nat.add_assoc]
  simp only[eD,this]
def adQ (o:Option (Lz)):List W:=match o with
 |none=>[oL 1 [],oB false]
 |some zs=>[oL 1 zs,oB true]
def Sx (g:Int) (fi:Nat→Option Nat) (places:Lz) (m:Nat) (vs:List V) (xss:List (Lz)):Prop:=
 ∃ (j:Nat) (zs:Lz),j≤places.length∧m=places.length - j∧vs=[bn 4 1 zs.length,iV .i64 (j:Int)]∧xss=[zs]∧zs.length≤j∧eD g fi places j=some zs
theorem Sx.skip {g:Int} {fi:Nat→Option Nat} {places zs:Lz} {j:Nat} {p:List T} (hj:(j:Int) < (places.length:Int)) (hl:places.length≤1000000) (gR:zs.length≤j) (hz:eD g fi places j=some zs) (hs:places[((j:Int)).toNat]? =some p) (hg:nI 0 p≠g):
 Sx g fi places (places.length - (j+1)) [bn 4 1 zs.length,iV .i64 (IntKind.i64.wrap ((j:Int)+1))] [zs]:=by
 refine⟨j+1,zs,by omega,rfl,by rw[bi (by omega) (by omega)];rfl,rfl,by omega,?_⟩
 have hs':places[j]? =some p:=by simpa using hs
 simp only[eD,hz,hs',if_neg hg]
theorem Sx.hit {g:Int} {fi:Nat→Option Nat} {places zs:Lz} {j i:Nat} {p:List T} (hj:(j:Int) < (places.length:Int)) (hl:places.length≤1000000) (gR:zs.length≤j) (hz:eD g fi places j=some zs) (hs:places[((j:Int)).toNat]? =some p) (hg:nI 0 p=g) (hf:fi j=some i) {n:Nat} (hn:n=zs.length+1):
 Sx g fi places (places.length - (j+1)) [bn 4 1 n,iV .i64 (IntKind.i64.wrap ((j:Int)+1))] [zs++[[tI (i:Int)]]]:=by
 refine⟨j+1,zs++[[tI (i:Int)]],by omega,rfl,by rw[bi (by omega) (by omega)];subst hn;simp,rfl,by simp;omega,?_⟩
 have hs':places[j]? =some p:=by simpa using hs
 simp only[eD,hz,hs',if_pos hg,hf]
theorem MH {cuts:Lz} {dc fN size:Int} {j i:Nat} {e:List T} (hp:Pre (fun e=>¬ (pY (j:Int) dc fN size e=true)) cuts i) (hs:cuts[((i:Int)).toNat]? =some e) (he:pY (j:Int) dc fN size e=true):F4 cuts dc fN size j=some i:=by
 have hs':cuts[i]? =some e:=by simpa using hs
 unfold F4
 rw[List.findIdx?_eq_some_iff_getElem]
 obtain⟨hlt,hge⟩:=List.getElem?_eq_some_iff.1 hs'
 refine⟨hlt,by rw[hge];exact he,fun k hk=>?_⟩
 have:=hp k cuts[k] hk (by simp[Nat.lt_trans hk hlt])
 simpa using this
theorem MI {cuts:Lz} {dc fN size:Int} {j:Nat} (hp: ∀e,e∈cuts→¬ (pY (j:Int) dc fN size e=true)):F4 cuts dc fN size j=none:=by
 unfold F4
 rw[List.findIdx?_eq_none_iff]
 intro e he
 simpa using hp e he
theorem I8 {g:Int} {fi:Nat→Option Nat} {places zs:Lz} {j:Nat} {p:List T} (hj:(j:Int) < (places.length:Int)) (hz:eD g fi places j=some zs) (hs:places[((j:Int)).toNat]? =some p) (hg:nI 0 p=g) (hf:fi j=none):eD g fi places places.length=none:=by
 have hs':places[j]? =some p:=by simpa using hs
 have h1:eD g fi places (j+1)=none:=by simp only[eD,hz,hs',if_pos hg,hf]
 have:=wg h1 (places.length - (j+1))
 rwa [show j+1+(places.length - (j+1))=places.length by omega]at this
theorem Q7 {place dc fN size p q l s:Int} {rs:Lz} {d:Bool} (h1:q=place) (h2:p=dc) (h3:(!d)=true) (h4:l=fN) (h5:s=size):pY place dc fN size [tI p,tI q,tI l,tI s, .aA 1 rs,tB d]=true:=by
 subst h1 h2 h4 h5
 simp[pY,nI,nB]
 simpa using h3
def RCu (Q:List T→Prop) (cuts zs:Lz) (m:Nat) (vs:List V) (xss:List (Lz)):Prop:= ∃i:Nat,i≤cuts.length∧Pre Q cuts i∧m=cuts.length - i∧vs=[iV .i64 (-1),iV .i64 (i:Int)]∧xss=[zs]
theorem RCu.next {Q:List T→Prop} {cuts zs:Lz} {i:Nat} {e:List T} (hi:(i:Int) < (cuts.length:Int)) (hl:cuts.length≤maxLen) (h:Pre Q cuts i) (hs:cuts[((i:Int)).toNat]? =some e) (hq:Q e):RCu Q cuts zs (cuts.length - (i+1)) [iV .i64 (-1),iV .i64 (IntKind.i64.wrap ((i:Int)+1))] [zs]:=
 ⟨i+1,by omega,h.succ (by simpa using hs) hq,rfl,by simp only[maxLen]at hl;rw[bi (by omega) (by omega)];rfl,rfl⟩
theorem uT (ln wd rx ry:Int) (sizes places plies cuts:Lz) (hp:KR places) (Bb:places.length≤1000000) (hc:Im cuts) (dA:cuts.length≤maxLen) (g dc fN size:Int) (qq:T) (yx:0≤g) (hy0:0≤dc) (Q3:plies[dc.toNat]? =some [tI fN,qq]) (hsize:sizes[g.toNat]? =some [tI size]): ∃ts,Fn Tryz.prog 44 [fM ln wd rx ry sizes places plies,oL 6 cuts,oI g,oI dc] [] (aO ts) []∧(aO ts).cV=true∧(fun ts=>ts=adQ (eD g (F4 cuts dc fN size) places places.length)) ts:=by
 refine aH ?_
 refine ae Tryz.func44 ?_
 repeat' (conv=>whnf
          first
  |(refine az (fun h=>?_) (fun h=>?_))
  |(refine bC (fun h=>?_) (fun h=>?_))
  |(refine aF (fun h=>?_) (fun h=>?_))
  |(refine And.intro hy0 (Exists.intro _ (And.intro Q3 ?_)))
  |(refine And.intro yx (Exists.intro _ (And.intro hsize ?_)))
  |(refine ak (xs:=places) hp (by omega) (by omega) ?_;rintro _ ⟨g2,u2,k2,f2,q2,x2,y2,rfl⟩ hs)
  |(refine ak (xs:=cuts) hc (by omega) (by omega) ?_;rintro _ ⟨p3,q3,l3,s3,r3,d3,rfl⟩ bP)
  |(refine And.intro ⟨by simp[tr],by simp[tr,aT];omega,by simp[tr,maxLen];omega⟩ ?_)
  |(refine And.intro (by kernel_rfl) ?_)
  |exact dh rfl (bJ 1 rfl) (bN rfl) (by rw[I8 (by omega) hz hs (show g2=g by omega) (MI (hpre.all (by omega)))];rfl)
  |exact dh rfl (eO rfl rfl (xs:=zs) rfl (by omega)) (bN rfl) (by rw[dS rfl,show places.length=j by omega,hz];rfl)
  |(apply aS [1,2,3,10,11,12,13,15,32,33,34,43,44,45] [] [15,45] [(4,1)] (RCu (fun e=>¬ (pY (j:Int) dc fN size e=true)) cuts zs) (cuts.length) [iV .i64 (-1),iV .i64 0];(conv=>whnf);exact⟨rfl,rfl,rfl,rfl⟩;exact rfl;exact rfl;exact .cons (av.au (xs:=zs) rfl _) .nil;exact⟨0,by omega,Pre.zero,rfl,rfl,rfl⟩;rintro _ _ _ ⟨i,hi,hpre,rfl,rfl,rfl⟩)
  |(refine aj [1,2,3,10,11,12,13,15,32,33,34,43,44,45] [] ?_;(conv=>whnf);exact⟨rfl,_,[_,_],_, .cons (av.au (xs:=zs) rfl _) .nil,RCu.next (by omega) dA hpre bP (by simp[pY,nI,nB];first|omega|simp_all),rfl,rfl,by omega⟩)
  |(apply dI [1,2,3,10,11,12,32,33,34] [] [12,34] [(4,1)] (Sx g (F4 cuts dc fN size) places) (places.length) [bn 4 1 0,iV .i64 0] (dL.iL 12 1 rfl);(conv=>whnf);exact⟨rfl,rfl,rfl,rfl⟩;exact rfl;exact rfl;exact .cons (av.au av.nil _) .nil;exact⟨0,[],by omega,rfl,rfl,rfl,by simp,rfl⟩;rintro _ _ _ ⟨j,zs,hj,rfl,rfl,rfl,gR,hz⟩)
  |(refine aj [1,2,3,10,11,12,32,33,34] [] ?_;(conv=>whnf);first|exact⟨rfl,_,[_,_],_, .cons (av.au (xs:=zs) rfl _) .nil,Sx.skip (by omega) Bb gR hz hs (by assumption),rfl,rfl,by omega⟩|exact⟨rfl,_,[_,_],_, .cons (av.au (av.snoc (xs:=zs) rfl [tI _]) _) .nil,Sx.hit (by omega) Bb gR hz hs (show g2=g by omega) (MH hpre bP (Q7 (by omega) (by omega) (by first|assumption|simp_all) (by omega) (by omega))) (by simp[tr]),rfl,rfl,by omega⟩))
 all_goals (conv=>whnf)
end Go.aR.Cd
end
section
namespace Go.aR.Cd
open Go Go.Proofs
set_option maxRecDepth 100000
set_option maxHeartbeats 1000000
theorem aBd:jw Tryz.prog 134=some true:=by kernel_rfl
theorem zBd:cA Tryz.prog 134=some 6:=by kernel_rfl
def DQ (bs:Lz) (fp:Int):Option (List T):=bs.find? (fun e=>decide (nI 0 e=fp))
def GFd (bs:Lz) (fp:Int) (ts:List W):Prop:= ∃t g s l f o b,ts=[oBd t g s l f o,oB b]∧(b=true→DQ bs fp=some (jK t g s l f o))∧(b=false→DQ bs fp=none)
def RCv (Q:List T→Prop) (cuts zs:Lz) (m:Nat) (vs:List V) (xss:List (Lz)):Prop:= ∃i:Nat,i≤cuts.length∧Pre Q cuts i∧m=cuts.length - i∧vs=[iV .i64 (i:Int)]∧xss=[zs]
theorem RCv.next {Q:List T→Prop} {cuts zs:Lz} {i:Nat} {e:List T} (hi:(i:Int) < (cuts.length:Int)) (hl:cuts.length≤maxLen) (h:Pre Q cuts i) (hs:cuts[((i:Int)).toNat]? =some e) (hq:Q e):RCv Q cuts zs (cuts.length - (i+1)) [iV .i64 (IntKind.i64.wrap ((i:Int)+1))] [zs]:=
 ⟨i+1,by omega,h.succ (by simpa using hs) hq,rfl,by simp only[maxLen]at hl;rw[bi (by omega) (by omega)];rfl,rfl⟩
theorem ME {bs:Lz} {fp:Int} {i:Nat} {e:List T} (hp:Pre (fun e=>¬ (nI 0 e=fp)) bs i) (hs:bs[((i:Int)).toNat]? =some e) (he:nI 0 e=fp):DQ bs fp=some e:=by
 have hs':bs[i]? =some e:=by simpa using hs
 unfold DQ
 rw[List.find?_eq_some_iff_getElem]
 obtain⟨hlt,hge⟩:=List.getElem?_eq_some_iff.1 hs'
 refine⟨by simpa using he,i,hlt,hge,fun j hj=>?_⟩
 have:=hp j bs[j] hj (by simp[Nat.lt_trans hj hlt])
 simpa using this
theorem J6 {bs:Lz} {fp:Int} (hp: ∀e,e∈bs→¬ (nI 0 e=fp)):DQ bs fp=none:=by
 unfold DQ
 rw[List.find?_eq_none]
 intro e he
 simpa using hp e he
theorem yL (bs:Lz) (fp:Int) (hb:B0 bs) (Ig:bs.length≤maxLen):Tg 45 [oL 6 bs,oI fp] (GFd bs fp):=by
 refine aH ?_
 refine ae Tryz.func45 ?_
 repeat' (conv=>whnf
          first
  |(refine az (fun h=>?_) (fun h=>?_))
  |(refine ak (xs:=bs) hb (by omega) (by omega) ?_;rintro _ ⟨t2,g2,s2,l2,f2,o2,rfl⟩ hs)
  |exact dh rfl (bD aBd zBd rfl rfl (Nat.le_refl _) rfl (cM.refl _)) (bN rfl) ⟨_,_,_,_,_,_,_,rfl,fun _=>ME hp hs (show t2=fp by omega),fun h=>by simp at h⟩
  |exact dh rfl (bD aBd zBd rfl rfl (Nat.le_refl _) rfl (cM.refl _)) (bN rfl) ⟨0,0,0,0,0,0,false,rfl,fun h=>by simp at h,fun _=>J6 (hp.all (by omega))⟩
  |(apply aS [1,4,8,9,10] [] [10] [(4,6)] (RCv (fun e=>¬ (nI 0 e=fp)) bs [jK 0 0 0 0 0 0]) (bs.length) [iV .i64 0];(conv=>whnf);exact⟨rfl,rfl,rfl,rfl⟩;exact rfl;exact rfl;exact .cons (av.au (xs:=[jK 0 0 0 0 0 0]) rfl _) .nil;exact⟨0,by omega,Pre.zero,rfl,rfl,rfl⟩;rintro _ _ _ ⟨i,hi,hp,rfl,rfl,rfl⟩)
  |(refine aj [1,4,8,9,10] [] ?_;(conv=>whnf);exact⟨rfl,_,[_],_, .cons (av.au (xs:=[jK 0 0 0 0 0 0]) rfl _) .nil,RCv.next (by omega) Ig hp hs (show ¬ (t2=fp) by omega),rfl,rfl,by omega⟩))
 all_goals (conv=>whnf)
end Go.aR.Cd
end
section
namespace Go.aR.Cd
open Go Go.Proofs
set_option maxRecDepth 100000
set_option maxHeartbeats 1000000
def eF (plies:Lz) (dc:Int):Int:=nI 0 ((plies[dc.toNat]?).getD [])
def vI (sizes:Lz) (g:Int):Int:=nI 0 ((sizes[g.toNat]?).getD [])
def DJ (sizes places plies cuts:Lz) (g dc:Int):Option (Lz):=eD g (F4 cuts dc (eF plies dc) (vI sizes g)) places places.length
def GPc (o:Option (Lz)) (ts:List W):Prop:= ∃zs b,ts=[oL 1 zs,oB b]∧(b=true→o=some zs)∧(b=false→o=none)
theorem GZ (ln wd rx ry:Int) (sizes places plies:Lz) (hL:xK sizes places plies) (cuts:Lz) (hc:Im cuts) (dA:cuts.length≤maxLen) (g dc:Int) (yx:0≤g) (Zj:g < (sizes.length:Int)) (hy0:0≤dc) (yu:dc < (plies.length:Int)):
 Tg 44 [fM ln wd rx ry sizes places plies,oL 6 cuts,oI g,oI dc] (GPc (DJ sizes places plies cuts g dc)):=by
 have hp:plies[dc.toNat]? =some plies[dc.toNat]:=by simp[show dc.toNat < plies.length by omega]
 have hs:sizes[g.toNat]? =some sizes[g.toNat]:=by simp[show g.toNat < sizes.length by omega]
 obtain⟨fN,qq,Q3⟩:=hL.hy plies[dc.toNat] (List.getElem_mem _)
 obtain⟨size,hsize⟩:=hL.hz sizes[g.toNat] (List.getElem_mem _)
 rw[Q3]at hp
 rw[hsize]at hs
 have e1:eF plies dc=fN:=by simp only[eF,hp,Option.getD_some];rfl
 have e2:vI sizes g=size:=by simp only[vI,hs,Option.getD_some];rfl
 obtain⟨ts,f,i,rfl⟩:=uT ln wd rx ry sizes places plies cuts hL.hp hL.Bb hc dA g dc fN size _ yx hy0 hp hs
 refine⟨_,f,i,?_⟩
 unfold DJ
 rw[e1,e2]
 cases eD g (F4 cuts dc fN size) places places.length with
 |none=>exact⟨[],false,rfl,fun h=>by simp at h,fun _=>rfl⟩
 |some zs=>exact⟨zs,true,rfl,fun _=>rfl,fun h=>by simp at h⟩
abbrev jD (t p s l:Int) (cg:Lz):List T:=[tI t,tI p,tI s,tI l, .aA 1 cg]
def jl (sizes places plies cuts:Lz) (e:List T):Nat→Lz
 |0=>[]
 |n+1=>jl sizes places plies cuts e n++(match DJ sizes places plies cuts (nI 1 e) (nI 4 e+(n:Int))with
  |none=>[]
  |some cg=>[jD (nI 0 e) (nI 4 e+(n:Int)) (nI 2 e) (eF plies (nI 4 e+(n:Int))) cg])
def iF (sizes places plies cuts bs:Lz):Nat→Lz
 |0=>[]
 |k+1=>iF sizes places plies cuts bs k++(match bs[k]? with
  |none=>[]
  |some e=>jl sizes places plies cuts e (nI 5 e - nI 4 e).toNat)
theorem Ch (sizes places plies cuts:Lz) (e:List T): ∀n,(jl sizes places plies cuts e n).length≤n
 |0=>by simp[jl]
 |n+1=>by
  have:=Ch sizes places plies cuts e n
  simp only[jl,List.length_append]
  split<;>simp<;>omega
def SQ (sizes plies:Lz) (e:List T):Prop:= ∃t g s l f o,e=jK t g s l f o∧(0≤g∧g < (sizes.length:Int))∧0≤f∧f < o∧o≤(plies.length:Int)
theorem E1 {sizes plies bs:Lz} (hb:B0 bs) (h:Ag sizes plies bs bs.length): ∀e,e∈bs→SQ sizes plies e:=by
 intro e he
 obtain⟨j,hj,hje⟩:=List.getElem_of_mem he
 obtain⟨t,g,s,l,f,o,rfl⟩:=hb e he
 have:=h j (jK t g s l f o) hj (by rw[List.getElem?_eq_getElem hj,hje])
 exact⟨t,g,s,l,f,o,rfl,this.g,this.f.1,this.f.2.1,this.f.2.2⟩
theorem Cf {sizes places plies cuts bs:Lz} (hp:plies.length≤40) (h: ∀e,e∈bs→SQ sizes plies e): ∀k,(iF sizes places plies cuts bs k).length≤40 * k
 |0=>by simp[iF]
 |k+1=>by
  have ih:=Cf hp h k (places:=places) (cuts:=cuts)
  simp only[iF,List.length_append]
  cases hk:bs[k]? with
  |none=>simp;omega
  |some e=>
   obtain⟨t,g,s,l,f,o,rfl,hg,h1,h2,h3⟩:=h e (List.mem_of_getElem? hk)
   have:=Ch sizes places plies cuts (jK t g s l f o) (nI 5 (jK t g s l f o) - nI 4 (jK t g s l f o)).toNat
   have e1:nI 5 (jK t g s l f o)=o:=rfl
   have e2:nI 4 (jK t g s l f o)=f:=rfl
   simp only[e1,e2]at this⊢
   omega
def Nf (lay:List T) (sizes places plies cuts bs:Lz) (m:Nat) (vs:List V) (xss:List (Lz)):Prop:=
 ∃ (k:Nat) (zs:Lz),k≤bs.length∧m=bs.length - k∧vs=[bn 8 5 zs.length,iV .i64 (k:Int)]∧xss=[[lay],zs]∧zs=iF sizes places plies cuts bs k∧zs.length≤40 * k
def E5 (lay:List T) (sizes places plies cuts bs:Lz) (k:Nat) (e:List T) (f o:Int) (m:Nat) (vs:List V) (xss:List (Lz)):Prop:=
 ∃ (n:Nat) (zs:Lz),(n:Int)≤o - f∧m=(o - f).toNat - n∧vs=[bn 8 5 zs.length,iV .i64 (f+(n:Int))]∧xss=[[lay],zs,[e]]∧zs=iF sizes places plies cuts bs k++jl sizes places plies cuts e n∧zs.length≤40 * k+n
theorem Nf.next {lay:List T} {sizes places plies cuts bs zs:Lz} {k n:Nat} {t g s l f o:Int} (hk:(k:Int) < (bs.length:Int)) (Ig:bs.length≤1000000) (hp:plies.length≤40) (hR: ∀e,e∈bs→SQ sizes plies e) (hs:bs[((k:Int)).toNat]? =some (jK t g s l f o)) (hn:(n:Int)=o - f)
 (hz:zs=iF sizes places plies cuts bs k++jl sizes places plies cuts (jK t g s l f o) n):Nf lay sizes places plies cuts bs (bs.length - (k+1)) [bn 8 5 zs.length,iV .i64 (IntKind.i64.wrap ((k:Int)+1))] [[lay],zs]:=by
 have hs':bs[k]? =some (jK t g s l f o):=by simpa using hs
 have e:zs=iF sizes places plies cuts bs (k+1):=by
  rw[hz]
  simp only[iF,hs']
  have e1:nI 5 (jK t g s l f o)=o:=rfl
  have e2:nI 4 (jK t g s l f o)=f:=rfl
  rw[e1,e2,show(o - f).toNat=n by omega]
 refine⟨k+1,zs,by omega,rfl,by rw[bi (by omega) (by omega)];rfl,rfl,e,?_⟩
 rw[e]
 exact Cf hp hR (k+1)
theorem E5.skip {lay:List T} {sizes places plies cuts bs zs:Lz} {k n:Nat} {t g s l f o:Int} (hn:f+(n:Int) < o) (hf:0≤f) (ho:o≤40) (hz:zs=iF sizes places plies cuts bs k++jl sizes places plies cuts (jK t g s l f o) n) (gR:zs.length≤40 * k+n)
 (hp:DJ sizes places plies cuts g (f+(n:Int))=none):E5 lay sizes places plies cuts bs k (jK t g s l f o) f o ((o - f).toNat - (n+1)) [bn 8 5 zs.length,iV .i64 (IntKind.i64.wrap (f+(n:Int)+1))] [[lay],zs,[jK t g s l f o]]:=by
 refine⟨n+1,zs,by omega,rfl,by rw[bi (by omega) (by omega),show f+((n+1:Nat):Int)=f+(n:Int)+1 by omega],rfl,?_,by omega⟩
 rw[hz]
 have e:jl sizes places plies cuts (jK t g s l f o) (n+1)=jl sizes places plies cuts (jK t g s l f o) n++(match DJ sizes places plies cuts g (f+(n:Int))with
  |none=>[]
  |some cg=>[jD t (f+(n:Int)) s (eF plies (f+(n:Int))) cg]):=rfl
 rw[e,hp]
 simp
theorem E5.Gh {lay:List T} {sizes places plies cuts bs zs pz:Lz} {k n q:Nat} {t g s l f o lo:Int} {qq:T} (hn:f+(n:Int) < o) (hf:0≤f) (ho:o≤40) (hz:zs=iF sizes places plies cuts bs k++jl sizes places plies cuts (jK t g s l f o) n) (gR:zs.length≤40 * k+n)
 (hp:DJ sizes places plies cuts g (f+(n:Int))=some pz) (hl:plies[(f+(n:Int)).toNat]? =some [tI lo,qq]) (hq:q=zs.length+1):
 E5 lay sizes places plies cuts bs k (jK t g s l f o) f o ((o - f).toNat - (n+1)) [bn 8 5 q,iV .i64 (IntKind.i64.wrap (f+(n:Int)+1))] [[lay],zs++[jD t (f+(n:Int)) s lo pz],[jK t g s l f o]]:=by
 refine⟨n+1,zs++[jD t (f+(n:Int)) s lo pz],by omega,rfl,by subst hq;rw[bi (by omega) (by omega),show f+((n+1:Nat):Int)=f+(n:Int)+1 by omega];simp,rfl,?_,by simp;omega⟩
 rw[hz]
 have e:jl sizes places plies cuts (jK t g s l f o) (n+1)=jl sizes places plies cuts (jK t g s l f o) n++(match DJ sizes places plies cuts g (f+(n:Int))with
  |none=>[]
  |some cg=>[jD t (f+(n:Int)) s (eF plies (f+(n:Int))) cg]):=rfl
 have el:eF plies (f+(n:Int))=lo:=by simp only[eF,hl,Option.getD_some];rfl
 rw[e,hp,el]
 simp
def LG (ck:Int) (gs:Lz):List W:=if ck=0 then [oL 5 gs,oI 0]else [oL 5 [],oI ck]
theorem BN (sn:ByteArray) (bz ms ps us ss os:Lz) (ln wd rx ry:Int) (sizes places plies bs cuts:Lz) (hL:xK sizes places plies) (hb:B0 bs) (Ig:bs.length≤1000000) (hc:Im cuts) (dA:cuts.length≤maxLen) (ck:Int) (h1:Te 43 [fW sn bz ms ps us ss os,fM ln wd rx ry sizes places plies,oL 6 bs,oL 6 cuts] [oI ck]) (yA:ck=0→plies.length≤40∧ ∀e,e∈bs→SQ sizes plies e): ∃ts,Fn Tryz.prog 24 [fW sn bz ms ps us ss os,fM ln wd rx ry sizes places plies,oL 6 bs,oL 6 cuts] [] (aO ts) []∧(aO ts).cV=true∧(fun ts=>ts=LG ck (iF sizes places plies cuts bs bs.length)) ts:=by
 refine aH ?_
 refine ae Tryz.func24 ?_
 repeat' (conv=>whnf
          first
  |(refine az (fun h=>?_) (fun h=>?_))
  |(refine bC (fun h=>?_) (fun h=>?_))
  |(refine aF (fun h=>?_) (fun h=>?_))
  |(refine ak (xs:=bs) (yA (by omega)).2 (by omega) (by omega) ?_;rintro _ ⟨t,g,s,l,f,o,rfl,⟨yx,Zj⟩,Zk,hfo,hop⟩ hs)
  |(refine ak (xs:=plies) hL.hy (by omega) (by omega) ?_;rintro _ ⟨lo,q2,rfl⟩ Hp)
  |(refine And.intro ⟨by simp[tr],by simp[tr,aT];omega,by simp[tr,maxLen];omega⟩ ?_)
  |(refine And.intro (by kernel_rfl) ?_)
  |(refine ag rfl (h1) ?_;rintro _ rfl)
  |(refine ag rfl (GZ ln wd rx ry sizes places plies hL cuts hc dA g (f+(n:Int)) (by omega) (by omega) (by omega) (by omega)) ?_;rintro _ ⟨pz,pb,rfl,hp1,nc⟩)
  |exact dh rfl (bJ 5 rfl) (bN rfl) (by simp only[LG];rw[if_neg (by omega)])
  |exact dh rfl (eO rfl rfl (xs:=zs) rfl (by omega)) (bN rfl) (by rw[dS rfl,hz,show k=bs.length by omega];simp only[LG];rw[if_pos (by omega)])
  |(apply aS [3,5,11,13,14,25,26,27] [] [11,14] [(4,7),(8,5),(12,6)] (E5 (cU ln wd rx ry sizes places plies) sizes places plies cuts bs k (jK t g s l f o) f o) ((o - f).toNat) [bn 8 5 zs.length,iV .i64 f];(conv=>whnf);exact⟨rfl,rfl,rfl,rfl⟩;exact rfl;exact rfl;exact .cons (av.au (xs:=[cU ln wd rx ry sizes places plies]) rfl _) (.cons (av.au (xs:=zs) rfl _) (.cons (av.au (xs:=[jK t g s l f o]) rfl _) .nil));exact⟨0,zs,by omega,by omega,by simp,rfl,by rw[hz];simp[jl],by omega⟩;rintro _ _ _ ⟨n,xQ,hn,rfl,rfl,rfl,tE,Em⟩)
  |(refine aj [3,5,11,13,14,25,26,27] [] ?_;(conv=>whnf);first|exact⟨rfl,_,[_,_],_, .cons (av.au (xs:=[cU ln wd rx ry sizes places plies]) rfl _) (.cons (av.au (xs:=xQ) rfl _) (.cons (av.au (xs:=[jK t g s l f o]) rfl _) .nil)),E5.skip (by omega) Zk (by have:=(yA (by omega)).1;omega) tE Em (nc (by simp_all)),rfl,rfl,by omega⟩|exact⟨rfl,_,[_,_],_, .cons (av.au (xs:=[cU ln wd rx ry sizes places plies]) rfl _) (.cons (av.au (av.snoc (xs:=xQ) rfl (jD _ _ _ _ _)) _) (.cons (av.au (xs:=[jK t g s l f o]) rfl _) .nil)),E5.Gh (by omega) Zk (by have:=(yA (by omega)).1;omega) tE Em (hp1 (by simp_all)) Hp (by simp[tr]),rfl,rfl,by omega⟩)
  |(apply dI [3,5,11,25,26,27] [] [11,27] [(4,7),(8,5)] (Nf (cU ln wd rx ry sizes places plies) sizes places plies cuts bs) (bs.length) [bn 8 5 0,iV .i64 0] (dL.iL 11 5 rfl);(conv=>whnf);exact⟨rfl,rfl,rfl,rfl⟩;exact rfl;exact rfl;exact .cons (av.au (xs:=[cU ln wd rx ry sizes places plies]) rfl _) (.cons (av.au av.nil _) .nil);exact⟨0,[],by omega,rfl,rfl,rfl,rfl,by simp⟩;rintro _ _ _ ⟨k,zs,hk,rfl,rfl,rfl,hz,gR⟩)
  |(refine aj [3,5,11,25,26,27] [] ?_;(conv=>whnf);exact⟨rfl,_,[_,_],_, .cons (av.au (xs:=[cU ln wd rx ry sizes places plies]) rfl _) (.cons (av.au (xs:=xQ) rfl _) .nil),Nf.next (by omega) Ig (yA (by omega)).1 (yA (by omega)).2 hs (n:=n) (by omega) tE,rfl,rfl,by omega⟩))
 all_goals (conv=>whnf)
end Go.aR.Cd
end
