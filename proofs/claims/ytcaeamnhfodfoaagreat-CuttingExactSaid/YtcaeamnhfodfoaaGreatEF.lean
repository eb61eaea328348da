import Derived.Test.YtcaeamnhfodfoaaGreatEE
import Derived.Test.YtcaeamnhfodfoaaGreatRows
import Derived.ProofKit
set_option linter.all false
section
namespace Go.aT.Cd
open Go Go.Proofs
set_option maxRecDepth 100000
set_option maxHeartbeats 4000000
variable [Aq]
structure CxA (sn:ByteArray) (bK ms ps us ss os:Lz) (ln wd rx ry:Int) (sizes places plies ag aQ ae:Lz) (pe sk:Int):Prop where
 pp: ∃ts,Fn Tryz.prog 15 [mA sn bK ms ps us ss os,Mx ln wd rx ry sizes places] [] (aL ts) []∧(aL ts).bL=true∧ts=[oL 1 ae,oI pe]
 ar:pe=0→DP sizes places bK.length ae
 sp:pe=0→ ∃ts,Fn Tryz.prog 16 [o8 ln wd rx ry sizes places plies,oL 1 ae,oL 7 ag,oL 1 aQ] [] (aL ts) []∧(aL ts).bL=true∧ts=[oI sk]
 ks:pe=0→(sk=0↔S0 ln wd ae ag aQ plies)
 ct: ∃ts,Fn Tryz.prog 10 [Wt sn bK ms ps us ss os ln wd rx ry sizes places plies ag aQ] [] (aL ts) []∧(aL ts).bL=true∧GPs pe sk ag sizes places ae plies (Lk pe ln wd ae ag aQ plies) ts
theorem cxA (sn:ByteArray) (bK ms ps us ss os:Lz) (ln wd rx ry:Int) (sizes places plies ag aQ:Lz) (hC:Lr sn bK ms ps us ss os sizes places plies ag aQ): ∃ae pe sk,Ug sizes places plies ag aQ→CxA sn bK ms ps us ss os ln wd rx ry sizes places plies ag aQ ae pe sk:=by
 refine⟨(Oy sn bK ms ps us ss os ln wd rx ry sizes places).1,(Oy sn bK ms ps us ss os ln wd rx ry sizes places).2,V3 ln wd rx ry sizes places plies (Oy sn bK ms ps us ss os ln wd rx ry sizes places).1 ag aQ,fun hF=>?_⟩
 obtain⟨t1,f1,i1,e1,HZ⟩:=yJ sn bK ms ps us ss os hC.sty ln wd rx ry sizes places hC.hz hC.jn hC.hp (by have:=hF.q;omega)
 have hs:=fun h=>pJ ln wd rx ry sizes places plies (Oy sn bK ms ps us ss os ln wd rx ry sizes places).1 ag aQ (HZ h).1 hC.hR hF.f.r hC.hlo hC.hy (by have:=hF.f.p;omega) (fun e he=>by have h3:(nL 1 e).length≤6:=hF.f.q e he;omega)
 refine⟨⟨t1,f1,i1,e1⟩,HZ,fun h=>?_,fun h=>?_,pu sn bK ms ps us ss os ln wd rx ry sizes places plies ag aQ hC hF _ _ ⟨t1,f1,i1,e1⟩ HZ⟩
 · obtain⟨ts,h1,h2,h3,_⟩:=hs h
   exact⟨ts,h1,h2,h3⟩
 · obtain⟨ts,h1,h2,_,h3⟩:=hs h
   exact h3
structure CxK (ag sizes places ae plies aQ dr:Lz) (e:Int):Prop where
 e0:e=0
 len:dr.length=plies.length * ae.length
 pl:ae.length=places.length
 at_: ∀i:Nat,i < dr.length→ ∃a k:Nat,a=i / ae.length∧k=i % ae.length∧a < plies.length∧k < ae.length∧dr[i]? =some (Io ag sizes places (kL plies a) a k (nL 0 (kL ae k)))
 ht: ∀a k,a < plies.length→k < ae.length→GJ ag ae (kL plies a) k∧nI 0 (pD aQ (nI 0 (jF (nI 0 (kL plies a)) (nL 1 (kL plies a)) (nL 0 (kL ae k)))))=nI 0 (kL plies a)
 ll:aQ.length=ag.length
theorem cxK {sn:ByteArray} {bK ms ps us ss os:Lz} {ln wd rx ry:Int} {sizes places plies ag aQ ae dr:Lz} {pe sk e:Int} (hC:Lr sn bK ms ps us ss os sizes places plies ag aQ) (hF:Ug sizes places plies ag aQ) (hX:CxA sn bK ms ps us ss os ln wd rx ry sizes places plies ag aQ ae pe sk) (hp:pe=0) (hs:sk=0)
 (h1:e=0↔Lk pe ln wd ae ag aQ plies) (h2:e=0→dr=iW ag sizes places ae plies plies.length):CxK ag sizes places ae plies aQ dr e:=by
 have hS:=(hX.ks hp).1 hs
 have hA:=hX.ar hp
 have hH:=Rp hA.1 hC.hy (fun e he=>by have h3:(nL 1 e).length≤6:=hF.f.q e he;simp only[maxLen];omega) hS
 have e0:e=0:=h1.2 ⟨hp,hS,fun a k ha hk=>(hH a k ha hk).1⟩
 have hc:=h2 e0
 have hl:dr.length=plies.length * ae.length:=by rw[hc,ow]
 refine⟨e0,hl,hA.2.1,fun i hi=>?_,hH,hS.cl.rs.aQ⟩
 rw[hl]at hi
 have hn:0 < ae.length:=by
  rcases Nat.eq_zero_or_pos ae.length with h|h
  · rw[h]at hi
    omega
  · exact h
 exact⟨_,_,rfl,rfl,(Nat.div_lt_iff_lt_mul hn).2 hi,Nat.mod_lt _ hn,by rw[hc];exact Dp ag sizes places ae plies _ i hi⟩
structure CAt (ag sizes places ae plies aQ dr:Lz) (i a k:Nat) (dJ g u kk q x y sz rr:Int) (f d:Bool) (pp poly:Lz):Prop where
 a0:a=i / ae.length
 k0:k=i % ae.length
 al:a < plies.length
 kl:k < ae.length
 ct:dr[((i:Nat):Int).toNat]? =some [tI (a:Int),tI (k:Int),tI dJ,tI sz, .aB 1 [[tI rr]],tB d]
 py:plies[((a:Nat):Int).toNat]? =some [tI dJ, .aB 4 pp]
 pq:Ao pp
 pql:pp.length≤1000
 po:ae[((k:Nat):Int).toNat]? =some [.aB 2 poly]
 po1:bG poly
 po2:poly.length≤1000000
 pc:places[((k:Nat):Int).toNat]? =some [tI g,tI u,tI kk,tB f,tI q,tI x,tI y]
 g0:0≤g
 sz0:sizes[g.toNat]? =some [tI sz]
 SJ:(BR dJ pp poly).2=0
 rr0:rr=nI 0 (jF dJ pp poly)
 rr1:0≤rr
 lo:aQ[rr.toNat]? =some [tI dJ]
 tb:(Cb ag ae plies plies.length)[((a:Nat):Int).toNat]? =some [.aB 1 (pC ag ae [tI dJ, .aB 4 pp] ae.length)]
 br:(pC ag ae [tI dJ, .aB 4 pp] ae.length)[((k:Nat):Int).toNat]? =some [tB d]
theorem cAt {ag sizes places ae plies aQ dr:Lz} {e:Int} {M:Nat} (hK:CxK ag sizes places ae plies aQ dr e) (hA:DP sizes places M ae) (hy:tS plies) (hB: ∀e,e∈plies→(nL 1 e).length≤1000) (hp:PS places) (hz:Is sizes) (hlo:Is aQ) {i:Nat} (hi:i < dr.length):
 ∃a k dJ g u kk q x y sz rr f d pp poly,CAt ag sizes places ae plies aQ dr i a k dJ g u kk q x y sz rr f d pp poly:=by
 obtain⟨a,k,a0,k0,al,kl,hc⟩:=hK.at_ i hi
 obtain⟨dJ,pp,HJ,hq⟩:=Jr hy (i:=a) (by omega)
 have jo:=hK.pl
 obtain⟨g,u,kk,f,q,x,y,sz,J2,B1,hsz⟩:=Cr hp hz hA.2.2.1 (j:=k) (by omega)
 obtain⟨poly,zQ,hx,hl⟩:=hA.1 _ (List.getElem_mem kl)
 have zQ:ae[k]? =some [.aB 2 poly]:=by rw[←zQ];simp[kl]
 obtain⟨hh,hlt⟩:=hK.ht a k al kl
 unfold GJ at hh
 rw[iG HJ,iG zQ]at hh hlt
 have hlt:nI 0 (pD aQ (nI 0 (jF dJ pp poly)))=dJ:=hlt
 have hh:vJ dJ pp ag poly:=hh
 have hr:=hh.rng
 have hlen:(nI 0 (jF dJ pp poly)).toNat < aQ.length:=by have:=hK.ll;omega
 obtain⟨ls,hls⟩:=hlo _ (List.getElem_mem hlen)
 have hls:aQ[(nI 0 (jF dJ pp poly)).toNat]? =some [tI ls]:=by rw[←hls];simp[hlen]
 have hlo:aQ[(nI 0 (jF dJ pp poly)).toNat]? =some [tI dJ]:=by
  rw[kK hls]at hlt
  have hlt:ls=dJ:=hlt
  rw[hls,hlt]
 refine⟨a,k,dJ,g,u,kk,q,x,y,sz,_,f,(Ib dJ pp ag poly).1,pp,poly,a0,k0,al,kl,?_,by simpa using HJ,hq,?_,by simpa using zQ,hx,hl,by simpa using J2,B1,hsz,hh.SJ,rfl,hr.1,hlo,?_,?_⟩
 · rw[Int.toNat_natCast,hc,Io,iG HJ,iG zQ,kK J2]
   show some [_,_,_,tI (nI 0 (pD sizes g)),_,_]=_
   rw[kK hsz]
   rfl
 · have:=hB _ (List.mem_of_getElem? HJ)
   exact this
 · simp[Cb,al,iG HJ]
 · simp only[Int.toNat_natCast,pC,List.getElem?_map,List.getElem?_range kl,Option.map_some,iG zQ]
   rfl
theorem KX (ag ae:Lz) (e:List T) (j:Nat):(pC ag ae e j).length=j:=by simp[pC]
theorem dvE {i n p a:Nat} (h:a=i / n) (hp:n=p) (hi:i≤maxLen):IntKind.i64.wrap ((i:Int).tdiv (p:Int))=(a:Int):=by
 subst hp
 have e:(i:Int).tdiv (n:Int)=((i / n:Nat):Int):=rfl
 have h2:=Nat.div_le_self i n
 simp only[maxLen]at hi
 rw[e, ←h,bh (by omega) (by omega)]
theorem mdE {i n p k:Nat} (h:k=i % n) (hp:n=p):(i:Int).tmod (p:Int)=(k:Int):=by
 subst hp
 subst h
 rfl
theorem kj (sn:ByteArray) (bK ms ps us ss os:Lz) (ln wd rx ry:Int) (sizes places plies ag aQ:Lz) (hC:Lr sn bK ms ps us ss os sizes places plies ag aQ) (ae:Lz) (pe sk:Int) (hx:Ug sizes places plies ag aQ→CxA sn bK ms ps us ss os ln wd rx ry sizes places plies ag aQ ae pe sk) (ha:Fv): ∃ts,Fn Tryz.prog 6 [Wt sn bK ms ps us ss os ln wd rx ry sizes places plies ag aQ] [] (aL ts) []∧(aL ts).bL=true∧GTr ts:=by
 refine ah Tryz.func6 ?_
 repeat' (conv=>whnf
          first
  |(refine au (fun h=>?_) (fun h=>?_))
  |(refine ca (fun h=>?_) (fun h=>?_))
  |(refine aF (fun h=>?_) (fun h=>?_))
  |(have hF:=hb (wQ (by assumption));have hX:=hx hF;have hB: ∀e,e∈plies→(nL 1 e).length≤1000:=(fun e he=>by have h3:(nL 1 e).length≤6:=hF.f.q e he;omega);clear hx)
  |(have hK:=cxK hC hF hX (by assumption) (by assumption) he1 LN;have hA:=hX.ar (by assumption);have hq1:=hF.q;have hq2:=hF.f.p;have HN:=hK.e0;have fS:=hK.pl;have MR:=oK ag ae plies (Nat.le_refl plies.length);have hk3:(dr.length:Int)=IntKind.i64.wrap ((places.length:Int) * (plies.length:Int)):=(by rw[MD hq1 hq2,hK.len,fS]);have eF:dr.length≤maxLen:=(by rw[hK.len];have:=Nat.mul_le_mul (show plies.length≤12 from hq2) (show ae.length≤20 by omega);simp only[maxLen];omega);clear he1)
  |(obtain⟨a,k,dJ,g,u,kk,q,x,y,sz,rr,f,d,pp,poly,hI⟩:=cAt hK hA hC.hy hB hC.hp hC.hz hC.hlo (i:=i) (by omega);have zR:=hI.kl;have LO:=hI.al;have hdv:=dvE hI.a0 fS (by omega);have hmd:=mdE hI.k0 fS;have hbl:=KX ag ae [tI dJ, .aB 4 pp] ae.length;refine And.intro (by omega) (Exists.intro _ (And.intro hI.ct ?_)))
  |(refine And.intro (by omega) ?_;rw[hdv])
  |(refine And.intro (by omega) ?_;rw[hmd])
  |(refine And.intro (by omega) (Exists.intro _ (And.intro hI.tb ?_)))
  |(refine And.intro (by omega) (Exists.intro _ (And.intro hI.br ?_)))
  |(refine And.intro (by omega) (Exists.intro _ (And.intro hI.po ?_)))
  |(refine And.intro (by kernel_rfl) ?_)
  |(refine ai rfl (tu sn bK ms ps us ss os hC.sty ln wd rx ry sizes places plies ag aQ hC.hy hC.j8 hC.hR hC.B2) ?_;rintro _ ⟨b,rfl,hb⟩)
  |(refine ai rfl (ha) ?_;rintro _ rfl)
  |(refine ai rfl (hX.ct) ?_;rintro _ ⟨dr,e,rfl,he1,LN,he3,he4,he5⟩)
  |(refine ai rfl (hX.pp) ?_;rintro _ rfl)
  |(refine ai rfl (hX.sp (by assumption)) ?_;rintro _ rfl)
  |(refine ai rfl (BK ln wd rx ry sizes places plies ag ae hA.1 (by omega) hC.hR hC.hy (by omega) hB (fun a k h1 h2=>(hK.ht a k h1 h2).1)) ?_;rintro _ rfl)
  |(refine aC rfl (rK sn bK ms ps us ss os ln wd rx ry sizes places plies ag aQ poly hI.po1 hI.po2 a k dJ g u kk q x y sz rr f d pp hI.pq (by have:=hI.pql;simp only[maxLen];omega) (by omega) hI.py (by omega) hI.pc hI.g0 hI.sz0 hI.SJ hI.rr0 hI.rr1 hI.lo) ?_;rintro _ rfl)
  |exact g1 rfl rfl rfl
  |(exfalso;omega)
  |(exfalso;have h9:¬ (!d==d)=true:=(by clear hI h;cases d<;>decide);exact h9 (by assumption))
  |(exfalso;have h9:=he3 (by omega);have h8:dr.length=0:=(by rw[h9];rfl);omega)
  |(apply bp [1,3,5,8,10,11] [] [11] [(4,16)] (T4 dr.length [[ZL sn bK ms ps us ss os ln wd rx ry sizes places plies ag aQ]]) (dr.length) [iV .i64 0];(conv=>whnf);exact⟨rfl,rfl,rfl,rfl⟩;exact rfl;exact rfl;exact .cons (az.av (xs:=[ZL sn bK ms ps us ss os ln wd rx ry sizes places plies ag aQ]) rfl _) .nil;exact⟨0,by omega,rfl,rfl,rfl⟩;rintro _ _ _ ⟨i,hi,rfl,rfl,rfl⟩)
  |(refine ak [1,3,5,8,10,11] [] ?_;(conv=>whnf);exact⟨rfl,_,[_],_, .cons (az.av (xs:=[ZL sn bK ms ps us ss os ln wd rx ry sizes places plies ag aQ]) rfl _) .nil,T4.next (by omega) eF,rfl,rfl,by omega⟩))
 all_goals (conv=>whnf)
theorem s8 (hw:Fv) {x:List T} (h:jm SC x):Fn Tryz.prog 6 [.agg (x.map .t)] [] (bV true) []:=by
 obtain⟨sn,bK,ms,ps,us,ss,os,ln,wd,rx,ry,sizes,places,plies,ag,aQ,rfl,hC,Xg⟩:=Yk h
 obtain⟨ae,pe,sk,hx⟩:=cxA sn bK ms ps us ss os ln wd rx ry sizes places plies ag aQ hC
 obtain⟨ts,f,_,rfl⟩:=kj sn bK ms ps us ss os ln wd rx ry sizes places plies ag aQ hC ae pe sk hx hw
 exact f
end Go.aT.Cd
end
section
namespace Go.aT.Cd
open Go Go.Proofs
set_option maxRecDepth 100000
theorem E6 {Tb:Tables} {F F':Array Func}: ∀l:List ResultVar,cQ ⟨Tb,F⟩ l=cQ ⟨Tb,F'⟩ l
 | []=>rfl
 | .tmp t::r=>by simp only[cQ,E6 (F:=F) (F':=F') r]
 | .cell t ty::r=>by
   simp only[cQ,E6 (F:=F) (F':=F') r]
   rfl
theorem Q4 {n m:Nat} {fn:Func} {rs:List ResultVar} {c:Rc} {rv:List Rv} {a b:Bool} (h:Tryz.prog.funcs[n]? =some fn) (hi:Sc Tryz.progTables fn=some (m,rs,c)) (h4:cQ ⟨Tryz.progTables, #[]⟩ rs=some rv) (h5:gk m c=true):BZ Tryz.prog n ⟨m,c,rv,a,b⟩:=by
 obtain⟨b,h1,h2,h3,rfl⟩:=BC (P:=Tryz.prog) hi
 exact⟨fn,b,h,h1,h2,h3,(E6 _).trans h4,h5⟩
def bB {n m:Nat} {fn:Func} {rs:List ResultVar} {c:Rc} {rv:List Rv} (h:Tryz.prog.funcs[n]? =some fn) (a b:Bool) (hi:Sc Tryz.progTables fn=some (m,rs,c):=by conv=>lhs;cbv) (h4:cQ ⟨Tryz.progTables, #[]⟩ rs=some rv:=by conv=>lhs;cbv) (h5:gk m c=true:=by kernel_rfl): {fr:B4 // BZ Tryz.prog n fr}:=⟨⟨m,c,rv,a,b⟩,Q4 h hi h4 h5⟩
def z9:=bB Tryz.func9 true false
def z11:=bB Tryz.func11 true false
def z12:=bB Tryz.func12 false false
def z13:=bB Tryz.func13 true false
def z14:=bB Tryz.func14 true false
def z15:=bB Tryz.func15 true false
def z16:=bB Tryz.func16 true false
def z22:=bB Tryz.func22 true false
def z27:=bB Tryz.func27 true false
def z28:=bB Tryz.func28 true false
def z29:=bB Tryz.func29 true false
def z30:=bB Tryz.func30 true false
def z31:=bB Tryz.func31 true false
def z32:=bB Tryz.func32 true false
def z33:=bB Tryz.func33 true false
def z34:=bB Tryz.func34 true false
def z35:=bB Tryz.func35 true false
def z36:=bB Tryz.func36 true false
def z42:=bB Tryz.func42 true false
def z48:=bB Tryz.func48 true false
def z49:=bB Tryz.func49 true false
def z50:=bB Tryz.func50 true false
def z51:=bB Tryz.func51 true false
def z52:=bB Tryz.func52 true false
def z53:=bB Tryz.func53 true false
def z54:=bB Tryz.func54 true false
def z55:=bB Tryz.func55 true false
def z56:=bB Tryz.func56 true false
def z57:=bB Tryz.func57 true false
def z58:=bB Tryz.func58 true false
def z59:=bB Tryz.func59 true false
def z60:=bB Tryz.func60 true false
def z62:=bB Tryz.func62 true false
def z63:=bB Tryz.func63 true true
def z65:=bB Tryz.func65 true false
def z66:=bB Tryz.func66 true false
def z67:=bB Tryz.func67 true false
def z68:=bB Tryz.func68 true false
def z69:=bB Tryz.func69 true false
def z74:=bB Tryz.func74 true false
def z75:=bB Tryz.func75 true false
def z76:=bB Tryz.func76 true false
def z77:=bB Tryz.func77 true false
def z78:=bB Tryz.func78 true false
def z79:=bB Tryz.func79 true false
def z80:=bB Tryz.func80 true false
def z81:=bB Tryz.func81 true false
def z82:=bB Tryz.func82 true false
def z83:=bB Tryz.func83 true false
def z84:=bB Tryz.func84 true false
def z85:=bB Tryz.func85 true false
def z86:=bB Tryz.func86 true true
def z87:=bB Tryz.func87 true false
def z88:=bB Tryz.func88 true false
def z89:=bB Tryz.func89 true false
def z90:=bB Tryz.func90 true false
def z91:=bB Tryz.func91 true false
def z92:=bB Tryz.func92 true false
def z93:=bB Tryz.func93 true false
def z97:=bB Tryz.func97 true false
def z98:=bB Tryz.func98 true false
def VE:=bB Tryz.func100 true false
def VD:=bB Tryz.func101 true false
def VC:=bB Tryz.func102 true false
def VB:=bB Tryz.func104 true false
def z105:=bB Tryz.func105 true false
def VA:=bB Tryz.func106 true false
def z107:=bB Tryz.func107 true false
def Vz:=bB Tryz.func108 true false
def z109:=bB Tryz.func109 true true
def Vy:=bB Tryz.func118 true false
def z119:=bB Tryz.func119 true false
def Vx:=bB Tryz.func120 true false
def Vw:=bB Tryz.func121 true false
def Vv:=bB Tryz.func122 true false
def Vu:=bB Tryz.func123 true false
def z124:=bB Tryz.func124 true false
def Vt:=bB Tryz.func125 true false
def Vs:=bB Tryz.func126 true false
def Vr:=bB Tryz.func129 true false
def z130:=bB Tryz.func130 true false
def z131:=bB Tryz.func131 true false
def Vq:=bB Tryz.func132 true false
def Vp:=bB Tryz.func133 true false
def Vo:=bB Tryz.func134 true false
def Vm:=bB Tryz.func135 true false
def Vl:=bB Tryz.func136 true false
def z138:=bB Tryz.func138 true false
def z139:=bB Tryz.func139 true false
def Vd:=bB Tryz.func140 true false
def z141:=bB Tryz.func141 true false
def Vc:=bB Tryz.func142 true false
def z148:=bB Tryz.func148 true false
def Vb:=bB Tryz.func149 true false
def Va:=bB Tryz.func151 false false
def z152:=bB Tryz.func152 true false
def z156:=bB Tryz.func156 true false
def z157:=bB Tryz.func157 true false
def U9:=bB Tryz.func158 true false
def z159:=bB Tryz.func159 true false
def z160:=bB Tryz.func160 true false
def U8:=bB Tryz.func161 true false
def z162:=bB Tryz.func162 true false
def U7:=bB Tryz.func163 true false
def z164:=bB Tryz.func164 true false
def U6:=bB Tryz.func165 true false
def U5:=bB Tryz.func166 true false
def z167:=bB Tryz.func167 true false
def z168:=bB Tryz.func168 true false
def U4:=bB Tryz.func169 true false
def U3:=bB Tryz.func170 true false
def z173:=bB Tryz.func173 true true
def U2:=bB Tryz.func174 true false
def z175:=bB Tryz.func175 true false
def U1:=bB Tryz.func177 true false
def U0:=bB Tryz.func178 true false
def UZ:=bB Tryz.func180 true false
def UY:=bB Tryz.func181 true false
def z182:=bB Tryz.func182 true false
def z183:=bB Tryz.func183 true false
def UX:=bB Tryz.func184 true false
def UW:=bB Tryz.func187 true false
def UU:=bB Tryz.func188 true false
def UT:=bB Tryz.func189 true false
def US:=bB Tryz.func190 true false
def UR:=bB Tryz.func191 true false
def UQ:=bB Tryz.func192 true false
def z193:=bB Tryz.func193 true false
def UP:=bB Tryz.func197 true false
def z198:=bB Tryz.func198 true false
def UO:=bB Tryz.func199 true false
def UN:=bB Tryz.func200 true false
def z201:=bB Tryz.func201 true false
def UM:=bB Tryz.func202 true false
def UL:=bB Tryz.func205 true false
def UK:=bB Tryz.func209 true false
def z210:=bB Tryz.func210 true false
def UJ:=bB Tryz.func211 true false
def z212:=bB Tryz.func212 true false
def z213:=bB Tryz.func213 true false
def UI:=bB Tryz.func214 true false
def UH:=bB Tryz.func215 true false
def UG:=bB Tryz.func217 true false
def z218:=bB Tryz.func218 true false
def UF:=bB Tryz.func220 true false
def UE:=bB Tryz.func221 true false
def z222:=bB Tryz.func222 true false
def UD:=bB Tryz.func223 true false
def UC:=bB Tryz.func224 true false
def UB:=bB Tryz.func225 true false
def z229:=bB Tryz.func229 true false
def UA:=bB Tryz.func230 true false
def Uz:=bB Tryz.func231 true false
def z232:=bB Tryz.func232 true false
def z233:=bB Tryz.func233 true false
def z234:=bB Tryz.func234 true false
def Uy:=bB Tryz.func235 true false
def z236:=bB Tryz.func236 true false
def Ux:=bB Tryz.func237 true false
def Uw:=bB Tryz.func239 true true
def Uv:=bB Tryz.func240 true false
def Uu:=bB Tryz.func241 true false
def Ut:=bB Tryz.func242 true false
def Ur:=bB Tryz.func243 true false
def Uq:=bB Tryz.func244 true false
def Up:=bB Tryz.func245 true false
def Uo:=bB Tryz.func246 true false
def Un:=bB Tryz.func247 true false
def Um:=bB Tryz.func248 true false
def Ul:=bB Tryz.func249 true false
def Uk:=bB Tryz.func254 true false
end Go.aT.Cd
end
section
namespace Go.aT.Cd
open Go Go.Proofs
set_option maxRecDepth 100000
def X9:List (Nat×B4):=[(65,z65.1),(239,Uw.1),(88,z88.1),(140,Vd.1),(198,z198.1),(224,UC.1),(225,UB.1),(200,UN.1),(229,z229.1),(215,UH.1),(192,UQ.1),(190,US.1),(241,Uu.1),(122,Vv.1),(243,Ur.1),(230,UA.1),(201,z201.1),(184,UX.1),(141,z141.1),(236,z236.1),(126,Vs.1),(223,UD.1),(248,Um.1),(167,z167.1),(120,Vx.1),(55,z55.1),(222,z222.1),(159,z159.1),(245,Up.1),(233,z233.1),(221,UE.1),(220,UF.1),(211,UJ.1),(205,UL.1),(188,UU.1),(169,U4.1),(161,U8.1),(152,z152.1),(148,z148.1),(139,z139.1),(121,Vw.1),(107,z107.1),(106,VA.1),(80,z80.1),(246,Uo.1),(218,z218.1),(217,UG.1),(197,UP.1),(174,U2.1),(156,z156.1),(92,z92.1),(29,z29.1),(242,Ut.1),(240,Uv.1),(237,Ux.1),(177,U1.1),(105,z105.1),(93,z93.1),(79,z79.1),(22,z22.1),(66,z66.1),(31,z31.1),(12,z12.1),(249,Ul.1),(244,Uq.1),(232,z232.1),(231,Uz.1),(213,z213.1),(212,z212.1),(210,z210.1),(191,UR.1),(189,UT.1),(187,UW.1),(182,z182.1),(181,UY.1),(168,z168.1),(162,z162.1),(142,Vc.1),(125,Vt.1),(108,Vz.1),(91,z91.1),(90,z90.1),(83,z83.1),(74,z74.1),(68,z68.1),(51,z51.1),(48,z48.1),(36,z36.1),(11,z11.1),(254,Uk.1),(247,Un.1),(170,U3.1),(160,z160.1),(149,Vb.1),(132,Vq.1),(129,Vr.1),(109,z109.1),(89,z89.1),(87,z87.1),(86,z86.1),(63,z63.1),(214,UI.1),(202,UM.1),(183,z183.1),(180,UZ.1),(178,U0.1),(175,z175.1),(173,z173.1),(166,U5.1),(165,U6.1),(157,z157.1),(151,Va.1),(134,Vo.1),(130,z130.1),(124,z124.1),(123,Vu.1),(119,z119.1),(118,Vy.1),(102,VC.1),(101,VD.1),(100,VE.1),(97,z97.1),(82,z82.1),(81,z81.1),(78,z78.1),(76,z76.1),(69,z69.1),(67,z67.1),(57,z57.1),(56,z56.1),(54,z54.1),(50,z50.1),(49,z49.1),(42,z42.1),(35,z35.1),(30,z30.1),(15,z15.1),(14,z14.1),(13,z13.1),(235,Uy.1),(234,z234.1),(209,UK.1),(199,UO.1),(193,z193.1),(164,z164.1),(163,U7.1),(158,U9.1),(138,z138.1),(136,Vl.1),(135,Vm.1),(133,Vp.1),(131,z131.1),(104,VB.1),(98,z98.1),(85,z85.1),(84,z84.1),(77,z77.1),(75,z75.1),(62,z62.1),(60,z60.1),(59,z59.1),(58,z58.1),(53,z53.1),(52,z52.1),(34,z34.1),(33,z33.1),(32,z32.1),(28,z28.1),(27,z27.1),(16,z16.1),(9,z9.1)]
abbrev iL:Nat→Option B4:=find X9
theorem bC:GM Tryz.prog iL:=Db (show LA Tryz.prog X9 from⟨z65.2,Uw.2,z88.2,Vd.2,z198.2,UC.2,UB.2,UN.2,z229.2,UH.2,UQ.2,US.2,Uu.2,Vv.2,Ur.2,UA.2,z201.2,UX.2,z141.2,z236.2,Vs.2,UD.2,Um.2,z167.2,Vx.2,z55.2,z222.2,z159.2,Up.2,z233.2,UE.2,UF.2,UJ.2,UL.2,UU.2,U4.2,U8.2,z152.2,z148.2,z139.2,Vw.2,z107.2,VA.2,z80.2,Uo.2,z218.2,UG.2,UP.2,U2.2,z156.2,z92.2,z29.2,Ut.2,Uv.2,Ux.2,U1.2,z105.2,z93.2,z79.2,z22.2,z66.2,z31.2,z12.2,Ul.2,Uq.2,z232.2,Uz.2,z213.2,z212.2,z210.2,UR.2,UT.2,UW.2,z182.2,UY.2,z168.2,z162.2,Vc.2,Vt.2,Vz.2,z91.2,z90.2,z83.2,z74.2,z68.2,z51.2,z48.2,z36.2,z11.2,Uk.2,Un.2,U3.2,z160.2,Vb.2,Vq.2,Vr.2,z109.2,z89.2,z87.2,z86.2,z63.2,UI.2,UM.2,z183.2,UZ.2,U0.2,z175.2,z173.2,U5.2,U6.2,z157.2,Va.2,Vo.2,z130.2,z124.2,Vu.2,z119.2,Vy.2,VC.2,VD.2,VE.2,z97.2,z82.2,z81.2,z78.2,z76.2,z69.2,z67.2,z57.2,z56.2,z54.2,z50.2,z49.2,z42.2,z35.2,z30.2,z15.2,z14.2,z13.2,Uy.2,z234.2,UK.2,UO.2,z193.2,z164.2,U7.2,U9.2,z138.2,Vl.2,Vm.2,Vp.2,z131.2,VB.2,z98.2,z85.2,z84.2,z77.2,z75.2,z62.2,z60.2,z59.2,z58.2,z53.2,z52.2,z34.2,z33.2,z32.2,z28.2,z27.2,z16.2,z9.2,trivial⟩)
def l0:List (Nat×List W×V):=[]
theorem k0:cg Tryz.prog (bZ l0):=Me
def a1:List W:=[.agg [.t (bo false), .t (nl), .t (nl)], .agg [.t (bo false), .t (nl), .t (nl)]]
def v1:V:= .w (.one (.t (i 0)))
theorem r1:Fn Tryz.prog 177 a1 [] v1 []∧v1.bL=true:=bc (fuel:=10000) (d:=60) bC k0 (show iL 177=some _ from rfl) (by kernel_rfl)
def l1:List (Nat×List W×V):=(177,a1,v1)::l0
theorem k1:cg Tryz.prog (bZ l1):=aV k0 r1
def a2:List W:=[.one (.t (.aB 2 [[i 0,i 0],[i 10,i 0],[i 10,i 10],[i 0,i 10]]))]
def v2:V:= .w (.one (.t (i 0)))
theorem r2:Fn Tryz.prog 55 a2 [] v2 []∧v2.bL=true:=bc (fuel:=10000) (d:=60) bC k1 (show iL 55=some _ from rfl) (by kernel_rfl)
def l2:List (Nat×List W×V):=(55,a2,v2)::l1
theorem k2:cg Tryz.prog (bZ l2):=aV k1 r2
def a3:List W:=[.one (.t (.aB 2 [[.val (.string ⟨#[108,111,119]⟩), .aB 2 [[i 0,i 0],[i 10,i 0]]],[.val (.string ⟨#[114,105,103,104,116]⟩), .aB 2 [[i 10,i 0],[i 10,i 10]]],[.val (.string ⟨#[104,105,103,104]⟩), .aB 2 [[i 10,i 10],[i 0,i 10]]],[.val (.string ⟨#[108,101,102,116]⟩), .aB 2 [[i 0,i 10],[i 0,i 0]]]]))]
def v3:V:= .w (.one (.t (i 0)))
theorem r3:Fn Tryz.prog 160 a3 [] v3 []∧v3.bL=true:=bc (fuel:=10000) (d:=60) bC k2 (show iL 160=some _ from rfl) (by kernel_rfl)
def l3:List (Nat×List W×V):=(160,a3,v3)::l2
theorem k3:cg Tryz.prog (bZ l3):=aV k2 r3
def a4:List W:=[.agg [.t (.val (.string ⟨#[102,114,111,110,116]⟩)), .t (.aB 2 [[.val (.string ⟨#[108,111,119]⟩), .aB 2 [[i 0,i 0],[i 10,i 0]]],[.val (.string ⟨#[114,105,103,104,116]⟩), .aB 2 [[i 10,i 0],[i 10,i 10]]],[.val (.string ⟨#[104,105,103,104]⟩), .aB 2 [[i 10,i 10],[i 0,i 10]]],[.val (.string ⟨#[108,101,102,116]⟩), .aB 2 [[i 0,i 10],[i 0,i 0]]]]), .t (i 1), .t (nl), .t (.aB 2 [[i 0,i 0],[i 0,i 0],[i 0,i 0],[i 0,i 0]]), .t (.aB 1 [[i 0],[i 0],[i 0],[i 0]]), .t (bo false)], .one (.t (i 0))]
def v4:V:= .eW [.one (.t (.aB 2 [[.val (.string ⟨#[108,111,119]⟩), .aB 2 [[i 0,i 0],[i 10,i 0]]],[.val (.string ⟨#[114,105,103,104,116]⟩), .aB 2 [[i 10,i 0],[i 10,i 10]]],[.val (.string ⟨#[104,105,103,104]⟩), .aB 2 [[i 10,i 10],[i 0,i 10]]],[.val (.string ⟨#[108,101,102,116]⟩), .aB 2 [[i 0,i 10],[i 0,i 0]]]])), .one (.t (i 0))]
theorem r4:Fn Tryz.prog 132 a4 [] v4 []∧v4.bL=true:=bc (fuel:=10000) (d:=60) bC k3 (show iL 132=some _ from rfl) (by kernel_rfl)
def l4:List (Nat×List W×V):=(132,a4,v4)::l3
theorem k4:cg Tryz.prog (bZ l4):=aV k3 r4
def a5:List W:=[.agg [.t (.val (.string ⟨#[115,104,105,114,116]⟩)), .t (.aB 1 [[.val (.string ⟨#[83]⟩)],[.val (.string ⟨#[77]⟩)]]), .t (.aB 1 [[i 0],[i 0]]), .t (.aB 7 [[.val (.string ⟨#[102,114,111,110,116]⟩), .aB 2 [[.val (.string ⟨#[108,111,119]⟩), .aB 2 [[i 0,i 0],[i 10,i 0]]],[.val (.string ⟨#[114,105,103,104,116]⟩), .aB 2 [[i 10,i 0],[i 10,i 10]]],[.val (.string ⟨#[104,105,103,104]⟩), .aB 2 [[i 10,i 10],[i 0,i 10]]],[.val (.string ⟨#[108,101,102,116]⟩), .aB 2 [[i 0,i 10],[i 0,i 0]]]],i 1,nl, .aB 2 [[i 0,i 0],[i 0,i 0],[i 0,i 0],[i 0,i 0]], .aB 1 [[i 0],[i 0],[i 0],[i 0]],bo false]]), .t (.aB 3 [[i 0,i 2,bo false]]), .t (nl), .t (nl)]]
def v5:V:= .w (.one (.t (i 0)))
theorem r5:Fn Tryz.prog 74 a5 [] v5 []∧v5.bL=true:=bc (fuel:=10000) (d:=60) bC k4 (show iL 74=some _ from rfl) (by kernel_rfl)
def l5:List (Nat×List W×V):=(74,a5,v5)::l4
theorem k5:cg Tryz.prog (bZ l5):=aV k4 r5
def a6:List W:=[.one (.t (.aB 1 [[u 1]])), .one (.t (.aB 1 [[u 1]]))]
def v6:V:= .eW [.one (.t (.aB 1 [[u 1]])), .one (.t (.aB 1 [])), .one (.t (bo true))]
theorem r6:Fn Tryz.prog 243 a6 [] v6 []∧v6.bL=true:=bc (fuel:=10000) (d:=60) bC k5 (show iL 243=some _ from rfl) (by kernel_rfl)
def l6:List (Nat×List W×V):=(243,a6,v6)::l5
theorem k6:cg Tryz.prog (bZ l6):=aV k5 r6
def a7:List W:=[.agg [.t (bo false), .t (.aB 1 [])], .one (.t (.aB 1 [[u 1]]))]
def v7:V:= .w (.agg [.t (bo false), .t (.aB 1 []), .t (.aB 1 [[u 1]])])
theorem r7:Fn Tryz.prog 229 a7 [] v7 []∧v7.bL=true:=bc (fuel:=10000) (d:=60) bC k6 (show iL 229=some _ from rfl) (by kernel_rfl)
def l7:List (Nat×List W×V):=(229,a7,v7)::l6
theorem k7:cg Tryz.prog (bZ l7):=aV k6 r7
def a8:List W:=[.agg [.t (bo false), .t (.aB 1 [[u 10]])], .one (.t (.aB 1 [[u 1]]))]
def v8:V:= .w (.agg [.t (bo false), .t (.aB 1 [[u 10]]), .t (.aB 1 [[u 1]])])
theorem r8:Fn Tryz.prog 229 a8 [] v8 []∧v8.bL=true:=bc (fuel:=10000) (d:=60) bC k7 (show iL 229=some _ from rfl) (by kernel_rfl)
def l8:List (Nat×List W×V):=(229,a8,v8)::l7
theorem k8:cg Tryz.prog (bZ l8):=aV k7 r8
def a9:List W:=[.one (.t (i 10)), .one (.t (i 1))]
def v9:V:= .eW [.agg [.t (bo false), .t (.aB 1 [[u 10]]), .t (.aB 1 [[u 1]])], .one (.t (bo true))]
theorem r9:Fn Tryz.prog 233 a9 [] v9 []∧v9.bL=true:=bc (fuel:=10000) (d:=60) bC k8 (show iL 233=some _ from rfl) (by kernel_rfl)
def l9:List (Nat×List W×V):=(233,a9,v9)::l8
theorem k9:cg Tryz.prog (bZ l9):=aV k8 r9
def a10:List W:=[.agg [.t (i 0), .t (i 10)]]
def v10:V:= .w (.agg [.t (bo false), .t (.aB 1 []), .t (.aB 1 [[u 1]]), .t (bo false), .t (.aB 1 [[u 10]]), .t (.aB 1 [[u 1]])])
theorem r10:Fn Tryz.prog 190 a10 [] v10 []∧v10.bL=true:=bc (fuel:=10000) (d:=60) bC k9 (show iL 190=some _ from rfl) (by kernel_rfl)
def IC:List (Nat×List W×V):=(190,a10,v10)::l9
theorem k10:cg Tryz.prog (bZ IC):=aV k9 r10
def a11:List W:=[.agg [.t (i 0), .t (i 0)]]
def v11:V:= .w (.agg [.t (bo false), .t (.aB 1 []), .t (.aB 1 [[u 1]]), .t (bo false), .t (.aB 1 []), .t (.aB 1 [[u 1]])])
theorem r11:Fn Tryz.prog 190 a11 [] v11 []∧v11.bL=true:=bc (fuel:=10000) (d:=60) bC k10 (show iL 190=some _ from rfl) (by kernel_rfl)
def l11:List (Nat×List W×V):=(190,a11,v11)::IC
theorem k11:cg Tryz.prog (bZ l11):=aV k10 r11
def a12:List W:=[.agg [.t (i 10), .t (i 0)]]
def v12:V:= .w (.agg [.t (bo false), .t (.aB 1 [[u 10]]), .t (.aB 1 [[u 1]]), .t (bo false), .t (.aB 1 []), .t (.aB 1 [[u 1]])])
theorem r12:Fn Tryz.prog 190 a12 [] v12 []∧v12.bL=true:=bc (fuel:=10000) (d:=60) bC k11 (show iL 190=some _ from rfl) (by kernel_rfl)
def l12:List (Nat×List W×V):=(190,a12,v12)::l11
theorem k12:cg Tryz.prog (bZ l12):=aV k11 r12
def a13:List W:=[.agg [.t (bo false), .t (.aB 1 []), .t (.aB 1 [[u 1]])]]
def v13:V:= .w (.agg [.t (bo false), .t (.aB 1 []), .t (.aB 1 [[u 1]])])
theorem r13:Fn Tryz.prog 198 a13 [] v13 []∧v13.bL=true:=bc (fuel:=10000) (d:=60) bC k12 (show iL 198=some _ from rfl) (by kernel_rfl)
def l13:List (Nat×List W×V):=(198,a13,v13)::l12
theorem k13:cg Tryz.prog (bZ l13):=aV k12 r13
def a14:List W:=[.agg [.t (bo false), .t (.aB 1 [[u 10]]), .t (.aB 1 [[u 1]])]]
def v14:V:= .w (.agg [.t (bo false), .t (.aB 1 [[u 10]]), .t (.aB 1 [[u 1]])])
theorem r14:Fn Tryz.prog 198 a14 [] v14 []∧v14.bL=true:=bc (fuel:=10000) (d:=60) bC k13 (show iL 198=some _ from rfl) (by kernel_rfl)
def l14:List (Nat×List W×V):=(198,a14,v14)::l13
theorem k14:cg Tryz.prog (bZ l14):=aV k13 r14
def a15:List W:=[.agg [.t (bo false), .t (.aB 1 [])], .agg [.t (bo false), .t (.aB 1 [[u 1]])]]
def v15:V:= .w (.agg [.t (bo false), .t (.aB 1 [])])
theorem r15:Fn Tryz.prog 200 a15 [] v15 []∧v15.bL=true:=bc (fuel:=10000) (d:=60) bC k14 (show iL 200=some _ from rfl) (by kernel_rfl)
def l15:List (Nat×List W×V):=(200,a15,v15)::l14
theorem k15:cg Tryz.prog (bZ l15):=aV k14 r15
def a16:List W:=[.one (.t (.aB 1 [[u 1]])), .one (.t (.aB 1 [[u 1]]))]
def v16:V:= .w (.one (.t (.aB 1 [[u 1]])))
theorem r16:Fn Tryz.prog 225 a16 [] v16 []∧v16.bL=true:=bc (fuel:=10000) (d:=60) bC k15 (show iL 225=some _ from rfl) (by kernel_rfl)
def l16:List (Nat×List W×V):=(225,a16,v16)::l15
theorem k16:cg Tryz.prog (bZ l16):=aV k15 r16
def a17:List W:=[.agg [.t (bo false), .t (.aB 1 [[u 10]]), .t (.aB 1 [[u 1]])], .agg [.t (bo false), .t (.aB 1 []), .t (.aB 1 [[u 1]])]]
def v17:V:= .w (.agg [.t (bo false), .t (.aB 1 [[u 10]]), .t (.aB 1 [[u 1]])])
theorem r17:Fn Tryz.prog 236 a17 [] v17 []∧v17.bL=true:=bc (fuel:=10000) (d:=60) bC k16 (show iL 236=some _ from rfl) (by kernel_rfl)
def l17:List (Nat×List W×V):=(236,a17,v17)::l16
theorem k17:cg Tryz.prog (bZ l17):=aV k16 r17
def a18:List W:=[.agg [.t (bo false), .t (.aB 1 []), .t (.aB 1 [[u 1]])], .agg [.t (bo false), .t (.aB 1 []), .t (.aB 1 [[u 1]])]]
def v18:V:= .w (.agg [.t (bo false), .t (.aB 1 []), .t (.aB 1 [[u 1]])])
theorem r18:Fn Tryz.prog 236 a18 [] v18 []∧v18.bL=true:=bc (fuel:=10000) (d:=60) bC k17 (show iL 236=some _ from rfl) (by kernel_rfl)
def l18:List (Nat×List W×V):=(236,a18,v18)::l17
theorem k18:cg Tryz.prog (bZ l18):=aV k17 r18
def a19:List W:=[.agg [.t (bo false), .t (.aB 1 []), .t (.aB 1 [[u 1]])], .agg [.t (bo false), .t (.aB 1 []), .t (.aB 1 [[u 1]])]]
def v19:V:= .w (.agg [.t (bo false), .t (.aB 1 []), .t (.aB 1 [[u 1]])])
theorem r19:Fn Tryz.prog 215 a19 [] v19 []∧v19.bL=true:=bc (fuel:=10000) (d:=60) bC k18 (show iL 215=some _ from rfl) (by kernel_rfl)
def l19:List (Nat×List W×V):=(215,a19,v19)::l18
theorem k19:cg Tryz.prog (bZ l19):=aV k18 r19
def a20:List W:=[.agg [.t (bo false), .t (.aB 1 [[u 10]]), .t (.aB 1 [[u 1]]), .t (bo false), .t (.aB 1 []), .t (.aB 1 [[u 1]])], .agg [.t (bo false), .t (.aB 1 []), .t (.aB 1 [[u 1]]), .t (bo false), .t (.aB 1 []), .t (.aB 1 [[u 1]])]]
def v20:V:= .w (.agg [.t (bo false), .t (.aB 1 [[u 10]]), .t (.aB 1 [[u 1]]), .t (bo false), .t (.aB 1 []), .t (.aB 1 [[u 1]])])
theorem r20:Fn Tryz.prog 192 a20 [] v20 []∧v20.bL=true:=bc (fuel:=10000) (d:=60) bC k19 (show iL 192=some _ from rfl) (by kernel_rfl)
def l20:List (Nat×List W×V):=(192,a20,v20)::l19
theorem k20:cg Tryz.prog (bZ l20):=aV k19 r20
def a21:List W:=[.agg [.t (bo true), .t (.aB 1 [[u 10]])], .one (.t (.aB 1 [[u 1]]))]
def v21:V:= .w (.agg [.t (bo true), .t (.aB 1 [[u 10]]), .t (.aB 1 [[u 1]])])
theorem r21:Fn Tryz.prog 229 a21 [] v21 []∧v21.bL=true:=bc (fuel:=10000) (d:=60) bC k20 (show iL 229=some _ from rfl) (by kernel_rfl)
def l21:List (Nat×List W×V):=(229,a21,v21)::l20
theorem k21:cg Tryz.prog (bZ l21):=aV k20 r21
def a22:List W:=[.agg [.t (bo false), .t (.aB 1 []), .t (.aB 1 [[u 1]])], .agg [.t (bo false), .t (.aB 1 [[u 10]]), .t (.aB 1 [[u 1]])]]
def v22:V:= .w (.agg [.t (bo true), .t (.aB 1 [[u 10]]), .t (.aB 1 [[u 1]])])
theorem r22:Fn Tryz.prog 215 a22 [] v22 []∧v22.bL=true:=bc (fuel:=10000) (d:=60) bC k21 (show iL 215=some _ from rfl) (by kernel_rfl)
def l22:List (Nat×List W×V):=(215,a22,v22)::l21
theorem k22:cg Tryz.prog (bZ l22):=aV k21 r22
def a23:List W:=[.agg [.t (bo false), .t (.aB 1 []), .t (.aB 1 [[u 1]]), .t (bo false), .t (.aB 1 []), .t (.aB 1 [[u 1]])], .agg [.t (bo false), .t (.aB 1 []), .t (.aB 1 [[u 1]]), .t (bo false), .t (.aB 1 [[u 10]]), .t (.aB 1 [[u 1]])]]
def v23:V:= .w (.agg [.t (bo false), .t (.aB 1 []), .t (.aB 1 [[u 1]]), .t (bo true), .t (.aB 1 [[u 10]]), .t (.aB 1 [[u 1]])])
theorem r23:Fn Tryz.prog 192 a23 [] v23 []∧v23.bL=true:=bc (fuel:=10000) (d:=60) bC k22 (show iL 192=some _ from rfl) (by kernel_rfl)
def l23:List (Nat×List W×V):=(192,a23,v23)::l22
theorem k23:cg Tryz.prog (bZ l23):=aV k22 r23
def a24:List W:=[.agg [.t (bo false), .t (.aB 1 []), .t (.aB 1 [[u 1]])], .agg [.t (bo false), .t (.aB 1 []), .t (.aB 1 [[u 1]])]]
def v24:V:= .w (.agg [.t (bo false), .t (.aB 1 []), .t (.aB 1 [[u 1]])])
theorem r24:Fn Tryz.prog 230 a24 [] v24 []∧v24.bL=true:=bc (fuel:=10000) (d:=60) bC k23 (show iL 230=some _ from rfl) (by kernel_rfl)
def l24:List (Nat×List W×V):=(230,a24,v24)::l23
theorem k24:cg Tryz.prog (bZ l24):=aV k23 r24
def a25:List W:=[.one (.t (.aB 1 [[u 10]])), .one (.t (.aB 1 [[u 10]]))]
def v25:V:= .w (.one (.t (.aB 1 [[u 100]])))
theorem r25:Fn Tryz.prog 225 a25 [] v25 []∧v25.bL=true:=bc (fuel:=10000) (d:=60) bC k24 (show iL 225=some _ from rfl) (by kernel_rfl)
def l25:List (Nat×List W×V):=(225,a25,v25)::l24
theorem k25:cg Tryz.prog (bZ l25):=aV k24 r25
def a26:List W:=[.agg [.t (bo true), .t (.aB 1 [[u 100]])], .one (.t (.aB 1 [[u 1]]))]
def v26:V:= .w (.agg [.t (bo true), .t (.aB 1 [[u 100]]), .t (.aB 1 [[u 1]])])
theorem r26:Fn Tryz.prog 229 a26 [] v26 []∧v26.bL=true:=bc (fuel:=10000) (d:=60) bC k25 (show iL 229=some _ from rfl) (by kernel_rfl)
def l26:List (Nat×List W×V):=(229,a26,v26)::l25
theorem k26:cg Tryz.prog (bZ l26):=aV k25 r26
def a27:List W:=[.agg [.t (bo false), .t (.aB 1 [[u 100]])], .one (.t (.aB 1 [[u 1]]))]
def v27:V:= .w (.agg [.t (bo false), .t (.aB 1 [[u 100]]), .t (.aB 1 [[u 1]])])
theorem r27:Fn Tryz.prog 229 a27 [] v27 []∧v27.bL=true:=bc (fuel:=10000) (d:=60) bC k26 (show iL 229=some _ from rfl) (by kernel_rfl)
def l27:List (Nat×List W×V):=(229,a27,v27)::l26
theorem k27:cg Tryz.prog (bZ l27):=aV k26 r27
def a28:List W:=[.agg [.t (bo false), .t (.aB 1 []), .t (.aB 1 [[u 1]])], .agg [.t (bo true), .t (.aB 1 [[u 100]]), .t (.aB 1 [[u 1]])]]
def v28:V:= .w (.agg [.t (bo false), .t (.aB 1 [[u 100]]), .t (.aB 1 [[u 1]])])
theorem r28:Fn Tryz.prog 215 a28 [] v28 []∧v28.bL=true:=bc (fuel:=10000) (d:=60) bC k27 (show iL 215=some _ from rfl) (by kernel_rfl)
def l28:List (Nat×List W×V):=(215,a28,v28)::l27
theorem k28:cg Tryz.prog (bZ l28):=aV k27 r28
def a29:List W:=[.agg [.t (bo false), .t (.aB 1 [[u 100]]), .t (.aB 1 [[u 1]])], .agg [.t (bo false), .t (.aB 1 [[u 100]]), .t (.aB 1 [[u 1]])]]
def v29:V:= .eW [.agg [.t (bo false), .t (.aB 1 [[u 1]]), .t (.aB 1 [[u 1]])], .one (.t (bo true))]
theorem r29:Fn Tryz.prog 210 a29 [] v29 []∧v29.bL=true:=bc (fuel:=10000) (d:=60) bC k28 (show iL 210=some _ from rfl) (by kernel_rfl)
def l29:List (Nat×List W×V):=(210,a29,v29)::l28
theorem k29:cg Tryz.prog (bZ l29):=aV k28 r29
def a30:List W:=[.agg [.t (bo false), .t (.aB 1 [[u 10]]), .t (.aB 1 [[u 1]])], .agg [.t (bo true), .t (.aB 1 [[u 10]]), .t (.aB 1 [[u 1]])]]
def v30:V:= .w (.agg [.t (bo false), .t (.aB 1 []), .t (.aB 1 [[u 1]])])
theorem r30:Fn Tryz.prog 236 a30 [] v30 []∧v30.bL=true:=bc (fuel:=10000) (d:=60) bC k29 (show iL 236=some _ from rfl) (by kernel_rfl)
def l30:List (Nat×List W×V):=(236,a30,v30)::l29
theorem k30:cg Tryz.prog (bZ l30):=aV k29 r30
def a31:List W:=[.agg [.t (bo false), .t (.aB 1 []), .t (.aB 1 [[u 1]]), .t (bo false), .t (.aB 1 []), .t (.aB 1 [[u 1]])]]
def v31:V:= .eW [.agg [.t (i 0), .t (i 0)], .one (.t (i 0))]
theorem r31:Fn Tryz.prog 191 a31 [] v31 []∧v31.bL=true:=bc (fuel:=10000) (d:=60) bC k30 (show iL 191=some _ from rfl) (by kernel_rfl)
def l31:List (Nat×List W×V):=(191,a31,v31)::l30
theorem k31:cg Tryz.prog (bZ l31):=aV k30 r31
def a32:List W:=[.agg [.t (i 10), .t (i 10)]]
def v32:V:= .w (.agg [.t (bo false), .t (.aB 1 [[u 10]]), .t (.aB 1 [[u 1]]), .t (bo false), .t (.aB 1 [[u 10]]), .t (.aB 1 [[u 1]])])
theorem r32:Fn Tryz.prog 190 a32 [] v32 []∧v32.bL=true:=bc (fuel:=10000) (d:=60) bC k31 (show iL 190=some _ from rfl) (by kernel_rfl)
def l32:List (Nat×List W×V):=(190,a32,v32)::l31
theorem k32:cg Tryz.prog (bZ l32):=aV k31 r32
def a33:List W:=[.agg [.t (bo false), .t (.aB 1 [[u 10]]), .t (.aB 1 [[u 1]])], .agg [.t (bo false), .t (.aB 1 [[u 10]]), .t (.aB 1 [[u 1]])]]
def v33:V:= .w (.agg [.t (bo false), .t (.aB 1 []), .t (.aB 1 [[u 1]])])
theorem r33:Fn Tryz.prog 215 a33 [] v33 []∧v33.bL=true:=bc (fuel:=10000) (d:=60) bC k32 (show iL 215=some _ from rfl) (by kernel_rfl)
def l33:List (Nat×List W×V):=(215,a33,v33)::l32
theorem k33:cg Tryz.prog (bZ l33):=aV k32 r33
def a34:List W:=[.agg [.t (bo false), .t (.aB 1 [[u 10]]), .t (.aB 1 [[u 1]]), .t (bo false), .t (.aB 1 [[u 10]]), .t (.aB 1 [[u 1]])], .agg [.t (bo false), .t (.aB 1 [[u 10]]), .t (.aB 1 [[u 1]]), .t (bo false), .t (.aB 1 []), .t (.aB 1 [[u 1]])]]
def v34:V:= .w (.agg [.t (bo false), .t (.aB 1 []), .t (.aB 1 [[u 1]]), .t (bo false), .t (.aB 1 [[u 10]]), .t (.aB 1 [[u 1]])])
theorem r34:Fn Tryz.prog 192 a34 [] v34 []∧v34.bL=true:=bc (fuel:=10000) (d:=60) bC k33 (show iL 192=some _ from rfl) (by kernel_rfl)
def l34:List (Nat×List W×V):=(192,a34,v34)::l33
theorem k34:cg Tryz.prog (bZ l34):=aV k33 r34
def a35:List W:=[.agg [.t (bo false), .t (.aB 1 [[u 100]]), .t (.aB 1 [[u 1]])], .agg [.t (bo false), .t (.aB 1 []), .t (.aB 1 [[u 1]])]]
def v35:V:= .w (.agg [.t (bo false), .t (.aB 1 [[u 100]]), .t (.aB 1 [[u 1]])])
theorem r35:Fn Tryz.prog 215 a35 [] v35 []∧v35.bL=true:=bc (fuel:=10000) (d:=60) bC k34 (show iL 215=some _ from rfl) (by kernel_rfl)
def l35:List (Nat×List W×V):=(215,a35,v35)::l34
theorem k35:cg Tryz.prog (bZ l35):=aV k34 r35
def a36:List W:=[.agg [.t (bo false), .t (.aB 1 []), .t (.aB 1 [[u 1]]), .t (bo false), .t (.aB 1 [[u 10]]), .t (.aB 1 [[u 1]])], .agg [.t (bo false), .t (.aB 1 [[u 10]]), .t (.aB 1 [[u 1]]), .t (bo false), .t (.aB 1 [[u 10]]), .t (.aB 1 [[u 1]])]]
def v36:V:= .w (.agg [.t (bo true), .t (.aB 1 [[u 10]]), .t (.aB 1 [[u 1]]), .t (bo false), .t (.aB 1 []), .t (.aB 1 [[u 1]])])
theorem r36:Fn Tryz.prog 192 a36 [] v36 []∧v36.bL=true:=bc (fuel:=10000) (d:=60) bC k35 (show iL 192=some _ from rfl) (by kernel_rfl)
def l36:List (Nat×List W×V):=(192,a36,v36)::l35
theorem k36:cg Tryz.prog (bZ l36):=aV k35 r36
def a37:List W:=[.agg [.t (.val (.string ⟨#[115,104,105,114,116]⟩)), .t (.aB 1 [[.val (.string ⟨#[83]⟩)],[.val (.string ⟨#[77]⟩)]]), .t (.aB 1 [[i 0],[i 0]]), .t (.aB 7 [[.val (.string ⟨#[102,114,111,110,116]⟩), .aB 2 [[.val (.string ⟨#[108,111,119]⟩), .aB 2 [[i 0,i 0],[i 10,i 0]]],[.val (.string ⟨#[114,105,103,104,116]⟩), .aB 2 [[i 10,i 0],[i 10,i 10]]],[.val (.string ⟨#[104,105,103,104]⟩), .aB 2 [[i 10,i 10],[i 0,i 10]]],[.val (.string ⟨#[108,101,102,116]⟩), .aB 2 [[i 0,i 10],[i 0,i 0]]]],i 1,nl, .aB 2 [[i 0,i 0],[i 0,i 0],[i 0,i 0],[i 0,i 0]], .aB 1 [[i 0],[i 0],[i 0],[i 0]],bo false]]), .t (.aB 3 [[i 0,i 2,bo false]]), .t (nl), .t (nl)], .one (.t (i 1)), .one (.t (i 0))]
def v37:V:= .eW [.one (.t (.aB 2 [[i 0,i 0],[i 10,i 0],[i 10,i 10],[i 0,i 10]])), .one (.t (i 0))]
theorem r37:Fn Tryz.prog 100 a37 [] v37 []∧v37.bL=true:=bc (fuel:=10000) (d:=60) bC k36 (show iL 100=some _ from rfl) (by kernel_rfl)
def l37:List (Nat×List W×V):=(100,a37,v37)::l36
theorem k37:cg Tryz.prog (bZ l37):=aV k36 r37
def a38:List W:=[.one (.t (.aB 2 [[i 10,i 0],[i 20,i 0],[i 20,i 10],[i 10,i 10]]))]
def v38:V:= .w (.one (.t (i 0)))
theorem r38:Fn Tryz.prog 55 a38 [] v38 []∧v38.bL=true:=bc (fuel:=10000) (d:=60) bC k37 (show iL 55=some _ from rfl) (by kernel_rfl)
def l38:List (Nat×List W×V):=(55,a38,v38)::l37
theorem k38:cg Tryz.prog (bZ l38):=aV k37 r38
def a39:List W:=[.one (.t (.aB 2 [[i 0,i 0],[i 10,i 0],[i 10,i 10],[i 0,i 10]]))]
def v39:V:= .eW [.one (.t (.aB 1 [[.aB 2 [[i 0,i 10],[i 0,i 0],[i 10,i 0]]],[.aB 2 [[i 10,i 0],[i 10,i 10],[i 0,i 10]]]])), .one (.t (i 0))]
theorem r39:Fn Tryz.prog 90 a39 [] v39 []∧v39.bL=true:=bc (fuel:=10000) (d:=60) bC k38 (show iL 90=some _ from rfl) (by kernel_rfl)
def l39:List (Nat×List W×V):=(90,a39,v39)::l38
theorem k39:cg Tryz.prog (bZ l39):=aV k38 r39
def a40:List W:=[.one (.t (.aB 2 [[i 10,i 0],[i 20,i 0],[i 20,i 10],[i 10,i 10]]))]
def v40:V:= .eW [.one (.t (.aB 1 [[.aB 2 [[i 10,i 10],[i 10,i 0],[i 20,i 0]]],[.aB 2 [[i 20,i 0],[i 20,i 10],[i 10,i 10]]]])), .one (.t (i 0))]
theorem r40:Fn Tryz.prog 90 a40 [] v40 []∧v40.bL=true:=bc (fuel:=10000) (d:=60) bC k39 (show iL 90=some _ from rfl) (by kernel_rfl)
def l40:List (Nat×List W×V):=(90,a40,v40)::l39
theorem k40:cg Tryz.prog (bZ l40):=aV k39 r40
def a41:List W:=[.agg [.t (.val (.string ⟨#[115,104,105,114,116]⟩)), .t (.aB 1 [[.val (.string ⟨#[83]⟩)],[.val (.string ⟨#[77]⟩)]]), .t (.aB 1 [[i 0],[i 0]]), .t (.aB 7 [[.val (.string ⟨#[102,114,111,110,116]⟩), .aB 2 [[.val (.string ⟨#[108,111,119]⟩), .aB 2 [[i 0,i 0],[i 10,i 0]]],[.val (.string ⟨#[114,105,103,104,116]⟩), .aB 2 [[i 10,i 0],[i 10,i 10]]],[.val (.string ⟨#[104,105,103,104]⟩), .aB 2 [[i 10,i 10],[i 0,i 10]]],[.val (.string ⟨#[108,101,102,116]⟩), .aB 2 [[i 0,i 10],[i 0,i 0]]]],i 1,nl, .aB 2 [[i 0,i 0],[i 0,i 0],[i 0,i 0],[i 0,i 0]], .aB 1 [[i 0],[i 0],[i 0],[i 0]],bo false]]), .t (.aB 3 [[i 0,i 2,bo false]]), .t (nl), .t (nl)], .agg [.t (i 20), .t (i 10), .t (i 0), .t (i 0), .t (.aB 1 [[i 1]]), .t (.aB 7 [[i 0,i 0,i 0,bo false,i 0,i 0,i 0],[i 0,i 0,i 1,bo false,i 0,i 10,i 0]]), .t (.aB 2 [[i 1, .aB 4 [[i 2,i 5,i 25,i 0]]]])], .one (.t (.aB 7 [[.val (.string ⟨#[65]⟩),i 9,i 50,i 0,i 0,i 0,nl],[.val (.string ⟨#[66]⟩),i 10,i 50,i 0,i 0,i 0,nl],[.val (.string ⟨#[67]⟩),i 10,i 50,i 0,i 0,i 0, .aB 4 [[i 20,i 2,i 1,i 1]]]])), .one (.t (.aB 1 [[i 0],[i 0],[i 1]]))]
def v41:V:= .eW [.one (.t (.aB 6 [[i 0,i 0,i 1,i 1, .aB 1 [[i 2]],bo false],[i 0,i 1,i 1,i 1, .aB 1 [[i 2]],bo true]])), .one (.t (i 0))]
theorem r41:Fn Tryz.prog 22 a41 [] v41 []∧v41.bL=true:=bc (fuel:=10000) (d:=60) bC k40 (show iL 22=some _ from rfl) (by kernel_rfl)
def l41:List (Nat×List W×V):=(22,a41,v41)::l40
theorem k41:cg Tryz.prog (bZ l41):=aV k40 r41
def a42:List W:=[]
def v42:V:= .w (.one (.t (bo true)))
theorem r42:Fn Tryz.prog 9 a42 [] v42 []∧v42.bL=true:=bc (fuel:=10000) (d:=60) bC k41 (show iL 9=some _ from rfl) (by kernel_rfl)
end Go.aT.Cd
end
section
namespace Go.Proofs.YtcaeamnhfodfoaaGreat
open Go.ChangeShapes Go.WideShapes Go.ChangeAt Go.RowKit
set_option maxRecDepth 100000
theorem Dy:(Rows.cuttingExactRow.inPlace==Tryz.prog.inPlace 6)=true:=by kernel_rfl
theorem Nr:(Rows.cuttingExactRow.unfollowed==Tryz.prog.unfollowed 6)=true:=by kernel_rfl
theorem Ns:(Rows.cuttingExactRow.recurses==Tryz.prog.recurses 6)=true:=by kernel_rfl
theorem Iq:(Rows.cuttingExactRow.named==Tryz.prog.varsNamed 6)=true:=by kernel_rfl
theorem Ys:(Rows.cuttingExactRow.wf (OpenSpec.ofChange Rows.cuttingExactSpec)&&laidOutB Tryz.prog&&mapsRowed Tryz.prog&&Tryz.f6.params.all (Tryz.prog.readableRec ·)&&namedTie Tryz.prog Rows.cuttingExactRow.named Rows.cuttingExactSpec.vars&& (Rows.cuttingExactRow.stops== [])&& (Tryz.prog.stops== [])&& (Rows.cuttingExactRow.knobs== [])&& (Tryz.prog.stopKnobs== []))=true:=by kernel_rfl
theorem Nt:joinedFacts Tryz.prog 6 Tryz.f6 Rows.cuttingExactSpec Rows.cuttingExactRow=true:=by
 unfold joinedFacts
 rw[Ys,Dy,Nr,Ns,Iq]
 kernel_rfl
end Go.Proofs.YtcaeamnhfodfoaaGreat
end
section
namespace Go.Proofs.YtcaeamnhfodfoaaGreat
open Go.aT Go.ChangeShapes Go.WideShapes Go.ChangeAt Go.RowKit
theorem Tryz.own:ownKnob Tryz.prog.godebug=none:=by kernel_rfl
theorem Tryz.laidOut:laidOutB Tryz.prog=true:=by kernel_rfl
def Yu:Value:= .agg #[.string ⟨#[]⟩, .slice none 0 0, .slice none 0 0, .slice none 0 0, .slice none 0 0, .slice none 0 0, .slice none 0 0, .int .i64 0, .int .i64 0, .int .i64 0, .int .i64 0, .slice none 0 0, .slice none 0 0, .slice none 0 0, .slice none 0 0, .slice none 0 0]
set_option maxRecDepth 100000 in
theorem EZ (XZ: ∀us,Typed Tryz.prog 12 Tryz.f6.params.toList us→aT.Fn Tryz.prog 6 us [] (.w (.one (.t (.val (.bool true))))) []) (os:Os) (started:os.Started) (H:Type) (enc:TypeId×Value→H):
 ReturnsInHanded {} Tryz.checked os 6 .any (Rows.cuttingExactSpec.pre6 enc Tryz.prog Tryz.f6 Rows.cuttingExactRow.domain false) (Rows.cuttingExactSpec.post enc Tryz.prog Tryz.f6 false true false false):=by
 refine returnsInHanded_of_change (C:=Tryz.checked) Tryz.own started (by kernel_rfl) Tryz.func6
  (ChangeSpec.witness6 (enc:=enc) (C:=Tryz.checked) false ⟨#[], #[Yu],[]⟩ 8 (by kernel_rfl) (by kernel_rfl) (by kernel_rfl) (by kernel_rfl)) ?_
 intro W base args ds gs before hval hW _ _
 refine Hz (P:=Tryz.prog) (d:=11) (s:=Rows.cuttingExactSpec) Tryz.laidOut rfl (by kernel_rfl) Tryz.underlying4 ?_ ?_ ?_ XZ hval (fun g vs hg=>by simp[Ce,Md]at hg) hW
 · intro ds hds
   rw[Tryz.params6]at hds
   match ds,hds with
   | [a],_=>exact⟨rfl,rfl,rfl⟩
 · have:(Tryz.f6.params.toList.all fun t=>iF Tryz.prog 12 t)=true:=by kernel_rfl
   exact List.all_eq_true.1 this
 · have:(Tryz.f6.params.toList.all fun t=>Tryz.prog.readableRec t&&decide (t < Tryz.prog.types.size))=true:=by kernel_rfl
   intro t ht
   have:=List.all_eq_true.1 this t ht
   simpa using this
theorem Ic:Tryz.pinned.checked.prog.funcNamed Rows.cuttingExactRow.func=some 6:=by kernel_rfl
theorem Ko:Tryz.f6.isInstance Tryz.pinned.checked.prog Rows.cuttingExactRow.origin Rows.cuttingExactRow.targs:=of_decide_eq_true (by kernel_rfl)
theorem Km:Tryz.f6.isWrapper Tryz.pinned.checked.prog Rows.cuttingExactRow.wrapper Rows.cuttingExactRow.mainSum:=by
 unfold Func.isWrapper;first|(rw[if_pos (by decide+kernel)];kernel_rfl)|(rw[if_neg (by decide+kernel)];exact⟨rfl,rfl⟩)
theorem Kn (XZ: ∀us,Typed Tryz.prog 12 Tryz.f6.params.toList us→aT.Fn Tryz.prog 6 us [] (.w (.one (.t (.val (.bool true))))) []):Rows.CuttingExactSaid:=
 OpenClaim.holds_of_wide 6 Tryz.f6 rfl rfl rfl rfl rfl rfl rfl ⟨rfl,rfl,rfl,rfl,rfl⟩ rfl rfl rfl rfl rfl Ic Tryz.func6 Nt Ko Km
  (fun os started H enc _=>EZ XZ os started H enc)
end Go.Proofs.YtcaeamnhfodfoaaGreat
end
