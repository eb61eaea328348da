import Derived.Test.YtcaeamnhfodfoaaGreatGD
import Derived.Shelf.SlSortCmp.NoneTotal
import Derived.Shelf.SlicesG.Cmp
import Derived.Test.YtcaeamnhfodfoaaGreatProg
import GoSem.ClaimChange
import Derived.Carry
import Derived.ChangeSame
import Derived.ChangeShapes
import Derived.OpenShut
import Derived.Test.YtcaeamnhfodfoaaGreatRows
import Derived.ProofKit
set_option linter.all false
section
namespace Go.aR.Cd
open Go Go.Proofs
set_option maxRecDepth 100000
set_option maxHeartbeats 1000000
def iY (xs:Lz) (i:Int):List T:=(xs[i.toNat]?).getD []
theorem gf {xs:Lz} {i:Int} {e:List T} (h:xs[i.toNat]? =some e):iY xs i=e:=by simp only[iY,h,Option.getD_some]
def uA (used cg:Lz):Nat→Lz
 |0=>used
 |j+1=>match cg[j]? with
  |none=>uA used cg j
  |some e=>(uA used cg j).set (nI 0 e).toNat [tB true]
def fA (cuts:Lz) (n:Nat) (cg:Lz):Nat→Lz
 |0=>List.replicate n [tB false]
 |j+1=>match cg[j]? with
  |none=>fA cuts n cg j
  |some e=>(fA cuts n cg j).set (nI 1 (iY cuts (nI 0 e))).toNat [tB true]
structure Yt (places plies cuts:Lz) (garment gp gs:Int) (u f:Lz) (i:Int):Prop where
 r:0≤i∧i < (cuts.length:Int)
 u:nB 0 (iY u i)=false
 f:nB 0 (iY f (nI 1 (iY cuts i)))=false
 l:nI 2 (iY cuts i)=eF plies gp
 d:nB 5 (iY cuts i)=false
 p:nI 0 (iY cuts i)=gp
 s:nI 3 (iY cuts i)=gs
 g:nI 0 (iY places (nI 1 (iY cuts i)))=garment
def SR (places plies cuts:Lz) (garment gp gs:Int) (used cg:Lz) (j:Nat):Prop:=
 ∀k e,k < j→cg[k]? =some e→Yt places plies cuts garment gp gs (uA used cg k) (fA cuts places.length cg k) (nI 0 e)
structure xO (places plies cuts:Lz) (garment gp gs:Int) (used cg:Lz):Prop where
 all:SR places plies cuts garment gp gs used cg cg.length
 full: ∀ (k:Nat) (p:List T),places[k]? =some p→nI 0 p=garment→nB 0 (iY (fA cuts places.length cg cg.length) (k:Int))=true
section
variable {places plies cuts:Lz} {garment gp gs:Int} {used cg zu zf:Lz} {i:Int} {ju jf jp j:Nat} {p3 q3 l3 s3 lo:Int} {r3:Lz} {d3 b1 b2:Bool} {qq:T}
theorem PS (h0:0≤i) (h1:i < (cuts.length:Int)) (hs:cuts[i.toNat]? =some [tI p3,tI q3,tI l3,tI s3, .aA 1 r3,tB d3]) (Md:zu[ju]? =some [tB b1]) (Xe:ju=i.toNat) (e1:b1=false) (Ib:zf[jf]? =some [tB b2]) (Q6:jf=q3.toNat) (e2:b2=false)
 (hlo:plies[gp.toNat]? =some [tI lo,qq]) (el:l3=lo) (ed:d3=false) (ep:p3=gp) (es:s3=gs) {pe:List T} (fQ:places[q3.toNat]? =some pe) (eg:nI 0 pe=garment):Yt places plies cuts garment gp gs zu zf i:=by
 subst Xe Q6 e1 e2 el ed ep es
 have a1:=gf hs
 have a2:iY zu i=[tB false]:=gf Md
 have a3:iY zf q3=[tB false]:=gf Ib
 have a4:iY places q3=pe:=gf fQ
 have a5:eF plies p3=l3:=by simp only[eF,hlo,Option.getD_some];rfl
 refine⟨⟨h0,h1⟩,by rw[a2];rfl,?_,by rw[a1,a5];rfl,by rw[a1];rfl,by rw[a1];rfl,by rw[a1];rfl,?_⟩
 · rw[a1]
   show nB 0 (iY zf q3)=false
   rw[a3]
   rfl
 · rw[a1]
   show nI 0 (iY places q3)=garment
   rw[a4]
   exact eg
variable (h:Yt places plies cuts garment gp gs zu zf i)
include h
theorem VN (Md:zu[ju]? =some [tB b1]) (Xe:ju=i.toNat):b1=false:=by
 subst Xe
 have:=h.u
 rw[gf Md]at this
 exact this
theorem VM (hs:cuts[i.toNat]? =some [tI p3,tI q3,tI l3,tI s3, .aA 1 r3,tB d3]) (Ib:zf[jf]? =some [tB b2]) (Q6:jf=q3.toNat):b2=false:=by
 subst Q6
 have:=h.f
 rw[gf hs]at this
 have h2:nB 0 (iY zf q3)=false:=this
 rw[gf Ib]at h2
 exact h2
theorem VL (hs:cuts[i.toNat]? =some [tI p3,tI q3,tI l3,tI s3, .aA 1 r3,tB d3]) (hlo:plies[gp.toNat]? =some [tI lo,qq]):l3=lo:=by
 have:=h.l
 have a5:eF plies gp=lo:=by simp only[eF,hlo,Option.getD_some];rfl
 rw[gf hs,a5]at this
 exact this
theorem NY (hs:cuts[i.toNat]? =some [tI p3,tI q3,tI l3,tI s3, .aA 1 r3,tB d3]):d3=false∧p3=gp∧s3=gs:=by
 have h1:=h.d
 have h2:=h.p
 have h3:=h.s
 rw[gf hs]at h1 h2 h3
 exact⟨h1,h2,h3⟩
theorem VK (hs:cuts[i.toNat]? =some [tI p3,tI q3,tI l3,tI s3, .aA 1 r3,tB d3]) {pe:List T} (fQ:places[q3.toNat]? =some pe):nI 0 pe=garment:=by
 have h1:=h.g
 rw[gf hs]at h1
 have h2:nI 0 (iY places q3)=garment:=h1
 rw[gf fQ]at h2
 exact h2
end
theorem qf {places plies cuts:Lz} {garment gp gs:Int} {used cg zu zf:Lz} {i:Int} {j:Nat} (hj:(j:Int) < (cg.length:Int)) (hs:cg[((j:Int)).toNat]? =some [tI i]) (hu:zu=uA used cg j) (hf:zf=fA cuts places.length cg j)
 (hn:Yt places plies cuts garment gp gs zu zf i→False) (h:xO places plies cuts garment gp gs used cg):False:=by
 subst hu hf
 exact hn (h.all j [tI i] (by omega) (by simpa using hs))
def RCp (lay Zv:List T) (places plies cuts:Lz) (garment gp gs:Int) (used cg:Lz) (m:Nat) (vs:List V) (xss:List (Lz)):Prop:=
 ∃ (j:Nat) (zu zf:Lz),j≤cg.length∧m=cg.length - j∧vs=[iV .i64 (j:Int)]∧xss=[zu,[lay],[Zv],zf]∧(zu=uA used cg j∧zf=fA cuts places.length cg j)∧SR places plies cuts garment gp gs used cg j∧(zu.length=cuts.length∧zf.length=places.length)∧Bs zu∧Bs zf
theorem RCp.next {lay Zv:List T} {places plies cuts:Lz} {garment gp gs:Int} {used cg zu zf:Lz} {i q3 p3 l3 s3:Int} {r3:Lz} {d3:Bool} {j ju jf:Nat} (hj:(j:Int) < (cg.length:Int)) (hl:cg.length≤maxLen) (hz:zu=uA used cg j∧zf=fA cuts places.length cg j) (hA:SR places plies cuts garment gp gs used cg j)
 (zG:zu.length=cuts.length∧zf.length=places.length) (EE:Bs zu) (XN:Bs zf) (hs1:cg[((j:Int)).toNat]? =some [tI i]) (hs:cuts[i.toNat]? =some [tI p3,tI q3,tI l3,tI s3, .aA 1 r3,tB d3]) (Xe:ju=i.toNat) (Q6:jf=q3.toNat) (hok:Yt places plies cuts garment gp gs zu zf i):
 RCp lay Zv places plies cuts garment gp gs used cg (cg.length - (j+1)) [iV .i64 (IntKind.i64.wrap ((j:Int)+1))] [zu.set ju [tB true],[lay],[Zv],zf.set jf [tB true]]:=by
 obtain⟨e1,e2⟩:=hz
 subst Xe Q6
 have QR:cg[j]? =some [tI i]:=by simpa using hs1
 have ei:nI 0 [tI i]=i:=rfl
 refine⟨j+1,_,_,by omega,rfl,by simp only[maxLen]at hl;rw[bi (by omega) (by omega)];rfl,rfl,⟨?_,?_⟩,fun k e hk he=>?_,⟨by simp[zG.1],by simp[zG.2]⟩,EE.set _ _,XN.set _ _⟩
 · simp only[uA,QR,ei,e1]
 · simp only[fA,QR,ei,e2,gf hs]
   rfl
 · by_cases Q4:k=j
   · subst Q4
     rw[QR]at he
     cases he
     rw[←e1, ←e2]
     exact hok
   · exact hA k e (by omega) he
def Yr (n:Nat) (zu zf places:Lz) (garment:Int) (m:Nat) (vs:List V) (xss:List (Lz)):Prop:=
 ∃k:Nat,k≤n∧m=n - k∧vs=[iV .i64 (k:Int)]∧xss=[zu,zf]∧ ∀k' p,k' < k→places[k']? =some p→nI 0 p=garment→nB 0 (iY zf (k':Int))=true
theorem Yr.next {zu zf places:Lz} {garment:Int} {k:Nat} {p:List T} (hk:(k:Int) < (places.length:Int)) (hl:places.length≤1000000) (h: ∀k' p,k' < k→places[k']? =some p→nI 0 p=garment→nB 0 (iY zf (k':Int))=true) (hs:places[((k:Int)).toNat]? =some p) (hq:nI 0 p=garment→nB 0 (iY zf (k:Int))=true):
 Yr places.length zu zf places garment (places.length - (k+1)) [iV .i64 (IntKind.i64.wrap ((k:Int)+1))] [zu,zf]:=by
 refine⟨k+1,by omega,rfl,by rw[bi (by omega) (by omega)];rfl,rfl,fun k' p' hk' hp hg=>?_⟩
 by_cases he:k'=k
 · subst he
   have hs':places[k']? =some p:=by simpa using hs
   rw[hs']at hp
   cases hp
   exact hq hg
 · exact h k' p' (by omega) hp hg
def GCp (places plies cuts:Lz) (garment gp gs:Int) (used cg:Lz) (ts:List W) (hout:HS):Prop:=
 ∃ (n:Int) (ys:Lz),ts=[oI n]∧hout=[(0, .row 1 (tr ys))]∧(ys.length=cuts.length∧Bs ys)∧(n=0→xO places plies cuts garment gp gs used cg∧ys=uA used cg cg.length)∧(xO places plies cuts garment gp gs used cg→n=0)
theorem kH {places plies cuts:Lz} {garment gp gs n:Int} {used cg zu:Lz} (hl:zu.length=cuts.length) (hB:Bs zu) (hn:n≠0) (h:xO places plies cuts garment gp gs used cg→False):GCp places plies cuts garment gp gs used cg [oI n] [(0, .row 1 (tr zu))]:=
 ⟨n,zu,rfl,rfl,⟨hl,hB⟩,fun e=>absurd e hn,fun hc=>(h hc).elim⟩
theorem FV {zf:Lz} {k j:Nat} {b:Bool} (h:zf[j]? =some [tB b]) (hj:j=k):nB 0 (iY zf (k:Int))=b:=by
 subst hj
 have h':zf[((j:Int)).toNat]? =some [tB b]:=by simpa using h
 rw[gf h']
 rfl
theorem P8 {b:Bool} (h:b=true) (h2:(!b)=true):False:=by subst h;simp at h2
theorem MC {places plies cuts:Lz} {garment gp gs:Int} {used cg zf:Lz} {j k jf:Nat} {p:List T} {b:Bool} (h:xO places plies cuts garment gp gs used cg) (hj:cg.length=j) (hz:zf=fA cuts places.length cg j) (hs:places[((k:Int)).toNat]? =some p) (hg:nI 0 p=garment) (Ib:zf[jf]? =some [tB b]) (Q6:jf=k):b=true:=by
 have h5:=h.full k p (by simpa using hs) hg
 rw[hj, ←hz,FV Ib Q6]at h5
 exact h5
theorem od (ln wd rx ry:Int) (sizes places plies cuts:Lz) (hL:xK sizes places plies) (hc:Im cuts) (dA:cuts.length≤1000000) (hin: ∀e,e∈cuts→Ik plies.length places.length e) (garment gt gp gs gl:Int) (cg used:Lz) (Ep:Is cg) (QU:cg.length≤maxLen) (hu:Bs used) (En:used.length=cuts.length) (auR:0≤gp) (auQ:gp < (plies.length:Int)): ∃ts hout,Fn Tryz.prog 46 [fM ln wd rx ry sizes places plies,oL 6 cuts,oI garment, .agg [.t (tI gt), .t (tI gp), .t (tI gs), .t (tI gl), .t (.aA 1 cg)], .one (.own 0 1 0 cuts.length)] [(0, .row 1 (tr used))] (aO ts) hout∧GCp places plies cuts garment gp gs used cg ts hout:=by
 have Bb:=hL.Bb
 refine gx Tryz.func46 ?_
 repeat' (conv=>whnf
          first
  |(refine az (fun h=>?_) (fun h=>?_))
  |(refine bC (fun h=>?_) (fun h=>?_))
  |(refine aF (fun h=>?_) (fun h=>?_))
  |(refine And.intro ⟨by omega,by omega,by omega,by omega⟩ ?_)
  |(refine And.intro ⟨by omega,by omega⟩ ?_)
  |(refine ak (xs:=cg) Ep (by omega) (by omega) ?_;rintro _ ⟨i,rfl⟩ hs1)
  |(refine ak (xs:=cuts) (fun e he=>(⟨hc e he,hin e he⟩:YA e∧Ik plies.length places.length e)) (by omega) (by omega) ?_;rintro _ ⟨⟨p3,q3,l3,s3,r3,d3,rfl⟩,(hq1:(0:Int)≤p3),(hq2:p3 < (plies.length:Int)),(hq3:(0:Int)≤q3),(hq4:q3 < (places.length:Int))⟩ hs)
  |(refine ak (xs:=plies) hL.hy (by omega) (by omega) ?_;rintro _ ⟨lo,q2,rfl⟩ hlo)
  |(refine ak (xs:=places) (n:=q3) hL.hp (by omega) (by omega) ?_;rintro _ ⟨g2,u2,k2,f2,t2,x2,y2,rfl⟩ fQ)
  |(refine ak (xs:=places) (n:=(k:Int)) hL.hp (by omega) (by omega) ?_;rintro _ ⟨g4,u4,k4,f4,t4,x4,y4,rfl⟩ bP)
  |(refine And.intro (by kernel_rfl) ?_)
  |(refine bM (xs:=zu) rfl EE (by omega) ?_;rintro _ ⟨b1,rfl⟩ Md)
  |(refine bM (xs:=zf) (i:=0+(k:Int).toNat) rfl XN (by omega) ?_;rintro _ ⟨b4,rfl⟩ WO)
  |(refine bM (xs:=zf) rfl XN (by omega) ?_;rintro _ ⟨b2,rfl⟩ Ib)
  |exact⟨_,_,_,rfl,rfl,jA rfl (xs:=used) (ys:=zu) rfl,⟨0,zu,rfl,rfl,⟨zG.1,EE⟩,fun _=>⟨⟨by rw[show cg.length=j by omega];exact hA,fun k' p hp hg=>by rw[show cg.length=j by omega, ←hz.2];exact hfull k' p (by have:=(List.getElem?_eq_some_iff.1 hp).1;omega) hp hg⟩,by rw[show cg.length=j by omega];exact hz.1⟩,fun _=>rfl⟩⟩
  |exact⟨_,_,_,rfl,rfl,jA rfl (xs:=used) (ys:=zu) rfl,kH zG.1 EE (by decide) (fun h=>P8 (MC h (by omega) hz.2 bP (show g4=garment by omega) WO (by omega)) (by assumption))⟩
  |exact⟨_,_,_,rfl,rfl,jA rfl (xs:=used) (ys:=zu) rfl,kH zG.1 EE (by decide) (qf (by omega) hs1 hz.1 hz.2 (fun h=>by have h5:=h.r;omega))⟩
  |exact⟨_,_,_,rfl,rfl,jA rfl (xs:=used) (ys:=zu) rfl,kH zG.1 EE (by decide) (qf (by omega) hs1 hz.1 hz.2 (fun h=>by have h5:=VK h hs fQ;have h6:g2=garment:=h5;omega))⟩
  |exact⟨_,_,_,rfl,rfl,jA rfl (xs:=used) (ys:=zu) rfl,kH zG.1 EE (by decide) (qf (by omega) hs1 hz.1 hz.2 (fun h=>Bool.noConfusion ((NY h hs).1.symm.trans (by assumption:d3=true))))⟩
  |exact⟨_,_,_,rfl,rfl,jA rfl (xs:=used) (ys:=zu) rfl,kH zG.1 EE (by decide) (qf (by omega) hs1 hz.1 hz.2 (fun h=>by have h5:=NY h hs;omega))⟩
  |exact⟨_,_,_,rfl,rfl,jA rfl (xs:=used) (ys:=zu) rfl,kH zG.1 EE (by decide) (qf (by omega) hs1 hz.1 hz.2 (fun h=>by have h5:=VL h hs hlo;omega))⟩
  |exact⟨_,_,_,rfl,rfl,jA rfl (xs:=used) (ys:=zu) rfl,kH zG.1 EE (by decide) (qf (by omega) hs1 hz.1 hz.2 (fun h=>Bool.noConfusion ((VM h hs Ib (by omega)).symm.trans (by assumption:b2=true))))⟩
  |exact⟨_,_,_,rfl,rfl,jA rfl (xs:=used) (ys:=zu) rfl,kH zG.1 EE (by decide) (qf (by omega) hs1 hz.1 hz.2 (fun h=>Bool.noConfusion ((VN h Md (by omega)).symm.trans (by assumption:b1=true))))⟩
  |(apply aS [2,12,98,99,100] [] [100] [(0,1),(4,1)] (Yr places.length zu zf places garment) (places.length) [iV .i64 0];(conv=>whnf);exact⟨rfl,rfl,rfl,rfl⟩;exact rfl;exact rfl;exact .cons (av.au (xs:=zu) rfl _) (.cons (av.au (xs:=zf) rfl _) .nil);exact⟨0,by omega,rfl,rfl,rfl,fun k' p hk=>by omega⟩;rintro _ _ _ ⟨k,hk,rfl,rfl,rfl,hfull⟩)
  |(refine aj [2,12,98,99,100] [] ?_;(conv=>whnf);first|exact⟨rfl,_,[_],_, .cons (av.au (xs:=zu) rfl _) (.cons (av.au (xs:=zf) rfl _) .nil),Yr.next (by omega) Bb hfull bP (fun hg=>absurd hg (show ¬ (g4=garment) by omega)),rfl,rfl,by omega⟩|exact⟨rfl,_,[_],_, .cons (av.au (xs:=zu) rfl _) (.cons (av.au (xs:=zf) rfl _) .nil),Yr.next (by omega) Bb hfull bP (fun _=>(FV WO (by omega)).trans (dB (by assumption))),rfl,rfl,by omega⟩)
  |(apply aS [1,2,4,5,8,11,12,25,26,27] [] [27] [(0,1),(4,7),(8,5),(12,1)] (RCp (cU ln wd rx ry sizes places plies) (jD gt gp gs gl cg) places plies cuts garment gp gs used cg) (cg.length) [iV .i64 0];(conv=>whnf);exact⟨rfl,rfl,rfl,rfl⟩;exact rfl;exact rfl;exact .cons (av.au (xs:=used) rfl _) (.cons (av.au (xs:=[cU ln wd rx ry sizes places plies]) rfl _) (.cons (av.au (xs:=[jD gt gp gs gl cg]) rfl _) (.cons (av.au (av.replicate _ [tB false]) _) .nil)));exact⟨0,used,_,by omega,rfl,rfl,rfl,⟨rfl,rfl⟩,fun k e hk=>by omega,⟨En,by simp⟩,hu,Bs.I0 _ _⟩;rintro _ _ _ ⟨j,zu,zf,hj,rfl,rfl,rfl,hz,hA,zG,EE,XN⟩)
  |(refine aj [1,2,4,5,8,11,12,25,26,27] [] ?_;(conv=>whnf);exact⟨rfl,_,[_],_, .cons (av.au (av.set (xs:=zu) rfl _ [tB _]) _) (.cons (av.au (xs:=[cU ln wd rx ry sizes places plies]) rfl _) (.cons (av.au (xs:=[jD gt gp gs gl cg]) rfl _) (.cons (av.au (av.set (xs:=zf) rfl _ [tB _]) _) .nil))),RCp.next (by omega) QU hz hA zG EE XN hs1 hs (by omega) (by omega) (PS (by omega) (by omega) hs Md (by omega) (by simp_all) Ib (by omega) (by simp_all) hlo (by omega) (by assumption) (by omega) (by omega) fQ (show g2=garment by omega)),rfl,rfl,by omega⟩))
 all_goals (conv=>whnf)
end Go.aR.Cd
end
section
namespace Go.aR.Cd
open Go Go.Proofs
set_option maxRecDepth 100000
set_option maxHeartbeats 1000000
def SG (e:List T):Prop:= ∃t p s l cg,e=jD t p s l cg∧Is cg∧cg.length≤maxLen
def uG (cuts gs:Lz):Nat→Lz
 |0=>List.replicate cuts.length [tB false]
 |j+1=>match gs[j]? with
  |none=>uG cuts gs j
  |some e=>uA (uG cuts gs j) (nL 4 e) (nL 4 e).length
def Ac (bs:Lz) (e:List T):Prop:= ∃t g s l f o,DQ bs (nI 0 e)=some (jK t g s l f o)∧f≤nI 1 e∧nI 1 e < o∧nI 2 e=s
def SN (e o:List T):Prop:=nI 0 o=nI 0 e∧nI 1 o=nI 1 e
structure SK (places plies cuts bs:Lz) (u dr:Lz) (e:List T):Prop where
 pre:Ac bs e
 dup: ∀o,o∈dr→¬SN e o
 fN:nI 3 e=eF plies (nI 1 e)
 fit: ∀t g s l f o,DQ bs (nI 0 e)=some (jK t g s l f o)→xO places plies cuts g (nI 1 e) (nI 2 e) u (nL 4 e)
def mH (places plies cuts bs gs:Lz) (j:Nat):Prop:= ∀k e,k < j→gs[k]? =some e→SK places plies cuts bs (uG cuts gs k) (gs.take k) e
def DI (places plies cuts bs gs:Lz):Prop:= ∃j e,mH places plies cuts bs gs j∧gs[j]? =some e∧Ac bs e∧ ∃o,o∈gs.take j∧SN e o
section
variable {places plies cuts bs gs:Lz} {i:Nat} {e:List T}
theorem MP (hA:mH places plies cuts bs gs i) (hs:gs[i]? =some e) (hn:Ac bs e→False) (h:DI places plies cuts bs gs):False:=by
 obtain⟨j,e2,h1,h2,h3,o,h4,h5⟩:=h
 rcases Nat.lt_trichotomy j i with hlt|rfl|hgt
 · exact(hA j e2 hlt h2).dup o h4 h5
 · rw[hs]at h2
   cases h2
   exact hn h3
 · exact hn (h1 i e hgt hs).pre
theorem Kq (hA:mH places plies cuts bs gs i) (hs:gs[i]? =some e) (hd: ∀o,o∈gs.take i→¬SN e o) (hn:SK places plies cuts bs (uG cuts gs i) (gs.take i) e→False) (h:DI places plies cuts bs gs):False:=by
 obtain⟨j,e2,h1,h2,h3,o,h4,h5⟩:=h
 rcases Nat.lt_trichotomy j i with hlt|rfl|hgt
 · exact(hA j e2 hlt h2).dup o h4 h5
 · rw[hs]at h2
   cases h2
   exact hd o h4 h5
 · exact hn (h1 i e hgt hs)
theorem MQ (hA:mH places plies cuts bs gs gs.length) (h:DI places plies cuts bs gs):False:=by
 obtain⟨j,e2,h1,h2,h3,o,h4,h5⟩:=h
 exact(hA j e2 (List.getElem?_eq_some_iff.1 h2).1 h2).dup o h4 h5
end
theorem VJ {bs:Lz} {e:List T} (hf:DQ bs (nI 0 e)=none) (h:Ac bs e):False:=by
 obtain⟨t,g,s,l,f,o,h1,_⟩:=h
 rw[hf]at h1
 simp at h1
theorem VI {bs:Lz} {e:List T} {t g s l f o:Int} (hf:DQ bs (nI 0 e)=some (jK t g s l f o)) (h:Ac bs e):f≤nI 1 e∧nI 1 e < o∧nI 2 e=s:=by
 obtain⟨t,g,s,l,f,o,h1,h2,h3,h4⟩:=h
 rw[hf]at h1
 simp at h1
 obtain⟨rfl,rfl,rfl,rfl,rfl,rfl⟩:=h1
 exact⟨h2,h3,h4⟩
theorem BK {sizes plies bs:Lz} {tk t g s l f o:Int} (hR: ∀e,e∈bs→SQ sizes plies e) (hf:DQ bs tk=some (jK t g s l f o)):0≤f∧o≤(plies.length:Int):=by
 obtain⟨t',g',s',l',f',o',h1,h2,h3,h4,h5⟩:=hR _ (List.mem_of_find?_eq_some hf)
 simp at h1
 obtain⟨rfl,rfl,rfl,rfl,rfl,rfl⟩:=h1
 exact⟨h3,h5⟩
structure Ok0 (ck:Int) (places plies cuts bs gs:Lz):Prop where
 ck:ck=0
 len:gs.length≤240
 all:mH places plies cuts bs gs gs.length
def OS (ck:Int) (places plies cuts bs gs:Lz) (ts:List W):Prop:=
 ∃n:Int,ts=[oI n]∧(n=0→Ok0 ck places plies cuts bs gs)∧(Ok0 ck places plies cuts bs gs→n=0)∧(ck=0→gs.length≤240→DI places plies cuts bs gs→n=7)
section
variable {ck:Int} {places plies cuts bs gs:Lz} {n:Int}
theorem Rt (h:ck≠0):OS ck places plies cuts bs gs [oI ck]:=⟨ck,rfl,fun e=>absurd e h,fun e=>absurd e.ck h,fun e=>absurd e h⟩
theorem Mz (h:240 < gs.length):OS ck places plies cuts bs gs [oI 5]:=⟨5,rfl,fun e=>by omega,fun e=>by have:=e.len;omega,fun _ e=>by omega⟩
theorem FX (hn:n≠0) (h1:Ok0 ck places plies cuts bs gs→False) (h2:DI places plies cuts bs gs→False):OS ck places plies cuts bs gs [oI n]:=⟨n,rfl,fun e=>absurd e hn,fun e=>(h1 e).elim,fun _ _ e=>(h2 e).elim⟩
theorem FW (hn:n≠0) {i:Nat} {e:List T} (hA:mH places plies cuts bs gs i) (hs:gs[((i:Int)).toNat]? =some e) (h:Ac bs e→False):OS ck places plies cuts bs gs [oI n]:=by
 have hs':gs[i]? =some e:=by simpa using hs
 exact FX hn (fun h0=>h (h0.all i e (List.getElem?_eq_some_iff.1 hs').1 hs').pre) (MP hA hs' h)
theorem C5 (hn:n≠0) {i:Nat} {e:List T} (hA:mH places plies cuts bs gs i) (hs:gs[((i:Int)).toNat]? =some e) (hd: ∀o,o∈ (gs.drop 0).take (((i:Int)).toNat - 0)→¬SN e o) (h:SK places plies cuts bs (uG cuts gs i) (gs.take i) e→False):OS ck places plies cuts bs gs [oI n]:=by
 have hs':gs[i]? =some e:=by simpa using hs
 exact FX hn (fun h0=>h (h0.all i e (List.getElem?_eq_some_iff.1 hs').1 hs')) (Kq hA hs' (by simpa using hd) h)
theorem MA {i j:Nat} {e o:List T} (hA:mH places plies cuts bs gs i) (hs:gs[((i:Int)).toNat]? =some e) (ho:((gs.drop 0).take (((i:Int)).toNat - 0))[j]? =some o) (h:SN e o):OS ck places plies cuts bs gs [oI 7]:=by
 have hs':gs[i]? =some e:=by simpa using hs
 refine⟨7,rfl,fun e=>by omega,fun h0=>?_,fun _ _ _=>rfl⟩
 have hm:o∈gs.take i:=by simpa using List.mem_of_getElem? ho
 exact((h0.all i e (List.getElem?_eq_some_iff.1 hs').1 hs').dup o hm h).elim
theorem XT {i:Nat} (hc:ck=0) (hl:gs.length≤240) (hA:mH places plies cuts bs gs i) (hi:gs.length=i):OS ck places plies cuts bs gs [oI 0]:=
 ⟨0,rfl,fun _=>⟨hc,hl,by rw[hi];exact hA⟩,fun _=>rfl,fun _ _ h=>(MQ (by rw[hi];exact hA) h).elim⟩
end
def RCk (lay:List T) (places plies cuts bs gs:Lz) (m:Nat) (vs:List V) (xss:List (Lz)):Prop:=
 ∃ (j:Nat) (zu:Lz),j≤gs.length∧m=gs.length - j∧vs=[iV .i64 (j:Int)]∧xss=[[lay],zu]∧zu=uG cuts gs j∧mH places plies cuts bs gs j∧zu.length=cuts.length∧Bs zu
theorem RCk.next {lay:List T} {places plies cuts bs gs ys:Lz} {j:Nat} {t p s l:Int} {cg:Lz} (hj:(j:Int) < (gs.length:Int)) (hl:gs.length≤240) (hA:mH places plies cuts bs gs j) (hs:gs[((j:Int)).toNat]? =some (jD t p s l cg)) (hy:ys=uA (uG cuts gs j) cg cg.length) (jT:ys.length=cuts.length) (hyB:Bs ys)
 (hok:SK places plies cuts bs (uG cuts gs j) (gs.take j) (jD t p s l cg)):RCk lay places plies cuts bs gs (gs.length - (j+1)) [iV .i64 (IntKind.i64.wrap ((j:Int)+1))] [[lay],ys]:=by
 have hs':gs[j]? =some (jD t p s l cg):=by simpa using hs
 refine⟨j+1,ys,by omega,rfl,by rw[bi (by omega) (by omega)];rfl,rfl,?_,fun k e hk he=>?_,jT,hyB⟩
 · simp only[uG,hs']
   exact hy
 · by_cases Q4:k=j
   · subst Q4
     rw[hs']at he
     cases he
     exact hok
   · exact hA k e (by omega) he
theorem Rq {places plies cuts bs gs:Lz} {j:Nat} {t p s l t2 g2 s2 l2 f2 o2 lo:Int} {cg:Lz} {qq:T} (hf:DQ bs t=some (jK t2 g2 s2 l2 f2 o2)) (h1:f2≤p) (h2:p < o2) (h3:s=s2) (hd: ∀o,o∈ (gs.drop 0).take (((j:Int)).toNat - 0)→¬SN (jD t p s l cg) o) (hlo:plies[p.toNat]? =some [tI lo,qq]) (hl:l=lo)
 (hfit:xO places plies cuts g2 p s (uG cuts gs j) cg):SK places plies cuts bs (uG cuts gs j) (gs.take j) (jD t p s l cg):=by
 have a5:eF plies p=lo:=by simp only[eF,hlo,Option.getD_some];rfl
 refine⟨⟨t2,g2,s2,l2,f2,o2,hf,h1,h2,h3⟩,by simpa using hd,?_,fun t' g' s' l' f' o' lJ=>?_⟩
 · show l=eF plies p
   rw[a5]
   exact hl
 · have Rf:DQ bs t=some (jK t' g' s' l' f' o'):=lJ
   rw[hf]at Rf
   simp at Rf
   obtain⟨rfl,rfl,rfl,rfl,rfl,rfl⟩:=Rf
   exact hfit
theorem My {places plies cuts bs u ea:Lz} {t p s l lo:Int} {cg:Lz} {qq:T} (hlo:plies[p.toNat]? =some [tI lo,qq]) (h:SK places plies cuts bs u ea (jD t p s l cg)):l=lo:=by
 have a5:eF plies p=lo:=by simp only[eF,hlo,Option.getD_some];rfl
 have h1:l=eF plies p:=h.fN
 rw[a5]at h1
 exact h1
theorem xA (sn:ByteArray) (bz ms ps us ss os:Lz) (ln wd rx ry:Int) (sizes places plies bs cuts gs:Lz) (hL:xK sizes places plies) (hb:B0 bs) (Ig:bs.length≤1000000) (hc:Im cuts) (dA:cuts.length≤1000000) (hg: ∀e,e∈gs→SG e) (Om:gs.length≤maxLen) (ck:Int) (h1:Te 43 [fW sn bz ms ps us ss os,fM ln wd rx ry sizes places plies,oL 6 bs,oL 6 cuts] [oI ck]) (yA:ck=0→(∀e,e∈bs→SQ sizes plies e)∧ ∀e,e∈cuts→Ik plies.length places.length e):Tg 25 [fW sn bz ms ps us ss os,fM ln wd rx ry sizes places plies,oL 6 bs,oL 6 cuts,oL 5 gs] (OS ck places plies cuts bs gs):=by
 refine ae Tryz.func25 ?_
 repeat' (conv=>whnf
          first
  |(refine az (fun h=>?_) (fun h=>?_))
  |(refine bC (fun h=>?_) (fun h=>?_))
  |(refine aF (fun h=>?_) (fun h=>?_))
  |(refine And.intro ⟨by omega,by omega,by omega,by omega⟩ ?_)
  |(refine dm (Nat.zero_le _) (by omega) ?_)
  |(refine ak (xs:=gs) hg (by omega) (by omega) ?_;rintro _ ⟨t,p,s,l,cg,rfl,agJ,QU⟩ hs)
  |(refine ak (xs:=(gs.drop 0).take (((j:Int)).toNat - 0)) (da hg _ _) (by omega) (by omega) ?_;rintro _ ⟨t3,p3,s3,l3,asE,rfl,anQ,anR⟩ bP)
  |(refine ak (xs:=plies) hL.hy (by have:=BK (yA (by omega)).1 (JO (dB (by assumption)));omega) (by have:=BK (yA (by omega)).1 (JO (dB (by assumption)));omega) ?_;rintro _ ⟨lo,q2,rfl⟩ hlo)
  |(refine And.intro (by kernel_rfl) ?_)
  |(refine And.intro (by omega) ?_)
  |(refine ag rfl (h1) ?_;rintro _ rfl)
  |(refine ag rfl (yL bs _ hb (by simp only[maxLen];omega)) ?_;rintro _ ⟨t2,g2,s2,l2,f2,o2,fb,rfl,JO,Zk⟩)
  |(refine fc [8] rfl (od ln wd rx ry sizes places plies cuts hL hc dA (yA (by omega)).2 g2 t p s l cg zu agJ QU EE hlu (by have:=BK (yA (by omega)).1 (JO (dB (by assumption)));omega) (by have:=BK (yA (by omega)).1 (JO (dB (by assumption)));omega)) rfl (j9 rfl rfl) ?_;rintro _ _ ⟨n,ys,rfl,rfl,⟨jT,hyB⟩,hfit,CY⟩)
  |exact g1 rfl rfl (Rt (by omega))
  |exact g1 rfl rfl (Mz (by omega))
  |exact g1 rfl rfl (XT (by omega) (by omega) hA (by omega))
  |exact g1 rfl rfl (MA hA hs bP ⟨show t3=t by omega,show p3=p by omega⟩)
  |exact g1 rfl rfl (C5 (by omega) hA hs (hp2.all (by omega)) (fun h=>by have:=CY (by rw[hz];exact h.fit _ _ _ _ _ _ (JO (dB (by assumption))));omega))
  |exact g1 rfl rfl (C5 (by decide) hA hs (hp2.all (by omega)) (fun h=>by have:=My hlo h;omega))
  |exact g1 rfl rfl (FW (by decide) hA hs (VJ (Zk (Vs (by assumption)))))
  |exact g1 rfl rfl (FW (by decide) hA hs (fun h=>by have hq:=VI (JO (dB (by assumption))) h;have q1:f2≤p:=hq.1;have q2:p < o2:=hq.2.1;have q3:s=s2:=hq.2.2;omega))
  |(apply aS [2,3,4,6,12,14,15,34,35,36,69,70,71] [] [71] [(4,7),(8,1),(12,5),(16,6)] (ON (fun o=>¬SN (jD t p s l cg) o) ((gs.drop 0).take (((j:Int)).toNat - 0)) [[cU ln wd rx ry sizes places plies],zu,[jD t p s l cg],[jK t2 g2 s2 l2 f2 o2]]) (((gs.drop 0).take (((j:Int)).toNat - 0)).length) [iV .i64 0];(conv=>whnf);exact⟨rfl,rfl,rfl,rfl⟩;exact rfl;exact rfl;exact .cons (av.au (xs:=[cU ln wd rx ry sizes places plies]) rfl _) (.cons (av.au (xs:=zu) rfl _) (.cons (av.au (xs:=[jD t p s l cg]) rfl _) (.cons (av.au (xs:=[jK t2 g2 s2 l2 f2 o2]) rfl _) .nil)));exact⟨0,by omega,Pre.zero,rfl,rfl,rfl⟩;rintro _ _ _ ⟨i2,hi2,hp2,rfl,rfl,rfl⟩)
  |(refine aj [2,3,4,6,12,14,15,34,35,36,69,70,71] [] ?_;(conv=>whnf);exact⟨rfl,_,[_],_, .cons (av.au (xs:=[cU ln wd rx ry sizes places plies]) rfl _) (.cons (av.au (xs:=zu) rfl _) (.cons (av.au (xs:=[jD t p s l cg]) rfl _) (.cons (av.au (xs:=[jK t2 g2 s2 l2 f2 o2]) rfl _) .nil))),ON.next (by omega) (jc Om _ _) hp2 bP (fun hd=>by have d1:t3=t:=hd.1;have d2:p3=p:=hd.2;omega),rfl,rfl,by omega⟩)
  |(apply aS [2,3,4,6,12,34,35,36] [] [36] [(4,7),(8,1)] (RCk (cU ln wd rx ry sizes places plies) places plies cuts bs gs) (gs.length) [iV .i64 0];(conv=>whnf);exact⟨rfl,rfl,rfl,rfl⟩;exact rfl;exact rfl;exact .cons (av.au (xs:=[cU ln wd rx ry sizes places plies]) rfl _) (.cons (av.au (av.replicate _ [tB false]) _) .nil);exact⟨0,_,by omega,rfl,rfl,rfl,rfl,fun k e hk=>by omega,by simp,Bs.I0 _ _⟩;rintro _ _ _ ⟨j,zu,hj,rfl,rfl,rfl,hz,hA,hlu,EE⟩)
  |(refine aj [2,3,4,6,12,34,35,36] [] ?_;(conv=>whnf);exact⟨rfl,_,[_],_, .cons (av.au (xs:=[cU ln wd rx ry sizes places plies]) rfl _) (.cons (av.au (av.au (xs:=ys) rfl _) _) .nil),RCk.next (by omega) (by omega) hA hs ((hfit (by omega)).2.trans (by rw[hz])) jT hyB (Rq (JO (dB (by assumption))) (by omega) (by omega) (by omega) (hp2.all (by omega)) hlo (by omega) (by rw[←hz];exact(hfit (by omega)).1)),rfl,rfl,by omega⟩))
 all_goals (conv=>whnf)
end Go.aR.Cd
end
section
namespace Go.aR.Cd
open Go Go.Proofs
set_option maxRecDepth 100000
set_option maxHeartbeats 1000000
def uh (bs:Lz):Int:=(bs.map fun e=>nI 5 e - nI 4 e).sum
theorem BJ:B0 []:=fun e he=>by cases he
theorem B2 (bs:Lz) (t g s l f o:Int):uh (bs++[jK t g s l f o])=uh bs+(o - f):=by
 simp only[uh,List.map_append,List.sum_append,List.map_cons,List.map_nil,List.sum_cons,List.sum_nil]
 show _+(o - f+0)=_
 omega
theorem KB {bs:Lz} (h:B0 bs) (t g s l f o:Int):B0 (bs++[jK t g s l f o]):=fun e he=>by
 rcases List.mem_append.1 he with h1|h1
 · exact h e h1
 · simp only[List.mem_singleton]at h1
   exact⟨t,g,s,l,f,o,h1⟩
def GMk (ns np:Nat) (ts:List W):Prop:= ∃bs e,ts=[oL 6 bs,oI e]∧B0 bs∧bs.length≤60∧(e=0→uh bs=((ns * np:Nat):Int))
theorem aeK {ns np:Nat} (h:np=0):GMk ns np [oL 6 [],oI 0]:=⟨[],0,rfl,BJ,by simp,fun _=>by subst h;rfl⟩
theorem aeJ {ns np:Nat} {e:Int} (h:e≠0):GMk ns np [oL 6 [],oI e]:=⟨[],e,rfl,BJ,by simp,fun h2=>absurd h2 h⟩
def Z5 (row:List T) (ns np:Nat) (m:Nat) (vs:List V) (xss:List (Lz)):Prop:= ∃ (i:Nat) (zs:Lz),i≤ns∧m=ns - i∧vs=[bn 8 6 zs.length,iV .i64 (i:Int)]∧xss=[[row],zs]∧B0 zs∧zs.length≤60∧uh zs=((i * np:Nat):Int)
def Z4 (row:List T) (i np:Nat) (m:Nat) (vs:List V) (xss:List (Lz)):Prop:= ∃ (f:Nat) (zs:Lz),f≤np∧m=np - f∧vs=[bn 8 6 zs.length,iV .i64 (f:Int)]∧xss=[[row],zs]∧B0 zs∧zs.length≤60∧uh zs=((i * np+f:Nat):Int)
def Z3 (row:List T) (zs:Lz) (f np:Nat) (m:Nat) (vs:List V) (xss:List (Lz)):Prop:= ∃t:Nat,f+1≤t∧t≤np∧m=np - t∧vs=[iV .i64 (t:Int)]∧xss=[[row],zs]
theorem Z5.next {row:List T} {ns np i f:Nat} {zs:Lz} (hi:(i:Int) < (ns:Int)) (hn:ns≤1000000) (hB:B0 zs) (hl:zs.length≤60) (hf:f≤np) (DO:np≤f) (hw:uh zs=((i * np+f:Nat):Int)):Z5 row ns np (ns - (i+1)) [bn 8 6 zs.length,iV .i64 (IntKind.i64.wrap ((i:Int)+1))] [[row],zs]:=by
 refine⟨i+1,zs,by omega,rfl,by rw[bi (by omega) (by omega)];rfl,rfl,hB,hl,?_⟩
 rw[hw,Nat.add_mul,show f=np by omega]
 simp
theorem Z4.next {row:List T} {i np f t q:Nat} {zs:Lz} {a g s l:Int} (WD:f+1≤t) (WC:t≤np) (hB:B0 zs) (hl:zs.length≤60) (qX:¬ (zs.length:Int)=60) (hw:uh zs=((i * np+f:Nat):Int)) (hq:q=zs.length+1):Z4 row i np (np - t) [bn 8 6 q,iV .i64 (t:Int)] [[row],zs++[jK a g s l (f:Int) (t:Int)]]:=by
 subst hq
 refine⟨t,_,WC,rfl,by simp,rfl,KB hB _ _ _ _ _ _,by simp;omega,?_⟩
 rw[B2,hw]
 omega
theorem Z3.next {row:List T} {f np t:Nat} {zs:Lz} (h:(t:Int) < (np:Int)) (hn:np≤1000000) (ht:f+1≤t):Z3 row zs f np (np - (t+1)) [iV .i64 (IntKind.i64.wrap ((t:Int)+1))] [[row],zs]:=
 ⟨t+1,by omega,by omega,rfl,by rw[bi (by omega) (by omega)];rfl,rfl⟩
theorem tW (ln wd rx ry:Int) (sizes places plies:Lz) (hz:Is sizes) (gR:sizes.length≤1000000) (hy:SA plies) (jT:plies.length≤1000000) (most:Int): ∃ts,Fn Tryz.prog 23 [fM ln wd rx ry sizes places plies,oI most] [] (aO ts) []∧(aO ts).cV=true∧GMk sizes.length plies.length ts:=by
 refine aH ?_
 refine ae Tryz.func23 ?_
 repeat' (conv=>whnf
          first
  |(refine az (fun h=>?_) (fun h=>?_))
  |(refine rA (fun h=>?_) (fun h=>?_))
  |(refine bC (fun h=>?_) (fun h=>?_))
  |(refine aF (fun h=>?_) (fun h=>?_))
  |(refine ak (xs:=sizes) hz (by omega) (by omega) ?_;rintro _ ⟨sz,rfl⟩ hs)
  |(refine ak (xs:=plies) hy (by omega) (by omega) ?_;rintro _ ⟨lo,qq,rfl⟩ Hp)
  |(refine And.intro ⟨by simp[tr],by simp[tr,aT];omega,by simp[tr,maxLen];omega⟩ ?_)
  |(refine iK (by omega) (by omega) ?_;intro bb)
  |(refine dm (by omega) (by omega) ?_)
  |(refine And.intro (by kernel_rfl) ?_)
  |(refine And.intro (by omega) ?_)
  |exact dh rfl (bJ 6 rfl) (bN rfl) (aeJ (by decide))
  |exact dh rfl (bJ 6 rfl) (bN rfl) (aeK (by omega))
  |exact dh rfl (eO rfl rfl (xs:=zs) rfl (by omega)) (bN rfl) ⟨_,_,rfl,by rw[dS rfl];exact hB,by rw[dS rfl];exact Wv,fun _=>by rw[dS rfl,hw,show i=sizes.length by omega]⟩
  |(apply aS [1,2,6,7,8,9,10,11,20,21,22] [] [11] [(4,7),(8,6)] (Z3 (cU ln wd rx ry sizes places plies) xQ f plies.length) ((plies.length - (f+1))) [iV .i64 (IntKind.i64.wrap ((f:Int)+1))];(conv=>whnf);exact⟨rfl,rfl,rfl,rfl⟩;exact rfl;exact rfl;exact .cons (av.au (xs:=[cU ln wd rx ry sizes places plies]) rfl _) (.cons (av.au (xs:=xQ) rfl _) .nil);exact⟨f+1,by omega,by omega,rfl,by rw[bi (by omega) (by omega)];rfl,rfl⟩;rintro _ _ _ ⟨t,WD,WC,rfl,rfl,rfl⟩)
  |(refine aj [1,2,6,7,8,9,10,11,20,21,22] [] ?_;(conv=>whnf);exact⟨rfl,_,[_],_, .cons (av.au (xs:=[cU ln wd rx ry sizes places plies]) rfl _) (.cons (av.au (xs:=xQ) rfl _) .nil),Z3.next (by omega) jT WD,rfl,rfl,by omega⟩)
  |(apply aS [1,2,6,7,8,9,20,21,22] [] [6,9] [(4,7),(8,6)] (Z4 (cU ln wd rx ry sizes places plies) i plies.length) (plies.length) [bn 8 6 zs.length,iV .i64 0];(conv=>whnf);exact⟨rfl,rfl,rfl,rfl⟩;exact rfl;exact rfl;exact .cons (av.au (xs:=[cU ln wd rx ry sizes places plies]) rfl _) (.cons (av.au (xs:=zs) rfl _) .nil);exact⟨0,zs,by omega,rfl,rfl,rfl,hB,Wv,by simpa using hw⟩;rintro _ _ _ ⟨f,xQ,hf,rfl,rfl,rfl,hB2,Em,N7⟩)
  |(refine aj [1,2,6,7,8,9,20,21,22] [] ?_;(conv=>whnf);exact⟨rfl,_,[_,_],_, .cons (av.au (xs:=[cU ln wd rx ry sizes places plies]) rfl _) (.cons (av.au (av.snoc (xs:=xQ) rfl [tI _,tI _,tI _,tI _,tI _,tI _]) _) .nil),Z4.next WD WC hB2 Em (by assumption) N7 (by simp[tr]),rfl,rfl,by omega⟩)
  |(apply dI [1,2,6,20,21,22] [] [6,22] [(4,7),(8,6)] (Z5 (cU ln wd rx ry sizes places plies) sizes.length plies.length) (sizes.length) [bn 8 6 0,iV .i64 0] (dL.iL 6 6 rfl);(conv=>whnf);exact⟨rfl,rfl,rfl,rfl⟩;exact rfl;exact rfl;exact .cons (av.au (xs:=[cU ln wd rx ry sizes places plies]) rfl _) (.cons (av.au av.nil _) .nil);exact⟨0,[],by omega,rfl,rfl,rfl,BJ,by simp,by simp[uh]⟩;rintro _ _ _ ⟨i,zs,hi,rfl,rfl,rfl,hB,Wv,hw⟩)
  |(refine aj [1,2,6,20,21,22] [] ?_;(conv=>whnf);exact⟨rfl,_,[_,_],_, .cons (av.au (xs:=[cU ln wd rx ry sizes places plies]) rfl _) (.cons (av.au (xs:=xQ) rfl _) .nil),Z5.next (by omega) gR hB2 Em hf (by omega) N7,rfl,rfl,by omega⟩)
  |(exfalso;omega))
 all_goals (conv=>whnf)
end Go.aR.Cd
end
section
namespace Go.aR.Cd
open Go Go.Proofs
set_option maxRecDepth 100000
set_option maxHeartbeats 1000000
def Ij (lay:List T) (N:Nat) (m:Nat) (vs:List V) (xss:List (Lz)):Prop:= ∃i:Nat,i≤N∧m=N - i∧vs=[iV .i64 (i:Int)]∧xss=[[lay]]
theorem Ij.next {lay:List T} {N i:Nat} (hi:(i:Int) < (N:Int)) (hl:N≤maxLen):Ij lay N (N - (i+1)) [iV .i64 (IntKind.i64.wrap ((i:Int)+1))] [[lay]]:=
 ⟨i+1,by omega,rfl,by simp only[maxLen]at hl;rw[bi (by omega) (by omega)];rfl,rfl⟩
theorem OX {xs:Lz} {e:List T} {n:Int} {K:List T→Prop} (h:xs[n.toNat]? =some e) (h0:0≤n) (hk:K e):0≤n∧ ∃e,xs[n.toNat]? =some e∧K e:=⟨h0,e,h,hk⟩
def Tv (row:List T) (N:Nat) (m:Nat) (vs:List V) (xss:List (Lz)):Prop:= ∃ (i:Nat) (s:Int),i≤N∧m=N - i∧vs=[iV .i64 s,iV .i64 (i:Int)]∧xss=[[row]]
theorem Tv.next {row:List T} {N i:Nat} {s:Int} (hi:(i:Int) < (N:Int)) (hl:N≤maxLen):Tv row N (N - (i+1)) [iV .i64 s,iV .i64 (IntKind.i64.wrap ((i:Int)+1))] [[row]]:=
 ⟨i+1,s,by omega,rfl,by simp only[maxLen]at hl;rw[bi (by omega) (by omega)];rfl,rfl⟩
theorem qa (sn:ByteArray) (bz ms ps us ss os:Lz) (hS:gZ sn bz ms ps us ss os) (g:Int):Tg 37 [fW sn bz ms ps us ss os,oI g] GB:=by
 have fQ:=hS.fQ
 have En:=hS.En
 refine ae Tryz.func37 ?_
 repeat' (conv=>whnf
          first
  |(refine az (fun h=>?_) (fun h=>?_))
  |(refine OX hs (by omega) ?_)
  |(refine ak (xs:=es) jI (by omega) (by omega) ?_;rintro _ ⟨ed,ln,rfl,hed,Ze,auH⟩ bP)
  |(refine ak (xs:=us) hS.fP (by omega) (by omega) ?_;rintro _ ⟨a,b,c,rfl⟩ Hp)
  |(refine ak (xs:=ps) hS.hps (by omega) (by omega) ?_;rintro _ ⟨nm,es,g2,ns,cs,ws,mt,rfl,hnm,⟨jI,hem⟩,⟨hn,hnl⟩,⟨hcs,auW⟩,hw,BT⟩ hs)
  |exact gB rfl rfl
  |(apply aS [1,2,8,9] [] [8,9] [(4,7)] (Tv (pH sn bz ms ps us ss os) us.length) (us.length) [iV .i64 0,iV .i64 0];(conv=>whnf);exact⟨rfl,rfl,rfl,rfl⟩;exact rfl;exact rfl;exact .cons (av.au (xs:=[pH sn bz ms ps us ss os]) rfl _) .nil;exact⟨0,0,by omega,rfl,rfl,rfl⟩;rintro _ _ _ ⟨k,sm,hk,rfl,rfl,rfl⟩)
  |(refine aj [1,2,8,9] [] ?_;(conv=>whnf);exact⟨rfl,_,[_,_],_, .cons (av.au (xs:=[pH sn bz ms ps us ss os]) rfl _) .nil,Tv.next (by omega) En,rfl,rfl,by omega⟩)
  |(apply aS [1,2,5,6,7] [] [6,7] [(4,7)] (Tv (pH sn bz ms ps us ss os) 17) (17) [iV .i64 0,iV .i64 0];(conv=>whnf);exact⟨rfl,rfl,rfl,rfl⟩;exact rfl;exact rfl;exact .cons (av.au (xs:=[pH sn bz ms ps us ss os]) rfl _) .nil;exact⟨0,0,by omega,rfl,rfl,rfl⟩;rintro _ _ _ ⟨j,sm,hj,rfl,rfl,rfl⟩)
  |(refine aj [1,2,5,6,7] [] ?_;(conv=>whnf);exact⟨rfl,_,[_,_],_, .cons (av.au (xs:=[pH sn bz ms ps us ss os]) rfl _) .nil,Tv.next (by omega) (by decide),rfl,rfl,by omega⟩)
  |(apply aS [1,2,5] [] [5] [(4,7)] (Ij (pH sn bz ms ps us ss os) ps.length) (ps.length) [iV .i64 0];(conv=>whnf);exact⟨rfl,rfl,rfl,rfl⟩;exact rfl;exact rfl;exact .cons (av.au (xs:=[pH sn bz ms ps us ss os]) rfl _) .nil;exact⟨0,by omega,rfl,rfl,rfl⟩;rintro _ _ _ ⟨i,hi,rfl,rfl,rfl⟩)
  |(refine aj [1,2,5] [] ?_;(conv=>whnf);exact⟨rfl,_,[_],_, .cons (av.au (xs:=[pH sn bz ms ps us ss os]) rfl _) .nil,Ij.next (by omega) fQ,rfl,rfl,by omega⟩))
 all_goals (conv=>whnf)
end Go.aR.Cd
end
section
namespace Go.aR.Cd
open Go Go.Proofs
set_option maxRecDepth 100000
set_option maxHeartbeats 1000000
def MK (cuts:Lz):Bool:=decide (cuts.length≤60)&&cuts.all (fun c=>decide ((nL 4 c).length≤4))
def qd (np nb:Nat) (cuts:Lz):Bool:=decide (np≤8)&&decide (nb≤16)&&MK cuts
section
variable {np nb:Nat} {cuts:Lz}
theorem ajG (h:8 < np): [oB false]=[oB (qd np nb cuts)]:=by
 have:¬np≤8:=by omega
 simp[qd,this]
theorem ajF (h:16 < nb): [oB false]=[oB (qd np nb cuts)]:=by
 have:¬nb≤16:=by omega
 simp[qd,this]
theorem ajE (h:60 < cuts.length): [oB false]=[oB (qd np nb cuts)]:=by
 have:¬cuts.length≤60:=by omega
 simp[qd,MK,this]
theorem ajD {i:Nat} {e:List T} (hs:cuts[i]? =some e) (h:4 < (nL 4 e).length): [oB false]=[oB (qd np nb cuts)]:=by
 have:cuts.all (fun c=>decide ((nL 4 c).length≤4))=false:=by
  rw[List.all_eq_false]
  exact⟨e,List.mem_of_getElem? hs,by simp;omega⟩
 simp[qd,MK,this]
theorem ajC (h1:np≤8) (h2:nb≤16) (h3:cuts.length≤60) (ha: ∀e,e∈cuts→(nL 4 e).length≤4): [oB true]=[oB (qd np nb cuts)]:=by
 have:cuts.all (fun c=>decide ((nL 4 c).length≤4))=true:=List.all_eq_true.2 (fun e he=>by simpa using ha e he)
 simp[qd,MK,this,h1,h2,h3]
end
theorem sF (ln wd rx ry:Int) (sizes places plies bs cuts:Lz) (hc:Im cuts) (dA:cuts.length≤maxLen): ∃ts,Fn Tryz.prog 38 [fM ln wd rx ry sizes places plies,oL 6 bs,oL 6 cuts, .one (.t fk)] [] (aO ts) []∧(aO ts).cV=true∧(fun ts=>ts=[oB (qd plies.length bs.length cuts)]) ts:=by
 refine ae Tryz.func38 ?_
 repeat' (conv=>whnf
          first
  |(refine az (fun h=>?_) (fun h=>?_))
  |(refine ak (xs:=cuts) hc (by omega) (by omega) ?_;rintro _ ⟨p,q,lo,sz,rs,d,rfl⟩ hs)
  |exact g1 rfl rfl (ajG (by omega))
  |exact g1 rfl rfl (ajF (by omega))
  |exact g1 rfl rfl (ajE (by omega))
  |exact g1 rfl rfl (ajD hs (show 4 < rs.length by omega))
  |exact g1 rfl rfl (ajC (by omega) (by omega) (by omega) (hp.all (by omega)))
  |(apply aL [3,10] [] [10] (RI 0) (0) [iV .i64 0];(conv=>whnf);exact⟨rfl,rfl,rfl,rfl⟩;exact rfl;exact rfl;exact RI.zero;rintro _ _ ⟨i2,hi2,rfl,rfl⟩)
  |(apply aL [2,3,9] [] [9] (RQ (fun e=>(nL 4 e).length≤4) cuts) (cuts.length) [iV .i64 0];(conv=>whnf);exact⟨rfl,rfl,rfl,rfl⟩;exact rfl;exact rfl;exact RQ.zero;rintro _ _ ⟨i,hi,hp,rfl,rfl⟩)
  |(refine aj [2,3,9] [] ?_;(conv=>whnf);exact⟨rfl,_,[_],RQ.next (by omega) dA hp hs (show rs.length≤4 by omega),rfl,rfl,rfl,by omega⟩))
 all_goals (conv=>whnf)
theorem sG (ln wd rx ry:Int) (sizes places plies:Lz) (hy:SA plies) (jT:plies.length≤maxLen):Tg 20 [fM ln wd rx ry sizes places plies, .one (.t fk), .one (.t fk), .one (.t fk)] GB:=by
 refine ae Tryz.func20 ?_
 repeat' (conv=>whnf
          first
  |(refine az (fun h=>?_) (fun h=>?_))
  |(refine ak (xs:=plies) hy (by omega) (by omega) ?_;rintro _ ⟨lo,q,rfl⟩ hs)
  |exact gB rfl rfl
  |(apply aS [4,11] [] [11] [(4,7)] (Ij (cU ln wd rx ry sizes places plies) plies.length) (plies.length) [iV .i64 0];(conv=>whnf);exact⟨rfl,rfl,rfl,rfl⟩;exact rfl;exact rfl;exact .cons (av.au (xs:=[cU ln wd rx ry sizes places plies]) rfl _) .nil;exact⟨0,by omega,rfl,rfl,rfl⟩;rintro _ _ _ ⟨i,hi,rfl,rfl,rfl⟩)
  |(refine aj [4,11] [] ?_;(conv=>whnf);exact⟨rfl,_,[_],_, .cons (av.au (xs:=[cU ln wd rx ry sizes places plies]) rfl _) .nil,Ij.next (by omega) jT,rfl,rfl,by omega⟩)
  |(apply aS [2,4,10] [] [10] [(4,7)] (Ij (cU ln wd rx ry sizes places plies) 0) (0) [iV .i64 0];(conv=>whnf);exact⟨rfl,rfl,rfl,rfl⟩;exact rfl;exact rfl;exact .cons (av.au (xs:=[cU ln wd rx ry sizes places plies]) rfl _) .nil;exact⟨0,by omega,rfl,rfl,rfl⟩;rintro _ _ _ ⟨i,hi,rfl,rfl,rfl⟩)
  |(apply aS [1,2,4,9] [] [9] [(4,7)] (Ij (cU ln wd rx ry sizes places plies) 0) (0) [iV .i64 0];(conv=>whnf);exact⟨rfl,rfl,rfl,rfl⟩;exact rfl;exact rfl;exact .cons (av.au (xs:=[cU ln wd rx ry sizes places plies]) rfl _) .nil;exact⟨0,by omega,rfl,rfl,rfl⟩;rintro _ _ _ ⟨i,hi,rfl,rfl,rfl⟩))
 all_goals (conv=>whnf)
end Go.aR.Cd
end
section
namespace Go.aR.Cd
open Go Go.Proofs
set_option maxRecDepth 100000
set_option maxHeartbeats 1000000
end Go.aR.Cd
end
section
namespace Go.aR.Cd
open Go Go.Proofs
set_option maxRecDepth 100000
set_option maxHeartbeats 1000000
abbrev oCs (sn:ByteArray) (bz ms ps us ss os:Lz) (ln wd rx ry:Int) (sizes places plies bs cuts:Lz):W:=
 .agg [.t (.val (.string sn)), .t (.aA 1 bz), .t (.aA 1 ms), .t (.aA 7 ps), .t (.aA 3 us), .t (.aA 6 ss), .t (.aA 5 os), .t (tI ln), .t (tI wd), .t (tI rx), .t (tI ry), .t (.aA 1 sizes), .t (.aA 7 places), .t (.aA 2 plies), .t (.aA 6 bs), .t (.aA 6 cuts)]
def uK (bS b3:Bool) (ns nq np nb:Nat) (cuts:Lz):Bool:=decide (ns≤3)&&bS&&decide (nq≤8)&&b3&&qd np nb cuts
section
variable {bS b3:Bool} {ns nq np nb:Nat} {cuts:Lz}
theorem ajB (h:3 < ns): [oB false]=[oB (uK bS b3 ns nq np nb cuts)]:=by
 have:¬ns≤3:=by omega
 simp[uK,this]
theorem ajA (h:bS=false): [oB false]=[oB (uK bS b3 ns nq np nb cuts)]:=by simp[uK,h]
theorem aiZ (h:8 < nq): [oB false]=[oB (uK bS b3 ns nq np nb cuts)]:=by
 have:¬nq≤8:=by omega
 simp[uK,this]
theorem aiY (h:qd np nb cuts=false): [oB false]=[oB (uK bS b3 ns nq np nb cuts)]:=by simp[uK,h]
theorem aiX (h1:ns≤3) (h2:bS=true) (h3:nq≤8) (h4:qd np nb cuts=true): [oB b3]=[oB (uK bS b3 ns nq np nb cuts)]:=by simp[uK,h1,h2,h3,h4]
end
theorem sH (sn:ByteArray) (bz ms ps us ss os:Lz) (ln wd rx ry:Int) (sizes places plies bs cuts:Lz) (hc:Im cuts) (dA:cuts.length≤maxLen) (bS b3:Bool) (h1:Te 37 [fW sn bz ms ps us ss os,oI sizes.length] [oB bS]) (h3:Te 20 [fM ln wd rx ry sizes places plies, .one (.t fk), .one (.t fk), .one (.t fk)] [oB b3]): ∃ts,Fn Tryz.prog 19 [oCs sn bz ms ps us ss os ln wd rx ry sizes places plies bs cuts, .one (.t fk)] [] (aO ts) []∧(aO ts).cV=true∧(fun ts=>ts=[oB (uK bS b3 sizes.length places.length plies.length bs.length cuts)]) ts:=by
 refine ae Tryz.func19 ?_
 repeat' (conv=>whnf
          first
  |(refine az (fun h=>?_) (fun h=>?_))
  |(refine aF (fun h=>?_) (fun h=>?_))
  |(refine ag rfl (h1) ?_;rintro _ rfl)
  |(refine ag rfl (h3) ?_;rintro _ rfl)
  |(refine ag rfl (sF ln wd rx ry sizes places plies bs cuts hc dA) ?_;rintro _ rfl)
  |exact g1 rfl rfl (aiX (by omega) (by assumption) (by omega) (by assumption))
  |exact g1 rfl rfl (ajB (by omega))
  |exact g1 rfl rfl (ajA (by assumption))
  |exact g1 rfl rfl (aiZ (by omega))
  |exact g1 rfl rfl (aiY (by assumption)))
 all_goals (conv=>whnf)
structure ayK (sn:ByteArray) (bz ms ps us ss os sizes places plies bs:Lz):Prop where
 YY:gZ sn bz ms ps us ss os
 hz:Is sizes
 gR:sizes.length≤maxLen
 hp:KR places
 fQ:places.length≤maxLen
 hy:SA plies
 jT:plies.length≤maxLen
 hb:B0 bs
 Ig:bs.length≤maxLen
structure ayJ (sizes places plies bs:Lz):Prop where
 s:sizes.length≤3
 q:places.length≤8
 p:plies.length≤8
 b:bs.length≤16
end Go.aR.Cd
end
section
namespace Go.aR.Cd
open Go Go.Proofs
theorem D0 (cuts gs r:Lz): ∀k,k≤gs.length→uG cuts (gs++r) k=uG cuts gs k
 |0,_=>rfl
 |k+1,hk=>by
  simp only[uG,D0 cuts gs r k (by omega),List.getElem?_append_left (show k < gs.length by omega)]
theorem mH.Gh {places plies cuts bs gs:Lz} (h:mH places plies cuts bs gs gs.length) (r:Lz):mH places plies cuts bs (gs++r) gs.length:=by
 intro k e hk he
 rw[List.getElem?_append_left hk]at he
 have:=h k e hk he
 rw[D0 cuts gs r k (by omega),List.take_append_of_le_length (by omega)]
 exact this
theorem vH {bs:Lz} {a b:Nat} {e:List T} (hab:a < b) (h:bs[a]? =some e):e∈bs.take b:=by
 refine List.mem_iff_getElem?.2 ⟨a,?_⟩
 rw[List.getElem?_take_of_lt hab]
 exact h
theorem Cu {g:Int} {fi:Nat→Option Nat} {places:Lz}: ∀ (n:Nat) (zs:Lz),eD g fi places n=some zs→Is zs∧zs.length≤n
 |0,zs,h=>by
  simp only[eD,Option.some.injEq]at h
  subst h
  exact⟨fun e he=>by simp at he,by simp⟩
 |n+1,zs,h=>by
  simp only[eD]at h
  cases h1:eD g fi places n with
  |none=>simp[h1]at h
  |some ys=>
   obtain⟨i1,i2⟩:=Cu n ys h1
   simp only[h1]at h
   cases hp:places[n]? with
   |none=>
    simp only[hp,Option.some.injEq]at h
    subst h
    exact⟨i1,by omega⟩
   |some p=>
    simp only[hp]at h
    by_cases hg:nI 0 p=g
    · simp only[if_pos hg]at h
      cases hf:fi n with
      |none=>simp[hf]at h
      |some i=>
       simp only[hf,Option.some.injEq]at h
       subst h
       refine⟨fun e he=>?_,by simp;omega⟩
       rcases List.mem_append.1 he with he|he
       · exact i1 e he
       · simp only[List.mem_singleton]at he
         exact⟨_,he⟩
    · simp only[if_neg hg,Option.some.injEq]at h
      subst h
      exact⟨i1,by omega⟩
theorem FD {sizes places plies cuts:Lz} (hp:places.length≤maxLen) (e:List T): ∀n x,x∈jl sizes places plies cuts e n→SG x
 |0,x,h=>by simp[jl]at h
 |n+1,x,h=>by
  simp only[jl,List.mem_append]at h
  rcases h with h|h
  · exact FD hp e n x h
  · cases hq:DJ sizes places plies cuts (nI 1 e) (nI 4 e+(n:Int))with
    |none=>simp[hq]at h
    |some cg=>
     simp only[hq,List.mem_singleton]at h
     obtain⟨h1,h2⟩:=Cu _ _ hq
     exact⟨_,_,_,_,cg,h,h1,by omega⟩
theorem FC {sizes places plies cuts bs:Lz} (hp:places.length≤maxLen): ∀k x,x∈iF sizes places plies cuts bs k→SG x
 |0,x,h=>by simp[iF]at h
 |k+1,x,h=>by
  simp only[iF,List.mem_append]at h
  rcases h with h|h
  · exact FC hp k x h
  · cases hk:bs[k]? with
    |none=>simp[hk]at h
    |some e=>
     simp only[hk]at h
     exact FD hp e _ x h
end Go.aR.Cd
end
section
namespace Go.aR.Cd
open Go Go.Proofs
theorem BM {xs:Lz} {a:Nat} {v:List T} {i:Int}:iY (xs.set a v) i=iY xs i∨(a=i.toNat∧iY (xs.set a v) i=v):=by
 unfold iY
 by_cases h:a=i.toNat
 · subst h
   by_cases hl:i.toNat < xs.length
   · right
     rw[List.getElem?_set_self hl]
     exact⟨rfl,rfl⟩
   · left
     rw[List.set_eq_of_length_le (by omega)]
 · left
   rw[List.getElem?_set_ne h]
theorem vc {used cg:Lz} {i:Int}: ∀j,nB 0 (iY (uA used cg j) i)=true→nB 0 (iY used i)=true∨ ∃k z,k < j∧cg[k]? =some z∧(nI 0 z).toNat=i.toNat
 |0,h=> .inl h
 |j+1,h=>by
  have up:(nB 0 (iY used i)=true∨ ∃k z,k < j∧cg[k]? =some z∧(nI 0 z).toNat=i.toNat)→(nB 0 (iY used i)=true∨ ∃k z,k < j+1∧cg[k]? =some z∧(nI 0 z).toNat=i.toNat):=fun hx=>hx.elim .inl (fun⟨k,z,h1,h2⟩=> .inr ⟨k,z,by omega,h2⟩)
  simp only[uA]at h
  cases hp:cg[j]? with
  |none=>
   simp only[hp]at h
   exact up (vc j h)
  |some e=>
   simp only[hp]at h
   rcases BM (xs:=uA used cg j) (a:=(nI 0 e).toNat) (v:=[tB true]) (i:=i)with h1|⟨h1,_⟩
   · rw[h1]at h
     exact up (vc j h)
   · exact .inr ⟨j,e,by omega,hp,h1⟩
theorem Jh (n:Nat) (i:Int):nB 0 (iY (List.replicate n [tB false]) i)=false:=by
 unfold iY
 rw[List.getElem?_replicate]
 split<;>rfl
theorem Bt {cuts cg:Lz} {n:Nat} {i:Int}: ∀j,nB 0 (iY (fA cuts n cg j) i)=true→ ∃k z,k < j∧cg[k]? =some z∧(nI 1 (iY cuts (nI 0 z))).toNat=i.toNat
 |0,h=>by
  simp only[fA,Jh]at h
  cases h
 |j+1,h=>by
  have up:(∃k z,k < j∧cg[k]? =some z∧(nI 1 (iY cuts (nI 0 z))).toNat=i.toNat)→(∃k z,k < j+1∧cg[k]? =some z∧(nI 1 (iY cuts (nI 0 z))).toNat=i.toNat):=fun⟨k,z,h1,h2⟩=>⟨k,z,by omega,h2⟩
  simp only[fA]at h
  cases hp:cg[j]? with
  |none=>
   simp only[hp]at h
   exact up (Bt j h)
  |some e=>
   simp only[hp]at h
   rcases BM (xs:=fA cuts n cg j) (a:=(nI 1 (iY cuts (nI 0 e))).toNat) (v:=[tB true]) (i:=i)with h1|⟨h1,_⟩
   · rw[h1]at h
     exact up (Bt j h)
   · exact⟨j,e,by omega,hp,h1⟩
theorem EL {cuts cg:Lz} {n:Nat}: ∀j,(fA cuts n cg j).length=n
 |0=>by simp[fA]
 |j+1=>by
  simp only[fA]
  split
  · exact EL j
  · rw[List.length_set]
    exact EL j
theorem Ka {cuts cg:Lz} {n:Nat} {i:Int} (hi:i.toNat < n): ∀j k z,k < j→cg[k]? =some z→(nI 1 (iY cuts (nI 0 z))).toNat=i.toNat→nB 0 (iY (fA cuts n cg j) i)=true
 |0,k,z,h,_,_=>by omega
 |j+1,k,z,h,hk,hz=>by
  simp only[fA]
  by_cases Q4:k=j
  · subst Q4
    simp only[hk]
    rw[hz]
    unfold iY
    rw[List.getElem?_set_self (by rw[EL];exact hi)]
    rfl
  · have ih:=Ka hi j k z (by omega) hk hz
    cases hp:cg[j]? with
    |none=>exact ih
    |some e=>
     simp only
     rcases BM (xs:=fA cuts n cg j) (a:=(nI 1 (iY cuts (nI 0 e))).toNat) (v:=[tB true]) (i:=i)with h1|⟨_,h1⟩
     · rw[h1]
       exact ih
     · rw[h1]
       rfl
theorem Ak {cuts gs:Lz} {i:Int}: ∀j,nB 0 (iY (uG cuts gs j) i)=true→ ∃k e z,k < j∧gs[k]? =some e∧z∈nL 4 e∧(nI 0 z).toNat=i.toNat
 |0,h=>by
  simp only[uG,Jh]at h
  cases h
 |j+1,h=>by
  have up:(∃k e z,k < j∧gs[k]? =some e∧z∈nL 4 e∧(nI 0 z).toNat=i.toNat)→(∃k e z,k < j+1∧gs[k]? =some e∧z∈nL 4 e∧(nI 0 z).toNat=i.toNat):=fun⟨k,e,z,h1,h2⟩=>⟨k,e,z,by omega,h2⟩
  simp only[uG]at h
  cases hp:gs[j]? with
  |none=>
   simp only[hp]at h
   exact up (Ak j h)
  |some e=>
   simp only[hp]at h
   rcases vc _ h with h1|⟨k,z,_,h2,h3⟩
   · exact up (Ak j h1)
   · exact⟨j,e,z,by omega,hp,List.mem_of_getElem? h2,h3⟩
def PW (cuts:Lz) (z:List T):Int:=nI 1 (iY cuts (nI 0 z))
structure PcI (g dc fN size:Int) (places cuts zs:Lz) (n:Nat):Prop where
 src: ∀z,z∈zs→ ∃ (i:Nat) (c:List T) (j:Nat) (p:List T),z=[tI (i:Int)]∧cuts[i]? =some c∧pY (j:Int) dc fN size c=true∧j < n∧places[j]? =some p∧nI 0 p=g
 all: ∀j p,j < n→places[j]? =some p→nI 0 p=g→ ∃z,z∈zs∧PW cuts z=(j:Int)
 YZ:zs.Pairwise (fun a b=>PW cuts a < PW cuts b)
 Ld:zs.length=((places.take n).filter (fun p=>decide (nI 0 p=g))).length
theorem MJ {cuts:Lz} {dc fN size:Int} {j i:Nat} (h:F4 cuts dc fN size j=some i): ∃c,cuts[i]? =some c∧pY (j:Int) dc fN size c=true:=by
 unfold F4 at h
 rw[List.findIdx?_eq_some_iff_getElem]at h
 obtain⟨h1,h2,_⟩:=h
 exact⟨cuts[i],List.getElem?_eq_getElem h1,h2⟩
theorem Bf {place dc fN size:Int} {e:List T} (h:pY place dc fN size e=true):nI 1 e=place∧nI 0 e=dc∧nB 5 e=false∧nI 2 e=fN∧nI 3 e=size:=by
 simp only[pY,Bool.and_eq_true,decide_eq_true_eq,Bool.not_eq_true']at h
 exact⟨h.1.1.1.1,h.1.1.1.2,h.1.1.2,h.1.2,h.2⟩
theorem AK {cuts:Lz} {i:Nat} {c:List T} {j dc fN size:Int} (h:cuts[i]? =some c) (hh:pY j dc fN size c=true):PW cuts [tI (i:Int)]=j:=by
 unfold PW
 have e1:nI 0 [tI (i:Int)]=(i:Int):=rfl
 rw[e1,gf (i:=(i:Int)) (by simpa using h)]
 exact(Bf hh).1
theorem pcI {g dc fN size:Int} {places cuts:Lz}: ∀ (n:Nat) (zs:Lz),eD g (F4 cuts dc fN size) places n=some zs→PcI g dc fN size places cuts zs n
 |0,zs,h=>by
  simp only[eD,Option.some.injEq]at h
  subst h
  exact⟨fun z hz=>by simp at hz,fun j p hj=>by omega,List.Pairwise.nil,by simp⟩
 |n+1,zs,h=>by
  simp only[eD]at h
  cases h1:eD g (F4 cuts dc fN size) places n with
  |none=>simp[h1]at h
  |some ys=>
   have I:=pcI n ys h1
   simp only[h1]at h
   cases hp:places[n]? with
   |none=>
    simp only[hp,Option.some.injEq]at h
    subst h
    have hlen:places.length≤n:=by
     rw[List.getElem?_eq_none_iff]at hp
     exact hp
    refine⟨fun z hz=>?_,fun j p hj Xg hg=>?_,I.YZ,?_⟩
    · obtain⟨i,c,j,p,a1,a2,a3,a4,a5⟩:=I.src z hz
      exact⟨i,c,j,p,a1,a2,a3,by omega,a5⟩
    · exact I.all j p (by have:=(List.getElem?_eq_some_iff.1 Xg).1;omega) Xg hg
    · rw[I.Ld,List.take_of_length_le (by omega),List.take_of_length_le (by omega)]
   |some p=>
    simp only[hp]at h
    by_cases hg:nI 0 p=g
    · simp only[if_pos hg]at h
      cases hf:F4 cuts dc fN size n with
      |none=>simp[hf]at h
      |some i=>
       simp only[hf,Option.some.injEq]at h
       subst h
       obtain⟨c,hc,hh⟩:=MJ hf
       have fQ:=AK hc hh
       refine⟨fun z hz=>?_,fun j q hj Xf Zi=>?_,?_,?_⟩
       · rcases List.mem_append.1 hz with hz|hz
         · obtain⟨i,c,j,p,a1,a2,a3,a4,a5⟩:=I.src z hz
           exact⟨i,c,j,p,a1,a2,a3,by omega,a5⟩
         · simp only[List.mem_singleton]at hz
           exact⟨i,c,n,p,hz,hc,hh,by omega,hp,hg⟩
       · by_cases Zh:j=n
         · subst Zh
           exact⟨[tI (i:Int)],by simp,fQ⟩
         · obtain⟨z,hz,tE⟩:=I.all j q (by omega) Xf Zi
           exact⟨z,by simp[hz],tE⟩
       · rw[List.pairwise_append]
         refine⟨I.YZ,List.pairwise_singleton _ _,fun a ha b hb=>?_⟩
         simp only[List.mem_singleton]at hb
         subst hb
         obtain⟨i2,c2,j2,p2,rfl,a2,a3,a4,a5⟩:=I.src a ha
         rw[fQ,AK a2 a3]
         omega
       · rw[List.take_add_one,hp,List.filter_append,List.length_append,List.length_append,I.Ld]
         simp[hg]
    · simp only[if_neg hg,Option.some.injEq]at h
      subst h
      refine⟨fun z hz=>?_,fun j q hj Xf Zi=>?_,I.YZ,?_⟩
      · obtain⟨i,c,j,p,a1,a2,a3,a4,a5⟩:=I.src z hz
        exact⟨i,c,j,p,a1,a2,a3,by omega,a5⟩
      · by_cases Zh:j=n
        · subst Zh
          rw[hp,Option.some.injEq]at Xf
          subst Xf
          exact(hg Zi).elim
        · exact I.all j q (by omega) Xf Zi
      · rw[List.take_add_one,hp,List.filter_append,List.length_append,I.Ld]
        simp[hg]
def Src (sizes places plies cuts bs:Lz) (C:Nat→Int→Prop) (o:List T):Prop:=
 ∃ (k:Nat) (e:List T),bs[k]? =some e∧nI 0 o=nI 0 e∧nI 4 e≤nI 1 o∧nI 1 o < nI 5 e∧DJ sizes places plies cuts (nI 1 e) (nI 1 o)=some (nL 4 o)∧C k (nI 1 o)
theorem Src.mono {sizes places plies cuts bs:Lz} {C D:Nat→Int→Prop} {o:List T} (h:Src sizes places plies cuts bs C o) (hi: ∀k p,C k p→D k p):Src sizes places plies cuts bs D o:=by
 obtain⟨k,e,a1,a2,a3,a4,a5,a6⟩:=h
 exact⟨k,e,a1,a2,a3,a4,a5,hi _ _ a6⟩
section
variable {sizes places plies cuts bs:Lz} (hB:Ag sizes plies bs bs.length) (hb:B0 bs)
include hB hb
theorem Sj {G cg:Lz} {eb:List T} {k:Nat} {dc:Int} (hG:mH places plies cuts bs G G.length) (hsrc: ∀o,o∈G→Src sizes places plies cuts bs (fun k' p=>k' < k∨(k'=k∧p < dc)) o)
 (hk:bs[k]? =some eb) (h1:nI 4 eb≤dc) (h2:dc < nI 5 eb) (hp:DJ sizes places plies cuts (nI 1 eb) dc=some cg):
 mH places plies cuts bs (G++[jD (nI 0 eb) dc (nI 2 eb) (eF plies dc) cg]) (G.length+1):=by
 have Hr:=(List.getElem?_eq_some_iff.1 hk).1
 have Zu:=hB k eb Hr hk
 obtain⟨t,g,s,l,f,o',rfl⟩:=hb eb (List.mem_of_getElem? hk)
 have hne: ∀o,o∈G→ ∀ (k':Nat) (e':List T),bs[k']? =some e'→nI 4 e'≤nI 1 o→nI 1 o < nI 5 e'→(k' < k∨(k'=k∧nI 1 o < dc))→nI 1 e'=g→nI 1 o=dc→False:=by
  intro o ho k' e' he' ha EA hc hg fQ
  rcases hc with hc|⟨rfl,hc⟩
  · exact Zu.o e' (vH hc he') ⟨hg,by show nI 4 e' < o';have:dc < o':=h2;omega,by show f < nI 5 e';have:f≤dc:=h1;omega⟩
  · omega
 have Xr:DQ bs t=some (jK t g s l f o'):=by
  unfold DQ
  rw[List.find?_eq_some_iff_getElem]
  obtain⟨hlt,hge⟩:=List.getElem?_eq_some_iff.1 hk
  refine⟨by simp[nI],k,hlt,hge,fun j hj=>?_⟩
  have h3:=Zu.t bs[j] (vH hj (List.getElem?_eq_getElem (Nat.lt_trans hj hlt)))
  have BV:nI 0 bs[j]≠t:=h3
  simp[BV]
 have hI:=pcI _ _ hp
 have hsz:vI sizes g=s:=by
  have:sizes[g.toNat]? =some [tI s]:=Zu.s
  simp only[vI,this,Option.getD_some]
  rfl
 have Ep: ∀ (kk:Nat) (z:List T),cg[kk]? =some z→ ∃ (i:Nat) (c:List T) (j:Nat) (p:List T),z=[tI (i:Int)]∧cuts[i]? =some c∧pY (j:Int) dc (eF plies dc) (vI sizes g) c=true∧j < places.length∧places[j]? =some p∧nI 0 p=g:=fun kk z hz=>hI.src z (List.mem_of_getElem? hz)
 have WJ: ∀ (a b:Nat) (x y:List T),a < b→cg[a]? =some x→cg[b]? =some y→PW cuts x < PW cuts y:=by
  intro a b x y hab hx hy
  obtain⟨la,ea⟩:=List.getElem?_eq_some_iff.1 hx
  obtain⟨lb,eb⟩:=List.getElem?_eq_some_iff.1 hy
  have:=List.pairwise_iff_getElem.1 hI.YZ a b la lb hab
  rw[ea,eb]at this
  exact this
 have hx:SK places plies cuts bs (uG cuts G G.length) G (jD t dc s (eF plies dc) cg):=by
  refine⟨⟨t,g,s,l,f,o',Xr,h1,h2,rfl⟩,fun o ho hd=>?_,rfl,fun t2 g2 s2 l2 f2 o2 DO=>?_⟩
  · obtain⟨k',e',a1,a2,a3,a4,a5,a6⟩:=hsrc o ho
    have d1:nI 0 o=t:=hd.1
    have d2:nI 1 o=dc:=hd.2
    rcases a6 with a6|⟨_,a6⟩
    · have h3:=Zu.t e' (vH a6 a1)
      exact h3 (by rw[←a2];exact d1)
    · omega
  · have hf3:DQ bs t=some (jK t2 g2 s2 l2 f2 o2):=DO
    rw[Xr,Option.some.injEq]at hf3
    simp at hf3
    obtain⟨rfl,rfl,rfl,rfl,rfl,rfl⟩:=hf3
    refine⟨fun kk z hkk hz=>?_,fun j p hj hg=>?_⟩
    · obtain⟨i,c,j,p,rfl,hc,hh,yw,Xg,WX⟩:=Ep kk z hz
      obtain⟨q1,q2,q3,q4,q5⟩:=Bf hh
      have ec:iY cuts (nI 0 [tI (i:Int)])=c:=gf (i:=(i:Int)) (by simpa using hc)
      have ei:nI 0 [tI (i:Int)]=(i:Int):=rfl
      have fQ:=AK hc hh
      have zH:=(List.getElem?_eq_some_iff.1 hc).1
      have hpe:iY places (j:Int)=p:=gf (by simpa using Xg)
      refine⟨⟨by rw[ei];omega,by rw[ei];omega⟩,?_,?_,by rw[ec];exact q4,by rw[ec];exact q3,by rw[ec];exact q2,by rw[ec,q5];exact hsz,by rw[ec,q1,hpe];exact WX⟩
      · cases hu:nB 0 (iY (uA (uG cuts G G.length) (nL 4 (jD t dc s (eF plies dc) cg)) kk) (nI 0 [tI (i:Int)]))with
        |false=>rfl
        |true=>
         exfalso
         rcases vc _ hu with hu|⟨k3,z3,c1,c2,c3⟩
         · obtain⟨k4,o4,z4,c1,c2,c3,c4⟩:=Ak _ hu
           obtain⟨k',e',a1,a2,a3,a4,a5,a6⟩:=hsrc o4 (List.mem_of_getElem? c2)
           obtain⟨i5,c5,j5,p5,rfl,b2,b3,b4,b5,b6⟩:=(pcI _ _ a5).src z4 c3
           have e5:nI 0 [tI (i5:Int)]=(i5:Int):=rfl
           rw[e5,ei]at c4
           have:i5=i:=by omega
           subst this
           rw[hc,Option.some.injEq]at b2
           subst b2
           obtain⟨r1,r2,_⟩:=Bf b3
           have Td:j=j5:=by omega
           subst Td
           rw[Xg,Option.some.injEq]at b5
           subst b5
           exact hne o4 (List.mem_of_getElem? c2) k' e' a1 a3 a4 a6 (by rw[←b6,WX]) (by rw[←r2,q2])
         · have Yf:cg[k3]? =some z3:=c2
           obtain⟨i5,c5,j5,p5,rfl,b2,b3,b4,b5,b6⟩:=Ep k3 z3 Yf
           have e5:nI 0 [tI (i5:Int)]=(i5:Int):=rfl
           rw[e5,ei]at c3
           have:i5=i:=by omega
           subst this
           have:=WJ k3 kk _ _ c1 Yf hz
           omega
      · cases hu:nB 0 (iY (fA cuts places.length (nL 4 (jD t dc s (eF plies dc) cg)) kk) (nI 1 (iY cuts (nI 0 [tI (i:Int)]))))with
        |false=>rfl
        |true=>
         exfalso
         obtain⟨k3,z3,c1,c2,c3⟩:=Bt _ hu
         have Yf:cg[k3]? =some z3:=c2
         have:=WJ k3 kk _ _ c1 Yf hz
         obtain⟨i5,c5,j5,p5,rfl,b2,b3,b4,b5,b6⟩:=Ep k3 z3 Yf
         have hp5:=AK b2 b3
         have hp6:(nI 1 (iY cuts (nI 0 [tI (i5:Int)]))).toNat=(nI 1 (iY cuts (nI 0 [tI (i:Int)]))).toNat:=c3
         have hp7:nI 1 (iY cuts (nI 0 [tI (i5:Int)]))=(j5:Int):=hp5
         have hp8:nI 1 (iY cuts (nI 0 [tI (i:Int)]))=(j:Int):=fQ
         rw[hp7,hp8]at hp6
         rw[hp5,fQ]at this
         omega
    · have yw:=(List.getElem?_eq_some_iff.1 hj).1
      obtain⟨z,hz,tE⟩:=hI.all j p yw hj hg
      obtain⟨kk,hkk⟩:=List.mem_iff_getElem?.1 hz
      have hz3:nI 1 (iY cuts (nI 0 z))=(j:Int):=tE
      exact Ka (by simpa using yw) _ kk z (List.getElem?_eq_some_iff.1 hkk).1 hkk (by rw[hz3])
 intro kk x hkk N6
 by_cases hkG:kk=G.length
 · subst hkG
   have:x=jD t dc s (eF plies dc) cg:=by
    simp at N6
    exact N6.symm
   subst this
   rw[D0 cuts G _ G.length (Nat.le_refl _),List.take_append_of_le_length (Nat.le_refl _),List.take_length]
   exact hx
 · exact hG.Gh _ kk x (by omega) N6
theorem Ci {k:Nat} {eb:List T} (hk:bs[k]? =some eb) {G:Lz} (hG:mH places plies cuts bs G G.length) (hsrc: ∀o,o∈G→Src sizes places plies cuts bs (fun k' _=>k' < k) o):
 ∀n:Nat,n≤(nI 5 eb - nI 4 eb).toNat→mH places plies cuts bs (G++jl sizes places plies cuts eb n) (G++jl sizes places plies cuts eb n).length∧ ∀o,o∈G++jl sizes places plies cuts eb n→Src sizes places plies cuts bs (fun k' p=>k' < k∨(k'=k∧p < nI 4 eb+(n:Int))) o
 |0,_=>by
  simp only[jl,List.append_nil]
  exact⟨hG,fun o ho=>(hsrc o ho).mono (fun k' p h=> .inl h)⟩
 |n+1,hn=>by
  obtain⟨i1,i2⟩:=Ci hk hG hsrc n (by omega)
  simp only[jl]
  have up: ∀o,Src sizes places plies cuts bs (fun k' p=>k' < k∨(k'=k∧p < nI 4 eb+(n:Int))) o→Src sizes places plies cuts bs (fun k' p=>k' < k∨(k'=k∧p < nI 4 eb+((n+1:Nat):Int))) o:=fun o ho=>ho.mono (fun k' p h=>h.elim .inl (fun h=> .inr ⟨h.1,by omega⟩))
  cases hp:DJ sizes places plies cuts (nI 1 eb) (nI 4 eb+(n:Int))with
  |none=>
   simp only[List.append_nil]
   exact⟨i1,fun o ho=>up o (i2 o ho)⟩
  |some cg=>
   have:=Sj hB hb i1 i2 hk (by omega) (by omega) hp
   simp only[←List.append_assoc]
   refine⟨by rw[List.length_append];exact this,fun o ho=>?_⟩
   rcases List.mem_append.1 ho with ho|ho
   · exact up o (i2 o ho)
   · simp only[List.mem_singleton]at ho
     subst ho
     exact⟨k,eb,hk,rfl,by show nI 4 eb≤nI 4 eb+(n:Int);omega,by show nI 4 eb+(n:Int) < nI 5 eb;omega,hp, .inr ⟨rfl,by show nI 4 eb+(n:Int) < nI 4 eb+((n+1:Nat):Int);omega⟩⟩
theorem Cg: ∀k:Nat,mH places plies cuts bs (iF sizes places plies cuts bs k) (iF sizes places plies cuts bs k).length∧ ∀o,o∈iF sizes places plies cuts bs k→Src sizes places plies cuts bs (fun k' _=>k' < k) o
 |0=>⟨fun k e hk he=>by simp[iF]at he,fun o ho=>by simp[iF]at ho⟩
 |k+1=>by
  obtain⟨i1,i2⟩:=Cg k
  simp only[iF]
  cases hk:bs[k]? with
  |none=>
   simp only[List.append_nil]
   exact⟨i1,fun o ho=>(i2 o ho).mono (fun k' _ h=>by omega)⟩
  |some eb=>
   obtain⟨j1,j2⟩:=Ci hB hb hk i1 i2 _ (Nat.le_refl _)
   exact⟨j1,fun o ho=>(j2 o ho).mono (fun k' p h=>by omega)⟩
theorem LF (hlen:(iF sizes places plies cuts bs bs.length).length≤240):Ok0 0 places plies cuts bs (iF sizes places plies cuts bs bs.length):=⟨rfl,hlen,(Cg hB hb bs.length).1⟩
end
end Go.aR.Cd
end
section
namespace Go.aR.Cd
open Go Go.Proofs
set_option maxRecDepth 100000
set_option maxHeartbeats 1000000
abbrev Bx (r f t a:Int):List T:=[tI r,tI f,tI t,tI a]
abbrev G3 (r f t a:Int):W:= .agg [.t (tI r), .t (tI f), .t (tI t), .t (tI a)]
def akN (e:List T):Prop:= ∃a b c d,e=[tI a,tI b,tI c,tI d]
abbrev DE (xs:Lz):Prop:= ∀e,e∈xs→akN e
abbrev oRl (id:ByteArray) (w l a b c:Int) (fl:Lz):W:= .agg [.t (.val (.string id)), .t (tI w), .t (tI l), .t (tI a), .t (tI b), .t (tI c), .t (.aA 4 fl)]
def SF (e:List T):Prop:= ∃id w l a b c fl,e=[.val (.string id),tI w,tI l,tI a,tI b,tI c, .aA 4 fl]∧id.size≤maxLen∧DE fl∧fl.length≤maxLen
abbrev DT (xs:Lz):Prop:= ∀e,e∈xs→SF e
theorem vL (r f t a:Int):Tg 62 [G3 r f t a] GI:=by
 refine ae Tryz.func62 ?_
 repeat' (conv=>whnf
          first
  |exact gI rfl rfl)
 all_goals (conv=>whnf)
theorem xa (n:Int):Tg 93 [oI n] GB:=by
 refine ae Tryz.func93 ?_
 repeat' (conv=>whnf
          first
  |(refine az (fun h=>?_) (fun h=>?_))
  |exact gB rfl rfl)
 all_goals (conv=>whnf)
theorem xe (r f t a x y w h:Int):Tg 69 [G3 r f t a,G3 x y w h] GB:=by
 refine ae Tryz.func69 ?_
 repeat' (conv=>whnf
          first
  |(refine az (fun h=>?_) (fun h=>?_))
  |(refine aF (fun h=>?_) (fun h=>?_))
  |(refine ag rfl (xa _) ?_;rintro _ ⟨b,rfl⟩)
  |exact gB rfl rfl)
 all_goals (conv=>whnf)
theorem aRc:jw Tryz.prog 152=some true:=by kernel_rfl
theorem zRc:cA Tryz.prog 152=some 4:=by kernel_rfl
def GBx (xs:Lz) (ts:List W):Prop:= ∃a b c d e,ts=[G3 a b c d,oI e]∧(e=0→xG xs)
def RBx (xs:Lz) (m:Nat) (vs:List V) (xss:List (Lz)):Prop:= ∃ (i:Nat) (a b c d:Int),i≤xs.length∧m=xs.length - i∧vs=[iV .i64 (i:Int)]∧xss=[[[tI 0,tI 0,tI 0,tI 0]],[[tI a,tI b]],[[tI c,tI d]]]
theorem RBx.next {xs:Lz} {i:Nat} {a b c d:Int} (hi:(i:Int) < (xs.length:Int)) (hl:xs.length≤1000000):RBx xs (xs.length - (i+1)) [iV .i64 (IntKind.i64.wrap ((i:Int)+1))] [[[tI 0,tI 0,tI 0,tI 0]],[[tI a,tI b]],[[tI c,tI d]]]:=
 ⟨i+1,_,_,_,_,by omega,rfl,by rw[bi (by omega) (by omega)];rfl,rfl⟩
theorem tt (xs:Lz) (hx:bY xs) (hl:xs.length≤1000000):Tg 68 [oL 2 xs] (GBx xs):=by
 refine aH ?_
 refine ae Tryz.func68 ?_
 repeat' (conv=>whnf
          first
  |(refine az (fun h=>?_) (fun h=>?_))
  |(refine bC (fun h=>?_) (fun h=>?_))
  |(have h9:=(hP (by omega)).1.1;refine ak (xs:=xs) hx (by omega) (by omega) ?_;rintro _ ⟨a0,b0,rfl⟩ hs0)
  |(refine And.intro (by kernel_rfl) ?_)
  |(refine ag rfl (eo xs hx hl) ?_;rintro _ ⟨e,rfl,hP⟩)
  |exact dh rfl (bD aRc zRc rfl rfl (Nat.le_refl _) rfl (cM.refl _)) (bN rfl) ⟨_,_,_,_,_,rfl,fun h=>by omega⟩
  |exact dh rfl (bD aRc zRc rfl rfl (Nat.le_refl _) rfl (cM.refl _)) (bN rfl) ⟨_,_,_,_,_,rfl,fun _=>hP (by omega)⟩
  |(apply aS [2,5,6,21,22,23] [] [23] [(4,4),(8,2),(12,2)] (RBx xs) (xs.length) [iV .i64 0];(conv=>whnf);exact⟨rfl,rfl,rfl,rfl⟩;exact rfl;exact rfl;exact .cons (av.au (xs:=[[tI 0,tI 0,tI 0,tI 0]]) rfl _) (.cons (av.au (xs:=[[tI _,tI _]]) rfl _) (.cons (av.au (xs:=[[tI _,tI _]]) rfl _) .nil));exact⟨0,_,_,_,_,by omega,rfl,rfl,rfl⟩;rintro _ _ _ ⟨i,a,b,c,d,hi,rfl,rfl,rfl⟩)
  |(refine aj [2,5,6,21,22,23] [] ?_;(conv=>whnf);exact⟨rfl,_,[_],_, .cons (av.au (xs:=[[tI 0,tI 0,tI 0,tI 0]]) rfl _) (.cons (av.au (xs:=[[tI _,tI _]]) rfl _) (.cons (av.au (xs:=[[tI _,tI _]]) rfl _) .nil)),RBx.next (by omega) hl,rfl,rfl,by omega⟩))
 all_goals (conv=>whnf)
def akY (ts:List W):Prop:= ∃a b c,ts=[oI a,oI b,oB c]
theorem qH (a l:Int):Tg 91 [oI a,oI l] akY:=by
 refine aH ?_
 refine ae Tryz.func91 ?_
 repeat' (conv=>whnf
          first
  |(refine az (fun h=>?_) (fun h=>?_))
  |exact Hz rfl (bN rfl) (bN rfl) (bN rfl) ⟨_,_,_,rfl⟩)
 all_goals (conv=>whnf)
def Nl (zs:Lz) (m:Nat) (vs:List V):Prop:= ∃ (i:Nat) (lo:Int),i≤zs.length∧m=zs.length - i∧vs=[iV .i64 lo,iV .i64 (i:Int)]
theorem Nl.next {zs:Lz} {i:Nat} {lo:Int} (hi:(i:Int) < (zs.length:Int)) (hl:zs.length≤1000000):Nl zs (zs.length - (i+1)) [iV .i64 lo,iV .i64 (IntKind.i64.wrap ((i:Int)+1))]:=
 ⟨i+1,_,by omega,rfl,by rw[bi (by omega) (by omega)];rfl⟩
theorem Ce (zs:Lz) (hi:Int) (hz:bY zs) (hl:zs.length≤1000000):Tg 85 [oL 2 zs,oI hi] GI:=by
 refine ae Tryz.func85 ?_
 repeat' (conv=>whnf
          first
  |(refine az (fun h=>?_) (fun h=>?_))
  |(refine ak (xs:=zs) hz (by omega) (by omega) ?_;rintro _ ⟨a1,b1,rfl⟩ hs1)
  |exact gI rfl rfl
  |(apply aL [1,5,9,10,11] [] [5,11] (Nl zs) (zs.length) [iV .i64 hi,iV .i64 0];(conv=>whnf);exact⟨rfl,rfl,rfl,rfl⟩;exact rfl;exact rfl;exact⟨0,_,by omega,rfl,rfl⟩;rintro _ _ ⟨i,lo,hk,rfl,rfl⟩)
  |(refine aj [1,5,9,10,11] [] ?_;(conv=>whnf);exact⟨rfl,_,[_,_],Nl.next (by omega) hl,rfl,rfl,rfl,by omega⟩))
 all_goals (conv=>whnf)
end Go.aR.Cd
end
section
namespace Go.aR.Cd
open Go Go.Proofs
set_option maxRecDepth 100000
set_option maxHeartbeats 1000000
def Yz (e:List T):Prop:= ∃xs,e=[.aA 2 xs]∧bY xs∧xs.length≤1000000
abbrev xH (xs:Lz):Prop:= ∀e,e∈xs→Yz e
def GEx (ts:List W):Prop:= ∃zs e,ts=[oL 2 zs,oI e]∧bY zs∧zs.length≤60
def Ni (aD:Lz) (m:Nat) (vs:List V) (xss:List (Lz)):Prop:=
 ∃ (i:Nat) (zs:Lz),i≤aD.length∧m=aD.length - i∧vs=[bn 4 2 zs.length,iV .i64 (i:Int)]∧xss=[zs]∧bY zs∧zs.length≤i
theorem Ni.next {aD zs:Lz} {i n:Nat} {a b:Int} (hi:(i:Int) < (aD.length:Int)) (hl:aD.length≤60) (hz:bY zs) (gR:zs.length≤i) (hn:n=zs.length+1):
 Ni aD (aD.length - (i+1)) [bn 4 2 n,iV .i64 (IntKind.i64.wrap ((i:Int)+1))] [zs++[[tI a,tI b]]]:=by
 refine⟨i+1,_,by omega,rfl,by subst hn;rw[bi (by omega) (by omega)];simp,rfl,fun e he=>?_,by simp;omega⟩
 rcases List.mem_append.1 he with he|he
 · exact hz e he
 · simp only[List.mem_singleton]at he
   exact⟨a,b,he⟩
theorem Fz:bY []:=fun e he=>by simp at he
theorem vN (ln:Int) (aD:Lz) (hp:xH aD):Tg 84 [oI ln,oL 1 aD] GEx:=by
 refine aH ?_
 refine ae Tryz.func84 ?_
 repeat' (conv=>whnf
          first
  |(refine az (fun h=>?_) (fun h=>?_))
  |(refine bC (fun h=>?_) (fun h=>?_))
  |(refine ak (xs:=aD) hp (by omega) (by omega) ?_;rintro _ ⟨xs,rfl,hxs,hxl⟩ hs)
  |(refine And.intro ⟨by simp[tr],by simp[tr,aT];omega,by simp[tr,maxLen];omega⟩ ?_)
  |(refine ag rfl (tt xs hxs hxl) ?_;rintro _ ⟨a,b,c,d,e,rfl,_⟩)
  |exact dh rfl (bJ 2 rfl) (bN rfl) ⟨[],_,rfl,Fz,by simp⟩
  |exact dh rfl (eO rfl rfl (xs:=zs) rfl (by omega)) (bN rfl) ⟨_,_,rfl,by rw[dS rfl];exact hz,by rw[dS rfl];omega⟩
  |(apply dI [0,6,20,21,22] [] [6,22] [(4,2)] (Ni aD) (aD.length) [bn 4 2 0,iV .i64 0] (dL.iL 6 2 rfl);(conv=>whnf);exact⟨rfl,rfl,rfl,rfl⟩;exact rfl;exact rfl;exact .cons (av.au av.nil _) .nil;exact⟨0,[],by omega,rfl,rfl,rfl,Fz,by simp⟩;rintro _ _ _ ⟨i,zs,hi,rfl,rfl,rfl,hz,gR⟩)
  |(refine aj [0,6,20,21,22] [] ?_;(conv=>whnf);exact⟨rfl,_,[_,_],_, .cons (av.au (av.snoc (xs:=zs) rfl [tI _,tI _]) _) .nil,Ni.next (by omega) (by omega) hz gR (by simp[tr]),rfl,rfl,by omega⟩))
 all_goals (conv=>whnf)
theorem th (ln:Int) (aD:Lz) (hp:xH aD) (hi:Int):Tg 58 [oI ln,oL 1 aD,oI hi] GII:=by
 refine aH ?_
 refine ae Tryz.func58 ?_
 repeat' (conv=>whnf
          first
  |(refine az (fun h=>?_) (fun h=>?_))
  |(refine bC (fun h=>?_) (fun h=>?_))
  |(refine ag rfl (vN ln aD hp) ?_;rintro _ ⟨zs,e,rfl,hz,gR⟩)
  |(refine ag rfl (Ce zs hi hz (by omega)) ?_;rintro _ ⟨n,rfl⟩)
  |exact dh rfl (bN rfl) (bN rfl) ⟨_,_,rfl⟩)
 all_goals (conv=>whnf)
theorem GM (s:ByteArray) (hs:s.size≤maxLen):Tg 89 [oS s] GB:=by
 refine ae Tryz.func89 ?_
 repeat' (conv=>whnf
          first
  |(refine az (fun h=>?_) (fun h=>?_))
  |(refine aF (fun h=>?_) (fun h=>?_))
  |(refine iK (by omega) (by omega) ?_;intro bb)
  |exact gB rfl rfl
  |(apply aL [0,8,9] [] [9] (RI s.size) (s.size) [iV .i64 0];(conv=>whnf);exact⟨rfl,rfl,rfl,rfl⟩;exact rfl;exact rfl;exact RI.zero;rintro _ _ ⟨i,hi,rfl,rfl⟩)
  |(refine aj [0,8,9] [] ?_;(conv=>whnf);exact⟨rfl,_,[_],RI.succ (N:=s.size) (i:=i) (by omega) hs,rfl,rfl,rfl,by omega⟩))
 all_goals (conv=>whnf)
def Ty (N:Nat) (iJ:List (Lz)) (m:Nat) (vs:List V) (xss:List (Lz)):Prop:= ∃i:Nat,i≤N∧m=N - i∧vs=[iV .i64 (i:Int)]∧xss=iJ
theorem Ty.next {N i:Nat} {iJ:List (Lz)} (hi:(i:Int) < (N:Int)) (hl:N≤maxLen):Ty N iJ (N - (i+1)) [iV .i64 (IntKind.i64.wrap ((i:Int)+1))] iJ:=⟨i+1,by omega,rfl,by simp only[maxLen]at hl;rw[bi (by omega) (by omega)];rfl,rfl⟩
theorem is3 {a b c:Int}:Is [[tI a],[tI b],[tI c]]:=fun e he=>by
 simp only[List.mem_cons,List.not_mem_nil,or_false]at he
 rcases he with rfl|rfl|rfl<;>exact⟨_,rfl⟩
end Go.aR.Cd
end
section
namespace Go.aR.Cd
open Go Go.Proofs
set_option maxRecDepth 100000
set_option maxHeartbeats 1000000
theorem QD {hp:HS} {id sz len:Nat} {rows:List (List C)} {xs:Lz} {x:T} (hf:find hp id=some (.row sz rows)) (hR:av rows xs) (hl:len=xs.length):bE (bI hp) [.one (.t x), .one (.own id sz 0 len)]=some [.one (.t x), .one (.t (.aA sz xs))]:=by
 have:=kI (hp:=hp) (i:=0) hf hR (by omega:0+len≤xs.length)
 have hx:bI hp (.one (.t x))=some (.one (.t x)):=rfl
 simp only[bE,this,hx]
 simp[hl]
abbrev ET (a b c d:Int):Lz:=[[tI a,tI b],[tI c,tI b],[tI c,tI d],[tI a,tI d]]
theorem MX {a b c d:Int}:bY (ET a b c d):=fun e he=>by
 simp only[ET,List.mem_cons,List.not_mem_nil,or_false]at he
 rcases he with rfl|rfl|rfl|rfl<;>exact⟨_,_,rfl⟩
theorem AM (xs:Lz) (hx:bY xs) (hl:xs.length≤1000000) (x y w h:Int):Tg 67 [oL 2 xs,G3 x y w h] GBI:=by
 refine aH ?_
 refine ae Tryz.func67 ?_
 repeat' (conv=>whnf
          first
  |(refine az (fun h=>?_) (fun h=>?_))
  |(refine bC (fun h=>?_) (fun h=>?_))
  |(refine aF (fun h=>?_) (fun h=>?_))
  |(refine ak (xs:=rs) (hT (by omega)).1 (by omega) (by omega) ?_;rintro _ ⟨K3,rfl,ht,htl⟩ hs)
  |(refine ag rfl (jZ xs hx hl) ?_;rintro _ ⟨rs,e,rfl,hT⟩)
  |(have h77:=lf;refine ag rfl (qH _ _) ?_;rintro _ ⟨lo,hg,tl,rfl⟩)
  |(refine ag rfl (qH _ _) ?_;rintro _ ⟨lf,rg,wd,rfl⟩)
  |(refine rP (QD rfl (show av _ (ET lf lo rg hg)from rfl) rfl) (mM K3 (ET lf lo rg hg) ht MX htl (by simp)) ?_ ?_;(rintro _ ⟨n,rfl⟩;rfl);rintro _ ⟨n,rfl⟩)
  |exact dh rfl (bN rfl) (bN rfl) ⟨_,_,rfl⟩
  |(apply aS [14,70,71,72] [] [72] [(4,2)] (Ty rs.length [ET lf lo rg hg]) (rs.length) [iV .i64 0];(conv=>whnf);exact⟨rfl,rfl,rfl,rfl⟩;exact rfl;exact rfl;exact .cons (av.au (xs:=ET _ _ _ _) rfl _) .nil;exact⟨0,by omega,rfl,rfl,rfl⟩;rintro _ _ _ ⟨i,hi,rfl,rfl,rfl⟩)
  |(refine aj [14,70,71,72] [] ?_;(conv=>whnf);exact⟨rfl,_,[_],_, .cons (av.au (xs:=ET _ _ _ _) rfl _) .nil,Ty.next (by omega) (by have:=(hT (by omega)).2;simp only[maxLen];omega),rfl,rfl,by omega⟩))
 all_goals (conv=>whnf)
abbrev Jc (l:Int) (ps:Lz):W:= .agg [.t (tI l), .t (.aA 4 ps)]
def GCr (ps:Lz) (ts:List W):Prop:= ∃n e,ts=[oI n,oI e]∧(e=0→0≤n∧n < (ps.length:Int))
theorem xf (l:Int) (ps poly:Lz) (hp:DE ps) (fQ:ps.length≤maxLen) (hx:bY poly) (hl:poly.length≤1000000):Tg 36 [Jc l ps,oL 2 poly] (GCr ps):=by
 refine aH ?_
 refine ae Tryz.func36 ?_
 repeat' (conv=>whnf
          first
  |(refine az (fun h=>?_) (fun h=>?_))
  |(refine bC (fun h=>?_) (fun h=>?_))
  |(refine aF (fun h=>?_) (fun h=>?_))
  |(refine ak (xs:=ps) hp (by omega) (by omega) ?_;rintro _ ⟨r1,f1,t1,a1,rfl⟩ hs)
  |(refine ag rfl (tt poly hx hl) ?_;rintro _ ⟨a,b,c,d,e,rfl,_⟩)
  |(refine ag rfl (xe r1 f1 t1 a1 _ _ _ _) ?_;rintro _ ⟨b3,rfl⟩)
  |exact dh rfl (bN rfl) (bN rfl) ⟨_,_,rfl,fun h=>by omega⟩
  |(apply aS [6,19,20,21] [] [21] [(4,4)] (Ty ps.length [[[tI a,tI b,tI c,tI d]]]) (ps.length) [iV .i64 0];(conv=>whnf);exact⟨rfl,rfl,rfl,rfl⟩;exact rfl;exact rfl;exact .cons (av.au (xs:=[[tI a,tI b,tI c,tI d]]) rfl _) .nil;exact⟨0,by omega,rfl,rfl,rfl⟩;rintro _ _ _ ⟨i,hi,rfl,rfl,rfl⟩)
  |(refine aj [6,19,20,21] [] ?_;(conv=>whnf);exact⟨rfl,_,[_],_, .cons (av.au (xs:=[[tI a,tI b,tI c,tI d]]) rfl _) .nil,Ty.next (by omega) fQ,rfl,rfl,by omega⟩))
 all_goals (conv=>whnf)
end Go.aR.Cd
end
section
namespace Go.aR.Cd
open Go Go.Proofs
set_option maxRecDepth 100000
set_option maxHeartbeats 1000000
theorem Au (ln:Int) (aD:Lz) (hp:xH aD) (r1 f1 t1 a1 r2 f2 t2 a2:Int):Tg 61 [oI ln,oL 1 aD,G3 r1 f1 t1 a1,G3 r2 f2 t2 a2] GB:=by
 refine ae Tryz.func61 ?_
 repeat' (conv=>whnf
          first
  |(refine az (fun h=>?_) (fun h=>?_))
  |(refine And.intro (by kernel_rfl) ?_)
  |(refine ag rfl (vL _ _ _ _) ?_;rintro _ ⟨n,rfl⟩)
  |(refine aB rfl (vL _ _ _ _) ?_;rintro _ ⟨n,rfl⟩)
  |(refine ag rfl (th ln aD hp _) ?_;rintro _ ⟨n2,e2,rfl⟩)
  |exact gB rfl rfl)
 all_goals (conv=>whnf)
end Go.aR.Cd
end
section
namespace Go.aR.Cd
open Go Go.Proofs
set_option maxRecDepth 100000
set_option maxHeartbeats 1000000
class BQ:Type 1 where
 pk: {α:Type}→[Inhabited α]→FuncId→List W→(α→List W)→(α→Prop)→α
 ok: ∀ {α:Type} [Inhabited α] {f:FuncId} {args:List W} {enc:α→List W} {Q:α→Prop},(∃a,Fn Tryz.prog f args [] (aO (enc a)) []∧(aO (enc a)).cV=true∧Q a)→
  Fn Tryz.prog f args [] (aO (enc (pk f args enc Q))) []∧(aO (enc (pk f args enc Q))).cV=true∧Q (pk f args enc Q)
open Classical in
theorem PZ:Nonempty BQ:=by
 refine⟨⟨fun f args enc Q=>if h: ∃a,Fn Tryz.prog f args [] (aO (enc a)) []∧(aO (enc a)).cV=true∧Q a then h.choose else default,?_⟩⟩
 intro α _ f args enc Q h
 rw[dif_pos h]
 exact h.choose_spec
variable [BQ]
def pk {α:Type} [Inhabited α] (f:FuncId) (args:List W) (enc:α→List W) (Q:α→Prop):α:=BQ.pk f args enc Q
theorem zm {α:Type} [Inhabited α] {f:FuncId} {args:List W} {enc:α→List W} {Q:α→Prop} (h: ∃a,Fn Tryz.prog f args [] (aO (enc a)) []∧(aO (enc a)).cV=true∧Q a):
 ∃ts,Fn Tryz.prog f args [] (aO ts) []∧(aO ts).cV=true∧(ts=enc (pk f args enc Q)∧Q (pk f args enc Q)):=
 ⟨_,(BQ.ok h).1,(BQ.ok h).2.1,rfl,(BQ.ok h).2.2⟩
def idV (id:ByteArray):Bool:=pk 89 [oS id] (fun b=>[oB b]) (fun _=>True)
theorem D9 (id:ByteArray) (bG:id.size≤maxLen): ∃ts,Fn Tryz.prog 89 [oS id] [] (aO ts) []∧(aO ts).cV=true∧(ts=[oB (idV id)]∧True):=by
 obtain⟨ts,h1,h2,b,rfl⟩:=GM id bG
 exact zm (enc:=fun b=>[oB b]) (Q:=fun _=>True) ⟨b,h1,h2,trivial⟩
def SI (e:List T):Prop:= -1000≤nI 0 e∧nI 0 e≤1000
def YG (l w:Int) (e:List T):Prop:=(0≤nI 0 e∧1≤nI 2 e∧nI 2 e≤IntKind.i64.wrap (l - nI 0 e))∧0≤nI 1 e∧1≤nI 3 e∧nI 3 e≤IntKind.i64.wrap (w - nI 1 e)
structure KL (id:ByteArray) (w l a b c:Int) (fl:Lz):Prop where
 id:idV id=true
 rl:1≤l∧l≤1048576
 rw_:1≤w∧w≤1048576
 abO: ∀e,e∈ [[tI a],[tI b],[tI c]]→SI e
 fll:fl.length≤20
 flo: ∀e,e∈fl→YG l w e
def M9 (a b c:Int) (m:Nat) (vs:List V):Prop:= ∃i:Nat,i≤3∧Pre SI [[tI a],[tI b],[tI c]] i∧m=3 - i∧vs=[iV .i64 (i:Int)]
theorem M9.next {a b c a5:Int} {i:Nat} (hi:(i:Int) < 3) (h:Pre SI [[tI a],[tI b],[tI c]] i) (hs: [[tI a],[tI b],[tI c]][0+((i:Int)).toNat]? =some [tI a5]) (h1: -1000≤a5) (h2:a5≤1000):M9 a b c (3 - (i+1)) [iV .i64 (IntKind.i64.wrap ((i:Int)+1))]:=
 ⟨i+1,by omega,h.succ (e:=[tI a5]) (by simpa using hs) (show -1000≤a5∧a5≤1000 from⟨h1,h2⟩),rfl,by rw[bi (by omega) (by omega)];rfl⟩
theorem Je {b:Bool} (h:(!b)=true):¬b=true:=by simpa using h
theorem tq (id:ByteArray) (w l a b c:Int) (fl:Lz) (bG:id.size≤maxLen) (hf:DE fl) (hfl:fl.length≤maxLen):Tg 66 [oRl id w l a b c fl] (mS (fun n=>n=0↔KL id w l a b c fl)):=by
 refine ae Tryz.func66 ?_
 repeat' (conv=>whnf
          first
  |(refine az (fun h=>?_) (fun h=>?_))
  |(refine aF (fun h=>?_) (fun h=>?_))
  |(refine ak (xs:=fl) hf (by omega) (by omega) ?_;rintro _ ⟨a2,b2,c2,d2,rfl⟩ hs)
  |(refine And.intro (by omega) ?_)
  |(refine ag rfl (D9 id bG) ?_;rintro _ ⟨rfl,_⟩)
  |(have hi4:(i:Int) < 3:=(by omega);refine bM (xs:=[[tI a],[tI b],[tI c]]) rfl is3 (by simp;omega) ?_;rintro _ ⟨a5,rfl⟩ hs6)
  |exact iH rfl rfl (iff_of_false (by decide) (fun hh=>Je (by assumption) hh.id))
  |exact iH rfl rfl (iff_of_false (by decide) (fun hh=>by have h1:=hh.rl;have h2:=hh.rw_;omega))
  |exact iH rfl rfl (iff_of_false (by decide) (fun hh=>by have h1: -1000≤a5∧a5≤1000:=hh.abO _ (List.mem_of_getElem? hs6);omega))
  |exact iH rfl rfl (iff_of_false (by decide) (fun hh=>by have h1:=hh.fll;omega))
  |exact iH rfl rfl (iff_of_false (by decide) (fun hh=>by have h1:(0≤a2∧1≤c2∧c2≤IntKind.i64.wrap (l - a2))∧0≤b2∧1≤d2∧d2≤IntKind.i64.wrap (w - b2):=hh.flo _ (List.mem_of_getElem? hs);omega))
  |exact iH rfl rfl (iff_of_true rfl ⟨dB (by assumption),by omega,by omega,hp.all (by simp;omega),by omega,hp2.all (by omega)⟩)
  |(apply aL [1,56,57,58] [] [58] (RQ (YG l w) fl) (fl.length) [iV .i64 0];(conv=>whnf);exact⟨rfl,rfl,rfl,rfl⟩;exact rfl;exact rfl;exact RQ.zero;rintro _ _ ⟨i2,hi2,hp2,rfl,rfl⟩)
  |(refine aj [1,56,57,58] [] ?_;(conv=>whnf);exact⟨rfl,_,[_],RQ.next (by omega) hfl hp2 hs (show(0≤a2∧1≤c2∧c2≤IntKind.i64.wrap (l - a2))∧0≤b2∧1≤d2∧d2≤IntKind.i64.wrap (w - b2)from⟨⟨by omega,by omega,by omega⟩,by omega,by omega,by omega⟩),rfl,rfl,rfl,by omega⟩)
  |(apply aL [1,38,39,40] [] [40] (M9 a b c) (3) [iV .i64 0];(conv=>whnf);exact⟨rfl,rfl,rfl,rfl⟩;exact rfl;exact rfl;exact⟨0,by omega,Pre.zero,rfl,rfl⟩;rintro _ _ ⟨i,hi,hp,rfl,rfl⟩)
  |(refine aj [1,38,39,40] [] ?_;(conv=>whnf);exact⟨rfl,_,[_],M9.next hi4 hp hs6 (by omega) (by omega),rfl,rfl,rfl,by omega⟩))
 all_goals (conv=>whnf)
def BO (e:List T):Prop:= ∃id w l a b c fl,e=[.val (.string id),tI w,tI l,tI a,tI b,tI c, .aA 4 fl]∧KL id w l a b c fl
theorem BO.of {id:ByteArray} {w l a b c:Int} {fl:Lz} (h:BO [.val (.string id),tI w,tI l,tI a,tI b,tI c, .aA 4 fl]):KL id w l a b c fl:=by
 obtain⟨id',w',l',a',b',c',fl',he,h⟩:=h
 simp only[List.cons.injEq,T.val.injEq,Value.string.injEq,Value.int.injEq,T.aA.injEq,true_and,and_true]at he
 obtain⟨rfl,rfl,rfl,rfl,rfl,rfl,rfl⟩:=he
 exact h
structure Yp (ah bF:Lz):Prop where
 n:ah.length≤20
 all: ∀e,e∈ah→BO e
 bF:bF.length=ah.length
theorem pI (ah bF:Lz) (hR:DT ah) (Hw:ah.length≤maxLen):Tg 59 [oL 7 ah,oL 1 bF] (mS (fun n=>n=0↔Yp ah bF)):=by
 refine ae Tryz.func59 ?_
 repeat' (conv=>whnf
          first
  |(refine az (fun h=>?_) (fun h=>?_))
  |(refine bC (fun h=>?_) (fun h=>?_))
  |(refine ak (xs:=ah) hR (by omega) (by omega) ?_;rintro _ ⟨id,w1,l1,a2,b2,c2,fl,rfl,bG,hfl,Ew⟩ sC)
  |(refine ag rfl (tq id w1 l1 a2 b2 c2 fl bG hfl Ew) ?_;rintro _ ⟨e2,rfl,Ht⟩)
  |exact iH rfl rfl (iff_of_false (by decide) (fun hh=>by have h1:=hh.n;omega))
  |exact iH rfl rfl (iff_of_false (by omega) (fun hh=>by have h1:=Ht.2 (BO.of (hh.all _ (List.mem_of_getElem? sC)));omega))
  |exact iH rfl rfl (iff_of_false (by decide) (fun hh=>by have h1:=hh.bF;omega))
  |exact iH rfl rfl (iff_of_true rfl ⟨by omega,hp.all (by omega),by omega⟩)
  |(apply aL [0,1,11,12,13] [] [13] (RQ BO ah) (ah.length) [iV .i64 0];(conv=>whnf);exact⟨rfl,rfl,rfl,rfl⟩;exact rfl;exact rfl;exact RQ.zero;rintro _ _ ⟨i,hi,hp,rfl,rfl⟩)
  |(refine aj [0,1,11,12,13] [] ?_;(conv=>whnf);exact⟨rfl,_,[_],RQ.next (by omega) Hw hp sC ⟨_,_,_,_,_,_,_,rfl,Ht.1 (by omega)⟩,rfl,rfl,rfl,by omega⟩))
 all_goals (conv=>whnf)
def bkV (ln:Int) (aD:Lz) (hi:Int):Int×Int:=pk 58 [oI ln,oL 1 aD,oI hi] (fun p=>[oI p.1,oI p.2]) (fun _=>True)
theorem Aw (ln:Int) (aD:Lz) (hp:xH aD) (hi:Int): ∃ts,Fn Tryz.prog 58 [oI ln,oL 1 aD,oI hi] [] (aO ts) []∧(aO ts).cV=true∧(ts=[oI (bkV ln aD hi).1,oI (bkV ln aD hi).2]∧True):=by
 obtain⟨ts,h1,h2,n,e,rfl⟩:=th ln aD hp hi
 exact zm (enc:=fun p:Int×Int=>[oI p.1,oI p.2]) (Q:=fun _=>True) ⟨(n,e),h1,h2,trivial⟩
def Y5 (ln:Int) (aD:Lz) (p q:List T):Bool:=pk 61 [oI ln,oL 1 aD, .agg (p.map .t), .agg (q.map .t)] (fun b=>[oB b]) (fun _=>True)
theorem xY (ln:Int) (aD:Lz) (hp:xH aD) (r1 f1 t1 a1 r2 f2 t2 a2:Int): ∃ts,Fn Tryz.prog 61 [oI ln,oL 1 aD,G3 r1 f1 t1 a1,G3 r2 f2 t2 a2] [] (aO ts) []∧(aO ts).cV=true∧(ts=[oB (Y5 ln aD (Bx r1 f1 t1 a1) (Bx r2 f2 t2 a2))]∧True):=by
 obtain⟨ts,h1,h2,b,rfl⟩:=Au ln aD hp r1 f1 t1 a1 r2 f2 t2 a2
 exact zm (f:=61) (args:=[oI ln,oL 1 aD, .agg ((Bx r1 f1 t1 a1).map .t), .agg ((Bx r2 f2 t2 a2).map .t)]) (enc:=fun b=>[oB b]) (Q:=fun _=>True) ⟨b,h1,h2,trivial⟩
structure ClF (ln wd:Int) (aD ah bF:Lz):Prop where
 back:(bkV ln aD 0).2=0
 rs:Yp ah bF
 wd:1≤wd∧wd≤1048576
theorem pJ (ln wd rx ry:Int) (sizes places aD ah bF:Lz) (hp:xH aD) (hR:DT ah) (Hw:ah.length≤maxLen):Tg 32 [LS ln wd rx ry sizes places,oL 1 aD,oL 7 ah,oL 1 bF] (mS (fun n=>n=0↔ClF ln wd aD ah bF)):=by
 refine ae Tryz.func32 ?_
 repeat' (conv=>whnf
          first
  |(refine az (fun h=>?_) (fun h=>?_))
  |(refine bC (fun h=>?_) (fun h=>?_))
  |(refine ag rfl (Aw ln aD hp _) ?_;rintro _ ⟨rfl,_⟩)
  |(refine ag rfl (pI ah bF hR Hw) ?_;rintro _ ⟨n,rfl,hn⟩)
  |exact iH rfl rfl (iff_of_false (by omega) (fun hh=>by have h1:=hh.back;omega))
  |exact iH rfl rfl (iff_of_false (by omega) (fun hh=>by have h1:=hn.2 hh.rs;omega))
  |exact iH rfl rfl (iff_of_false (by decide) (fun hh=>by have h1:=hh.wd;omega))
  |exact iH rfl rfl (iff_of_true rfl ⟨by omega,hn.1 (by omega),by omega⟩))
 all_goals (conv=>whnf)
abbrev qm (xs:Lz) (r:Int):List T:=(xs[r.toNat]?).getD []
def YJ (ah:Lz) (p:List T):Prop:=(0≤nI 0 p∧nI 0 p < (ah.length:Int))∧0≤nI 1 p∧nI 1 p < nI 2 p∧nI 2 p≤nI 2 (qm ah (nI 0 p))
theorem oc {xs:Lz} {r:Int} {e:List T} (h:xs[r.toNat]? =some e):qm xs r=e:=by simp[qm,h]
theorem X5 {ah:Lz} {r f t a q:Int} {id:ByteArray} {w l a1 b1 c1:Int} {fl:Lz} (hs:ah[r.toNat]? =some [.val (.string id),tI w,tI l,tI a1,tI b1,tI c1, .aA 4 fl]) (h0:0≤r) (h1:r < (ah.length:Int)) (h2:0≤f) (h3:f < t) (b:Bool) (hb:b=decide (t≤l)):b=true↔YJ ah [tI r,tI f,tI t,tI a]:=by
 have e:nI 2 (qm ah r)=l:=by rw[oc hs];rfl
 rw[hb,decide_eq_true_eq]
 constructor
 · intro h
   exact⟨⟨h0,h1⟩,h2,h3,by show t≤nI 2 (qm ah r);rw[e];exact h⟩
 · rintro⟨_,_,_,h⟩
   have h:t≤nI 2 (qm ah r):=h
   rwa [e]at h
theorem uk (r f t a:Int) (ah:Lz) (hR:DT ah):Tg 60 [G3 r f t a,oL 7 ah] (NE (YJ ah (Bx r f t a))):=by
 refine ae Tryz.func60 ?_
 repeat' (conv=>whnf
          first
  |(refine az (fun h=>?_) (fun h=>?_))
  |(refine ak (xs:=ah) hR (by omega) (by omega) ?_;rintro _ ⟨id,w,l,a1,b1,c1,fl,rfl,_,_,_⟩ hs)
  |(refine And.intro (by kernel_rfl) ?_)
  |exact Ov rfl rfl (X5 (q:=0) hs (by omega) (by omega) (by omega) (by omega) _ rfl)
  |exact Ov rfl rfl (iff_of_false (by simp) (fun hh=>by obtain⟨⟨h1,h2⟩,h3,h4,_⟩:=hh;have h1:0≤r:=h1;have h2:r < (ah.length:Int):=h2;have h3:0≤f:=h3;have h4:f < t:=h4;omega)))
 all_goals (conv=>whnf)
end Go.aR.Cd
end
section
namespace Go.aR.Cd
open Go Go.Proofs
set_option maxRecDepth 100000
set_option maxHeartbeats 1000000
variable [BQ]
def XZ (e:List T):Int:=IntKind.i64.wrap (IntKind.i64.wrap (nI 3 e+nI 2 e) - nI 1 e)
theorem Cc (r f t a:Int):Tg 62 [G3 r f t a] (mS (fun n=>n=XZ (Bx r f t a))):=by
 refine ae Tryz.func62 ?_
 repeat' (conv=>whnf
          first
  |exact iH rfl rfl rfl)
 all_goals (conv=>whnf)
def SB (ln wd:Int) (ah bF:Lz) (fN:Int) (p:List T):Prop:=YJ ah p∧(0≤nI 3 p∧nI 3 p≤ln)∧nI 0 (qm bF (nI 0 p))=fN∧wd≤nI 1 (qm ah (nI 0 p))
def Nn (ln:Int) (aD ps:Lz) (i:Nat) (p:List T):Prop:=(i=0→nI 3 p=0)∧(0 < i→Y5 ln aD ((ps[i - 1]?).getD []) p=true)
structure BP (ln wd:Int) (aD ah bF:Lz) (fN:Int) (ps:Lz):Prop where
 ne:ps.length≠0
 all: ∀i p,ps[i]? =some p→SB ln wd ah bF fN p∧Nn ln aD ps i p
 en:XZ ((ps[ps.length - 1]?).getD [])=ln
def KP (Q:Nat→List T→Prop) (xs:Lz) (i:Nat):Prop:= ∀j e,j < i→xs[j]? =some e→Q j e
theorem KP.succ {Q:Nat→List T→Prop} {xs:Lz} {i:Nat} {e:List T} (h:KP Q xs i) (hs:xs[i]? =some e) (hq:Q i e):KP Q xs (i+1):=by
 intro j e' hj he
 by_cases fK:j=i
 · subst fK
   rw[hs]at he
   cases he
   exact hq
 · exact h j e' (by omega) he
def KN (Q:Nat→List T→Prop) (xs:Lz) (iJ:List (Lz)) (m:Nat) (vs:List V) (xss:List (Lz)):Prop:= ∃i:Nat,i≤xs.length∧KP Q xs i∧m=xs.length - i∧vs=[iV .i64 (i:Int)]∧xss=iJ
theorem KN.next {Q:Nat→List T→Prop} {xs:Lz} {iJ:List (Lz)} {i:Nat} {e:List T} (hi:(i:Int) < (xs.length:Int)) (hl:xs.length≤maxLen) (h:KP Q xs i) (hs:xs[((i:Int)).toNat]? =some e) (hq:Q i e):KN Q xs iJ (xs.length - (i+1)) [iV .i64 (IntKind.i64.wrap ((i:Int)+1))] iJ:=
 ⟨i+1,by omega,h.succ (by simpa using hs) hq,rfl,by simp only[maxLen]at hl;rw[bi (by omega) (by omega)];rfl,rfl⟩
section
variable {ln wd l r f t a:Int} {aD ah bF ps:Lz} {i:Nat} {b:Bool} {x:List T} {n7:Int} {id:ByteArray} {w1 l1 a2 b2 c2:Int} {fl:Lz}
theorem SB.mk' (hb:b=true↔YJ ah (Bx r f t a)) (h0:(!b)=false) (h1:¬a < 0) (h2:¬a > ln) (QO:bF[r.toNat]? =some [tI n7]) (h3:n7=l) (sC:ah[r.toNat]? =some [.val (.string id),tI w1,tI l1,tI a2,tI b2,tI c2, .aA 4 fl]) (h4:¬w1 < wd):SB ln wd ah bF l (Bx r f t a):=by
 refine⟨hb.1 (dB h0),⟨by show 0≤a;omega,by show a≤ln;omega⟩,?_,?_⟩
 · show nI 0 (qm bF r)=l
   rw[oc QO]
   exact h3
 · show wd≤nI 1 (qm ah r)
   rw[oc sC]
   show wd≤w1
   omega
theorem sr (hh:BP ln wd aD ah bF l ps) (hs:ps[((i:Int)).toNat]? =some x):SB ln wd ah bF l x∧Nn ln aD ps i x:=hh.all i x (by simpa using hs)
theorem V8 (hh:BP ln wd aD ah bF l ps) (hs:ps[((i:Int)).toNat]? =some (Bx r f t a)) (hb:b=true↔YJ ah (Bx r f t a)) (h0:(!b)=true):False:=by
 have:=hb.2 (sr hh hs).1.1
 rw[this]at h0
 simp at h0
theorem V9 (hh:BP ln wd aD ah bF l ps) (hs:ps[((i:Int)).toNat]? =some (Bx r f t a)) (h:a < 0∨a > ln):False:=by
 have h1:0≤a∧a≤ln:=(sr hh hs).1.2.1
 omega
theorem P9 (hh:BP ln wd aD ah bF l ps) (hs:ps[((i:Int)).toNat]? =some (Bx r f t a)) (QO:bF[r.toNat]? =some [tI n7]) (h3:¬n7=l):False:=by
 have h1:nI 0 (qm bF r)=l:=(sr hh hs).1.2.2.1
 rw[oc QO]at h1
 exact h3 h1
theorem V5 (hh:BP ln wd aD ah bF l ps) (hs:ps[((i:Int)).toNat]? =some (Bx r f t a)) (sC:ah[r.toNat]? =some [.val (.string id),tI w1,tI l1,tI a2,tI b2,tI c2, .aA 4 fl]) (h4:w1 < wd):False:=by
 have h1:wd≤nI 1 (qm ah r):=(sr hh hs).1.2.2.2
 rw[oc sC]at h1
 have h1:wd≤w1:=h1
 omega
theorem V7 (hh:BP ln wd aD ah bF l ps) (hs:ps[((i:Int)).toNat]? =some (Bx r f t a)) (hi:(i:Int)=0) (h:¬a=0):False:=
 h ((sr hh hs).2.1 (by omega))
theorem FJ (hi:(i:Int) > 0) (hl:ps.length≤maxLen) (hi2:(i:Int) < (ps.length:Int)) (FR:ps[(IntKind.i64.wrap ((i:Int) - 1)).toNat]? =some x):(ps[i - 1]?).getD []=x:=by
 simp only[maxLen]at hl
 rw[bi (by omega) (by omega),show((i:Int) - 1).toNat=i - 1 by omega]at FR
 simp[FR]
theorem V6 (hh:BP ln wd aD ah bF l ps) (hs:ps[((i:Int)).toNat]? =some (Bx r f t a)) (hi:(i:Int) > 0) (hl:ps.length≤maxLen) (hi2:(i:Int) < (ps.length:Int)) (FR:ps[(IntKind.i64.wrap ((i:Int) - 1)).toNat]? =some x) (h:(!Y5 ln aD x (Bx r f t a))=true):False:=by
 have:=(sr hh hs).2.2 (by omega)
 rw[FJ hi hl hi2 FR]at this
 rw[this]at h
 simp at h
theorem Nn.zero (hi:(i:Int)=0) (h:a=0):Nn ln aD ps i (Bx r f t a):=⟨fun _=>h,fun h=>by omega⟩
theorem Nn.pos (hi:(i:Int) > 0) (hl:ps.length≤maxLen) (hi2:(i:Int) < (ps.length:Int)) (FR:ps[(IntKind.i64.wrap ((i:Int) - 1)).toNat]? =some x) (h:(!Y5 ln aD x (Bx r f t a))=false):Nn ln aD ps i (Bx r f t a):=
 ⟨fun h=>by omega,fun _=>by rw[FJ hi hl hi2 FR];exact dB h⟩
theorem FN (hl:ps.length≤maxLen) (h0:¬ (ps.length:Int)=0) (FR:ps[(IntKind.i64.wrap ((ps.length:Int) - 1)).toNat]? =some x):(ps[ps.length - 1]?).getD []=x:=by
 simp only[maxLen]at hl
 rw[bi (by omega) (by omega),show((ps.length:Int) - 1).toNat=ps.length - 1 by omega]at FR
 simp[FR]
end
theorem rX (ln wd rx ry:Int) (sizes places aD ah bF:Lz) (hp:xH aD) (hR:DT ah) (Hw:ah.length≤maxLen) (hlo:Is bF) (zG:bF.length=ah.length) (l:Int) (ps:Lz) (hps:DE ps) (fQ:ps.length≤maxLen):Tg 33 [LS ln wd rx ry sizes places,oL 1 aD,oL 7 ah,oL 1 bF,Jc l ps] (mS (fun n=>n=0↔BP ln wd aD ah bF l ps)):=by
 refine ae Tryz.func33 ?_
 repeat' (conv=>whnf
          first
  |(refine az (fun h=>?_) (fun h=>?_))
  |(refine bC (fun h=>?_) (fun h=>?_))
  |(refine aF (fun h=>?_) (fun h=>?_))
  |(have h7:0≤r1∧r1 < (ah.length:Int):=(hb.1 (dB (b:=b) (by assumption))).1;refine ak (xs:=bF) hlo h7.1 (by omega) ?_;rintro _ ⟨n7,rfl⟩ QO)
  |(have h7:0≤r1∧r1 < (ah.length:Int):=(hb.1 (dB (b:=b) (by assumption))).1;refine ak (xs:=ah) hR h7.1 h7.2 ?_;rintro _ ⟨id,w1,l1,a2,b2,c2,fl,rfl,bG,hfl,Ew⟩ sC)
  |(refine ak (xs:=ps) hps (by omega) (by omega) ?_;rintro _ ⟨r1,f1,t1,a1,rfl⟩ hs)
  |(have h77:=fQ;simp only[maxLen]at h77;refine ak (xs:=ps) hps (by first|omega|(simp (disch:=omega) only[aa];omega)) (by first|omega|(simp (disch:=omega) only[aa];omega)) ?_;rintro _ ⟨r9,f9,t9,a9,rfl⟩ FR)
  |(refine And.intro (by kernel_rfl) ?_)
  |(refine ag rfl (uk r1 f1 t1 a1 ah hR) ?_;rintro _ ⟨b,rfl,hb⟩)
  |(refine aB rfl (xY ln aD hp _ _ _ _ _ _ _ _) ?_;rintro _ ⟨rfl,_⟩)
  |(refine aB rfl (Cc _ _ _ _) ?_;rintro _ ⟨_,rfl,rfl⟩)
  |exact iH rfl rfl (iff_of_false (by decide) (fun hh=>by have h1:=hh.ne;omega))
  |exact iH rfl rfl (iff_of_false (by decide) (fun hh=>V8 hh hs hb (by assumption)))
  |exact iH rfl rfl (iff_of_false (by decide) (fun hh=>V9 hh hs (by omega)))
  |exact iH rfl rfl (iff_of_false (by decide) (fun hh=>P9 hh hs QO (by omega)))
  |exact iH rfl rfl (iff_of_false (by decide) (fun hh=>V5 hh hs sC (by omega)))
  |exact iH rfl rfl (iff_of_false (by decide) (fun hh=>V7 hh hs (by omega) (by omega)))
  |exact iH rfl rfl (iff_of_false (by decide) (fun hh=>V6 hh hs (by omega) fQ (by omega) FR (by assumption)))
  |exact iH rfl rfl (iff_of_false (by decide) (fun hh=>by have h1:=hh.en;rw[FN fQ (by omega) FR]at h1;exact absurd h1 (by assumption)))
  |exact iH rfl rfl (iff_of_true rfl ⟨by omega,fun j p hj=>hpre j p (by have:=(List.getElem?_eq_some_iff.1 hj).1;omega) hj,by rw[FN fQ (by omega) FR];omega⟩)
  |(apply aS [1,2,3,5,9,18,19,20] [] [20] [(4,6),(8,2)] (KN (fun i p=>SB ln wd ah bF l p∧Nn ln aD ps i p) ps [[[tI ln,tI wd,tI rx,tI ry, .aA 1 sizes, .aA 7 places]],[[tI l, .aA 4 ps]]]) (ps.length) [iV .i64 0];(conv=>whnf);exact⟨rfl,rfl,rfl,rfl⟩;exact rfl;exact rfl;exact .cons (av.au (xs:=[[tI ln,tI wd,tI rx,tI ry, .aA 1 sizes, .aA 7 places]]) rfl _) (.cons (av.au (xs:=[[tI l, .aA 4 ps]]) rfl _) .nil);exact⟨0,by omega,fun j e hj=>by omega,rfl,rfl,rfl⟩;rintro _ _ _ ⟨i,hi,hpre,rfl,rfl,rfl⟩)
  |(refine aj [1,2,3,5,9,18,19,20] [] ?_;(conv=>whnf);first|exact⟨rfl,_,[_],_, .cons (av.au (xs:=[[tI ln,tI wd,tI rx,tI ry, .aA 1 sizes, .aA 7 places]]) rfl _) (.cons (av.au (xs:=[[tI l, .aA 4 ps]]) rfl _) .nil),KN.next (by omega) fQ hpre hs ⟨SB.mk' hb (by assumption) (by assumption) (by assumption) QO (by omega) sC (by assumption),Nn.pos (by omega) fQ (by omega) FR (by assumption)⟩,rfl,rfl,by omega⟩|exact⟨rfl,_,[_],_, .cons (av.au (xs:=[[tI ln,tI wd,tI rx,tI ry, .aA 1 sizes, .aA 7 places]]) rfl _) (.cons (av.au (xs:=[[tI l, .aA 4 ps]]) rfl _) .nil),KN.next (by omega) fQ hpre hs ⟨SB.mk' hb (by assumption) (by assumption) (by assumption) QO (by omega) sC (by assumption),Nn.zero (by omega) (by omega)⟩,rfl,rfl,by omega⟩)
  |(exfalso;omega))
 all_goals (conv=>whnf)
end Go.aR.Cd
end
section
namespace Go.Proofs
open Go.Shelf
def Tryz.D3:Go.Shelf.Ren:=⟨fun|6=>63|15=>87|14=>86|28=>117|29=>118|20=>109|21=>110|22=>111|23=>112|24=>113|25=>114|26=>115|27=>116|46=>143|47=>144|48=>145|49=>146|50=>147|57=>172|n=>n,fun|22=>175|24=>177|25=>180|3=>3|39=>205|0=>0|53=>238|55=>240|4=>4|46=>232|45=>231|50=>101|5=>5|9=>9|66=>260|70=>264|76=>306|77=>307|n=>n,fun|n=>n⟩
theorem Tryz.IN:Go.Proofs.SlLaysF0.n6 Tryz.prog Tryz.D3:={
 mixed:=by kernel_rfl
 f6:=⟨Tryz.f63.name,by decide,Tryz.func63.trans (congrArg some (by kernel_rfl))⟩
 f14:=⟨Tryz.f86.name,by decide,Tryz.func86.trans (congrArg some (by kernel_rfl))⟩
 f15:=Tryz.func87.trans (congrArg some (by kernel_rfl))
 f20:=⟨Tryz.f109.name,by decide,Tryz.func109.trans (congrArg some (by kernel_rfl))⟩
 f21:=⟨Tryz.f110.name,by decide,Tryz.func110.trans (congrArg some (by kernel_rfl))⟩
 f22:=⟨Tryz.f111.name,by decide,Tryz.func111.trans (congrArg some (by kernel_rfl))⟩
 f23:=⟨Tryz.f112.name,by decide,Tryz.func112.trans (congrArg some (by kernel_rfl))⟩
 f24:=⟨Tryz.f113.name,by decide,Tryz.func113.trans (congrArg some (by kernel_rfl))⟩
 f25:=⟨Tryz.f114.name,by decide,Tryz.func114.trans (congrArg some (by kernel_rfl))⟩
 f26:=⟨Tryz.f115.name,by decide,Tryz.func115.trans (congrArg some (by kernel_rfl))⟩
 f27:=⟨Tryz.f116.name,by decide,Tryz.func116.trans (congrArg some (by kernel_rfl))⟩
 f28:=Tryz.func117.trans (congrArg some (by kernel_rfl))
 f29:=Tryz.func118.trans (congrArg some (by kernel_rfl))
 f46:=⟨Tryz.f143.name,by decide,Tryz.func143.trans (congrArg some (by kernel_rfl))⟩
 f47:=Tryz.func144.trans (congrArg some (by kernel_rfl))
 f48:=Tryz.func145.trans (congrArg some (by kernel_rfl))
 f49:=⟨Tryz.f146.name,by decide,Tryz.func146.trans (congrArg some (by kernel_rfl))⟩
 f50:=⟨Tryz.f147.name,by decide,Tryz.func147.trans (congrArg some (by kernel_rfl))⟩
 f57:=⟨Tryz.f172.name,by decide,Tryz.func172.trans (congrArg some (by kernel_rfl))⟩
 t0:=Tryz.underlying0
 a0:=Tryz.isAgg0
 z0:=Tryz.sizeOf0
 v0:=Tryz.zeroValue0
 t3:=Tryz.underlying3
 a3:=Tryz.isAgg3
 z3:=Tryz.sizeOf3
 v3:=Tryz.zeroValue3
 t4:=Tryz.underlying4
 a4:=Tryz.isAgg4
 z4:=Tryz.sizeOf4
 v4:=Tryz.zeroValue4
 t5:=Tryz.underlying5
 a5:=Tryz.isAgg5
 z5:=Tryz.sizeOf5
 v5:=Tryz.zeroValue5
 t9:=Tryz.underlying9
 a9:=Tryz.isAgg9
 z9:=Tryz.sizeOf9
 v9:=Tryz.zeroValue9
 t22:=Tryz.underlying175
 a22:=Tryz.isAgg175
 z22:=Tryz.sizeOf175
 v22:=Tryz.zeroValue175
 t25:=Tryz.underlying180
 a25:=Tryz.isAgg180
 z25:=Tryz.sizeOf180
 v25:=Tryz.zeroValue180
 t39:=Tryz.underlying205
 a39:=Tryz.isAgg205
 z39:=Tryz.sizeOf205
 v39:=Tryz.zeroValue205
 t45:=Tryz.underlying231
 a45:=Tryz.isAgg231
 z45:=Tryz.sizeOf231
 v45:=Tryz.zeroValue231
 t46:=Tryz.underlying232
 a46:=Tryz.isAgg232
 z46:=Tryz.sizeOf232
 v46:=Tryz.zeroValue232
 t50:=Tryz.underlying101
 a50:=Tryz.isAgg101
 z50:=Tryz.sizeOf101
 v50:=Tryz.zeroValue101
 t53:=Tryz.underlying238
 a53:=Tryz.isAgg238
 z53:=Tryz.sizeOf238
 v53:=Tryz.zeroValue238
 t55:=Tryz.underlying240
 a55:=Tryz.isAgg240
 z55:=Tryz.sizeOf240
 v55:=Tryz.zeroValue240
 t66:=Tryz.underlying260
 a66:=Tryz.isAgg260
 z66:=Tryz.sizeOf260
 v66:=Tryz.zeroValue260
 t70:=Tryz.underlying264
 a70:=Tryz.isAgg264
 z70:=Tryz.sizeOf264
 v70:=Tryz.zeroValue264
 t76:=Tryz.underlying306
 a76:=Tryz.isAgg306
 z76:=Tryz.sizeOf306
 v76:=Tryz.zeroValue306
 t77:=Tryz.underlying307
 a77:=Tryz.isAgg307
 z77:=Tryz.sizeOf307
 v77:=Tryz.zeroValue307}
def Tryz.EU:Go.Shelf.Ren:=⟨fun|5=>65|7=>88|n=>n,fun|22=>3|3=>3|4=>4|n=>n,fun|n=>n⟩
theorem Tryz.RZ:Go.Proofs.SlLaysC2.n5 Tryz.prog Tryz.EU:={
 mixed:=by kernel_rfl
 f5:=⟨Tryz.f65.name,by decide,Tryz.func65.trans (congrArg some (by kernel_rfl))⟩
 f7:=⟨Tryz.f88.name,by decide,Tryz.func88.trans (congrArg some (by kernel_rfl))⟩
 t3:=Tryz.underlying3
 a3:=Tryz.isAgg3
 z3:=Tryz.sizeOf3
 v3:=Tryz.zeroValue3
 t4:=Tryz.underlying4
 a4:=Tryz.isAgg4
 z4:=Tryz.sizeOf4
 v4:=Tryz.zeroValue4
 t22:=Tryz.underlying3
 a22:=Tryz.isAgg3
 z22:=Tryz.sizeOf3
 v22:=Tryz.zeroValue3}
end Go.Proofs
end
section
namespace Go.aR.Cd
open Go Go.Proofs Go.Sort Go.Shelf Go.RowKit Go.Lib
set_option maxRecDepth 100000
abbrev Zn:=Int×Int
abbrev eZ (x:Zn):List T:=[tI x.1,tI x.2]
abbrev rZ (l:List Zn):Lz:=l.map eZ
def sU (x:Zn):List Value:=[.int .i64 x.1, .int .i64 x.2]
def OD (x y:Zn):Int:=Lib.compareInt x.1 y.1
def nn (d:Array Zn):Array Zn:=pdq (ltOf OD) d 0 d.size (Lib.bitLen d.size) true true
def cG (l:List Zn):List Zn:=(nn l.toArray).toList
theorem ltZ (x y:Zn):ltOf OD x y=decide (x.1 < y.1):=by
 unfold ltOf OD Lib.compareInt
 by_cases h1:x.1 < y.1
 · simp[h1]
 · by_cases h2:y.1 < x.1<;>simp[h1,h2]
theorem Vv:SWO (ltOf OD) where
 irrefl x:=by rw[ltZ];simp
 trans x y z h1 h2:=by rw[ltZ]at *;simp at *;omega
 ntrans x y z h1 h2:=by rw[ltZ]at *;simp at *;omega
theorem D4 (d:Array Zn):PermIn 0 d.size d (nn d):=(pdq_sorts (ltOf OD) Vv d 0 d.size (Lib.bitLen d.size) true true (Nat.zero_le _) (Nat.le_refl _) (Or.inl rfl)).1
theorem aP (l:List Zn):(cG l).length=l.length:=by
 have:=(D4 l.toArray).1
 simpa[cG]using this
theorem ML {M:Nat→Prop} (w:World) (b n:Nat) (F:Array Value) (os:Array Obj) (hM:M b) (hlt:b < w.heap.size):
 cJ M w (grow (putRow id (Sort.ahead w n) b 0 F) os):=by
 have hb: ∀k,k < w.heap.size→(grow (putRow id (Sort.ahead w n) b 0 F) os).heap[k]? =if b=k then(w.heap[k]?).map (onCells (putCells id 0 F))else w.heap[k]? :=by
  intro k hk
  rw[heap_grow_old _ _ (by simpa[putRow,mapBlock,Sort.ahead]using hk)]
  simp only[putRow,mapBlock,Sort.ahead,Array.getElem?_modify]
 refine⟨rfl,rfl,rfl,by simp[putRow,mapBlock,Sort.ahead],fun k hk ho=>?_,fun k hk=>?_⟩
 · have hne:¬b=k:=fun e=>ho (by rw[←e];exact hM)
   rw[hb k hk,if_neg hne]
 · simp only[World.shape?,hb k hk]
   by_cases Zp:b=k
   · rw[if_pos Zp]
     cases h:w.heap[k]? with
     |none=>rfl
     |some o=>cases o<;>simp[onCells,putCells]
   · rw[if_neg Zp]
theorem LI {w:World} {A:Nat→Prop} {ρ:Env} {u:W} {v:Value} {xs:Array Value} (h:vq w A ρ [u, .one (.t (.val v))] xs.toList): ∃y,RW w A ρ u y∧xs= #[y,v]:=by
 obtain⟨hl,hx⟩:=h
 have h1:xs.toList.length=2:=by rw[←hl];rfl
 match hq:xs.toList,h1 with
 | [y,z],_=>
   have hy:=hx 0 _ y rfl (by rw[hq];rfl)
   have hz:=hx 1 _ z rfl (by rw[hq];rfl)
   cases hz.1
   refine⟨y,hy,?_⟩
   rw[←Array.toArray_toList (xs:=xs),hq]
def gD (P:Program) (f g:Nat):Prop:=
 (∀ (blk cap:Nat) (d:Array Zn) (w:World),HoldsK sU 2 w blk 0 d→blk < w.heap.size→d.size < 4611686018427387904→
   Calls P f #[.slice (some ⟨blk,0,none⟩) d.size cap, .func (.func g) #[] #[]] w fun e w'=>e= .returned (.tuple #[])∧ ∃n os,w'=sortWorldK sU 2 w blk 0 n (nn d) os)∧
 (∀ (p:Option Addr) (cap:Nat) (w:World),Calls P f #[.slice p 0 cap, .func (.func g) #[] #[]] w fun e w'=>e= .returned (.tuple #[])∧w'=w)
set_option maxHeartbeats 1000000 in
theorem Kw (x y:Zn) (W:World):Calls Tryz.prog 64 #[.agg #[.int .i64 x.1, .int .i64 x.2], .agg #[.int .i64 y.1, .int .i64 y.2]] W fun e w'=>e= .returned (.int .i64 (OD x y))∧ ∃q os',w'=grow (W.drewN q) os':=by
 have Rh:=fun W'=>AnyG.cmp_Compare_int Tryz.RZ x.1 y.1 W'
 change ∀W',Calls Tryz.prog 65 _ _ _ at Rh
 unfold OD
 generalize Lib.compareInt x.1 y.1=r at Rh⊢
 go_enter Tryz.func64,Tryz.ntmps64
 go_wp2_with (go_at_call 65;refine(Rh _).mono ?_;rintro e w' ⟨rfl,rfl⟩)
 go_ret
 exact⟨rfl,0,_,by rw[alloc_eq_grow,alloc_eq_grow,grow_grow];rfl⟩
theorem j0:gD Tryz.prog 63 64:=by
 refine⟨fun blk cap d w hH hb hs=>?_,fun p cap w=>?_⟩
 · have eg: ∀args w,(callFunc 64 args).run Tryz.prog w= .ok (.enter 64 args) w:=enters_of Tryz.func64 (by kernel_rfl) rfl
   exact AnyQ.slices_SortFunc_eq Tryz.IN 2 Tryz.isAgg177 Tryz.sizeOf177 sU (fun _=>rfl) (fun x v hv=>by simp[sU]at hv;rcases hv with rfl|rfl<;>rfl) OD Vv 64 #[] blk 0 cap d w eg (fun _ _ _ _ x y=>Kw x y _) hH hb hs
 · exact AnyF.slices_SortFunc_none {Tryz.IN with} p cap _ w
theorem Oy (d:Array Zn) (i:Nat) (x:Zn) (h:d[i]? =some x):i * 2+1 < (flatK sU 2 d).size∧(flatK sU 2 d)[i * 2]! = .int .i64 x.1∧(flatK sU 2 d)[i * 2+1]! = .int .i64 x.2:=by
 obtain⟨hi,hx⟩:=Array.getElem?_eq_some_iff.1 h
 have e:d[i]! =x:=by rw[getElem!_pos d i hi,hx]
 refine⟨by rw[size_flatK];omega,?_,?_⟩
 · rw[get_flatK _ _ _ _ (by omega),show i * 2 / 2=i by omega,show i * 2 % 2=0 by omega,e];rfl
 · rw[get_flatK _ _ _ _ (by omega),show(i * 2+1) / 2=i by omega,show(i * 2+1) % 2=1 by omega,e];rfl
theorem LB {P:Program} {f g:Nat} (hS:gD P f g) (l:List Zn) (hl:l.length < 4611686018427387904):
 Fn P f [.one (.own 0 2 0 l.length),fV g] [(0, .row 2 (tr (rZ l)))] (aO []) [(0, .row 2 (tr (rZ (cG l))))]:=by
 intro w A ρ xs hH hxs
 obtain⟨y,hy,rfl⟩:=LI hxs
 obtain⟨h1,h2⟩:=hH.heap 0 _ rfl
 rcases hy.1 with⟨b,cap,n,e,k1,rfl,k3,k4,k5⟩|⟨k1,_,k3,rfl⟩
 · rcases h2 with⟨b',c,e',r1,r2,r3,r4,r5,r6⟩|⟨r1,_⟩
   · rw[k1]at r1
     simp only[Option.some.injEq,Loc.fF.injEq]at r1
     subst r1
     have hb:b < w.heap.size:=(Array.getElem?_eq_some_iff.1 r4).1
     have hcell: ∀ (i:Nat) (x:Zn),l[i]? =some x→c[i * 2]? =some (.int .i64 x.1)∧c[i * 2+1]? =some (.int .i64 x.2):=by
      intro i x hi
      have hrow:(tr (rZ l))[i]? =some ((eZ x).map C.t):=by simp[tr,rZ,hi]
      obtain⟨y0,g1,g2,_⟩:=r6 i _ 0 _ hrow rfl
      obtain⟨y1,g3,g4,_⟩:=r6 i _ 1 _ hrow rfl
      cases g2
      cases g4
      exact⟨g1,g3⟩
     have XK:HoldsK sU 2 w b 0 l.toArray:=by
      intro j hj
      rw[size_flatK,List.size_toArray]at hj
      obtain⟨i,hi,fK⟩: ∃i,i < l.length∧(j=i * 2∨j=i * 2+1):=⟨j / 2,by omega,by omega⟩
      obtain⟨q1,q2⟩:=hcell i l[i] (by simp[hi])
      obtain⟨_,q3,q4⟩:=Oy l.toArray i l[i] (by simp[hi])
      refine⟨?_,by simp only[World.frozen?,r4];simp⟩
      simp only[World.cell?,r4,id,Nat.zero_add,Option.isSome_none,Bool.false_eq_true,if_false]
      rcases fK with rfl|rfl
      · rw[q1,q3]
      · rw[q2,q4]
     have hc:=hS.1 b cap l.toArray w XK hb (by simpa using hl)
     rw[List.size_toArray]at hc
     have hz:(0 * 2:Nat)=0:=rfl
     rw[hz]
     refine hc.mono ?_
     rintro ex w' ⟨rfl,n',os,rfl⟩
     have dJ:=ML (M:=fun k=>oM ρ [(0,bu.row 2 (tr (rZ l)))] k∨w.heap.size≤k) w b n' (flatK sU 2 (nn l.toArray)) os (.inl ⟨0,_,rfl,k1⟩) hb
     have hsz:(nn l.toArray).size=l.length:=by have:=aP l;simpa[cG]using this
     refine⟨.tuple #[],A,ρ,bg 4,rfl,⟨#[],rfl,rfl,fun k u x hu=>by simp at hu⟩,⟨rfl,rfl,fun t v hv=>by simp[find]at hv,fun id blk hb'=>?_,fun id id' blk fH b' q1 q2 q3 q4=>?_,hH.fresh,fun k hk=>Nat.lt_of_lt_of_le (hH.bound k hk) dJ.size,fun k hk=> .inr (Nat.le_trans dJ.size hk),hH.dN.EN dJ (fun _ _ h=>h)⟩,dJ,iE.refl _,bp.refl _ _⟩
     · simp only[ai]at hb'
       split at hb'
       · rename_i e0
         subst e0
         simp only[Option.some.injEq]at hb'
         subst hb'
         refine⟨fun el hel=>?_, .inl ⟨b,putCells id 0 (flatK sU 2 (nn l.toArray)) c,e',k1, .inl ⟨0,_,rfl,k1⟩,r3,?_,?_,fun i el j q hi hj=>?_⟩⟩
         · simp only[tr,rZ,List.mem_map]at hel
           obtain⟨_,⟨x,_,rfl⟩,rfl⟩:=hel
           rfl
         · unfold sortWorldK putRowK
           rw[heap_grow_old _ _ (by simpa[putRow,mapBlock,Sort.ahead]using hb)]
           simp[putRow,mapBlock,Sort.ahead,Array.getElem?_modify,r4,onCells]
         · have:(tr (rZ l)).length=l.length:=by simp[tr,rZ]
           rw[this]at r5
           simp[tr,rZ,aP,putCells]
           exact r5
         · simp only[tr,rZ,List.getElem?_map,Option.map_eq_some_iff]at hi
           obtain⟨_,⟨x,hx,rfl⟩,rfl⟩:=hi
           have hx':(nn l.toArray)[i]? =some x:=by simpa[cG]using hx
           obtain⟨g1,g2,g3⟩:=Oy _ i x hx'
           have hcs: ∀k,k < (flatK sU 2 (nn l.toArray)).size→(putCells id 0 (flatK sU 2 (nn l.toArray)) c)[k]? =some (flatK sU 2 (nn l.toArray))[k]! :=by
            intro k hk
            have hkc:k < c.size:=by
             have:(tr (rZ l)).length=l.length:=by simp[tr,rZ]
             rw[this]at r5
             rw[size_flatK,hsz]at hk
             omega
            simp only[putCells,Array.getElem?_mapIdx,Nat.zero_le,Nat.zero_add,true_and,Nat.sub_zero,hk,if_true,id]
            rw[Array.getElem?_eq_getElem hkc]
            rfl
           match j,hj with
           |0,hj=>
            simp only[List.map_cons,List.getElem?_cons_zero,Option.some.injEq]at hj
            subst hj
            exact⟨_,by rw[Nat.add_zero];exact hcs _ (by omega),by rw[g2];exact .val rfl,by rw[g2];rfl⟩
           |1,hj=>
            simp only[List.map_cons,List.getElem?_cons_succ,List.getElem?_cons_zero,Option.some.injEq]at hj
            subst hj
            exact⟨_,hcs _ g1,by rw[g3];exact .val rfl,by rw[g3];rfl⟩
           |j+2,hj=>simp at hj
       · simp[find]at hb'
     · simp only[ai]at q1 q2
       split at q1
       · split at q2
         · omega
         · simp[find]at q2
       · simp[find]at q1
   · rw[k1]at r1
     simp at r1
 · have Mi:l=[]:=List.length_eq_zero_iff.1 k3
   subst Mi
   refine(hS.2 none 0 w).mono ?_
   rintro ex w' ⟨rfl,rfl⟩
   exact⟨.tuple #[],A,ρ,bg 4,rfl,⟨#[],rfl,rfl,fun k u x hu=>by simp at hu⟩,by simpa[cG,show nn #[]= #[]from by have:=aP [];simpa[cG]using this]using hH,cJ.refl _ _,iE.refl _,bp.refl _ _⟩
end Go.aR.Cd
end
section
namespace Go.aR
open Go
variable {P:Program} {M A:Nat→Prop} {ρ:Env} {F:Nat→Prop} {st:St} {a:Act} {w:World}
theorem BF {f:FuncId} {us ts:List W} {hp:HS} {ctr sz:Nat} {rows:List (List C)} {v:V} (id:Nat) (hv:v.cV=true) (hT:uX ts=true) (hf:find hp id=some (.row sz rows)) (hl:bE (bI [(id,bu.row sz rows)]) us=some ts) (hfn:Fn P f ts [] v []):
 eM P f us hp ctr v (del hp id) (ctr+4):=by
 intro M A ρ a w n L xs hr hx
 have h0:=Rel.forget hr (st':=⟨n,L,[(id, .row sz rows)]⟩) rfl (fun _ _ h=>h) (fun k b hb=>by
  simp only[ai]at hb
  split at hb
  · rename_i e
    subst e
    rw[←hb]
    exact hf
  · simp[find]at hb)
 let B:Nat→Prop:=fun b=>A b∧ρ id≠some (.fF b)
 have hx':vq w B ρ ts xs.toList:=⟨(gm hl).trans hx.1,fun k u x hu AZ=>by
  obtain⟨c,hc,hlc⟩:=dV hl k u hu
  exact gK h0 (B:=B) (fun b hb=>hb.1) (fun k blk b hk hρ hB=>by
   simp only[ai]at hk
   split at hk
   · rename_i e
     subst e
     exact hB.2 hρ
   · simp[find]at hk) hlc (hx.2 k c x hc AZ) ρ⟩
 have hs:Rel M B ρ (bg ctr) ⟨n,L,del hp id⟩ a w:=Rel.shrink (hp:=del hp id) hr (fun b hb=>hb.1) (fun k b hk=>by
  rw[ey]at hk
  split at hk
  · simp at hk
  · exact hk) (fun k blk b hk hρ=>by
  rw[ey]at hk
  split at hk
  · simp at hk
  · rename_i hne
    refine⟨(EB (hr.heap k blk hk) hρ).1,fun h2=>?_⟩
    exact hne (hr.inj k id blk _ b hk hf hρ h2))
 refine(mD (fG (hp:=del hp id) (ctr:=ctr) hv hT hfn) M B ρ a w n L xs hs hx').mono ?_
 rintro e w' ⟨x,A',ρ',h1,r1,r2,r3,r4,r5⟩
 refine⟨x,A',ρ',h1,r1,r2,r3,r4,fun b hA hM=>r5.1 b ⟨hA,fun h2=>hM ((hr.heap id _ hf).lt h2).2.1⟩ hM,fun b hb h2=>(r5.2 b hb h2).1⟩
theorem OZ {f:FuncId} {us ts:List W} {hp:HS} {ctr sz:Nat} {rows:List (List C)} {K:V→HS→Nat→Prop} {Good:List W→Prop} (id:Nat) (hT:uX ts=true) (hf:find hp id=some (.row sz rows)) (hl:bE (bI [(id,bu.row sz rows)]) us=some ts)
 (h: ∃rs,Fn P f ts [] (aO rs) []∧(aO rs).cV=true∧Good rs) (hk: ∀rs,Good rs→K (aO rs) (del hp id) (ctr+4)): ∃v hp' c',eM P f us hp ctr v hp' c'∧K v hp' c':=by
 obtain⟨rs,h1,h2,h3⟩:=h
 exact⟨_,_,_,BF id h2 hT hf hl h1,hk rs h3⟩
end Go.aR
end
section
namespace Go.aR
open Go
variable {P:Program} {M A:Nat→Prop} {ρ:Env} {F:Nat→Prop} {st:St} {a:Act} {w:World}
theorem dL.gk {tm:TS} {hp:HS} {ctr szr:Nat} {xs:List (List C)} {e:List C} (FH i0 j sz:Nat) (hf:find hp FH=some (.row szr xs)) (DN:xs[i0]? =some e) (hj:e[j]? =some (.t fk)):
 dL tm hp ctr tm ((ctr, .row sz [])::jx hp FH (.row szr (xs.set i0 (e.set j (.own ctr sz 0 0))))) (ctr+4):=by
 intro M A ρ n a w hr
 have hfr:ρ ctr=none:=hr.fresh ctr (Nat.le_refl _)
 have cC:cN ρ (dn ρ ctr .iL):=cN.jx hfr
 have hne: ∀ {id:Nat},id≠ctr→dn ρ ctr .iL id=ρ id:=fun bG=>by simp[dn,bG]
 refine⟨A,dn ρ ctr .iL,⟨hr.size,hr.defers,fun u v hv=>(hr.tmps u v hv).keeps (ej.refl _ _) (fun _ _=>rfl) cC,fun id blk hb=>?_,fun id id' blk fH b h1 h2 r1 r2=>?_,fun id bG=>?_,hr.bound,hr.may,hr.dN⟩,cC.Lv,fT.refl M A w⟩
 · simp only[ai]at hb
   split at hb
   · rename_i e'
     subst e'
     simp only[Option.some.injEq]at hb
     subst hb
     exact⟨by simp, .inr ⟨by simp[dn],rfl⟩⟩
   · simp only[bt]at hb
     split at hb
     · rename_i e'
       subst e'
       rw[hf]at hb
       simp only[Option.map_some,Option.some.injEq]at hb
       subst hb
       have h0:=(hr.heap _ _ hf).keeps (ej.refl _ _) (fun _ _=>rfl) cC (fun _ h=>h) (fun _ _=>rfl)
       obtain⟨h1,h2⟩:=h0
       refine⟨fun el hel=>?_,?_⟩
       · rcases List.mem_or_eq_of_mem_set hel with hel|rfl
         · exact h1 el hel
         · rw[List.length_set]
           exact h1 e (List.mem_of_getElem? DN)
       · rcases h2 with⟨b,c,t,k1,k2,k3,k4,k5,k6⟩|⟨_,h3⟩
         · refine .inl ⟨b,c,t,k1,k2,k3,k4,by simpa using k5,fun i el jj q hi hq=>?_⟩
           by_cases K7:i0=i
           · subst K7
             rw[List.getElem?_set_self (List.getElem?_eq_some_iff.1 DN).1,Option.some.injEq]at hi
             subst hi
             by_cases Td:j=jj
             · subst Td
               have hlt:=(List.getElem?_eq_some_iff.1 hj).1
               rw[List.getElem?_set_self hlt,Option.some.injEq]at hq
               subst hq
               obtain⟨x,hx,hrc,hcell⟩:=k6 i0 e j _ DN hj
               refine⟨x,hx,?_,hcell⟩
               have hrt:RT w A fk x:=hrc
               cases hrt
               exact .inr ⟨by simp[dn],rfl,rfl,rfl⟩
             · rw[List.getElem?_set_ne Td]at hq
               exact k6 i0 e jj q DN hq
           · rw[List.getElem?_set_ne K7]at hi
             exact k6 i el jj q hi hq
         · rw[h3]at DN
           simp at DN
     · exact(hr.heap id blk hb).keeps (ej.refl _ _) (fun _ _=>rfl) cC (fun _ h=>h) (fun _ _=>rfl)
 · have old: ∀ {q:Nat} {bl:bu},find ((ctr,bu.row sz [])::jx hp FH (.row szr (xs.set i0 (e.set j (.own ctr sz 0 0))))) q=some bl→q≠ctr→ ∃BX,find hp q=some BX:=by
    intro q bl hq hqc
    simp only[ai]at hq
    rw[if_neg (fun e=>hqc e.symm)]at hq
    simp only[bt]at hq
    split at hq
    · rename_i e'
      subst e'
      exact⟨_,hf⟩
    · exact⟨_,hq⟩
   have n1:id≠ctr:=by intro e;subst e;simp[dn]at r1
   have n2:id'≠ctr:=by intro e;subst e;simp[dn]at r2
   obtain⟨c1,g1⟩:=old h1 n1
   obtain⟨c2,g2⟩:=old h2 n2
   rw[hne n1]at r1
   rw[hne n2]at r2
   exact hr.inj id id' c1 c2 b g1 g2 r1 r2
 · simp only[bg]at bG
   rw[hne (by omega)]
   exact hr.fresh id (by simp only[bg];omega)
end Go.aR
end
section
namespace Go.aR.Cd
open Go Go.Proofs
set_option maxRecDepth 100000
set_option maxHeartbeats 2000000
def bH (r:Int) (qs:Lz):List Zn:=qs.filterMap fun e=>if nI 0 e=r then some (nI 1 e,nI 2 e)else none
theorem Lk {r f t a:Int} (qs:Lz):bH r (qs++[[tI r,tI f,tI t,tI a]])=bH r qs++[(f,t)]:=by
 simp[bH,nI]
theorem Lj {r c f t a:Int} (qs:Lz) (h:r≠c):bH c (qs++[[tI r,tI f,tI t,tI a]])=bH c qs:=by
 simp[bH,nI,h]
theorem kw (r:Int) (qs:Lz):(bH r qs).length≤qs.length:=List.length_filterMap_le _ _
def pR:List Zn→Bool
 |a::b::r=>decide (a.2≤b.1)&&pR (b::r)
 |_=>true
theorem Cx (l:List Zn):pR l=true↔ ∀i a b,l[i]? =some a→l[i+1]? =some b→a.2≤b.1:=by
 induction l with
 |nil=>simp[pR]
 |cons x l ih=>
  cases l with
  |nil=>simp[pR]
  |cons y l=>
   simp only[pR,Bool.and_eq_true,decide_eq_true_eq,ih]
   constructor
   · rintro⟨h1,h2⟩ i a b ha hb
     cases i with
     |zero=>simp at ha hb;subst ha hb;exact h1
     |succ i=>exact h2 i a b (by simpa using ha) (by simpa using hb)
   · intro h
     exact⟨h 0 x y rfl rfl,fun i a b ha hb=>h (i+1) a b (by simpa using ha) (by simpa using hb)⟩
def yV (n:Nat) (qs:Lz):Bool:=(List.range n).all fun r=>pR (cG (bH (r:Int) qs))
abbrev partsOf (plies:Lz):Lz:=plies.flatMap (nL 1)
def gh (k:Nat) (r:List (List C)) (z:List Zn):Prop:=k=z.length∧av r (rZ z)
theorem gh.au {k:Nat} {r:List (List C)} {z:List Zn} (h:gh k r z) (g:Nat→Option Nat):gh k (r.map fun e=>e.map (C.au g)) z:=⟨h.1,h.2.au g⟩
theorem gh.Gh {k k':Nat} {r:List (List C)} {z:List Zn} (h:gh k r z) (f t:Int) (hk:k'=r.length+1) (g:Nat→Option Nat):gh k' (((r++[[C.t (tI f),C.t (tI t)]]:List (List C))).map fun e=>e.map (C.au g)) (z++[(f,t)]):=by
 refine⟨?_,?_⟩
 · rw[hk,h.2.len];simp
 · have:=(av.snoc h.2 [tI f,tI t]).au g
   simpa[rZ]using this
def OQ (n:Nat) (qs:Lz) (ts:List W):Prop:= ∃z,ts=[oL 1 z,oB (yV n qs)]
def Su (HQ:(Nat→List Zn)→HS→Prop) (plies:Lz) (m:Nat) (vs:List V) (hq:HS):Prop:= ∃i:Nat,i≤plies.length∧m=plies.length - i∧vs=[iV .i64 (i:Int)]∧HQ (fun r=>bH r (partsOf (plies.take i))) hq
def Ss (HQ:(Nat→List Zn)→HS→Prop) (pre ps:Lz) (m:Nat) (vs:List V) (hq:HS):Prop:= ∃j:Nat,j≤ps.length∧m=ps.length - j∧vs=[iV .i64 (j:Int)]∧HQ (fun r=>bH r (pre++ps.take j)) hq
def Sr (HQ:(Nat→List Zn)→HS→Prop) (n:Nat) (F:Nat→List Zn) (m:Nat) (vs:List V) (hq:HS):Prop:= ∃k:Int,0≤k∧k≤(n:Int)∧m=((n:Int) - k).toNat∧vs=[iV .i64 k]∧HQ (fun r=>if(r:Int) < k then cG (F r)else F r) hq∧ ∀r:Nat,(r:Int) < k→pR (cG (F r))=true
def rG (l:List Zn) (i:Int):Prop:= ∀ (j:Nat) (a b:Zn),(j:Int)+1 < i→l[j]? =some a→l[j+1]? =some b→a.2≤b.1
def Tu (l:List Zn) (m:Nat) (vs:List V):Prop:= ∃i:Int,1≤i∧i≤1000000∧m=((l.length:Int)+1 - i).toNat∧vs=[iV .i64 i]∧rG l i
theorem gh.dc {c:Int} {k i j:Nat} {l:Int} {r:List (List C)} {plies ps:Lz} (h:gh k r (bH c (partsOf (plies.take i)++ps.take j))) (hs:plies[((i:Int)).toNat]? =some [tI l, .aA 4 ps]) (hj:ps.length≤j) (g:Nat→Option Nat):gh k (r.map fun e=>e.map (C.au g)) (bH c (partsOf (plies.take (i+1)))):=by
 have hs':plies[i]? =some [tI l, .aA 4 ps]:=by simpa using hs
 have e:partsOf (plies.take (i+1))=partsOf (plies.take i)++ps.take j:=by
  rw[List.take_add_one,hs',List.take_of_length_le hj]
  simp[partsOf,nL]
 rw[e]
 exact h.au g
theorem gh.nil {c:Int} {k:Nat} {r:List (List C)} {pre ps:Lz} (h:gh k r (bH c pre)) (g:Nat→Option Nat):gh k (r.map fun e=>e.map (C.au g)) (bH c (pre++ps.take 0)):=by
 simpa using h.au g
theorem gh.all {c:Int} {k i:Nat} {r:List (List C)} {plies:Lz} (h:gh k r (bH c (partsOf (plies.take i)))) (hi:plies.length≤i) (g:Nat→Option Nat):gh k (r.map fun e=>e.map (C.au g)) (bH c (partsOf plies)):=by
 rw[List.take_of_length_le hi]at h
 exact h.au g
theorem NQ {ps:Lz} {j:Nat} {e:List T} (hs:ps[((j:Int)).toNat]? =some e):ps.take (j+1)=ps.take j++[e]:=by
 have hs':ps[j]? =some e:=by simpa using hs
 rw[List.take_add_one,hs']
 rfl
theorem gh.fB {c r0 f t a:Int} {k j:Nat} {r:List (List C)} {pre ps:Lz} (h:gh k r (bH c (pre++ps.take j))) (hs:ps[((j:Int)).toNat]? =some [tI r0,tI f,tI t,tI a]) (hne:r0≠c) (g:Nat→Option Nat):gh k (r.map fun e=>e.map (C.au g)) (bH c (pre++ps.take (j+1))):=by
 rw[NQ hs, ←List.append_assoc,Lj _ hne]
 exact h.au g
theorem gh.hit {c f t a:Int} {k k' j:Nat} {r:List (List C)} {pre ps:Lz} (h:gh k r (bH c (pre++ps.take j))) (hs:ps[((j:Int)).toNat]? =some [tI c,tI f,tI t,tI a]) (hk:k'=r.length+1) (g:Nat→Option Nat):gh k' (((r++[[C.t (tI f),C.t (tI t)]]:List (List C))).map fun e=>e.map (C.au g)) (bH c (pre++ps.take (j+1))):=by
 rw[NQ hs, ←List.append_assoc,Lk]
 exact h.Gh f t hk g
theorem gh.sort {z zl:List Zn} {k:Nat} {r:List (List C)} (hz:zl=cG z) (hk:k=z.length) (hR:av r (rZ zl)):gh k r (cG z):=⟨by rw[hk,aP],hz▸hR⟩
theorem gh.lQ {c:Int} {k j:Nat} {r:List (List C)} {pre ps:Lz} {B:Nat} (h:gh k r (bH c (pre++ps.take j))) (hB:pre.length+ps.length≤B):r.length=k∧k≤B:=by
 have h1:=kw c (pre++ps.take j)
 have h2:=h.2.len
 have h3:=h.1
 simp[rZ]at h1 h2
 omega
theorem AF {l:List Zn} {i:Nat} {a b:Int} (h:(rZ l)[i]? =some [tI a,tI b]):l[i]? =some (a,b):=by
 simp only[rZ,List.getElem?_map,Option.map_eq_some_iff]at h
 obtain⟨⟨x,y⟩,h1,h2⟩:=h
 simp only[eZ,List.cons.injEq,T.val.injEq,Value.int.injEq,true_and,and_true]at h2
 obtain⟨rfl,rfl⟩:=h2
 exact h1
theorem cQ (l:List Zn):(rZ l).length=l.length:=by simp[rZ]
theorem zj (l:List Zn):bY (rZ l):=fun e he=>by
 simp only[rZ,List.mem_map]at he
 obtain⟨x,_,rfl⟩:=he
 exact⟨_,_,rfl⟩
theorem rG.one (l:List Zn):rG l 1:=fun j a b hj=>by omega
theorem rG.next {l:List Zn} {i a b c d:Int} {i1:Int} (h:rG l i) (h1:1≤i) (Mm:i1=i - 1) (ha:(rZ l)[0+i1.toNat]? =some [tI c,tI a]) (hb:(rZ l)[0+i.toNat]? =some [tI b,tI d]) (hab:a≤b):rG l (i+1):=by
 rw[Nat.zero_add]at ha hb
 intro j x y hj hx hy
 by_cases fK:(j:Int)+1=i
 · have e1:i1.toNat=j:=by omega
   have e2:i.toNat=j+1:=by omega
   rw[e1]at ha
   rw[e2]at hb
   rw[AF ha]at hx
   rw[AF hb]at hy
   cases hx
   cases hy
   exact hab
 · exact h j x y (by omega) hx hy
theorem rG.all {l:List Zn} {i:Int} (h:rG l i) (hi:(l.length:Int)≤i):pR l=true:=(Cx l).2 fun j a b ha hb=>h j a b (by have:=(List.getElem?_eq_some_iff.1 hb).1;omega) ha hb
theorem cj {l:List Zn} {i i1 a b c d:Int} (h1:1≤i) (Mm:i1=i - 1) (ha:(rZ l)[0+i1.toNat]? =some [tI c,tI a]) (hb:(rZ l)[0+i.toNat]? =some [tI b,tI d]) (hab:b < a):pR l=false:=by
 cases h:pR l with
 |false=>rfl
 |true=>
  have e2:i.toNat=i1.toNat+1:=by omega
  rw[Nat.zero_add]at ha hb
  rw[e2]at hb
  have:=(Cx l).1 h _ _ _ (AF ha) (AF hb)
  simp only at this
  omega
theorem cR {n r:Nat} {qs:Lz} {zl:List Zn} (hr:r < n) (hz:zl=cG (bH (r:Int) qs)) (h:pR zl=false):yV n qs=false:=by
 unfold yV
 rw[List.all_eq_false]
 exact⟨r,by simpa using hr,by rw[←hz,h];simp⟩
theorem jX {n:Nat} {k:Int} {qs:Lz} (hk:(n:Int)≤k) (h: ∀r:Nat,(r:Int) < k→pR (cG (bH (r:Int) qs))=true):yV n qs=true:=by
 unfold yV
 rw[List.all_eq_true]
 intro r hr
 exact h r (by have:=List.mem_range.1 hr;omega)
theorem cv {c:Nat} {F:Nat→List Zn} {zl:List Zn} (h: ∀r:Nat,(r:Int) < (c:Int)→pR (cG (F r))=true) (hz:zl=cG (F c)) (h1:pR zl=true): ∀r:Nat,(r:Int) < ((c+1:Nat):Int)→pR (cG (F r))=true:=by
 intro r hr
 by_cases e:r=c
 · subst e
   rw[←hz]
   exact h1
 · exact h r (by omega)
def GSo (l:List Zn) (ts:List W) (hout:HS):Prop:=ts=[]∧hout=[(0, .row 2 (tr (rZ (cG l))))]
theorem cS {f g:Nat} (hS:gD Tryz.prog f g) (l:List Zn) (hl:l.length≤100000): ∃ts hout,Fn Tryz.prog f [.one (.own 0 2 0 l.length),fV g] [(0, .row 2 (tr (rZ l)))] (aO ts) hout∧GSo l ts hout:=
 ⟨[],_,LB hS l (by omega),rfl,rfl⟩
theorem gq {z zl:List Zn} {i:Int} (h:i < (z.length:Int)) (hz:zl.length=z.length):i < (zl.length:Int):=by omega
theorem gv {z zl:List Zn} {i:Int} (h:¬i < (z.length:Int)) (hz:zl.length=z.length):(zl.length:Int)≤i:=by omega
def Fa (hp:HS):List (Nat×Nat×Lz)→Prop
 | []=>True
 |p::r=>(∃rr,find hp p.1=some (.row 2 rr)∧av rr p.2.2∧p.2.1=p.2.2.length)∧Fa hp r
theorem Cy {hp:HS}: ∀ {ps:List (Nat×Nat×Lz)},Fa hp ps→bE (bE (cW 5 hp)) (ps.map fun p=>[.own p.1 2 0 p.2.1])=some (ps.map fun p=>[.aA 2 p.2.2])
 | [],_=>rfl
 |p::r,h=>by
  obtain⟨⟨rr,h1,h2,h3⟩,h4⟩:=h
  have hl:0+p.2.1≤rr.length:=by rw[h2.len,h3];omega
  have e:cW 5 hp (.own p.1 2 0 p.2.1)=some (.aA 2 p.2.2):=by
   simp only[cW,h1,true_and,hl,if_true]
   rw[h2,vF,sI,h3]
   simp
  simp only[List.map_cons,bE,e,Cy h4]
theorem pM {hp:HS} {tm:TS} {t id len:Nat} {rows:List (List C)} (ps:List (Nat×Nat×Lz)) (h:find tm t=some (.w (.one (.own id 1 0 len)))) (hf:find hp id=some (.row 1 rows)) (hr:rows=ps.map fun p=>[.own p.1 2 0 p.2.1]) (hl:len=ps.length) (hN:Fa hp ps):
 Rs Tryz.prog hp tm (.tmp t) (.one (.t (.aA 1 (ps.map fun p=>[.aA 2 p.2.2])))):=by
 subst hr hl
 refine⟨_, .one (.t (.aA 1 (ps.map fun p=>[.aA 2 p.2.2]))),by simp only[cc,h];rfl,?_,BY.refl _⟩
 have hk:0+ps.length≤(ps.map fun p=>[C.own p.1 2 0 p.2.1]).length:=by simp
 have:cW 6 hp (.own id 1 0 ps.length)=some (.aA 1 (ps.map fun p=>[.aA 2 p.2.2])):=by
  simp only[cW,hf,true_and,hk,if_true]
  have e:((ps.map fun p=>[C.own p.1 2 0 p.2.1]).drop 0).take ps.length=ps.map fun p=>[C.own p.1 2 0 p.2.1]:=by rw[List.drop_zero,List.take_of_length_le (by simp)]
  rw[e,Cy hN]
  rfl
 simp only[bI,this,Option.map_some]
end Go.aR.Cd
end
section
namespace Go.aR.Cd
open Go Go.Proofs
set_option maxRecDepth 100000
set_option maxHeartbeats 1000000
variable [BQ]
def DS (l:Int) (ps poly:Lz):Int×Int:=pk 36 [Jc l ps,oL 2 poly] (fun p=>[oI p.1,oI p.2]) (fun p=>p.2=0→0≤p.1∧p.1 < (ps.length:Int))
theorem mR (l:Int) (ps poly:Lz) (hp:DE ps) (fQ:ps.length≤maxLen) (hx:bY poly) (hl:poly.length≤1000000): ∃ts,Fn Tryz.prog 36 [Jc l ps,oL 2 poly] [] (aO ts) []∧(aO ts).cV=true∧(ts=[oI (DS l ps poly).1,oI (DS l ps poly).2]∧((DS l ps poly).2=0→0≤(DS l ps poly).1∧(DS l ps poly).1 < (ps.length:Int))):=by
 obtain⟨ts,h1,h2,n,e,rfl,h3⟩:=xf l ps poly hp fQ hx hl
 exact zm (enc:=fun p:Int×Int=>[oI p.1,oI p.2]) (Q:=fun p=>p.2=0→0≤p.1∧p.1 < (ps.length:Int)) ⟨(n,e),h1,h2,h3⟩
def P5 (poly:Lz) (x y w h:Int):Bool×Int:=pk 67 [oL 2 poly,G3 x y w h] (fun p=>[oB p.1,oI p.2]) (fun _=>True)
theorem yj (poly:Lz) (hx:bY poly) (hl:poly.length≤1000000) (x y w h:Int): ∃ts,Fn Tryz.prog 67 [oL 2 poly,G3 x y w h] [] (aO ts) []∧(aO ts).cV=true∧(ts=[oB (P5 poly x y w h).1,oI (P5 poly x y w h).2]∧True):=by
 obtain⟨ts,h1,h2,b,e,rfl⟩:=AM poly hx hl x y w h
 exact zm (enc:=fun p:Bool×Int=>[oB p.1,oI p.2]) (Q:=fun _=>True) ⟨(b,e),h1,h2,trivial⟩
def zN (oh:Int→Int→Int→Int→Bool×Int) (d:Int):Lz→Bool×Int
 | []=>(false,0)
 |f::r=>if(oh (IntKind.i64.wrap (nI 0 f+d)) (nI 1 f) (nI 2 f) (nI 3 f)).2≠0 then(false,(oh (IntKind.i64.wrap (nI 0 f+d)) (nI 1 f) (nI 2 f) (nI 3 f)).2)
  else if(oh (IntKind.i64.wrap (nI 0 f+d)) (nI 1 f) (nI 2 f) (nI 3 f)).1=true then(true,0)else zN oh d r
def yK (l:Int) (ps poly:Lz):List T:=qm ps ((DS l ps poly).1)
def Lc (l:Int) (ps ah poly:Lz):Bool×Int:=zN (P5 poly) (IntKind.i64.wrap (nI 3 (yK l ps poly) - nI 1 (yK l ps poly))) (nL 6 (qm ah (nI 0 (yK l ps poly))))
structure yQ (l:Int) (ps ah poly:Lz):Prop where
 car:(DS l ps poly).2=0
 rng:0≤nI 0 (yK l ps poly)∧nI 0 (yK l ps poly) < (ah.length:Int)
 adM:BO (qm ah (nI 0 (yK l ps poly)))
 fl:(Lc l ps ah poly).2=0
def GHt (l:Int) (ps ah poly:Lz) (ts:List W):Prop:= ∃b e,ts=[oB b,oI e]∧(e=0↔yQ l ps ah poly)∧(e=0→b=(Lc l ps ah poly).1)
def Z7 (oh:Int→Int→Int→Int→Bool×Int) (d:Int) (fl:Lz) (iJ:List (Lz)) (m:Nat) (vs:List V) (xss:List (Lz)):Prop:= ∃i:Nat,i≤fl.length∧zN oh d fl=zN oh d (fl.drop i)∧m=fl.length - i∧vs=[iV .i64 (i:Int)]∧xss=iJ
theorem By {fl:Lz} {i:Nat} {e:List T} (hs:fl[((i:Int)).toNat]? =some e):fl.drop i=e::fl.drop (i+1):=by
 have hs':fl[i]? =some e:=by simpa using hs
 obtain⟨hi,he⟩:=List.getElem?_eq_some_iff.1 hs'
 rw[List.drop_eq_getElem_cons hi,he]
theorem Br {oh:Int→Int→Int→Int→Bool×Int} {d x y w h:Int} {r:Lz}:zN oh d ([tI x,tI y,tI w,tI h]::r)=if(oh (IntKind.i64.wrap (x+d)) y w h).2≠0 then(false,(oh (IntKind.i64.wrap (x+d)) y w h).2)else if(oh (IntKind.i64.wrap (x+d)) y w h).1=true then(true,0)else zN oh d r:=rfl
theorem Z7.next {oh:Int→Int→Int→Int→Bool×Int} {d x y w h:Int} {fl:Lz} {iJ:List (Lz)} {i:Nat} (hi:(i:Int) < (fl.length:Int)) (hl:fl.length≤maxLen) (hf:zN oh d fl=zN oh d (fl.drop i)) (hs:fl[((i:Int)).toNat]? =some [tI x,tI y,tI w,tI h]) (h1:(oh (IntKind.i64.wrap (x+d)) y w h).2=0) (h2:(oh (IntKind.i64.wrap (x+d)) y w h).1=false):
 Z7 oh d fl iJ (fl.length - (i+1)) [iV .i64 (IntKind.i64.wrap ((i:Int)+1))] iJ:=by
 refine⟨i+1,by omega,?_,rfl,by simp only[maxLen]at hl;rw[bi (by omega) (by omega)];rfl,rfl⟩
 rw[hf,By hs,Br]
 rw[if_neg (fun hh=>hh h1),if_neg (by rw[h2];simp)]
theorem Rz {oh:Int→Int→Int→Int→Bool×Int} {d x y w h:Int} {fl:Lz} {i:Nat} (hf:zN oh d fl=zN oh d (fl.drop i)) (hs:fl[((i:Int)).toNat]? =some [tI x,tI y,tI w,tI h]) (h1:¬ (oh (IntKind.i64.wrap (x+d)) y w h).2=0):¬ (zN oh d fl).2=0:=by
 rw[hf,By hs,Br]
 rw[if_pos (show(oh (IntKind.i64.wrap (x+d)) y w h).2≠0 from h1)]
 exact h1
theorem Ry {oh:Int→Int→Int→Int→Bool×Int} {d x y w h:Int} {fl:Lz} {i:Nat} (hf:zN oh d fl=zN oh d (fl.drop i)) (hs:fl[((i:Int)).toNat]? =some [tI x,tI y,tI w,tI h]) (h1:(oh (IntKind.i64.wrap (x+d)) y w h).2=0) (h2:(oh (IntKind.i64.wrap (x+d)) y w h).1=true):zN oh d fl=(true,0):=by
 rw[hf,By hs,Br]
 rw[if_neg (fun hh=>hh h1),if_pos h2]
theorem RA {oh:Int→Int→Int→Int→Bool×Int} {d:Int} {fl:Lz} {i:Nat} (hf:zN oh d fl=zN oh d (fl.drop i)) (hi:fl.length≤i):zN oh d fl=(false,0):=by
 rw[hf,List.drop_eq_nil_of_le hi]
 rfl
section
variable {l r1 f1 t1 a1:Int} {ps ah poly fl:Lz} {id:ByteArray} {w1 l1 a2 b2 c2:Int}
theorem sX (hs:ps[((DS l ps poly).1).toNat]? =some [tI r1,tI f1,tI t1,tI a1]):yK l ps poly=[tI r1,tI f1,tI t1,tI a1]:=oc hs
theorem EJ (hs:ps[((DS l ps poly).1).toNat]? =some [tI r1,tI f1,tI t1,tI a1]) (sC:ah[r1.toNat]? =some [.val (.string id),tI w1,tI l1,tI a2,tI b2,tI c2, .aA 4 fl]):Lc l ps ah poly=zN (P5 poly) (IntKind.i64.wrap (a1 - f1)) fl:=by
 unfold Lc
 rw[sX hs,show nI 0 [tI r1,tI f1,tI t1,tI a1]=r1 from rfl,oc sC]
 rfl
theorem WB (h:¬ (DS l ps poly).2=0):(DS l ps poly).2=0↔yQ l ps ah poly:=iff_of_false h fun hh=>h hh.car
theorem afM (hs:ps[((DS l ps poly).1).toNat]? =some [tI r1,tI f1,tI t1,tI a1]) (h:r1 < 0∨r1≥ (ah.length:Int)):¬yQ l ps ah poly:=fun hh=>by
 have h1:=hh.rng
 rw[sX hs]at h1
 have h1:0≤r1∧r1 < (ah.length:Int):=h1
 omega
theorem afL (hs:ps[((DS l ps poly).1).toNat]? =some [tI r1,tI f1,tI t1,tI a1]) (sC:ah[r1.toNat]? =some [.val (.string id),tI w1,tI l1,tI a2,tI b2,tI c2, .aA 4 fl]) (h:¬KL id w1 l1 a2 b2 c2 fl):¬yQ l ps ah poly:=fun hh=>by
 have h1:=hh.adM
 rw[sX hs]at h1
 have h1:BO (qm ah r1):=h1
 rw[oc sC]at h1
 exact h (BO.of h1)
theorem afK (hs:ps[((DS l ps poly).1).toNat]? =some [tI r1,tI f1,tI t1,tI a1]) (sC:ah[r1.toNat]? =some [.val (.string id),tI w1,tI l1,tI a2,tI b2,tI c2, .aA 4 fl]) (h:¬ (zN (P5 poly) (IntKind.i64.wrap (a1 - f1)) fl).2=0):¬yQ l ps ah poly:=fun hh=>by
 have h1:=hh.fl
 rw[EJ hs sC]at h1
 exact h h1
theorem Ob (hc:(DS l ps poly).2=0) (hs:ps[((DS l ps poly).1).toNat]? =some [tI r1,tI f1,tI t1,tI a1]) (h0:0≤r1) (h1:r1 < (ah.length:Int)) (sC:ah[r1.toNat]? =some [.val (.string id),tI w1,tI l1,tI a2,tI b2,tI c2, .aA 4 fl]) (hr:KL id w1 l1 a2 b2 c2 fl) {b:Bool} (h:zN (P5 poly) (IntKind.i64.wrap (a1 - f1)) fl=(b,0)):
 yQ l ps ah poly∧b=(Lc l ps ah poly).1:=by
 refine⟨⟨hc,?_,?_,?_⟩,?_⟩
 · rw[sX hs];exact⟨h0,h1⟩
 · rw[sX hs]
   show BO (qm ah r1)
   rw[oc sC]
   exact⟨_,_,_,_,_,_,_,rfl,hr⟩
 · rw[EJ hs sC,h]
 · rw[EJ hs sC,h]
end
theorem EQ (l:Int) (ps ah poly:Lz) (hp:DE ps) (fQ:ps.length≤maxLen) (hR:DT ah) (hx:bY poly) (hl:poly.length≤1000000):Tg 35 [Jc l ps,oL 7 ah,oL 2 poly] (GHt l ps ah poly):=by
 refine aH ?_
 refine ae Tryz.func35 ?_
 repeat' (conv=>whnf
          first
  |(refine az (fun h=>?_) (fun h=>?_))
  |(refine bC (fun h=>?_) (fun h=>?_))
  |(refine aF (fun h=>?_) (fun h=>?_))
  |(refine And.intro (by omega) (Exists.intro _ (And.intro sC ?_)))
  |(refine ak (xs:=ps) hp (hn (by omega)).1 (hn (by omega)).2 ?_;rintro _ ⟨r1,f1,t1,a1,rfl⟩ hs)
  |(refine ak (xs:=ah) hR (by omega) (by omega) ?_;rintro _ ⟨id,w1,l1,a2,b2,c2,fl,rfl,bG,hfl,Ew⟩ sC)
  |(refine ak (xs:=fl) hfl (by omega) (by omega) ?_;rintro _ ⟨x3,y3,w3,h3,rfl⟩ Ib)
  |(refine ag rfl (mR l ps poly hp fQ hx hl) ?_;rintro _ ⟨rfl,hn⟩)
  |(refine ag rfl (tq id w1 l1 a2 b2 c2 fl bG hfl Ew) ?_;rintro _ ⟨e2,rfl,Ht⟩)
  |(refine ag rfl (yj poly hx hl _ _ _ _) ?_;rintro _ ⟨rfl,_⟩)
  |exact dh rfl (bN rfl) (bN rfl) ⟨_,_,rfl,WB (by assumption),fun h0=>absurd h0 (by assumption)⟩
  |exact dh rfl (bN rfl) (bN rfl) ⟨_,_,rfl,iff_of_false (by decide) (afM hs (by omega)),fun h0=>absurd h0 (by decide)⟩
  |exact dh rfl (bN rfl) (bN rfl) ⟨_,_,rfl,iff_of_false (by assumption) (afL hs sC (fun hh=>absurd (Ht.2 hh) (by assumption))),fun h0=>absurd h0 (by assumption)⟩
  |exact dh rfl (bN rfl) (bN rfl) ⟨_,_,rfl,iff_of_false (by assumption) (afK hs sC (Rz hf Ib (by assumption))),fun h0=>absurd h0 (by assumption)⟩
  |(have h9:=Ob (by omega) hs (by omega) (by omega) sC (Ht.1 (by omega)) (Ry hf Ib (by omega) (by assumption));exact dh rfl (bN rfl) (bN rfl) ⟨_,_,rfl,iff_of_true rfl h9.1,fun _=>h9.2⟩)
  |(have h9:=Ob (by omega) hs (by omega) (by omega) sC (Ht.1 (by omega)) (RA hf (by omega));exact dh rfl (bN rfl) (bN rfl) ⟨_,_,rfl,iff_of_true rfl h9.1,fun _=>h9.2⟩)
  |(apply aS [2,10,54,55,56] [] [56] [(4,4)] (Z7 (P5 poly) (IntKind.i64.wrap (a1 - f1)) fl [[[tI r1,tI f1,tI t1,tI a1]]]) (fl.length) [iV .i64 0];(conv=>whnf);exact⟨rfl,rfl,rfl,rfl⟩;exact rfl;exact rfl;exact .cons (av.au (xs:=[[tI r1,tI f1,tI t1,tI a1]]) rfl _) .nil;exact⟨0,by omega,rfl,rfl,rfl,rfl⟩;rintro _ _ _ ⟨i,hi,hf,rfl,rfl,rfl⟩)
  |(refine aj [2,10,54,55,56] [] ?_;(conv=>whnf);exact⟨rfl,_,[_],_, .cons (av.au (xs:=[[tI r1,tI f1,tI t1,tI a1]]) rfl _) .nil,Z7.next (by omega) Ew hf Ib (by omega) (by first|assumption|simp_all),rfl,rfl,by omega⟩))
 all_goals (conv=>whnf)
end Go.aR.Cd
end
section
namespace Go.aR.Cd
open Go Go.Proofs
set_option maxRecDepth 100000
set_option maxHeartbeats 1000000
variable [BQ]
theorem aCp:jw Tryz.prog 53=some true:=by kernel_rfl
theorem zCp:cA Tryz.prog 53=some 6:=by kernel_rfl
def KY (sizes places:Lz) (M:Nat) (ps:Lz):Prop:=xH ps∧ps.length=places.length∧Gq sizes.length places∧(∀e,e∈sizes→NB M e)∧sizes.length≤6
def Ng (n:Nat) (m:Nat) (vs:List V) (xss:List (Lz)):Prop:= ∃ (i:Nat) (zs:Lz),i≤n∧m=n - i∧vs=[bn 4 1 zs.length,iV .i64 (i:Int)]∧xss=[zs]∧xH zs∧zs.length=i
theorem Ng.next {n i k:Nat} {zs ps:Lz} (hi:(i:Int) < (n:Int)) (hn:n≤1000000) (hz:xH zs) (gR:zs.length=i) (hp:bY ps∧ps.length≤1000000) (hk:k=zs.length+1):Ng n (n - (i+1)) [bn 4 1 k,iV .i64 (IntKind.i64.wrap ((i:Int)+1))] [zs++[[.aA 2 ps]]]:=by
 refine⟨i+1,_,by omega,rfl,by subst hk;rw[bi (by omega) (by omega)];simp,rfl,fun e he=>?_,by simp;omega⟩
 rcases List.mem_append.1 he with he|he
 · exact hz e he
 · simp only[List.mem_singleton]at he
   exact⟨ps,he,hp⟩
theorem AV (sn:ByteArray) (bz ms ps us ss os:Lz) (hS:gZ sn bz ms ps us ss os) (ln wd rx ry:Int) (sizes places:Lz) (hz:Is sizes) (gR:sizes.length≤maxLen) (fQ:KR places) (Bb:places.length≤1000000):Tg 15 [fW sn bz ms ps us ss os,LS ln wd rx ry sizes places] (Li 1 (KY sizes places bz.length)):=by
 refine aH ?_
 refine ae Tryz.func15 ?_
 repeat' (conv=>whnf
          first
  |(refine az (fun h=>?_) (fun h=>?_))
  |(refine bC (fun h=>?_) (fun h=>?_))
  |(refine ak (xs:=fh) (hA (by omega)).2.1 (by omega) (by omega) ?_;rintro _ ⟨sh,f,q,x,y,rfl,WM,WL⟩ hs)
  |(have h8:=(hA (by omega)).2.2.1;refine And.intro ⟨by simp[tr],by simp[tr,aT];omega,by simp[tr,maxLen];omega⟩ ?_)
  |(refine ag rfl (jy sn bz ms ps us ss os hS ln wd rx ry sizes places hz gR fQ Bb) ?_;rintro _ ⟨eN,fh,e,rfl,hA⟩)
  |(refine ag rfl (pN eN (hA (by omega)).1 sh f q x y) ?_;rintro _ ⟨pl,e2,rfl,hP⟩)
  |exact dh rfl (bJ 1 rfl) (bN rfl) ⟨_,_,rfl,fun h0=>absurd h0 (by omega)⟩
  |exact dh rfl (eO rfl rfl (xs:=zs) rfl (by omega)) (bN rfl) ⟨_,_,rfl,fun _=>by rw[dS rfl];have h9:=hA (by omega);exact⟨hzs,by omega,h9.2.2.2⟩⟩
  |(apply dI [6,9,24,25,26] [] [9,26] [(4,1)] (Ng fh.length) (fh.length) [bn 4 1 0,iV .i64 0] (dL.iL 9 1 rfl);(conv=>whnf);exact⟨rfl,rfl,rfl,rfl⟩;exact rfl;exact rfl;exact .cons (av.au av.nil _) .nil;exact⟨0,[],by omega,rfl,rfl,rfl,fun e he=>by simp at he,rfl⟩;rintro _ _ _ ⟨i,zs,hi,rfl,rfl,rfl,hzs,eS⟩)
  |(refine aj [6,9,24,25,26] [] ?_;(conv=>whnf);exact⟨rfl,_,[_,_],_, .cons (av.au (av.snoc (xs:=zs) rfl [.aA 2 _]) _) .nil,Ng.next (by omega) (by have:=(hA (by omega)).2.2.1;omega) hzs eS (hP (by omega)).1 (by simp[tr]),rfl,rfl,by omega⟩))
 all_goals (conv=>whnf)
def VP (sn:ByteArray) (bz ms ps us ss os:Lz) (ln wd rx ry:Int) (sizes places:Lz):Lz×Int:=pk 15 [fW sn bz ms ps us ss os,LS ln wd rx ry sizes places] (fun p=>[oL 1 p.1,oI p.2]) (fun p=>p.2=0→KY sizes places bz.length p.1)
theorem yp (sn:ByteArray) (bz ms ps us ss os:Lz) (hS:gZ sn bz ms ps us ss os) (ln wd rx ry:Int) (sizes places:Lz) (hz:Is sizes) (gR:sizes.length≤maxLen) (fQ:KR places) (Bb:places.length≤1000000):
 ∃ts,Fn Tryz.prog 15 [fW sn bz ms ps us ss os,LS ln wd rx ry sizes places] [] (aO ts) []∧(aO ts).cV=true∧(ts=[oL 1 (VP sn bz ms ps us ss os ln wd rx ry sizes places).1,oI (VP sn bz ms ps us ss os ln wd rx ry sizes places).2]∧((VP sn bz ms ps us ss os ln wd rx ry sizes places).2=0→KY sizes places bz.length (VP sn bz ms ps us ss os ln wd rx ry sizes places).1)):=by
 obtain⟨ts,h1,h2,x,e,rfl,h3⟩:=AV sn bz ms ps us ss os hS ln wd rx ry sizes places hz gR fQ Bb
 exact zm (enc:=fun p:Lz×Int=>[oL 1 p.1,oI p.2]) (Q:=fun p=>p.2=0→KY sizes places bz.length p.1) ⟨(x,e),h1,h2,h3⟩
abbrev aeG (p q l s:Int) (x:T) (d:Bool):W:= .agg [.t (tI p), .t (tI q), .t (tI l), .t (tI s), .t x, .t (tB d)]
def GPo (fN:Int) (ps ah poly:Lz) (dc place sz:Int) (ts:List W):Prop:= ∃p q l s x d e,ts=[aeG p q l s x d,oI e]∧(e=0↔yQ fN ps ah poly)∧
 (e=0→p=dc∧q=place∧l=fN∧s=sz∧x= .aA 1 [[tI (nI 0 (yK fN ps poly))]]∧d=(Lc fN ps ah poly).1)
theorem uR (ln wd rx ry:Int) (sizes places plies ah poly:Lz) (hR:DT ah) (hx:bY poly) (hl:poly.length≤1000000) (dc place fN g u k q x y sz:Int) (f:Bool) (ps:Lz) (hps:DE ps) (fQ:ps.length≤maxLen) (h0:0≤dc) (hy:plies[dc.toNat]? =some [tI fN, .aA 4 ps]) (h1:0≤place) (Ep:places[place.toNat]? =some [tI g,tI u,tI k,tB f,tI q,tI x,tI y]) (h2:0≤g) (hsz:sizes[g.toNat]? =some [tI sz]):Tg 42 [fM ln wd rx ry sizes places plies,oL 7 ah,oI dc,oI place,oL 2 poly] (GPo fN ps ah poly dc place sz):=by
 refine aH ?_
 refine ae Tryz.func42 ?_
 repeat' (conv=>whnf
          first
  |(refine bC (fun h=>?_) (fun h=>?_))
  |(refine And.intro h0 (Exists.intro _ (And.intro hy ?_)))
  |(refine And.intro h1 (Exists.intro _ (And.intro Ep ?_)))
  |(refine And.intro h2 (Exists.intro _ (And.intro hsz ?_)))
  |(refine ak (xs:=ps) hps (hn (by omega)).1 (hn (by omega)).2 ?_;rintro _ ⟨r1,f1,t1,a1,rfl⟩ hs)
  |(refine And.intro (by kernel_rfl) ?_)
  |(refine ag rfl (mR fN ps poly hps fQ hx hl) ?_;rintro _ ⟨rfl,hn⟩)
  |(refine ag rfl (EQ fN ps ah poly hps fQ hR hx hl) ?_;rintro _ ⟨hb,he,rfl,Q9,Xn⟩)
  |exact dh rfl (bD aCp zCp rfl rfl (Nat.le_refl _) rfl (cM.refl _)) (bN rfl) ⟨_,_,_,_,_,_,_,rfl,WB (by assumption),fun h0=>absurd h0 (by assumption)⟩
  |exact dh rfl (bD aCp zCp rfl rfl (Nat.le_refl _) rfl (cM.refl _)) (bN rfl) ⟨_,_,_,_,_,_,_,rfl,Q9,fun h0=>absurd h0 (by assumption)⟩
  |exact dh rfl (bD aCp zCp rfl rfl (Nat.le_refl _) rfl (cM.refl _)) (bN rfl) ⟨_,_,_,_,_,_,_,rfl,iff_of_true rfl (Q9.1 (by assumption)),fun _=>⟨rfl,rfl,rfl,rfl,by rw[sX hs];rfl,Xn (by assumption)⟩⟩)
 all_goals (conv=>whnf)
end Go.aR.Cd
end
section
namespace Go.aR.Cd
open Go Go.Proofs
set_option maxRecDepth 100000
set_option maxHeartbeats 4000000
def HU0 (F:Nat→List Zn) (hq:HS):Prop:=hq=[(4, .row 1 [])]
theorem Vq (hS:gD Tryz.prog 63 64) (ln wd rx ry:Int) (sizes places plies:Lz) (hy: ∀e,e∈plies→ ∃l q,e=[tI l, .aA 4 q]∧DE q) (jT:plies.length≤1000000) (hB: ∀e,e∈plies→(nL 1 e).length≤1000) (hT: ∀i,(partsOf (plies.take i)).length≤100000) (dA: ∀e,e∈plies→ ∀q,q∈nL 1 e→0≤nI 0 q∧nI 0 q < 0):Tg 34 [fM ln wd rx ry sizes places plies,oL 7 []] (OQ 0 (partsOf plies)):=by
 have hZ: ∀c:Int,(bH c (partsOf plies)).length≤100000:=fun c=>by have h1:=kw c (partsOf plies);have h2:=hT plies.length;rw[List.take_of_length_le (Nat.le_refl _)]at h2;omega
 refine aH ?_
 refine ae Tryz.func34 ?_
 repeat' (conv=>whnf
          first
  |(refine az (fun h=>?_) (fun h=>?_))
  |(refine And.intro ⟨by simp,by simp,by simp,by simp⟩ ?_)
  |(refine ak (xs:=plies) hy (by omega) (by omega) ?_;rintro _ ⟨l,ps,rfl,hq⟩ hs;have Hu:=dA _ (List.mem_of_getElem? hs);have Ot:ps.length≤1000:=hB _ (List.mem_of_getElem? hs);have S4:=hT i)
  |(refine ak (xs:=ps) hq (by omega) (by omega) ?_;rintro _ ⟨r1,f1,t1,a1,rfl⟩ bP;have uC:=Hu _ (List.mem_of_getElem? bP);simp only[nI,List.getElem?_cons_zero]at uC)
  |(refine And.intro ⟨by omega,by omega⟩ ?_)
  |(exfalso;simp at h;omega)
  |(have h7:((0:Nat):Int)≤k:=(by simp at h;omega);exact dh rfl (pM [] rfl rfl rfl rfl trivial) (bN rfl) ⟨_,by rw[jX h7 hall]⟩)
  |(have hgd:=hs;clear hgd;apply cz [6,18,19,20,25,26,27] [] [27] (Ss HU0 (partsOf (plies.take i)) ps) (ps.length) [iV .i64 0];(conv=>whnf);exact⟨rfl,rfl,rfl,rfl⟩;exact rfl;exact rfl;exact⟨0,by omega,rfl,rfl,rfl⟩;rintro _ _ _ ⟨j,hj,rfl,rfl,rfl⟩)
  |(have hgd:=hi;clear hgd;apply cz [6,49,50,51] [] [51] (Sr HU0 0 (fun r=>bH (r:Int) (partsOf plies))) (0) [iV .i64 0];(conv=>whnf);exact⟨rfl,rfl,rfl,rfl⟩;exact rfl;exact rfl;exact⟨0,by omega,by omega,rfl,rfl,rfl,fun r hr=>by omega⟩;rintro _ _ _ ⟨k,Ie,gi,rfl,rfl,rfl,hall⟩)
  |(apply cz [6,18,19,20] [] [20] (Su HU0 plies) (plies.length) [iV .i64 0];(conv=>whnf);exact⟨rfl,rfl,rfl,rfl⟩;exact rfl;exact rfl;exact⟨0,by omega,rfl,rfl,rfl⟩;rintro _ _ _ ⟨i,hi,rfl,rfl,rfl⟩)
  |(have hgd:=hj;clear hgd;refine aj [6,18,19,20] [] ?_;(conv=>whnf);exact⟨rfl,_,[_],⟨i+1,by omega,rfl,by rw[bi (by omega) (by omega)];rfl,rfl⟩,rfl,rfl,by omega⟩))
 all_goals (conv=>whnf)
end Go.aR.Cd
end
section
namespace Go.aR.Cd
open Go Go.Proofs
set_option maxRecDepth 100000
set_option maxHeartbeats 4000000
def HU1 (F:Nat→List Zn) (hq:HS):Prop:= ∃ (k0:Nat) (y0:List (List C)),hq=[(4, .row 1 [[.own 8 2 0 k0]]),(8, .row 2 y0)]∧gh k0 y0 (F 0)
theorem Vp (hS:gD Tryz.prog 63 64) (e0:List T) (ln wd rx ry:Int) (sizes places plies:Lz) (hy: ∀e,e∈plies→ ∃l q,e=[tI l, .aA 4 q]∧DE q) (jT:plies.length≤1000000) (hB: ∀e,e∈plies→(nL 1 e).length≤1000) (hT: ∀i,(partsOf (plies.take i)).length≤100000) (dA: ∀e,e∈plies→ ∀q,q∈nL 1 e→0≤nI 0 q∧nI 0 q < 1):Tg 34 [fM ln wd rx ry sizes places plies,oL 7 [e0]] (OQ 1 (partsOf plies)):=by
 have hZ: ∀c:Int,(bH c (partsOf plies)).length≤100000:=fun c=>by have h1:=kw c (partsOf plies);have h2:=hT plies.length;rw[List.take_of_length_le (Nat.le_refl _)]at h2;omega
 refine aH ?_
 refine ae Tryz.func34 ?_
 repeat' (conv=>whnf
          first
  |(refine az (fun h=>?_) (fun h=>?_))
  |(refine And.intro ⟨by simp,by simp,by simp,by simp⟩ ?_)
  |(have wL:=uC.2;have mX:=uC.1;have wK:r1=0:=(by omega);clear mX wL;rcases wK with rfl)
  |(have mX:=Ie;have Bl:=h;simp at Bl;have wK:k=0:=(by omega);clear mX Bl;rcases wK with rfl)
  |(refine And.intro ⟨by simp,by simp⟩ ?_)
  |(refine ak (xs:=plies) hy (by omega) (by omega) ?_;rintro _ ⟨l,ps,rfl,hq⟩ hs;have Hu:=dA _ (List.mem_of_getElem? hs);have Ot:ps.length≤1000:=hB _ (List.mem_of_getElem? hs);have S4:=hT i)
  |(refine ak (xs:=ps) hq (by omega) (by omega) ?_;rintro _ ⟨r1,f1,t1,a1,rfl⟩ bP;have uC:=Hu _ (List.mem_of_getElem? bP);simp only[nI,List.getElem?_cons_zero]at uC)
  |(have hb0:=p0.lQ (B:=101000) (by omega);refine And.intro ⟨hb0.1.symm,by simp[aT];omega,by simp[maxLen];omega⟩ ?_)
  |(have h6:=gq (z:=bH ((0:Nat):Int) (partsOf plies)) h eS;refine And.intro ⟨by omega,h⟩ ?_)
  |(have mP:IntKind.i64.wrap (i4 - 1)=i4 - 1:=bi (by omega) (by omega);generalize IntKind.i64.wrap (i4 - 1)=j1 at mP⊢;refine And.intro ⟨by omega,by omega⟩ ?_)
  |(refine And.intro (by kernel_rfl) ?_)
  |(refine fc [8] rfl (cS hS (bH ((0:Nat):Int) (partsOf plies)) (hZ _)) rfl (j9 rfl (rfl:av _ (rZ (bH ((0:Nat):Int) (partsOf plies))))) ?_;rintro _ _ ⟨rfl,rfl⟩;obtain⟨zl,hz⟩: ∃zl,zl=cG (bH ((0:Nat):Int) (partsOf plies)):=⟨_,rfl⟩;rw[←hz];have gR:zl.length≤100000:=(by rw[hz,aP];exact hZ _);have eS:zl.length=(bH ((0:Nat):Int) (partsOf plies)).length:=(by rw[hz,aP]))
  |(refine bM (xs:=rZ zl) (av.au (av.au (xs:=rZ zl) rfl _) _) (zj zl) (by rw[cQ];omega) ?_;first|(rintro _ ⟨a6,b6,rfl⟩ lU;have:=mO)|rintro _ ⟨a5,b5,rfl⟩ mO)
  |exact dh rfl (bJ 1 rfl) (bN rfl) ⟨_,by rw[cR (r:=0) (by omega) hz (cj hi4 mP lU mO (by omega))]⟩
  |(have h7:((1:Nat):Int)≤k:=(by simp at h;omega);exact dh rfl (pM [(8,_,_)] rfl rfl rfl rfl ⟨⟨_,rfl,rfl,(cQ _).symm⟩,trivial⟩) (bN rfl) ⟨_,by rw[jX h7 hall]⟩)
  |(have hgd:=eS;clear hgd;apply aL [6,12,13,49,50,51] [(6,0)] [13] (Tu zl) (zl.length) [iV .i64 1];(conv=>whnf);exact⟨rfl,rfl,rfl,rfl⟩;exact rfl;exact rfl;exact⟨1,by omega,by omega,by omega,rfl,rG.one zl⟩;rintro _ _ ⟨i4,hi4,Xm,rfl,rfl,o5⟩)
  |(have hgd:=h6;clear hgd;refine aj [6,12,13,49,50,51] [(6,0)] ?_;(conv=>whnf);exact⟨rfl,_,[_],⟨i4+1,by omega,by omega,rfl,by rw[bi (by omega) (by omega)],o5.next hi4 mP lU mO (by omega)⟩,rfl,(by simp only[eW]<;>rfl),rfl,by omega⟩)
  |(have hgd:=hs;clear hgd;apply cz [6,18,19,20,25,26,27] [(6,0)] [27] (Ss HU1 (partsOf (plies.take i)) ps) (ps.length) [iV .i64 0];(conv=>whnf);exact⟨rfl,rfl,rfl,rfl⟩;exact rfl;exact rfl;exact⟨0,by omega,rfl,rfl,⟨_,_,rfl,p0.nil _⟩⟩;rintro _ _ _ ⟨j,hj,rfl,rfl,⟨k0,y0,rfl,p0⟩⟩)
  |(have hgd:=bP;clear hgd;refine aj [6,18,19,20,25,26,27] [(6,0)] ?_;(conv=>whnf);exact⟨rfl,_,[_],⟨j+1,by omega,rfl,by rw[bi (by omega) (by omega)];rfl,⟨_,_,rfl,p0.hit bP (by simp) _⟩⟩,rfl,rfl,by omega⟩)
  |(have hgd:=hi;clear hgd;apply cz [6,49,50,51] [(6,0)] [51] (Sr HU1 1 (fun r=>bH (r:Int) (partsOf plies))) (1) [iV .i64 0];(conv=>whnf);exact⟨rfl,rfl,rfl,rfl⟩;exact rfl;exact rfl;exact⟨0,by omega,by omega,rfl,rfl,⟨_,_,rfl,p0.all (by omega) _⟩,fun r hr=>by omega⟩;rintro _ _ _ ⟨k,Ie,gi,rfl,rfl,⟨_,_,rfl,⟨rfl,rfl⟩⟩,hall⟩)
  |(have hgd:=eS;clear hgd;refine aj [6,49,50,51] [(6,0)] ?_;(conv=>whnf);exact⟨rfl,_,[_],⟨1,by omega,by omega,rfl,rfl,⟨_,_,rfl,gh.sort hz rfl (av.au (av.au (av.au (xs:=rZ zl) rfl _) _) _)⟩,cv (c:=0) hall hz (o5.all (gv (z:=bH ((0:Nat):Int) (partsOf plies)) h eS))⟩,rfl,rfl,by omega⟩)
  |(apply ji [6,18,19,20] [(6,0)] [20] (Su HU1 plies) (plies.length) [iV .i64 0] (dL.gk 24 0 0 2 rfl rfl rfl);(conv=>whnf);exact⟨rfl,rfl,rfl,rfl⟩;exact rfl;exact rfl;exact⟨0,by omega,rfl,rfl,⟨_,_,rfl,⟨rfl,rfl⟩⟩⟩;rintro _ _ _ ⟨i,hi,rfl,rfl,⟨k0,y0,rfl,p0⟩⟩)
  |(have hgd:=hj;clear hgd;refine aj [6,18,19,20] [(6,0)] ?_;(conv=>whnf);exact⟨rfl,_,[_],⟨i+1,by omega,rfl,by rw[bi (by omega) (by omega)];rfl,⟨_,_,rfl,p0.dc hs (by omega) _⟩⟩,rfl,rfl,by omega⟩))
 all_goals (conv=>whnf)
end Go.aR.Cd
end
section
namespace Go.aR.Cd
open Go Go.Proofs
set_option maxRecDepth 100000
set_option maxHeartbeats 4000000
def HU2 (F:Nat→List Zn) (hq:HS):Prop:= ∃ (k0 k1:Nat) (y0 y1:List (List C)),hq=[(4, .row 1 [[.own 8 2 0 k0],[.own 12 2 0 k1]]),(8, .row 2 y0),(12, .row 2 y1)]∧gh k0 y0 (F 0)∧gh k1 y1 (F 1)
theorem Vo (hS:gD Tryz.prog 63 64) (e0 e1:List T) (ln wd rx ry:Int) (sizes places plies:Lz) (hy: ∀e,e∈plies→ ∃l q,e=[tI l, .aA 4 q]∧DE q) (jT:plies.length≤1000000) (hB: ∀e,e∈plies→(nL 1 e).length≤1000) (hT: ∀i,(partsOf (plies.take i)).length≤100000) (dA: ∀e,e∈plies→ ∀q,q∈nL 1 e→0≤nI 0 q∧nI 0 q < 2):Tg 34 [fM ln wd rx ry sizes places plies,oL 7 [e0,e1]] (OQ 2 (partsOf plies)):=by
 have hZ: ∀c:Int,(bH c (partsOf plies)).length≤100000:=fun c=>by have h1:=kw c (partsOf plies);have h2:=hT plies.length;rw[List.take_of_length_le (Nat.le_refl _)]at h2;omega
 refine aH ?_
 refine ae Tryz.func34 ?_
 repeat' (conv=>whnf
          first
  |(refine az (fun h=>?_) (fun h=>?_))
  |(refine And.intro ⟨by simp,by simp,by simp,by simp⟩ ?_)
  |(have wL:=uC.2;have mX:=uC.1;have wK:r1=0∨r1=1:=(by omega);clear mX wL;rcases wK with rfl|rfl)
  |(have mX:=Ie;have Bl:=h;simp at Bl;have wK:k=0∨k=1:=(by omega);clear mX Bl;rcases wK with rfl|rfl)
  |(refine And.intro ⟨by simp,by simp⟩ ?_)
  |(refine ak (xs:=plies) hy (by omega) (by omega) ?_;rintro _ ⟨l,ps,rfl,hq⟩ hs;have Hu:=dA _ (List.mem_of_getElem? hs);have Ot:ps.length≤1000:=hB _ (List.mem_of_getElem? hs);have S4:=hT i)
  |(refine ak (xs:=ps) hq (by omega) (by omega) ?_;rintro _ ⟨r1,f1,t1,a1,rfl⟩ bP;have uC:=Hu _ (List.mem_of_getElem? bP);simp only[nI,List.getElem?_cons_zero]at uC)
  |(have hb0:=p0.lQ (B:=101000) (by omega);refine And.intro ⟨hb0.1.symm,by simp[aT];omega,by simp[maxLen];omega⟩ ?_)
  |(have pZ:=p1.lQ (B:=101000) (by omega);refine And.intro ⟨pZ.1.symm,by simp[aT];omega,by simp[maxLen];omega⟩ ?_)
  |(have h6:=gq (z:=bH ((0:Nat):Int) (partsOf plies)) h eS;refine And.intro ⟨by omega,h⟩ ?_)
  |(have h6:=gq (z:=bH ((1:Nat):Int) (partsOf plies)) h eS;refine And.intro ⟨by omega,h⟩ ?_)
  |(have mP:IntKind.i64.wrap (i4 - 1)=i4 - 1:=bi (by omega) (by omega);generalize IntKind.i64.wrap (i4 - 1)=j1 at mP⊢;refine And.intro ⟨by omega,by omega⟩ ?_)
  |(refine And.intro (by kernel_rfl) ?_)
  |(refine fc [8] rfl (cS hS (bH ((0:Nat):Int) (partsOf plies)) (hZ _)) rfl (j9 rfl (rfl:av _ (rZ (bH ((0:Nat):Int) (partsOf plies))))) ?_;rintro _ _ ⟨rfl,rfl⟩;obtain⟨zl,hz⟩: ∃zl,zl=cG (bH ((0:Nat):Int) (partsOf plies)):=⟨_,rfl⟩;rw[←hz];have gR:zl.length≤100000:=(by rw[hz,aP];exact hZ _);have eS:zl.length=(bH ((0:Nat):Int) (partsOf plies)).length:=(by rw[hz,aP]))
  |(refine fc [12] rfl (cS hS (bH ((1:Nat):Int) (partsOf plies)) (hZ _)) rfl (j9 rfl (rfl:av _ (rZ (bH ((1:Nat):Int) (partsOf plies))))) ?_;rintro _ _ ⟨rfl,rfl⟩;obtain⟨zl,hz⟩: ∃zl,zl=cG (bH ((1:Nat):Int) (partsOf plies)):=⟨_,rfl⟩;rw[←hz];have gR:zl.length≤100000:=(by rw[hz,aP];exact hZ _);have eS:zl.length=(bH ((1:Nat):Int) (partsOf plies)).length:=(by rw[hz,aP]))
  |(refine bM (xs:=rZ zl) (av.au (av.au (xs:=rZ zl) rfl _) _) (zj zl) (by rw[cQ];omega) ?_;first|(rintro _ ⟨a6,b6,rfl⟩ lU;have:=mO)|rintro _ ⟨a5,b5,rfl⟩ mO)
  |exact dh rfl (bJ 1 rfl) (bN rfl) ⟨_,by rw[cR (r:=0) (by omega) hz (cj hi4 mP lU mO (by omega))]⟩
  |exact dh rfl (bJ 1 rfl) (bN rfl) ⟨_,by rw[cR (r:=1) (by omega) hz (cj hi4 mP lU mO (by omega))]⟩
  |(have h7:((2:Nat):Int)≤k:=(by simp at h;omega);exact dh rfl (pM [(8,_,_),(12,_,_)] rfl rfl rfl rfl ⟨⟨_,rfl,rfl,(cQ _).symm⟩,⟨_,rfl,rfl,(cQ _).symm⟩,trivial⟩) (bN rfl) ⟨_,by rw[jX h7 hall]⟩)
  |(have hgd:=eS;clear hgd;apply aL [6,12,13,49,50,51] [(6,0),(6,1)] [13] (Tu zl) (zl.length) [iV .i64 1];(conv=>whnf);exact⟨rfl,rfl,rfl,rfl⟩;exact rfl;exact rfl;exact⟨1,by omega,by omega,by omega,rfl,rG.one zl⟩;rintro _ _ ⟨i4,hi4,Xm,rfl,rfl,o5⟩)
  |(have hgd:=h6;clear hgd;refine aj [6,12,13,49,50,51] [(6,0),(6,1)] ?_;(conv=>whnf);exact⟨rfl,_,[_],⟨i4+1,by omega,by omega,rfl,by rw[bi (by omega) (by omega)],o5.next hi4 mP lU mO (by omega)⟩,rfl,(by simp only[eW]<;>rfl),rfl,by omega⟩)
  |(have hgd:=hs;clear hgd;apply cz [6,18,19,20,25,26,27] [(6,0),(6,1)] [27] (Ss HU2 (partsOf (plies.take i)) ps) (ps.length) [iV .i64 0];(conv=>whnf);exact⟨rfl,rfl,rfl,rfl⟩;exact rfl;exact rfl;exact⟨0,by omega,rfl,rfl,⟨_,_,_,_,rfl,p0.nil _,p1.nil _⟩⟩;rintro _ _ _ ⟨j,hj,rfl,rfl,⟨k0,k1,y0,y1,rfl,p0,p1⟩⟩)
  |(have hgd:=bP;clear hgd;refine aj [6,18,19,20,25,26,27] [(6,0),(6,1)] ?_;(conv=>whnf);first|exact⟨rfl,_,[_],⟨j+1,by omega,rfl,by rw[bi (by omega) (by omega)];rfl,⟨_,_,_,_,rfl,p0.hit bP (by simp) _,p1.fB bP (by decide) _⟩⟩,rfl,rfl,by omega⟩|exact⟨rfl,_,[_],⟨j+1,by omega,rfl,by rw[bi (by omega) (by omega)];rfl,⟨_,_,_,_,rfl,p0.fB bP (by decide) _,p1.hit bP (by simp) _⟩⟩,rfl,rfl,by omega⟩)
  |(have hgd:=hi;clear hgd;apply cz [6,49,50,51] [(6,0),(6,1)] [51] (Sr HU2 2 (fun r=>bH (r:Int) (partsOf plies))) (2) [iV .i64 0];(conv=>whnf);exact⟨rfl,rfl,rfl,rfl⟩;exact rfl;exact rfl;exact⟨0,by omega,by omega,rfl,rfl,⟨_,_,_,_,rfl,p0.all (by omega) _,p1.all (by omega) _⟩,fun r hr=>by omega⟩;rintro _ _ _ ⟨k,Ie,gi,rfl,rfl,⟨_,_,_,_,rfl,⟨rfl,rfl⟩,⟨rfl,rfl⟩⟩,hall⟩)
  |(have hgd:=eS;clear hgd;refine aj [6,49,50,51] [(6,0),(6,1)] ?_;(conv=>whnf);first|exact⟨rfl,_,[_],⟨1,by omega,by omega,rfl,rfl,⟨_,_,_,_,rfl,gh.sort hz rfl (av.au (av.au (av.au (xs:=rZ zl) rfl _) _) _),⟨rfl,av.au (av.au (xs:=rZ _) rfl _) _⟩⟩,cv (c:=0) hall hz (o5.all (gv (z:=bH ((0:Nat):Int) (partsOf plies)) h eS))⟩,rfl,rfl,by omega⟩|exact⟨rfl,_,[_],⟨2,by omega,by omega,rfl,rfl,⟨_,_,_,_,rfl,⟨rfl,av.au (av.au (xs:=rZ _) rfl _) _⟩,gh.sort hz rfl (av.au (av.au (av.au (xs:=rZ zl) rfl _) _) _)⟩,cv (c:=1) hall hz (o5.all (gv (z:=bH ((1:Nat):Int) (partsOf plies)) h eS))⟩,rfl,rfl,by omega⟩)
  |(apply ji [6,18,19,20] [(6,0),(6,1)] [20] (Su HU2 plies) (plies.length) [iV .i64 0] (dL.trans (dL.gk 24 0 0 2 rfl rfl rfl) (dL.gk 24 1 0 2 rfl rfl rfl));(conv=>whnf);exact⟨rfl,rfl,rfl,rfl⟩;exact rfl;exact rfl;exact⟨0,by omega,rfl,rfl,⟨_,_,_,_,rfl,⟨rfl,rfl⟩,⟨rfl,rfl⟩⟩⟩;rintro _ _ _ ⟨i,hi,rfl,rfl,⟨k0,k1,y0,y1,rfl,p0,p1⟩⟩)
  |(have hgd:=hj;clear hgd;refine aj [6,18,19,20] [(6,0),(6,1)] ?_;(conv=>whnf);exact⟨rfl,_,[_],⟨i+1,by omega,rfl,by rw[bi (by omega) (by omega)];rfl,⟨_,_,_,_,rfl,p0.dc hs (by omega) _,p1.dc hs (by omega) _⟩⟩,rfl,rfl,by omega⟩))
 all_goals (conv=>whnf)
end Go.aR.Cd
end
section
namespace Go.aR.Cd
open Go Go.Proofs
set_option maxRecDepth 100000
set_option maxHeartbeats 4000000
def HU3 (F:Nat→List Zn) (hq:HS):Prop:= ∃ (k0 k1 k2:Nat) (y0 y1 y2:List (List C)),hq=[(4, .row 1 [[.own 8 2 0 k0],[.own 12 2 0 k1],[.own 16 2 0 k2]]),(8, .row 2 y0),(12, .row 2 y1),(16, .row 2 y2)]∧gh k0 y0 (F 0)∧gh k1 y1 (F 1)∧gh k2 y2 (F 2)
theorem Vm (hS:gD Tryz.prog 63 64) (e0 e1 e2:List T) (ln wd rx ry:Int) (sizes places plies:Lz) (hy: ∀e,e∈plies→ ∃l q,e=[tI l, .aA 4 q]∧DE q) (jT:plies.length≤1000000) (hB: ∀e,e∈plies→(nL 1 e).length≤1000) (hT: ∀i,(partsOf (plies.take i)).length≤100000) (dA: ∀e,e∈plies→ ∀q,q∈nL 1 e→0≤nI 0 q∧nI 0 q < 3):Tg 34 [fM ln wd rx ry sizes places plies,oL 7 [e0,e1,e2]] (OQ 3 (partsOf plies)):=by
 have hZ: ∀c:Int,(bH c (partsOf plies)).length≤100000:=fun c=>by have h1:=kw c (partsOf plies);have h2:=hT plies.length;rw[List.take_of_length_le (Nat.le_refl _)]at h2;omega
 refine aH ?_
 refine ae Tryz.func34 ?_
 repeat' (conv=>whnf
          first
  |(refine az (fun h=>?_) (fun h=>?_))
  |(refine And.intro ⟨by simp,by simp,by simp,by simp⟩ ?_)
  |(have wL:=uC.2;have mX:=uC.1;have wK:r1=0∨r1=1∨r1=2:=(by omega);clear mX wL;rcases wK with rfl|rfl|rfl)
  |(have mX:=Ie;have Bl:=h;simp at Bl;have wK:k=0∨k=1∨k=2:=(by omega);clear mX Bl;rcases wK with rfl|rfl|rfl)
  |(refine And.intro ⟨by simp,by simp⟩ ?_)
  |(refine ak (xs:=plies) hy (by omega) (by omega) ?_;rintro _ ⟨l,ps,rfl,hq⟩ hs;have Hu:=dA _ (List.mem_of_getElem? hs);have Ot:ps.length≤1000:=hB _ (List.mem_of_getElem? hs);have S4:=hT i)
  |(refine ak (xs:=ps) hq (by omega) (by omega) ?_;rintro _ ⟨r1,f1,t1,a1,rfl⟩ bP;have uC:=Hu _ (List.mem_of_getElem? bP);simp only[nI,List.getElem?_cons_zero]at uC)
  |(have hb0:=p0.lQ (B:=101000) (by omega);refine And.intro ⟨hb0.1.symm,by simp[aT];omega,by simp[maxLen];omega⟩ ?_)
  |(have pZ:=p1.lQ (B:=101000) (by omega);refine And.intro ⟨pZ.1.symm,by simp[aT];omega,by simp[maxLen];omega⟩ ?_)
  |(have lp:=p2.lQ (B:=101000) (by omega);refine And.intro ⟨lp.1.symm,by simp[aT];omega,by simp[maxLen];omega⟩ ?_)
  |(have h6:=gq (z:=bH ((0:Nat):Int) (partsOf plies)) h eS;refine And.intro ⟨by omega,h⟩ ?_)
  |(have h6:=gq (z:=bH ((1:Nat):Int) (partsOf plies)) h eS;refine And.intro ⟨by omega,h⟩ ?_)
  |(have h6:=gq (z:=bH ((2:Nat):Int) (partsOf plies)) h eS;refine And.intro ⟨by omega,h⟩ ?_)
  |(have mP:IntKind.i64.wrap (i4 - 1)=i4 - 1:=bi (by omega) (by omega);generalize IntKind.i64.wrap (i4 - 1)=j1 at mP⊢;refine And.intro ⟨by omega,by omega⟩ ?_)
  |(refine And.intro (by kernel_rfl) ?_)
  |(refine fc [8] rfl (cS hS (bH ((0:Nat):Int) (partsOf plies)) (hZ _)) rfl (j9 rfl (rfl:av _ (rZ (bH ((0:Nat):Int) (partsOf plies))))) ?_;rintro _ _ ⟨rfl,rfl⟩;obtain⟨zl,hz⟩: ∃zl,zl=cG (bH ((0:Nat):Int) (partsOf plies)):=⟨_,rfl⟩;rw[←hz];have gR:zl.length≤100000:=(by rw[hz,aP];exact hZ _);have eS:zl.length=(bH ((0:Nat):Int) (partsOf plies)).length:=(by rw[hz,aP]))
  |(refine fc [12] rfl (cS hS (bH ((1:Nat):Int) (partsOf plies)) (hZ _)) rfl (j9 rfl (rfl:av _ (rZ (bH ((1:Nat):Int) (partsOf plies))))) ?_;rintro _ _ ⟨rfl,rfl⟩;obtain⟨zl,hz⟩: ∃zl,zl=cG (bH ((1:Nat):Int) (partsOf plies)):=⟨_,rfl⟩;rw[←hz];have gR:zl.length≤100000:=(by rw[hz,aP];exact hZ _);have eS:zl.length=(bH ((1:Nat):Int) (partsOf plies)).length:=(by rw[hz,aP]))
  |(refine fc [16] rfl (cS hS (bH ((2:Nat):Int) (partsOf plies)) (hZ _)) rfl (j9 rfl (rfl:av _ (rZ (bH ((2:Nat):Int) (partsOf plies))))) ?_;rintro _ _ ⟨rfl,rfl⟩;obtain⟨zl,hz⟩: ∃zl,zl=cG (bH ((2:Nat):Int) (partsOf plies)):=⟨_,rfl⟩;rw[←hz];have gR:zl.length≤100000:=(by rw[hz,aP];exact hZ _);have eS:zl.length=(bH ((2:Nat):Int) (partsOf plies)).length:=(by rw[hz,aP]))
  |(refine bM (xs:=rZ zl) (av.au (av.au (xs:=rZ zl) rfl _) _) (zj zl) (by rw[cQ];omega) ?_;first|(rintro _ ⟨a6,b6,rfl⟩ lU;have:=mO)|rintro _ ⟨a5,b5,rfl⟩ mO)
  |exact dh rfl (bJ 1 rfl) (bN rfl) ⟨_,by rw[cR (r:=0) (by omega) hz (cj hi4 mP lU mO (by omega))]⟩
  |exact dh rfl (bJ 1 rfl) (bN rfl) ⟨_,by rw[cR (r:=1) (by omega) hz (cj hi4 mP lU mO (by omega))]⟩
  |exact dh rfl (bJ 1 rfl) (bN rfl) ⟨_,by rw[cR (r:=2) (by omega) hz (cj hi4 mP lU mO (by omega))]⟩
  |(have h7:((3:Nat):Int)≤k:=(by simp at h;omega);exact dh rfl (pM [(8,_,_),(12,_,_),(16,_,_)] rfl rfl rfl rfl ⟨⟨_,rfl,rfl,(cQ _).symm⟩,⟨_,rfl,rfl,(cQ _).symm⟩,⟨_,rfl,rfl,(cQ _).symm⟩,trivial⟩) (bN rfl) ⟨_,by rw[jX h7 hall]⟩)
  |(have hgd:=eS;clear hgd;apply aL [6,12,13,49,50,51] [(6,0),(6,1),(6,2)] [13] (Tu zl) (zl.length) [iV .i64 1];(conv=>whnf);exact⟨rfl,rfl,rfl,rfl⟩;exact rfl;exact rfl;exact⟨1,by omega,by omega,by omega,rfl,rG.one zl⟩;rintro _ _ ⟨i4,hi4,Xm,rfl,rfl,o5⟩)
  |(have hgd:=h6;clear hgd;refine aj [6,12,13,49,50,51] [(6,0),(6,1),(6,2)] ?_;(conv=>whnf);exact⟨rfl,_,[_],⟨i4+1,by omega,by omega,rfl,by rw[bi (by omega) (by omega)],o5.next hi4 mP lU mO (by omega)⟩,rfl,(by simp only[eW]<;>rfl),rfl,by omega⟩)
  |(have hgd:=hs;clear hgd;apply cz [6,18,19,20,25,26,27] [(6,0),(6,1),(6,2)] [27] (Ss HU3 (partsOf (plies.take i)) ps) (ps.length) [iV .i64 0];(conv=>whnf);exact⟨rfl,rfl,rfl,rfl⟩;exact rfl;exact rfl;exact⟨0,by omega,rfl,rfl,⟨_,_,_,_,_,_,rfl,p0.nil _,p1.nil _,p2.nil _⟩⟩;rintro _ _ _ ⟨j,hj,rfl,rfl,⟨k0,k1,k2,y0,y1,y2,rfl,p0,p1,p2⟩⟩)
  |(have hgd:=bP;clear hgd;refine aj [6,18,19,20,25,26,27] [(6,0),(6,1),(6,2)] ?_;(conv=>whnf);first|exact⟨rfl,_,[_],⟨j+1,by omega,rfl,by rw[bi (by omega) (by omega)];rfl,⟨_,_,_,_,_,_,rfl,p0.hit bP (by simp) _,p1.fB bP (by decide) _,p2.fB bP (by decide) _⟩⟩,rfl,rfl,by omega⟩|exact⟨rfl,_,[_],⟨j+1,by omega,rfl,by rw[bi (by omega) (by omega)];rfl,⟨_,_,_,_,_,_,rfl,p0.fB bP (by decide) _,p1.hit bP (by simp) _,p2.fB bP (by decide) _⟩⟩,rfl,rfl,by omega⟩|exact⟨rfl,_,[_],⟨j+1,by omega,rfl,by rw[bi (by omega) (by omega)];rfl,⟨_,_,_,_,_,_,rfl,p0.fB bP (by decide) _,p1.fB bP (by decide) _,p2.hit bP (by simp) _⟩⟩,rfl,rfl,by omega⟩)
  |(have hgd:=hi;clear hgd;apply cz [6,49,50,51] [(6,0),(6,1),(6,2)] [51] (Sr HU3 3 (fun r=>bH (r:Int) (partsOf plies))) (3) [iV .i64 0];(conv=>whnf);exact⟨rfl,rfl,rfl,rfl⟩;exact rfl;exact rfl;exact⟨0,by omega,by omega,rfl,rfl,⟨_,_,_,_,_,_,rfl,p0.all (by omega) _,p1.all (by omega) _,p2.all (by omega) _⟩,fun r hr=>by omega⟩;rintro _ _ _ ⟨k,Ie,gi,rfl,rfl,⟨_,_,_,_,_,_,rfl,⟨rfl,rfl⟩,⟨rfl,rfl⟩,⟨rfl,rfl⟩⟩,hall⟩)
  |(have hgd:=eS;clear hgd;refine aj [6,49,50,51] [(6,0),(6,1),(6,2)] ?_;(conv=>whnf);first|exact⟨rfl,_,[_],⟨1,by omega,by omega,rfl,rfl,⟨_,_,_,_,_,_,rfl,gh.sort hz rfl (av.au (av.au (av.au (xs:=rZ zl) rfl _) _) _),⟨rfl,av.au (av.au (xs:=rZ _) rfl _) _⟩,⟨rfl,av.au (av.au (xs:=rZ _) rfl _) _⟩⟩,cv (c:=0) hall hz (o5.all (gv (z:=bH ((0:Nat):Int) (partsOf plies)) h eS))⟩,rfl,rfl,by omega⟩|exact⟨rfl,_,[_],⟨2,by omega,by omega,rfl,rfl,⟨_,_,_,_,_,_,rfl,⟨rfl,av.au (av.au (xs:=rZ _) rfl _) _⟩,gh.sort hz rfl (av.au (av.au (av.au (xs:=rZ zl) rfl _) _) _),⟨rfl,av.au (av.au (xs:=rZ _) rfl _) _⟩⟩,cv (c:=1) hall hz (o5.all (gv (z:=bH ((1:Nat):Int) (partsOf plies)) h eS))⟩,rfl,rfl,by omega⟩|exact⟨rfl,_,[_],⟨3,by omega,by omega,rfl,rfl,⟨_,_,_,_,_,_,rfl,⟨rfl,av.au (av.au (xs:=rZ _) rfl _) _⟩,⟨rfl,av.au (av.au (xs:=rZ _) rfl _) _⟩,gh.sort hz rfl (av.au (av.au (av.au (xs:=rZ zl) rfl _) _) _)⟩,cv (c:=2) hall hz (o5.all (gv (z:=bH ((2:Nat):Int) (partsOf plies)) h eS))⟩,rfl,rfl,by omega⟩)
  |(apply ji [6,18,19,20] [(6,0),(6,1),(6,2)] [20] (Su HU3 plies) (plies.length) [iV .i64 0] (dL.trans (dL.gk 24 0 0 2 rfl rfl rfl) (dL.trans (dL.gk 24 1 0 2 rfl rfl rfl) (dL.gk 24 2 0 2 rfl rfl rfl)));(conv=>whnf);exact⟨rfl,rfl,rfl,rfl⟩;exact rfl;exact rfl;exact⟨0,by omega,rfl,rfl,⟨_,_,_,_,_,_,rfl,⟨rfl,rfl⟩,⟨rfl,rfl⟩,⟨rfl,rfl⟩⟩⟩;rintro _ _ _ ⟨i,hi,rfl,rfl,⟨k0,k1,k2,y0,y1,y2,rfl,p0,p1,p2⟩⟩)
  |(have hgd:=hj;clear hgd;refine aj [6,18,19,20] [(6,0),(6,1),(6,2)] ?_;(conv=>whnf);exact⟨rfl,_,[_],⟨i+1,by omega,rfl,by rw[bi (by omega) (by omega)];rfl,⟨_,_,_,_,_,_,rfl,p0.dc hs (by omega) _,p1.dc hs (by omega) _,p2.dc hs (by omega) _⟩⟩,rfl,rfl,by omega⟩))
 all_goals (conv=>whnf)
end Go.aR.Cd
end
section
namespace Go.aR.Cd
open Go Go.Proofs
set_option maxRecDepth 100000
set_option maxHeartbeats 4000000
def HU4 (F:Nat→List Zn) (hq:HS):Prop:= ∃ (k0 k1 k2 k3:Nat) (y0 y1 y2 y3:List (List C)),hq=[(4, .row 1 [[.own 8 2 0 k0],[.own 12 2 0 k1],[.own 16 2 0 k2],[.own 20 2 0 k3]]),(8, .row 2 y0),(12, .row 2 y1),(16, .row 2 y2),(20, .row 2 y3)]∧gh k0 y0 (F 0)∧gh k1 y1 (F 1)∧gh k2 y2 (F 2)∧gh k3 y3 (F 3)
theorem Vl (hS:gD Tryz.prog 63 64) (e0 e1 e2 e3:List T) (ln wd rx ry:Int) (sizes places plies:Lz) (hy: ∀e,e∈plies→ ∃l q,e=[tI l, .aA 4 q]∧DE q) (jT:plies.length≤1000000) (hB: ∀e,e∈plies→(nL 1 e).length≤1000) (hT: ∀i,(partsOf (plies.take i)).length≤100000) (dA: ∀e,e∈plies→ ∀q,q∈nL 1 e→0≤nI 0 q∧nI 0 q < 4):Tg 34 [fM ln wd rx ry sizes places plies,oL 7 [e0,e1,e2,e3]] (OQ 4 (partsOf plies)):=by
 have hZ: ∀c:Int,(bH c (partsOf plies)).length≤100000:=fun c=>by have h1:=kw c (partsOf plies);have h2:=hT plies.length;rw[List.take_of_length_le (Nat.le_refl _)]at h2;omega
 refine aH ?_
 refine ae Tryz.func34 ?_
 repeat' (conv=>whnf
          first
  |(refine az (fun h=>?_) (fun h=>?_))
  |(refine And.intro ⟨by simp,by simp,by simp,by simp⟩ ?_)
  |(have wL:=uC.2;have mX:=uC.1;have wK:r1=0∨r1=1∨r1=2∨r1=3:=(by omega);clear mX wL;rcases wK with rfl|rfl|rfl|rfl)
  |(have mX:=Ie;have Bl:=h;simp at Bl;have wK:k=0∨k=1∨k=2∨k=3:=(by omega);clear mX Bl;rcases wK with rfl|rfl|rfl|rfl)
  |(refine And.intro ⟨by simp,by simp⟩ ?_)
  |(refine ak (xs:=plies) hy (by omega) (by omega) ?_;rintro _ ⟨l,ps,rfl,hq⟩ hs;have Hu:=dA _ (List.mem_of_getElem? hs);have Ot:ps.length≤1000:=hB _ (List.mem_of_getElem? hs);have S4:=hT i)
  |(refine ak (xs:=ps) hq (by omega) (by omega) ?_;rintro _ ⟨r1,f1,t1,a1,rfl⟩ bP;have uC:=Hu _ (List.mem_of_getElem? bP);simp only[nI,List.getElem?_cons_zero]at uC)
  |(have hb0:=p0.lQ (B:=101000) (by omega);refine And.intro ⟨hb0.1.symm,by simp[aT];omega,by simp[maxLen];omega⟩ ?_)
  |(have pZ:=p1.lQ (B:=101000) (by omega);refine And.intro ⟨pZ.1.symm,by simp[aT];omega,by simp[maxLen];omega⟩ ?_)
  |(have lp:=p2.lQ (B:=101000) (by omega);refine And.intro ⟨lp.1.symm,by simp[aT];omega,by simp[maxLen];omega⟩ ?_)
  |(have Ou:=p3.lQ (B:=101000) (by omega);refine And.intro ⟨Ou.1.symm,by simp[aT];omega,by simp[maxLen];omega⟩ ?_)
  |(have h6:=gq (z:=bH ((0:Nat):Int) (partsOf plies)) h eS;refine And.intro ⟨by omega,h⟩ ?_)
  |(have h6:=gq (z:=bH ((1:Nat):Int) (partsOf plies)) h eS;refine And.intro ⟨by omega,h⟩ ?_)
  |(have h6:=gq (z:=bH ((2:Nat):Int) (partsOf plies)) h eS;refine And.intro ⟨by omega,h⟩ ?_)
  |(have h6:=gq (z:=bH ((3:Nat):Int) (partsOf plies)) h eS;refine And.intro ⟨by omega,h⟩ ?_)
  |(have mP:IntKind.i64.wrap (i4 - 1)=i4 - 1:=bi (by omega) (by omega);generalize IntKind.i64.wrap (i4 - 1)=j1 at mP⊢;refine And.intro ⟨by omega,by omega⟩ ?_)
  |(refine And.intro (by kernel_rfl) ?_)
  |(refine fc [8] rfl (cS hS (bH ((0:Nat):Int) (partsOf plies)) (hZ _)) rfl (j9 rfl (rfl:av _ (rZ (bH ((0:Nat):Int) (partsOf plies))))) ?_;rintro _ _ ⟨rfl,rfl⟩;obtain⟨zl,hz⟩: ∃zl,zl=cG (bH ((0:Nat):Int) (partsOf plies)):=⟨_,rfl⟩;rw[←hz];have gR:zl.length≤100000:=(by rw[hz,aP];exact hZ _);have eS:zl.length=(bH ((0:Nat):Int) (partsOf plies)).length:=(by rw[hz,aP]))
  |(refine fc [12] rfl (cS hS (bH ((1:Nat):Int) (partsOf plies)) (hZ _)) rfl (j9 rfl (rfl:av _ (rZ (bH ((1:Nat):Int) (partsOf plies))))) ?_;rintro _ _ ⟨rfl,rfl⟩;obtain⟨zl,hz⟩: ∃zl,zl=cG (bH ((1:Nat):Int) (partsOf plies)):=⟨_,rfl⟩;rw[←hz];have gR:zl.length≤100000:=(by rw[hz,aP];exact hZ _);have eS:zl.length=(bH ((1:Nat):Int) (partsOf plies)).length:=(by rw[hz,aP]))
  |(refine fc [16] rfl (cS hS (bH ((2:Nat):Int) (partsOf plies)) (hZ _)) rfl (j9 rfl (rfl:av _ (rZ (bH ((2:Nat):Int) (partsOf plies))))) ?_;rintro _ _ ⟨rfl,rfl⟩;obtain⟨zl,hz⟩: ∃zl,zl=cG (bH ((2:Nat):Int) (partsOf plies)):=⟨_,rfl⟩;rw[←hz];have gR:zl.length≤100000:=(by rw[hz,aP];exact hZ _);have eS:zl.length=(bH ((2:Nat):Int) (partsOf plies)).length:=(by rw[hz,aP]))
  |(refine fc [20] rfl (cS hS (bH ((3:Nat):Int) (partsOf plies)) (hZ _)) rfl (j9 rfl (rfl:av _ (rZ (bH ((3:Nat):Int) (partsOf plies))))) ?_;rintro _ _ ⟨rfl,rfl⟩;obtain⟨zl,hz⟩: ∃zl,zl=cG (bH ((3:Nat):Int) (partsOf plies)):=⟨_,rfl⟩;rw[←hz];have gR:zl.length≤100000:=(by rw[hz,aP];exact hZ _);have eS:zl.length=(bH ((3:Nat):Int) (partsOf plies)).length:=(by rw[hz,aP]))
  |(refine bM (xs:=rZ zl) (av.au (av.au (xs:=rZ zl) rfl _) _) (zj zl) (by rw[cQ];omega) ?_;first|(rintro _ ⟨a6,b6,rfl⟩ lU;have:=mO)|rintro _ ⟨a5,b5,rfl⟩ mO)
  |exact dh rfl (bJ 1 rfl) (bN rfl) ⟨_,by rw[cR (r:=0) (by omega) hz (cj hi4 mP lU mO (by omega))]⟩
  |exact dh rfl (bJ 1 rfl) (bN rfl) ⟨_,by rw[cR (r:=1) (by omega) hz (cj hi4 mP lU mO (by omega))]⟩
  |exact dh rfl (bJ 1 rfl) (bN rfl) ⟨_,by rw[cR (r:=2) (by omega) hz (cj hi4 mP lU mO (by omega))]⟩
  |exact dh rfl (bJ 1 rfl) (bN rfl) ⟨_,by rw[cR (r:=3) (by omega) hz (cj hi4 mP lU mO (by omega))]⟩
  |(have h7:((4:Nat):Int)≤k:=(by simp at h;omega);exact dh rfl (pM [(8,_,_),(12,_,_),(16,_,_),(20,_,_)] rfl rfl rfl rfl ⟨⟨_,rfl,rfl,(cQ _).symm⟩,⟨_,rfl,rfl,(cQ _).symm⟩,⟨_,rfl,rfl,(cQ _).symm⟩,⟨_,rfl,rfl,(cQ _).symm⟩,trivial⟩) (bN rfl) ⟨_,by rw[jX h7 hall]⟩)
  |(have hgd:=eS;clear hgd;apply aL [6,12,13,49,50,51] [(6,0),(6,1),(6,2),(6,3)] [13] (Tu zl) (zl.length) [iV .i64 1];(conv=>whnf);exact⟨rfl,rfl,rfl,rfl⟩;exact rfl;exact rfl;exact⟨1,by omega,by omega,by omega,rfl,rG.one zl⟩;rintro _ _ ⟨i4,hi4,Xm,rfl,rfl,o5⟩)
  |(have hgd:=h6;clear hgd;refine aj [6,12,13,49,50,51] [(6,0),(6,1),(6,2),(6,3)] ?_;(conv=>whnf);exact⟨rfl,_,[_],⟨i4+1,by omega,by omega,rfl,by rw[bi (by omega) (by omega)],o5.next hi4 mP lU mO (by omega)⟩,rfl,(by simp only[eW]<;>rfl),rfl,by omega⟩)
  |(have hgd:=hs;clear hgd;apply cz [6,18,19,20,25,26,27] [(6,0),(6,1),(6,2),(6,3)] [27] (Ss HU4 (partsOf (plies.take i)) ps) (ps.length) [iV .i64 0];(conv=>whnf);exact⟨rfl,rfl,rfl,rfl⟩;exact rfl;exact rfl;exact⟨0,by omega,rfl,rfl,⟨_,_,_,_,_,_,_,_,rfl,p0.nil _,p1.nil _,p2.nil _,p3.nil _⟩⟩;rintro _ _ _ ⟨j,hj,rfl,rfl,⟨k0,k1,k2,k3,y0,y1,y2,y3,rfl,p0,p1,p2,p3⟩⟩)
  |(have hgd:=bP;clear hgd;refine aj [6,18,19,20,25,26,27] [(6,0),(6,1),(6,2),(6,3)] ?_;(conv=>whnf);first|exact⟨rfl,_,[_],⟨j+1,by omega,rfl,by rw[bi (by omega) (by omega)];rfl,⟨_,_,_,_,_,_,_,_,rfl,p0.hit bP (by simp) _,p1.fB bP (by decide) _,p2.fB bP (by decide) _,p3.fB bP (by decide) _⟩⟩,rfl,rfl,by omega⟩|exact⟨rfl,_,[_],⟨j+1,by omega,rfl,by rw[bi (by omega) (by omega)];rfl,⟨_,_,_,_,_,_,_,_,rfl,p0.fB bP (by decide) _,p1.hit bP (by simp) _,p2.fB bP (by decide) _,p3.fB bP (by decide) _⟩⟩,rfl,rfl,by omega⟩|exact⟨rfl,_,[_],⟨j+1,by omega,rfl,by rw[bi (by omega) (by omega)];rfl,⟨_,_,_,_,_,_,_,_,rfl,p0.fB bP (by decide) _,p1.fB bP (by decide) _,p2.hit bP (by simp) _,p3.fB bP (by decide) _⟩⟩,rfl,rfl,by omega⟩|exact⟨rfl,_,[_],⟨j+1,by omega,rfl,by rw[bi (by omega) (by omega)];rfl,⟨_,_,_,_,_,_,_,_,rfl,p0.fB bP (by decide) _,p1.fB bP (by decide) _,p2.fB bP (by decide) _,p3.hit bP (by simp) _⟩⟩,rfl,rfl,by omega⟩)
  |(have hgd:=hi;clear hgd;apply cz [6,49,50,51] [(6,0),(6,1),(6,2),(6,3)] [51] (Sr HU4 4 (fun r=>bH (r:Int) (partsOf plies))) (4) [iV .i64 0];(conv=>whnf);exact⟨rfl,rfl,rfl,rfl⟩;exact rfl;exact rfl;exact⟨0,by omega,by omega,rfl,rfl,⟨_,_,_,_,_,_,_,_,rfl,p0.all (by omega) _,p1.all (by omega) _,p2.all (by omega) _,p3.all (by omega) _⟩,fun r hr=>by omega⟩;rintro _ _ _ ⟨k,Ie,gi,rfl,rfl,⟨_,_,_,_,_,_,_,_,rfl,⟨rfl,rfl⟩,⟨rfl,rfl⟩,⟨rfl,rfl⟩,⟨rfl,rfl⟩⟩,hall⟩)
  |(have hgd:=eS;clear hgd;refine aj [6,49,50,51] [(6,0),(6,1),(6,2),(6,3)] ?_;(conv=>whnf);first|exact⟨rfl,_,[_],⟨1,by omega,by omega,rfl,rfl,⟨_,_,_,_,_,_,_,_,rfl,gh.sort hz rfl (av.au (av.au (av.au (xs:=rZ zl) rfl _) _) _),⟨rfl,av.au (av.au (xs:=rZ _) rfl _) _⟩,⟨rfl,av.au (av.au (xs:=rZ _) rfl _) _⟩,⟨rfl,av.au (av.au (xs:=rZ _) rfl _) _⟩⟩,cv (c:=0) hall hz (o5.all (gv (z:=bH ((0:Nat):Int) (partsOf plies)) h eS))⟩,rfl,rfl,by omega⟩|exact⟨rfl,_,[_],⟨2,by omega,by omega,rfl,rfl,⟨_,_,_,_,_,_,_,_,rfl,⟨rfl,av.au (av.au (xs:=rZ _) rfl _) _⟩,gh.sort hz rfl (av.au (av.au (av.au (xs:=rZ zl) rfl _) _) _),⟨rfl,av.au (av.au (xs:=rZ _) rfl _) _⟩,⟨rfl,av.au (av.au (xs:=rZ _) rfl _) _⟩⟩,cv (c:=1) hall hz (o5.all (gv (z:=bH ((1:Nat):Int) (partsOf plies)) h eS))⟩,rfl,rfl,by omega⟩|exact⟨rfl,_,[_],⟨3,by omega,by omega,rfl,rfl,⟨_,_,_,_,_,_,_,_,rfl,⟨rfl,av.au (av.au (xs:=rZ _) rfl _) _⟩,⟨rfl,av.au (av.au (xs:=rZ _) rfl _) _⟩,gh.sort hz rfl (av.au (av.au (av.au (xs:=rZ zl) rfl _) _) _),⟨rfl,av.au (av.au (xs:=rZ _) rfl _) _⟩⟩,cv (c:=2) hall hz (o5.all (gv (z:=bH ((2:Nat):Int) (partsOf plies)) h eS))⟩,rfl,rfl,by omega⟩|exact⟨rfl,_,[_],⟨4,by omega,by omega,rfl,rfl,⟨_,_,_,_,_,_,_,_,rfl,⟨rfl,av.au (av.au (xs:=rZ _) rfl _) _⟩,⟨rfl,av.au (av.au (xs:=rZ _) rfl _) _⟩,⟨rfl,av.au (av.au (xs:=rZ _) rfl _) _⟩,gh.sort hz rfl (av.au (av.au (av.au (xs:=rZ zl) rfl _) _) _)⟩,cv (c:=3) hall hz (o5.all (gv (z:=bH ((3:Nat):Int) (partsOf plies)) h eS))⟩,rfl,rfl,by omega⟩)
  |(apply ji [6,18,19,20] [(6,0),(6,1),(6,2),(6,3)] [20] (Su HU4 plies) (plies.length) [iV .i64 0] (dL.trans (dL.gk 24 0 0 2 rfl rfl rfl) (dL.trans (dL.gk 24 1 0 2 rfl rfl rfl) (dL.trans (dL.gk 24 2 0 2 rfl rfl rfl) (dL.gk 24 3 0 2 rfl rfl rfl))));(conv=>whnf);exact⟨rfl,rfl,rfl,rfl⟩;exact rfl;exact rfl;exact⟨0,by omega,rfl,rfl,⟨_,_,_,_,_,_,_,_,rfl,⟨rfl,rfl⟩,⟨rfl,rfl⟩,⟨rfl,rfl⟩,⟨rfl,rfl⟩⟩⟩;rintro _ _ _ ⟨i,hi,rfl,rfl,⟨k0,k1,k2,k3,y0,y1,y2,y3,rfl,p0,p1,p2,p3⟩⟩)
  |(have hgd:=hj;clear hgd;refine aj [6,18,19,20] [(6,0),(6,1),(6,2),(6,3)] ?_;(conv=>whnf);exact⟨rfl,_,[_],⟨i+1,by omega,rfl,by rw[bi (by omega) (by omega)];rfl,⟨_,_,_,_,_,_,_,_,rfl,p0.dc hs (by omega) _,p1.dc hs (by omega) _,p2.dc hs (by omega) _,p3.dc hs (by omega) _⟩⟩,rfl,rfl,by omega⟩))
 all_goals (conv=>whnf)
end Go.aR.Cd
end
section
namespace Go.aR.Cd
open Go Go.Proofs
set_option maxRecDepth 100000
set_option maxHeartbeats 4000000
def HU5 (F:Nat→List Zn) (hq:HS):Prop:= ∃ (k0 k1 k2 k3 k4:Nat) (y0 y1 y2 y3 y4:List (List C)),hq=[(4, .row 1 [[.own 8 2 0 k0],[.own 12 2 0 k1],[.own 16 2 0 k2],[.own 20 2 0 k3],[.own 24 2 0 k4]]),(8, .row 2 y0),(12, .row 2 y1),(16, .row 2 y2),(20, .row 2 y3),(24, .row 2 y4)]∧gh k0 y0 (F 0)∧gh k1 y1 (F 1)∧gh k2 y2 (F 2)∧gh k3 y3 (F 3)∧gh k4 y4 (F 4)
theorem Vd (hS:gD Tryz.prog 63 64) (e0 e1 e2 e3 e4:List T) (ln wd rx ry:Int) (sizes places plies:Lz) (hy: ∀e,e∈plies→ ∃l q,e=[tI l, .aA 4 q]∧DE q) (jT:plies.length≤1000000) (hB: ∀e,e∈plies→(nL 1 e).length≤1000) (hT: ∀i,(partsOf (plies.take i)).length≤100000) (dA: ∀e,e∈plies→ ∀q,q∈nL 1 e→0≤nI 0 q∧nI 0 q < 5):Tg 34 [fM ln wd rx ry sizes places plies,oL 7 [e0,e1,e2,e3,e4]] (OQ 5 (partsOf plies)):=by
 have hZ: ∀c:Int,(bH c (partsOf plies)).length≤100000:=fun c=>by have h1:=kw c (partsOf plies);have h2:=hT plies.length;rw[List.take_of_length_le (Nat.le_refl _)]at h2;omega
 refine aH ?_
 refine ae Tryz.func34 ?_
 repeat' (conv=>whnf
          first
  |(refine az (fun h=>?_) (fun h=>?_))
  |(refine And.intro ⟨by simp,by simp,by simp,by simp⟩ ?_)
  |(have wL:=uC.2;have mX:=uC.1;have wK:r1=0∨r1=1∨r1=2∨r1=3∨r1=4:=(by omega);clear mX wL;rcases wK with rfl|rfl|rfl|rfl|rfl)
  |(have mX:=Ie;have Bl:=h;simp at Bl;have wK:k=0∨k=1∨k=2∨k=3∨k=4:=(by omega);clear mX Bl;rcases wK with rfl|rfl|rfl|rfl|rfl)
  |(refine And.intro ⟨by simp,by simp⟩ ?_)
  |(refine ak (xs:=plies) hy (by omega) (by omega) ?_;rintro _ ⟨l,ps,rfl,hq⟩ hs;have Hu:=dA _ (List.mem_of_getElem? hs);have Ot:ps.length≤1000:=hB _ (List.mem_of_getElem? hs);have S4:=hT i)
  |(refine ak (xs:=ps) hq (by omega) (by omega) ?_;rintro _ ⟨r1,f1,t1,a1,rfl⟩ bP;have uC:=Hu _ (List.mem_of_getElem? bP);simp only[nI,List.getElem?_cons_zero]at uC)
  |(have hb0:=p0.lQ (B:=101000) (by omega);refine And.intro ⟨hb0.1.symm,by simp[aT];omega,by simp[maxLen];omega⟩ ?_)
  |(have pZ:=p1.lQ (B:=101000) (by omega);refine And.intro ⟨pZ.1.symm,by simp[aT];omega,by simp[maxLen];omega⟩ ?_)
  |(have lp:=p2.lQ (B:=101000) (by omega);refine And.intro ⟨lp.1.symm,by simp[aT];omega,by simp[maxLen];omega⟩ ?_)
  |(have Ou:=p3.lQ (B:=101000) (by omega);refine And.intro ⟨Ou.1.symm,by simp[aT];omega,by simp[maxLen];omega⟩ ?_)
  |(have hb4:=p4.lQ (B:=101000) (by omega);refine And.intro ⟨hb4.1.symm,by simp[aT];omega,by simp[maxLen];omega⟩ ?_)
  |(have h6:=gq (z:=bH ((0:Nat):Int) (partsOf plies)) h eS;refine And.intro ⟨by omega,h⟩ ?_)
  |(have h6:=gq (z:=bH ((1:Nat):Int) (partsOf plies)) h eS;refine And.intro ⟨by omega,h⟩ ?_)
  |(have h6:=gq (z:=bH ((2:Nat):Int) (partsOf plies)) h eS;refine And.intro ⟨by omega,h⟩ ?_)
  |(have h6:=gq (z:=bH ((3:Nat):Int) (partsOf plies)) h eS;refine And.intro ⟨by omega,h⟩ ?_)
  |(have h6:=gq (z:=bH ((4:Nat):Int) (partsOf plies)) h eS;refine And.intro ⟨by omega,h⟩ ?_)
  |(have mP:IntKind.i64.wrap (i4 - 1)=i4 - 1:=bi (by omega) (by omega);generalize IntKind.i64.wrap (i4 - 1)=j1 at mP⊢;refine And.intro ⟨by omega,by omega⟩ ?_)
  |(refine And.intro (by kernel_rfl) ?_)
  |(refine fc [8] rfl (cS hS (bH ((0:Nat):Int) (partsOf plies)) (hZ _)) rfl (j9 rfl (rfl:av _ (rZ (bH ((0:Nat):Int) (partsOf plies))))) ?_;rintro _ _ ⟨rfl,rfl⟩;obtain⟨zl,hz⟩: ∃zl,zl=cG (bH ((0:Nat):Int) (partsOf plies)):=⟨_,rfl⟩;rw[←hz];have gR:zl.length≤100000:=(by rw[hz,aP];exact hZ _);have eS:zl.length=(bH ((0:Nat):Int) (partsOf plies)).length:=(by rw[hz,aP]))
  |(refine fc [12] rfl (cS hS (bH ((1:Nat):Int) (partsOf plies)) (hZ _)) rfl (j9 rfl (rfl:av _ (rZ (bH ((1:Nat):Int) (partsOf plies))))) ?_;rintro _ _ ⟨rfl,rfl⟩;obtain⟨zl,hz⟩: ∃zl,zl=cG (bH ((1:Nat):Int) (partsOf plies)):=⟨_,rfl⟩;rw[←hz];have gR:zl.length≤100000:=(by rw[hz,aP];exact hZ _);have eS:zl.length=(bH ((1:Nat):Int) (partsOf plies)).length:=(by rw[hz,aP]))
  |(refine fc [16] rfl (cS hS (bH ((2:Nat):Int) (partsOf plies)) (hZ _)) rfl (j9 rfl (rfl:av _ (rZ (bH ((2:Nat):Int) (partsOf plies))))) ?_;rintro _ _ ⟨rfl,rfl⟩;obtain⟨zl,hz⟩: ∃zl,zl=cG (bH ((2:Nat):Int) (partsOf plies)):=⟨_,rfl⟩;rw[←hz];have gR:zl.length≤100000:=(by rw[hz,aP];exact hZ _);have eS:zl.length=(bH ((2:Nat):Int) (partsOf plies)).length:=(by rw[hz,aP]))
  |(refine fc [20] rfl (cS hS (bH ((3:Nat):Int) (partsOf plies)) (hZ _)) rfl (j9 rfl (rfl:av _ (rZ (bH ((3:Nat):Int) (partsOf plies))))) ?_;rintro _ _ ⟨rfl,rfl⟩;obtain⟨zl,hz⟩: ∃zl,zl=cG (bH ((3:Nat):Int) (partsOf plies)):=⟨_,rfl⟩;rw[←hz];have gR:zl.length≤100000:=(by rw[hz,aP];exact hZ _);have eS:zl.length=(bH ((3:Nat):Int) (partsOf plies)).length:=(by rw[hz,aP]))
  |(refine fc [24] rfl (cS hS (bH ((4:Nat):Int) (partsOf plies)) (hZ _)) rfl (j9 rfl (rfl:av _ (rZ (bH ((4:Nat):Int) (partsOf plies))))) ?_;rintro _ _ ⟨rfl,rfl⟩;obtain⟨zl,hz⟩: ∃zl,zl=cG (bH ((4:Nat):Int) (partsOf plies)):=⟨_,rfl⟩;rw[←hz];have gR:zl.length≤100000:=(by rw[hz,aP];exact hZ _);have eS:zl.length=(bH ((4:Nat):Int) (partsOf plies)).length:=(by rw[hz,aP]))
  |(refine bM (xs:=rZ zl) (av.au (av.au (xs:=rZ zl) rfl _) _) (zj zl) (by rw[cQ];omega) ?_;first|(rintro _ ⟨a6,b6,rfl⟩ lU;have:=mO)|rintro _ ⟨a5,b5,rfl⟩ mO)
  |exact dh rfl (bJ 1 rfl) (bN rfl) ⟨_,by rw[cR (r:=0) (by omega) hz (cj hi4 mP lU mO (by omega))]⟩
  |exact dh rfl (bJ 1 rfl) (bN rfl) ⟨_,by rw[cR (r:=1) (by omega) hz (cj hi4 mP lU mO (by omega))]⟩
  |exact dh rfl (bJ 1 rfl) (bN rfl) ⟨_,by rw[cR (r:=2) (by omega) hz (cj hi4 mP lU mO (by omega))]⟩
  |exact dh rfl (bJ 1 rfl) (bN rfl) ⟨_,by rw[cR (r:=3) (by omega) hz (cj hi4 mP lU mO (by omega))]⟩
  |exact dh rfl (bJ 1 rfl) (bN rfl) ⟨_,by rw[cR (r:=4) (by omega) hz (cj hi4 mP lU mO (by omega))]⟩
  |(have h7:((5:Nat):Int)≤k:=(by simp at h;omega);exact dh rfl (pM [(8,_,_),(12,_,_),(16,_,_),(20,_,_),(24,_,_)] rfl rfl rfl rfl ⟨⟨_,rfl,rfl,(cQ _).symm⟩,⟨_,rfl,rfl,(cQ _).symm⟩,⟨_,rfl,rfl,(cQ _).symm⟩,⟨_,rfl,rfl,(cQ _).symm⟩,⟨_,rfl,rfl,(cQ _).symm⟩,trivial⟩) (bN rfl) ⟨_,by rw[jX h7 hall]⟩)
  |(have hgd:=eS;clear hgd;apply aL [6,12,13,49,50,51] [(6,0),(6,1),(6,2),(6,3),(6,4)] [13] (Tu zl) (zl.length) [iV .i64 1];(conv=>whnf);exact⟨rfl,rfl,rfl,rfl⟩;exact rfl;exact rfl;exact⟨1,by omega,by omega,by omega,rfl,rG.one zl⟩;rintro _ _ ⟨i4,hi4,Xm,rfl,rfl,o5⟩)
  |(have hgd:=h6;clear hgd;refine aj [6,12,13,49,50,51] [(6,0),(6,1),(6,2),(6,3),(6,4)] ?_;(conv=>whnf);exact⟨rfl,_,[_],⟨i4+1,by omega,by omega,rfl,by rw[bi (by omega) (by omega)],o5.next hi4 mP lU mO (by omega)⟩,rfl,(by simp only[eW]<;>rfl),rfl,by omega⟩)
  |(have hgd:=hs;clear hgd;apply cz [6,18,19,20,25,26,27] [(6,0),(6,1),(6,2),(6,3),(6,4)] [27] (Ss HU5 (partsOf (plies.take i)) ps) (ps.length) [iV .i64 0];(conv=>whnf);exact⟨rfl,rfl,rfl,rfl⟩;exact rfl;exact rfl;exact⟨0,by omega,rfl,rfl,⟨_,_,_,_,_,_,_,_,_,_,rfl,p0.nil _,p1.nil _,p2.nil _,p3.nil _,p4.nil _⟩⟩;rintro _ _ _ ⟨j,hj,rfl,rfl,⟨k0,k1,k2,k3,k4,y0,y1,y2,y3,y4,rfl,p0,p1,p2,p3,p4⟩⟩)
  |(have hgd:=bP;clear hgd;refine aj [6,18,19,20,25,26,27] [(6,0),(6,1),(6,2),(6,3),(6,4)] ?_;(conv=>whnf);first|exact⟨rfl,_,[_],⟨j+1,by omega,rfl,by rw[bi (by omega) (by omega)];rfl,⟨_,_,_,_,_,_,_,_,_,_,rfl,p0.hit bP (by simp) _,p1.fB bP (by decide) _,p2.fB bP (by decide) _,p3.fB bP (by decide) _,p4.fB bP (by decide) _⟩⟩,rfl,rfl,by omega⟩|exact⟨rfl,_,[_],⟨j+1,by omega,rfl,by rw[bi (by omega) (by omega)];rfl,⟨_,_,_,_,_,_,_,_,_,_,rfl,p0.fB bP (by decide) _,p1.hit bP (by simp) _,p2.fB bP (by decide) _,p3.fB bP (by decide) _,p4.fB bP (by decide) _⟩⟩,rfl,rfl,by omega⟩|exact⟨rfl,_,[_],⟨j+1,by omega,rfl,by rw[bi (by omega) (by omega)];rfl,⟨_,_,_,_,_,_,_,_,_,_,rfl,p0.fB bP (by decide) _,p1.fB bP (by decide) _,p2.hit bP (by simp) _,p3.fB bP (by decide) _,p4.fB bP (by decide) _⟩⟩,rfl,rfl,by omega⟩|exact⟨rfl,_,[_],⟨j+1,by omega,rfl,by rw[bi (by omega) (by omega)];rfl,⟨_,_,_,_,_,_,_,_,_,_,rfl,p0.fB bP (by decide) _,p1.fB bP (by decide) _,p2.fB bP (by decide) _,p3.hit bP (by simp) _,p4.fB bP (by decide) _⟩⟩,rfl,rfl,by omega⟩|exact⟨rfl,_,[_],⟨j+1,by omega,rfl,by rw[bi (by omega) (by omega)];rfl,⟨_,_,_,_,_,_,_,_,_,_,rfl,p0.fB bP (by decide) _,p1.fB bP (by decide) _,p2.fB bP (by decide) _,p3.fB bP (by decide) _,p4.hit bP (by simp) _⟩⟩,rfl,rfl,by omega⟩)
  |(have hgd:=hi;clear hgd;apply cz [6,49,50,51] [(6,0),(6,1),(6,2),(6,3),(6,4)] [51] (Sr HU5 5 (fun r=>bH (r:Int) (partsOf plies))) (5) [iV .i64 0];(conv=>whnf);exact⟨rfl,rfl,rfl,rfl⟩;exact rfl;exact rfl;exact⟨0,by omega,by omega,rfl,rfl,⟨_,_,_,_,_,_,_,_,_,_,rfl,p0.all (by omega) _,p1.all (by omega) _,p2.all (by omega) _,p3.all (by omega) _,p4.all (by omega) _⟩,fun r hr=>by omega⟩;rintro _ _ _ ⟨k,Ie,gi,rfl,rfl,⟨_,_,_,_,_,_,_,_,_,_,rfl,⟨rfl,rfl⟩,⟨rfl,rfl⟩,⟨rfl,rfl⟩,⟨rfl,rfl⟩,⟨rfl,rfl⟩⟩,hall⟩)
  |(have hgd:=eS;clear hgd;refine aj [6,49,50,51] [(6,0),(6,1),(6,2),(6,3),(6,4)] ?_;(conv=>whnf);first|exact⟨rfl,_,[_],⟨1,by omega,by omega,rfl,rfl,⟨_,_,_,_,_,_,_,_,_,_,rfl,gh.sort hz rfl (av.au (av.au (av.au (xs:=rZ zl) rfl _) _) _),⟨rfl,av.au (av.au (xs:=rZ _) rfl _) _⟩,⟨rfl,av.au (av.au (xs:=rZ _) rfl _) _⟩,⟨rfl,av.au (av.au (xs:=rZ _) rfl _) _⟩,⟨rfl,av.au (av.au (xs:=rZ _) rfl _) _⟩⟩,cv (c:=0) hall hz (o5.all (gv (z:=bH ((0:Nat):Int) (partsOf plies)) h eS))⟩,rfl,rfl,by omega⟩|exact⟨rfl,_,[_],⟨2,by omega,by omega,rfl,rfl,⟨_,_,_,_,_,_,_,_,_,_,rfl,⟨rfl,av.au (av.au (xs:=rZ _) rfl _) _⟩,gh.sort hz rfl (av.au (av.au (av.au (xs:=rZ zl) rfl _) _) _),⟨rfl,av.au (av.au (xs:=rZ _) rfl _) _⟩,⟨rfl,av.au (av.au (xs:=rZ _) rfl _) _⟩,⟨rfl,av.au (av.au (xs:=rZ _) rfl _) _⟩⟩,cv (c:=1) hall hz (o5.all (gv (z:=bH ((1:Nat):Int) (partsOf plies)) h eS))⟩,rfl,rfl,by omega⟩|exact⟨rfl,_,[_],⟨3,by omega,by omega,rfl,rfl,⟨_,_,_,_,_,_,_,_,_,_,rfl,⟨rfl,av.au (av.au (xs:=rZ _) rfl _) _⟩,⟨rfl,av.au (av.au (xs:=rZ _) rfl _) _⟩,gh.sort hz rfl (av.au (av.au (av.au (xs:=rZ zl) rfl _) _) _),⟨rfl,av.au (av.au (xs:=rZ _) rfl _) _⟩,⟨rfl,av.au (av.au (xs:=rZ _) rfl _) _⟩⟩,cv (c:=2) hall hz (o5.all (gv (z:=bH ((2:Nat):Int) (partsOf plies)) h eS))⟩,rfl,rfl,by omega⟩|exact⟨rfl,_,[_],⟨4,by omega,by omega,rfl,rfl,⟨_,_,_,_,_,_,_,_,_,_,rfl,⟨rfl,av.au (av.au (xs:=rZ _) rfl _) _⟩,⟨rfl,av.au (av.au (xs:=rZ _) rfl _) _⟩,⟨rfl,av.au (av.au (xs:=rZ _) rfl _) _⟩,gh.sort hz rfl (av.au (av.au (av.au (xs:=rZ zl) rfl _) _) _),⟨rfl,av.au (av.au (xs:=rZ _) rfl _) _⟩⟩,cv (c:=3) hall hz (o5.all (gv (z:=bH ((3:Nat):Int) (partsOf plies)) h eS))⟩,rfl,rfl,by omega⟩|exact⟨rfl,_,[_],⟨5,by omega,by omega,rfl,rfl,⟨_,_,_,_,_,_,_,_,_,_,rfl,⟨rfl,av.au (av.au (xs:=rZ _) rfl _) _⟩,⟨rfl,av.au (av.au (xs:=rZ _) rfl _) _⟩,⟨rfl,av.au (av.au (xs:=rZ _) rfl _) _⟩,⟨rfl,av.au (av.au (xs:=rZ _) rfl _) _⟩,gh.sort hz rfl (av.au (av.au (av.au (xs:=rZ zl) rfl _) _) _)⟩,cv (c:=4) hall hz (o5.all (gv (z:=bH ((4:Nat):Int) (partsOf plies)) h eS))⟩,rfl,rfl,by omega⟩)
  |(apply ji [6,18,19,20] [(6,0),(6,1),(6,2),(6,3),(6,4)] [20] (Su HU5 plies) (plies.length) [iV .i64 0] (dL.trans (dL.gk 24 0 0 2 rfl rfl rfl) (dL.trans (dL.gk 24 1 0 2 rfl rfl rfl) (dL.trans (dL.gk 24 2 0 2 rfl rfl rfl) (dL.trans (dL.gk 24 3 0 2 rfl rfl rfl) (dL.gk 24 4 0 2 rfl rfl rfl)))));(conv=>whnf);exact⟨rfl,rfl,rfl,rfl⟩;exact rfl;exact rfl;exact⟨0,by omega,rfl,rfl,⟨_,_,_,_,_,_,_,_,_,_,rfl,⟨rfl,rfl⟩,⟨rfl,rfl⟩,⟨rfl,rfl⟩,⟨rfl,rfl⟩,⟨rfl,rfl⟩⟩⟩;rintro _ _ _ ⟨i,hi,rfl,rfl,⟨k0,k1,k2,k3,k4,y0,y1,y2,y3,y4,rfl,p0,p1,p2,p3,p4⟩⟩)
  |(have hgd:=hj;clear hgd;refine aj [6,18,19,20] [(6,0),(6,1),(6,2),(6,3),(6,4)] ?_;(conv=>whnf);exact⟨rfl,_,[_],⟨i+1,by omega,rfl,by rw[bi (by omega) (by omega)];rfl,⟨_,_,_,_,_,_,_,_,_,_,rfl,p0.dc hs (by omega) _,p1.dc hs (by omega) _,p2.dc hs (by omega) _,p3.dc hs (by omega) _,p4.dc hs (by omega) _⟩⟩,rfl,rfl,by omega⟩))
 all_goals (conv=>whnf)
end Go.aR.Cd
end
section
namespace Go.aR.Cd
open Go Go.Proofs
set_option maxRecDepth 100000
set_option maxHeartbeats 4000000
def HU6 (F:Nat→List Zn) (hq:HS):Prop:= ∃ (k0 k1 k2 k3 k4 k5:Nat) (y0 y1 y2 y3 y4 y5:List (List C)),hq=[(4, .row 1 [[.own 8 2 0 k0],[.own 12 2 0 k1],[.own 16 2 0 k2],[.own 20 2 0 k3],[.own 24 2 0 k4],[.own 28 2 0 k5]]),(8, .row 2 y0),(12, .row 2 y1),(16, .row 2 y2),(20, .row 2 y3),(24, .row 2 y4),(28, .row 2 y5)]∧gh k0 y0 (F 0)∧gh k1 y1 (F 1)∧gh k2 y2 (F 2)∧gh k3 y3 (F 3)∧gh k4 y4 (F 4)∧gh k5 y5 (F 5)
theorem Vc (hS:gD Tryz.prog 63 64) (e0 e1 e2 e3 e4 e5:List T) (ln wd rx ry:Int) (sizes places plies:Lz) (hy: ∀e,e∈plies→ ∃l q,e=[tI l, .aA 4 q]∧DE q) (jT:plies.length≤1000000) (hB: ∀e,e∈plies→(nL 1 e).length≤1000) (hT: ∀i,(partsOf (plies.take i)).length≤100000) (dA: ∀e,e∈plies→ ∀q,q∈nL 1 e→0≤nI 0 q∧nI 0 q < 6):Tg 34 [fM ln wd rx ry sizes places plies,oL 7 [e0,e1,e2,e3,e4,e5]] (OQ 6 (partsOf plies)):=by
 have hZ: ∀c:Int,(bH c (partsOf plies)).length≤100000:=fun c=>by have h1:=kw c (partsOf plies);have h2:=hT plies.length;rw[List.take_of_length_le (Nat.le_refl _)]at h2;omega
 refine aH ?_
 refine ae Tryz.func34 ?_
 repeat' (conv=>whnf
          first
  |(refine az (fun h=>?_) (fun h=>?_))
  |(refine And.intro ⟨by simp,by simp,by simp,by simp⟩ ?_)
  |(have wL:=uC.2;have mX:=uC.1;have wK:r1=0∨r1=1∨r1=2∨r1=3∨r1=4∨r1=5:=(by omega);clear mX wL;rcases wK with rfl|rfl|rfl|rfl|rfl|rfl)
  |(have mX:=Ie;have Bl:=h;simp at Bl;have wK:k=0∨k=1∨k=2∨k=3∨k=4∨k=5:=(by omega);clear mX Bl;rcases wK with rfl|rfl|rfl|rfl|rfl|rfl)
  |(refine And.intro ⟨by simp,by simp⟩ ?_)
  |(refine ak (xs:=plies) hy (by omega) (by omega) ?_;rintro _ ⟨l,ps,rfl,hq⟩ hs;have Hu:=dA _ (List.mem_of_getElem? hs);have Ot:ps.length≤1000:=hB _ (List.mem_of_getElem? hs);have S4:=hT i)
  |(refine ak (xs:=ps) hq (by omega) (by omega) ?_;rintro _ ⟨r1,f1,t1,a1,rfl⟩ bP;have uC:=Hu _ (List.mem_of_getElem? bP);simp only[nI,List.getElem?_cons_zero]at uC)
  |(have hb0:=p0.lQ (B:=101000) (by omega);refine And.intro ⟨hb0.1.symm,by simp[aT];omega,by simp[maxLen];omega⟩ ?_)
  |(have pZ:=p1.lQ (B:=101000) (by omega);refine And.intro ⟨pZ.1.symm,by simp[aT];omega,by simp[maxLen];omega⟩ ?_)
  |(have lp:=p2.lQ (B:=101000) (by omega);refine And.intro ⟨lp.1.symm,by simp[aT];omega,by simp[maxLen];omega⟩ ?_)
  |(have Ou:=p3.lQ (B:=101000) (by omega);refine And.intro ⟨Ou.1.symm,by simp[aT];omega,by simp[maxLen];omega⟩ ?_)
  |(have hb4:=p4.lQ (B:=101000) (by omega);refine And.intro ⟨hb4.1.symm,by simp[aT];omega,by simp[maxLen];omega⟩ ?_)
  |(have Ot:=p5.lQ (B:=101000) (by omega);refine And.intro ⟨Ot.1.symm,by simp[aT];omega,by simp[maxLen];omega⟩ ?_)
  |(have h6:=gq (z:=bH ((0:Nat):Int) (partsOf plies)) h eS;refine And.intro ⟨by omega,h⟩ ?_)
  |(have h6:=gq (z:=bH ((1:Nat):Int) (partsOf plies)) h eS;refine And.intro ⟨by omega,h⟩ ?_)
  |(have h6:=gq (z:=bH ((2:Nat):Int) (partsOf plies)) h eS;refine And.intro ⟨by omega,h⟩ ?_)
  |(have h6:=gq (z:=bH ((3:Nat):Int) (partsOf plies)) h eS;refine And.intro ⟨by omega,h⟩ ?_)
  |(have h6:=gq (z:=bH ((4:Nat):Int) (partsOf plies)) h eS;refine And.intro ⟨by omega,h⟩ ?_)
  |(have h6:=gq (z:=bH ((5:Nat):Int) (partsOf plies)) h eS;refine And.intro ⟨by omega,h⟩ ?_)
  |(have mP:IntKind.i64.wrap (i4 - 1)=i4 - 1:=bi (by omega) (by omega);generalize IntKind.i64.wrap (i4 - 1)=j1 at mP⊢;refine And.intro ⟨by omega,by omega⟩ ?_)
  |(refine And.intro (by kernel_rfl) ?_)
  |(refine fc [8] rfl (cS hS (bH ((0:Nat):Int) (partsOf plies)) (hZ _)) rfl (j9 rfl (rfl:av _ (rZ (bH ((0:Nat):Int) (partsOf plies))))) ?_;rintro _ _ ⟨rfl,rfl⟩;obtain⟨zl,hz⟩: ∃zl,zl=cG (bH ((0:Nat):Int) (partsOf plies)):=⟨_,rfl⟩;rw[←hz];have gR:zl.length≤100000:=(by rw[hz,aP];exact hZ _);have eS:zl.length=(bH ((0:Nat):Int) (partsOf plies)).length:=(by rw[hz,aP]))
  |(refine fc [12] rfl (cS hS (bH ((1:Nat):Int) (partsOf plies)) (hZ _)) rfl (j9 rfl (rfl:av _ (rZ (bH ((1:Nat):Int) (partsOf plies))))) ?_;rintro _ _ ⟨rfl,rfl⟩;obtain⟨zl,hz⟩: ∃zl,zl=cG (bH ((1:Nat):Int) (partsOf plies)):=⟨_,rfl⟩;rw[←hz];have gR:zl.length≤100000:=(by rw[hz,aP];exact hZ _);have eS:zl.length=(bH ((1:Nat):Int) (partsOf plies)).length:=(by rw[hz,aP]))
  |(refine fc [16] rfl (cS hS (bH ((2:Nat):Int) (partsOf plies)) (hZ _)) rfl (j9 rfl (rfl:av _ (rZ (bH ((2:Nat):Int) (partsOf plies))))) ?_;rintro _ _ ⟨rfl,rfl⟩;obtain⟨zl,hz⟩: ∃zl,zl=cG (bH ((2:Nat):Int) (partsOf plies)):=⟨_,rfl⟩;rw[←hz];have gR:zl.length≤100000:=(by rw[hz,aP];exact hZ _);have eS:zl.length=(bH ((2:Nat):Int) (partsOf plies)).length:=(by rw[hz,aP]))
  |(refine fc [20] rfl (cS hS (bH ((3:Nat):Int) (partsOf plies)) (hZ _)) rfl (j9 rfl (rfl:av _ (rZ (bH ((3:Nat):Int) (partsOf plies))))) ?_;rintro _ _ ⟨rfl,rfl⟩;obtain⟨zl,hz⟩: ∃zl,zl=cG (bH ((3:Nat):Int) (partsOf plies)):=⟨_,rfl⟩;rw[←hz];have gR:zl.length≤100000:=(by rw[hz,aP];exact hZ _);have eS:zl.length=(bH ((3:Nat):Int) (partsOf plies)).length:=(by rw[hz,aP]))
  |(refine fc [24] rfl (cS hS (bH ((4:Nat):Int) (partsOf plies)) (hZ _)) rfl (j9 rfl (rfl:av _ (rZ (bH ((4:Nat):Int) (partsOf plies))))) ?_;rintro _ _ ⟨rfl,rfl⟩;obtain⟨zl,hz⟩: ∃zl,zl=cG (bH ((4:Nat):Int) (partsOf plies)):=⟨_,rfl⟩;rw[←hz];have gR:zl.length≤100000:=(by rw[hz,aP];exact hZ _);have eS:zl.length=(bH ((4:Nat):Int) (partsOf plies)).length:=(by rw[hz,aP]))
  |(refine fc [28] rfl (cS hS (bH ((5:Nat):Int) (partsOf plies)) (hZ _)) rfl (j9 rfl (rfl:av _ (rZ (bH ((5:Nat):Int) (partsOf plies))))) ?_;rintro _ _ ⟨rfl,rfl⟩;obtain⟨zl,hz⟩: ∃zl,zl=cG (bH ((5:Nat):Int) (partsOf plies)):=⟨_,rfl⟩;rw[←hz];have gR:zl.length≤100000:=(by rw[hz,aP];exact hZ _);have eS:zl.length=(bH ((5:Nat):Int) (partsOf plies)).length:=(by rw[hz,aP]))
  |(refine bM (xs:=rZ zl) (av.au (av.au (xs:=rZ zl) rfl _) _) (zj zl) (by rw[cQ];omega) ?_;first|(rintro _ ⟨a6,b6,rfl⟩ lU;have:=mO)|rintro _ ⟨a5,b5,rfl⟩ mO)
  |exact dh rfl (bJ 1 rfl) (bN rfl) ⟨_,by rw[cR (r:=0) (by omega) hz (cj hi4 mP lU mO (by omega))]⟩
  |exact dh rfl (bJ 1 rfl) (bN rfl) ⟨_,by rw[cR (r:=1) (by omega) hz (cj hi4 mP lU mO (by omega))]⟩
  |exact dh rfl (bJ 1 rfl) (bN rfl) ⟨_,by rw[cR (r:=2) (by omega) hz (cj hi4 mP lU mO (by omega))]⟩
  |exact dh rfl (bJ 1 rfl) (bN rfl) ⟨_,by rw[cR (r:=3) (by omega) hz (cj hi4 mP lU mO (by omega))]⟩
  |exact dh rfl (bJ 1 rfl) (bN rfl) ⟨_,by rw[cR (r:=4) (by omega) hz (cj hi4 mP lU mO (by omega))]⟩
  |exact dh rfl (bJ 1 rfl) (bN rfl) ⟨_,by rw[cR (r:=5) (by omega) hz (cj hi4 mP lU mO (by omega))]⟩
  |(have h7:((6:Nat):Int)≤k:=(by simp at h;omega);exact dh rfl (pM [(8,_,_),(12,_,_),(16,_,_),(20,_,_),(24,_,_),(28,_,_)] rfl rfl rfl rfl ⟨⟨_,rfl,rfl,(cQ _).symm⟩,⟨_,rfl,rfl,(cQ _).symm⟩,⟨_,rfl,rfl,(cQ _).symm⟩,⟨_,rfl,rfl,(cQ _).symm⟩,⟨_,rfl,rfl,(cQ _).symm⟩,⟨_,rfl,rfl,(cQ _).symm⟩,trivial⟩) (bN rfl) ⟨_,by rw[jX h7 hall]⟩)
  |(have hgd:=eS;clear hgd;apply aL [6,12,13,49,50,51] [(6,0),(6,1),(6,2),(6,3),(6,4),(6,5)] [13] (Tu zl) (zl.length) [iV .i64 1];(conv=>whnf);exact⟨rfl,rfl,rfl,rfl⟩;exact rfl;exact rfl;exact⟨1,by omega,by omega,by omega,rfl,rG.one zl⟩;rintro _ _ ⟨i4,hi4,Xm,rfl,rfl,o5⟩)
  |(have hgd:=h6;clear hgd;refine aj [6,12,13,49,50,51] [(6,0),(6,1),(6,2),(6,3),(6,4),(6,5)] ?_;(conv=>whnf);exact⟨rfl,_,[_],⟨i4+1,by omega,by omega,rfl,by rw[bi (by omega) (by omega)],o5.next hi4 mP lU mO (by omega)⟩,rfl,(by simp only[eW]<;>rfl),rfl,by omega⟩)
  |(have hgd:=hs;clear hgd;apply cz [6,18,19,20,25,26,27] [(6,0),(6,1),(6,2),(6,3),(6,4),(6,5)] [27] (Ss HU6 (partsOf (plies.take i)) ps) (ps.length) [iV .i64 0];(conv=>whnf);exact⟨rfl,rfl,rfl,rfl⟩;exact rfl;exact rfl;exact⟨0,by omega,rfl,rfl,⟨_,_,_,_,_,_,_,_,_,_,_,_,rfl,p0.nil _,p1.nil _,p2.nil _,p3.nil _,p4.nil _,p5.nil _⟩⟩;rintro _ _ _ ⟨j,hj,rfl,rfl,⟨k0,k1,k2,k3,k4,k5,y0,y1,y2,y3,y4,y5,rfl,p0,p1,p2,p3,p4,p5⟩⟩)
  |(have hgd:=bP;clear hgd;refine aj [6,18,19,20,25,26,27] [(6,0),(6,1),(6,2),(6,3),(6,4),(6,5)] ?_;(conv=>whnf);first|exact⟨rfl,_,[_],⟨j+1,by omega,rfl,by rw[bi (by omega) (by omega)];rfl,⟨_,_,_,_,_,_,_,_,_,_,_,_,rfl,p0.hit bP (by simp) _,p1.fB bP (by decide) _,p2.fB bP (by decide) _,p3.fB bP (by decide) _,p4.fB bP (by decide) _,p5.fB bP (by decide) _⟩⟩,rfl,rfl,by omega⟩|exact⟨rfl,_,[_],⟨j+1,by omega,rfl,by rw[bi (by omega) (by omega)];rfl,⟨_,_,_,_,_,_,_,_,_,_,_,_,rfl,p0.fB bP (by decide) _,p1.hit bP (by simp) _,p2.fB bP (by decide) _,p3.fB bP (by decide) _,p4.fB bP (by decide) _,p5.fB bP (by decide) _⟩⟩,rfl,rfl,by omega⟩|exact⟨rfl,_,[_],⟨j+1,by omega,rfl,by rw[bi (by omega) (by omega)];rfl,⟨_,_,_,_,_,_,_,_,_,_,_,_,rfl,p0.fB bP (by decide) _,p1.fB bP (by decide) _,p2.hit bP (by simp) _,p3.fB bP (by decide) _,p4.fB bP (by decide) _,p5.fB bP (by decide) _⟩⟩,rfl,rfl,by omega⟩|exact⟨rfl,_,[_],⟨j+1,by omega,rfl,by rw[bi (by omega) (by omega)];rfl,⟨_,_,_,_,_,_,_,_,_,_,_,_,rfl,p0.fB bP (by decide) _,p1.fB bP (by decide) _,p2.fB bP (by decide) _,p3.hit bP (by simp) _,p4.fB bP (by decide) _,p5.fB bP (by decide) _⟩⟩,rfl,rfl,by omega⟩|exact⟨rfl,_,[_],⟨j+1,by omega,rfl,by rw[bi (by omega) (by omega)];rfl,⟨_,_,_,_,_,_,_,_,_,_,_,_,rfl,p0.fB bP (by decide) _,p1.fB bP (by decide) _,p2.fB bP (by decide) _,p3.fB bP (by decide) _,p4.hit bP (by simp) _,p5.fB bP (by decide) _⟩⟩,rfl,rfl,by omega⟩|exact⟨rfl,_,[_],⟨j+1,by omega,rfl,by rw[bi (by omega) (by omega)];rfl,⟨_,_,_,_,_,_,_,_,_,_,_,_,rfl,p0.fB bP (by decide) _,p1.fB bP (by decide) _,p2.fB bP (by decide) _,p3.fB bP (by decide) _,p4.fB bP (by decide) _,p5.hit bP (by simp) _⟩⟩,rfl,rfl,by omega⟩)
  |(have hgd:=hi;clear hgd;apply cz [6,49,50,51] [(6,0),(6,1),(6,2),(6,3),(6,4),(6,5)] [51] (Sr HU6 6 (fun r=>bH (r:Int) (partsOf plies))) (6) [iV .i64 0];(conv=>whnf);exact⟨rfl,rfl,rfl,rfl⟩;exact rfl;exact rfl;exact⟨0,by omega,by omega,rfl,rfl,⟨_,_,_,_,_,_,_,_,_,_,_,_,rfl,p0.all (by omega) _,p1.all (by omega) _,p2.all (by omega) _,p3.all (by omega) _,p4.all (by omega) _,p5.all (by omega) _⟩,fun r hr=>by omega⟩;rintro _ _ _ ⟨k,Ie,gi,rfl,rfl,⟨_,_,_,_,_,_,_,_,_,_,_,_,rfl,⟨rfl,rfl⟩,⟨rfl,rfl⟩,⟨rfl,rfl⟩,⟨rfl,rfl⟩,⟨rfl,rfl⟩,⟨rfl,rfl⟩⟩,hall⟩)
  |(have hgd:=eS;clear hgd;refine aj [6,49,50,51] [(6,0),(6,1),(6,2),(6,3),(6,4),(6,5)] ?_;(conv=>whnf);first|exact⟨rfl,_,[_],⟨1,by omega,by omega,rfl,rfl,⟨_,_,_,_,_,_,_,_,_,_,_,_,rfl,gh.sort hz rfl (av.au (av.au (av.au (xs:=rZ zl) rfl _) _) _),⟨rfl,av.au (av.au (xs:=rZ _) rfl _) _⟩,⟨rfl,av.au (av.au (xs:=rZ _) rfl _) _⟩,⟨rfl,av.au (av.au (xs:=rZ _) rfl _) _⟩,⟨rfl,av.au (av.au (xs:=rZ _) rfl _) _⟩,⟨rfl,av.au (av.au (xs:=rZ _) rfl _) _⟩⟩,cv (c:=0) hall hz (o5.all (gv (z:=bH ((0:Nat):Int) (partsOf plies)) h eS))⟩,rfl,rfl,by omega⟩|exact⟨rfl,_,[_],⟨2,by omega,by omega,rfl,rfl,⟨_,_,_,_,_,_,_,_,_,_,_,_,rfl,⟨rfl,av.au (av.au (xs:=rZ _) rfl _) _⟩,gh.sort hz rfl (av.au (av.au (av.au (xs:=rZ zl) rfl _) _) _),⟨rfl,av.au (av.au (xs:=rZ _) rfl _) _⟩,⟨rfl,av.au (av.au (xs:=rZ _) rfl _) _⟩,⟨rfl,av.au (av.au (xs:=rZ _) rfl _) _⟩,⟨rfl,av.au (av.au (xs:=rZ _) rfl _) _⟩⟩,cv (c:=1) hall hz (o5.all (gv (z:=bH ((1:Nat):Int) (partsOf plies)) h eS))⟩,rfl,rfl,by omega⟩|exact⟨rfl,_,[_],⟨3,by omega,by omega,rfl,rfl,⟨_,_,_,_,_,_,_,_,_,_,_,_,rfl,⟨rfl,av.au (av.au (xs:=rZ _) rfl _) _⟩,⟨rfl,av.au (av.au (xs:=rZ _) rfl _) _⟩,gh.sort hz rfl (av.au (av.au (av.au (xs:=rZ zl) rfl _) _) _),⟨rfl,av.au (av.au (xs:=rZ _) rfl _) _⟩,⟨rfl,av.au (av.au (xs:=rZ _) rfl _) _⟩,⟨rfl,av.au (av.au (xs:=rZ _) rfl _) _⟩⟩,cv (c:=2) hall hz (o5.all (gv (z:=bH ((2:Nat):Int) (partsOf plies)) h eS))⟩,rfl,rfl,by omega⟩|exact⟨rfl,_,[_],⟨4,by omega,by omega,rfl,rfl,⟨_,_,_,_,_,_,_,_,_,_,_,_,rfl,⟨rfl,av.au (av.au (xs:=rZ _) rfl _) _⟩,⟨rfl,av.au (av.au (xs:=rZ _) rfl _) _⟩,⟨rfl,av.au (av.au (xs:=rZ _) rfl _) _⟩,gh.sort hz rfl (av.au (av.au (av.au (xs:=rZ zl) rfl _) _) _),⟨rfl,av.au (av.au (xs:=rZ _) rfl _) _⟩,⟨rfl,av.au (av.au (xs:=rZ _) rfl _) _⟩⟩,cv (c:=3) hall hz (o5.all (gv (z:=bH ((3:Nat):Int) (partsOf plies)) h eS))⟩,rfl,rfl,by omega⟩|exact⟨rfl,_,[_],⟨5,by omega,by omega,rfl,rfl,⟨_,_,_,_,_,_,_,_,_,_,_,_,rfl,⟨rfl,av.au (av.au (xs:=rZ _) rfl _) _⟩,⟨rfl,av.au (av.au (xs:=rZ _) rfl _) _⟩,⟨rfl,av.au (av.au (xs:=rZ _) rfl _) _⟩,⟨rfl,av.au (av.au (xs:=rZ _) rfl _) _⟩,gh.sort hz rfl (av.au (av.au (av.au (xs:=rZ zl) rfl _) _) _),⟨rfl,av.au (av.au (xs:=rZ _) rfl _) _⟩⟩,cv (c:=4) hall hz (o5.all (gv (z:=bH ((4:Nat):Int) (partsOf plies)) h eS))⟩,rfl,rfl,by omega⟩|exact⟨rfl,_,[_],⟨6,by omega,by omega,rfl,rfl,⟨_,_,_,_,_,_,_,_,_,_,_,_,rfl,⟨rfl,av.au (av.au (xs:=rZ _) rfl _) _⟩,⟨rfl,av.au (av.au (xs:=rZ _) rfl _) _⟩,⟨rfl,av.au (av.au (xs:=rZ _) rfl _) _⟩,⟨rfl,av.au (av.au (xs:=rZ _) rfl _) _⟩,⟨rfl,av.au (av.au (xs:=rZ _) rfl _) _⟩,gh.sort hz rfl (av.au (av.au (av.au (xs:=rZ zl) rfl _) _) _)⟩,cv (c:=5) hall hz (o5.all (gv (z:=bH ((5:Nat):Int) (partsOf plies)) h eS))⟩,rfl,rfl,by omega⟩)
  |(apply ji [6,18,19,20] [(6,0),(6,1),(6,2),(6,3),(6,4),(6,5)] [20] (Su HU6 plies) (plies.length) [iV .i64 0] (dL.trans (dL.gk 24 0 0 2 rfl rfl rfl) (dL.trans (dL.gk 24 1 0 2 rfl rfl rfl) (dL.trans (dL.gk 24 2 0 2 rfl rfl rfl) (dL.trans (dL.gk 24 3 0 2 rfl rfl rfl) (dL.trans (dL.gk 24 4 0 2 rfl rfl rfl) (dL.gk 24 5 0 2 rfl rfl rfl))))));(conv=>whnf);exact⟨rfl,rfl,rfl,rfl⟩;exact rfl;exact rfl;exact⟨0,by omega,rfl,rfl,⟨_,_,_,_,_,_,_,_,_,_,_,_,rfl,⟨rfl,rfl⟩,⟨rfl,rfl⟩,⟨rfl,rfl⟩,⟨rfl,rfl⟩,⟨rfl,rfl⟩,⟨rfl,rfl⟩⟩⟩;rintro _ _ _ ⟨i,hi,rfl,rfl,⟨k0,k1,k2,k3,k4,k5,y0,y1,y2,y3,y4,y5,rfl,p0,p1,p2,p3,p4,p5⟩⟩)
  |(have hgd:=hj;clear hgd;refine aj [6,18,19,20] [(6,0),(6,1),(6,2),(6,3),(6,4),(6,5)] ?_;(conv=>whnf);exact⟨rfl,_,[_],⟨i+1,by omega,rfl,by rw[bi (by omega) (by omega)];rfl,⟨_,_,_,_,_,_,_,_,_,_,_,_,rfl,p0.dc hs (by omega) _,p1.dc hs (by omega) _,p2.dc hs (by omega) _,p3.dc hs (by omega) _,p4.dc hs (by omega) _,p5.dc hs (by omega) _⟩⟩,rfl,rfl,by omega⟩))
 all_goals (conv=>whnf)
end Go.aR.Cd
end
section
namespace Go.aR.Cd
open Go Go.Proofs
set_option maxRecDepth 100000
set_option maxHeartbeats 1000000
variable [BQ]
abbrev E9 (plies:Lz):Prop:= ∀e,e∈plies→ ∃l q,e=[tI l, .aA 4 q]∧DE q
theorem As (ah:Lz) (hr:ah.length≤6) (ln wd rx ry:Int) (sizes places plies:Lz) (hy:E9 plies) (jT:plies.length≤1000000) (hB: ∀e,e∈plies→(nL 1 e).length≤1000) (hT: ∀i,(partsOf (plies.take i)).length≤100000) (dA: ∀e,e∈plies→ ∀q,q∈nL 1 e→0≤nI 0 q∧nI 0 q < (ah.length:Int)):
 Tg 34 [fM ln wd rx ry sizes places plies,oL 7 ah] (OQ ah.length (partsOf plies)):=by
 match ah,hr,dA with
 | [],_,dA=>exact Vq j0 ln wd rx ry sizes places plies hy jT hB hT dA
 | [e0],_,dA=>exact Vp j0 e0 ln wd rx ry sizes places plies hy jT hB hT dA
 | [e0,e1],_,dA=>exact Vo j0 e0 e1 ln wd rx ry sizes places plies hy jT hB hT dA
 | [e0,e1,e2],_,dA=>exact Vm j0 e0 e1 e2 ln wd rx ry sizes places plies hy jT hB hT dA
 | [e0,e1,e2,e3],_,dA=>exact Vl j0 e0 e1 e2 e3 ln wd rx ry sizes places plies hy jT hB hT dA
 | [e0,e1,e2,e3,e4],_,dA=>exact Vd j0 e0 e1 e2 e3 e4 ln wd rx ry sizes places plies hy jT hB hT dA
 | [e0,e1,e2,e3,e4,e5],_,dA=>exact Vc j0 e0 e1 e2 e3 e4 e5 ln wd rx ry sizes places plies hy jT hB hT dA
 |_::_::_::_::_::_::_::r,hr,_=>simp at hr
theorem zn {B:Nat}: ∀ {plies:Lz},(∀e,e∈plies→(nL 1 e).length≤B)→(partsOf plies).length≤plies.length * B
 | [],_=>by simp[partsOf]
 |e::r,h=>by
  have h1:=zn (plies:=r) (fun x hx=>h x (List.mem_cons_of_mem _ hx))
  have h2:=h e List.mem_cons_self
  simp only[partsOf,List.flatMap_cons,List.length_append,List.length_cons,Nat.add_mul,Nat.one_mul]at h1⊢
  omega
theorem Eg {plies:Lz} (h: ∀e,e∈plies→(nL 1 e).length≤1000) (hl:plies.length≤40) (i:Nat):(partsOf (plies.take i)).length≤100000:=by
 have h1:=zn (plies:=plies.take i) (fun e he=>h e (List.mem_of_mem_take he))
 have h2:(plies.take i).length≤40:=by rw[List.length_take];omega
 have h3:(plies.take i).length * 1000≤40 * 1000:=Nat.mul_le_mul_right _ h2
 omega
def PyL (ln wd:Int) (aD ah bF:Lz) (e:List T):Prop:=BP ln wd aD ah bF (nI 0 e) (nL 1 e)
structure SpL (ln wd:Int) (aD ah bF plies:Lz):Prop where
 cl:ClF ln wd aD ah bF
 n:plies.length≤40
 all: ∀e,e∈plies→PyL ln wd aD ah bF e
 us:yV ah.length (partsOf plies)=true
theorem PT {ln wd:Int} {aD ah bF:Lz} {e:List T} (h:PyL ln wd aD ah bF e): ∀q,q∈nL 1 e→0≤nI 0 q∧nI 0 q < (ah.length:Int):=by
 intro q hq
 obtain⟨i,hi,rfl⟩:=List.getElem_of_mem hq
 exact(h.all i _ (by simp[hi])).1.1.1
theorem Av (ln wd rx ry:Int) (sizes places plies aD ah bF:Lz) (hp:xH aD) (hR:DT ah) (Hw:ah.length≤6) (hlo:Is bF) (hy:E9 plies) (jT:plies.length≤1000000) (hB: ∀e,e∈plies→(nL 1 e).length≤1000):Tg 16 [fM ln wd rx ry sizes places plies,oL 1 aD,oL 7 ah,oL 1 bF] (mS (fun n=>n=0↔SpL ln wd aD ah bF plies)):=by
 refine ae Tryz.func16 ?_
 repeat' (conv=>whnf
          first
  |(refine az (fun h=>?_) (fun h=>?_))
  |(refine bC (fun h=>?_) (fun h=>?_))
  |(refine aF (fun h=>?_) (fun h=>?_))
  |(refine ak (xs:=plies) hy (by omega) (by omega) ?_;rintro _ ⟨l,ps,rfl,hps⟩ hs)
  |(refine ag rfl (pJ ln wd rx ry sizes places aD ah bF hp hR (by simp only[maxLen];omega)) ?_;rintro _ ⟨n,rfl,hn⟩)
  |(refine ag rfl (rX ln wd rx ry sizes places aD ah bF hp hR (by simp only[maxLen];omega) hlo (hn.1 (by assumption)).rs.bF l ps hps (by have h3:ps.length≤1000:=hB _ (List.mem_of_getElem? hs);simp only[maxLen];omega)) ?_;rintro _ ⟨n2,rfl,hn2⟩)
  |(refine ag rfl (As ah Hw ln wd rx ry sizes places plies hy jT hB (Eg hB (by omega)) (fun e he=>PT (hpre.all (by omega) e he))) ?_;rintro _ ⟨z,rfl⟩)
  |exact iH rfl rfl (iff_of_false (by assumption) (fun hh=>absurd (hn.2 hh.cl) (by assumption)))
  |exact iH rfl rfl (iff_of_false (by decide) (fun hh=>by have h1:=hh.n;omega))
  |exact iH rfl rfl (iff_of_false (by assumption) (fun hh=>absurd (hn2.2 (hh.all _ (List.mem_of_getElem? hs))) (by assumption)))
  |exact iH rfl rfl (iff_of_false (by decide) (fun hh=>absurd hh.us (Je (by assumption))))
  |exact iH rfl rfl (iff_of_true rfl ⟨hn.1 (by assumption),by omega,hpre.all (by omega),dB (by assumption)⟩)
  |(apply aS [1,2,3,4,29,30,31] [] [31] [(4,7)] (ON (PyL ln wd aD ah bF) plies [[[tI ln,tI wd,tI rx,tI ry, .aA 1 sizes, .aA 7 places, .aA 2 plies]]]) (plies.length) [iV .i64 0];(conv=>whnf);exact⟨rfl,rfl,rfl,rfl⟩;exact rfl;exact rfl;exact .cons (av.au (xs:=[[tI ln,tI wd,tI rx,tI ry, .aA 1 sizes, .aA 7 places, .aA 2 plies]]) rfl _) .nil;exact⟨0,by omega,Pre.zero,rfl,rfl,rfl⟩;rintro _ _ _ ⟨i,hi,hpre,rfl,rfl,rfl⟩)
  |(refine aj [1,2,3,4,29,30,31] [] ?_;(conv=>whnf);exact⟨rfl,_,[_],_, .cons (av.au (xs:=[[tI ln,tI wd,tI rx,tI ry, .aA 1 sizes, .aA 7 places, .aA 2 plies]]) rfl _) .nil,ON.next (by omega) (by simp only[maxLen];omega) hpre hs (hn2.1 (by assumption)),rfl,rfl,by omega⟩))
 all_goals (conv=>whnf)
def Dn (ah sizes places:Lz) (e:List T) (i k:Nat) (poly:Lz):List T:=
 [tI (i:Int),tI (k:Int),tI (nI 0 e),tI (nI 0 (qm sizes (nI 0 (qm places (k:Int))))), .aA 1 [[tI (nI 0 (yK (nI 0 e) (nL 1 e) poly))]],tB (Lc (nI 0 e) (nL 1 e) ah poly).1]
abbrev pu (xs:Lz) (i:Nat):List T:=(xs[i]?).getD []
def kz (ah sizes places aD:Lz) (e:List T) (i j:Nat):Lz:=(List.range j).map fun k=>Dn ah sizes places e i k (nL 0 (pu aD k))
def gM (ah sizes places aD plies:Lz) (i:Nat):Lz:=(List.range i).flatMap fun a=>kz ah sizes places aD (pu plies a) a aD.length
def OP (ah aD:Lz) (e:List T) (k:Nat):Prop:=yQ (nI 0 e) (nL 1 e) ah (nL 0 (pu aD k))
structure Ys (pe:Int) (ln wd:Int) (aD ah bF plies:Lz):Prop where
 pe:pe=0
 sp:SpL ln wd aD ah bF plies
 ht: ∀a k,a < plies.length→k < aD.length→OP ah aD (pu plies a) k
def GPs (ah sizes places aD plies:Lz) (p:Prop) (ts:List W):Prop:= ∃cuts e,ts=[oL 6 cuts,oI e]∧(e=0↔p)∧(e=0→cuts=gM ah sizes places aD plies plies.length)∧(¬e=0→cuts=[])
def Z1 (row:List T) (ah sizes places aD plies:Lz) (m:Nat) (vs:List V) (xss:List (Lz)):Prop:= ∃ (i:Nat) (zs:Lz),i≤plies.length∧m=plies.length - i∧vs=[bn 8 6 zs.length,iV .i64 (i:Int)]∧xss=[[row],zs]∧zs=gM ah sizes places aD plies i∧ ∀a k,a < i→k < aD.length→OP ah aD (pu plies a) k
def Z0 (row:List T) (ah sizes places aD plies:Lz) (i:Nat) (m:Nat) (vs:List V) (xss:List (Lz)):Prop:= ∃ (j:Nat) (zs:Lz),j≤aD.length∧m=aD.length - j∧vs=[bn 8 6 zs.length,iV .i64 (j:Int)]∧xss=[[row],zs]∧zs=gM ah sizes places aD plies i++kz ah sizes places aD (pu plies i) i j∧ ∀k,k < j→OP ah aD (pu plies i) k
theorem tR (ah sizes places aD plies:Lz) (i:Nat):gM ah sizes places aD plies (i+1)=gM ah sizes places aD plies i++kz ah sizes places aD (pu plies i) i aD.length:=by
 simp[gM,List.range_succ]
theorem D6 (ah sizes places aD:Lz) (e:List T) (i j:Nat):kz ah sizes places aD e i (j+1)=kz ah sizes places aD e i j++[Dn ah sizes places e i j (nL 0 (pu aD j))]:=by
 simp[kz,List.range_succ]
theorem Dl (ah sizes places aD plies:Lz) (i:Nat):(gM ah sizes places aD plies i).length=i * aD.length:=by
 induction i with
 |zero=>simp[gM]
 |succ i ih=>rw[tR,List.length_append,ih,Nat.add_mul];simp[kz]
theorem LQ {ah sizes places aD plies zs:Lz} {i j:Nat} (hz:zs=gM ah sizes places aD plies i++kz ah sizes places aD (pu plies i) i j) (hi:i < plies.length) (hl:plies.length≤40) (fQ:aD.length≤1000000) (hj:j≤aD.length):zs.length≤50000000:=by
 have h1:i * aD.length≤40 * 1000000:=Nat.mul_le_mul (by omega) fQ
 have h2:zs.length=i * aD.length+j:=by rw[hz,List.length_append,Dl];simp[kz]
 omega
theorem Z1.next {row:List T} {ah sizes places aD plies zs:Lz} {i j:Nat} (hi:(i:Int) < (plies.length:Int)) (hl:plies.length≤40) (hj:j≤aD.length) (hj2:aD.length≤j) (fQ:aD.length≤1000000) (hz:zs=gM ah sizes places aD plies i++kz ah sizes places aD (pu plies i) i j) (h1: ∀a k,a < i→k < aD.length→OP ah aD (pu plies a) k) (h2: ∀k,k < j→OP ah aD (pu plies i) k):
 Z1 row ah sizes places aD plies (plies.length - (i+1)) [bn 8 6 zs.length,iV .i64 (IntKind.i64.wrap ((i:Int)+1))] [[row],zs]:=by
 have e:j=aD.length:=by omega
 subst e
 refine⟨i+1,zs,by omega,rfl,by rw[bi (by omega) (by omega)];rfl,rfl,by rw[tR];exact hz,fun a k ha hk=>?_⟩
 by_cases hai:a=i
 · subst hai;exact h2 k hk
 · exact h1 a k (by omega) hk
theorem xy {xs:Lz} {i:Nat} {e:List T} (h:xs[i]? =some e):pu xs i=e:=by simp[pu,h]
theorem Z0.next {row:List T} {ah sizes places aD plies zs poly:Lz} {i j n:Nat} {p q l s fN g sz:Int} {gr:List T} {x:T} {d:Bool} {ps:Lz} (hj:(j:Int) < (aD.length:Int)) (fQ:aD.length≤1000000) (hz:zs=gM ah sizes places aD plies i++kz ah sizes places aD (pu plies i) i j) (h2: ∀k,k < j→OP ah aD (pu plies i) k)
 (hy:plies[i]? =some [tI fN, .aA 4 ps]) (S8:aD[((j:Int)).toNat]? =some [.aA 2 poly]) (Ep:places[((j:Int)).toNat]? =some (tI g::gr)) (hsz:sizes[g.toNat]? =some [tI sz]) (hh:yQ fN ps ah poly) (hr:p=(i:Int)∧q=(j:Int)∧l=fN∧s=sz∧x= .aA 1 [[tI (nI 0 (yK fN ps poly))]]∧d=(Lc fN ps ah poly).1) (hn:n=zs.length+1):
 Z0 row ah sizes places aD plies i (aD.length - (j+1)) [bn 8 6 n,iV .i64 (IntKind.i64.wrap ((j:Int)+1))] [[row],zs++[[tI p,tI q,tI l,tI s,x,tB d]]]:=by
 have e1:pu plies i=[tI fN, .aA 4 ps]:=xy hy
 have e2:pu aD j=[.aA 2 poly]:=xy (by simpa using S8)
 have e3:qm places (j:Int)=tI g::gr:=oc Ep
 have e4:qm sizes g=[tI sz]:=oc hsz
 obtain⟨rfl,rfl,rfl,rfl,rfl,rfl⟩:=hr
 refine⟨j+1,_,by omega,rfl,by subst hn;rw[bi (by omega) (by omega)];simp,rfl,?_,fun k hk=>?_⟩
 · rw[D6,hz,List.append_assoc]
   congr 2
   simp only[Dn,e1,e2,e3]
   show [[_,_,_,_,_,_]]=[[_,_,_,tI (nI 0 (qm sizes g)),_,_]]
   rw[e4]
   rfl
 · by_cases Q4:k=j
   · subst Q4
     unfold OP
     rw[e1,e2]
     exact hh
   · exact h2 k (by omega)
theorem PX {pe ln wd:Int} {aD ah bF plies:Lz} {i j:Nat} {fN:Int} {ps poly:Lz} (hi:(i:Int) < (plies.length:Int)) (hj:(j:Int) < (aD.length:Int)) (hy:plies[i]? =some [tI fN, .aA 4 ps]) (S8:aD[((j:Int)).toNat]? =some [.aA 2 poly]) (h:¬yQ fN ps ah poly):¬Ys pe ln wd aD ah bF plies:=fun hh=>by
 have h1:=hh.ht i j (by omega) (by omega)
 unfold OP at h1
 rw[xy hy,xy (show aD[j]? =some [.aA 2 poly] by simpa using S8)]at h1
 exact h h1
theorem PU {plies:Lz} (hy:E9 plies) {i:Nat} (hi:(i:Int) < (plies.length:Int)): ∃fN ps,plies[i]? =some [tI fN, .aA 4 ps]∧DE ps:=by
 have hlt:i < plies.length:=by omega
 obtain⟨fN,ps,h1,h2⟩:=hy _ (List.getElem_mem hlt)
 exact⟨fN,ps,by rw[←h1];simp[hlt],h2⟩
theorem I5 {places sizes:Lz} (hp:KR places) (hz:Is sizes) (hg:Gq sizes.length places) {j:Nat} (hj:(j:Int) < (places.length:Int)): ∃g u k f q x y sz,places[((j:Int)).toNat]? =some [tI g,tI u,tI k,tB f,tI q,tI x,tI y]∧0≤g∧sizes[g.toNat]? =some [tI sz]:=by
 have hlt:j < places.length:=by omega
 obtain⟨g,u,k,f,q,x,y,h1⟩:=hp _ (List.getElem_mem hlt)
 have hs:places[j]? =some [tI g,tI u,tI k,tB f,tI q,tI x,tI y]:=by rw[←h1];simp[hlt]
 obtain⟨h2,h3⟩:=JY hg hs
 have Om:g.toNat < sizes.length:=by omega
 obtain⟨sz,h4⟩:=hz _ (List.getElem_mem Om)
 exact⟨g,u,k,f,q,x,y,sz,by simpa using hs,h2,by rw[←h4];simp[Om]⟩
theorem xg (sn:ByteArray) (bz ms ps us ss os:Lz) (hS:gZ sn bz ms ps us ss os) (ln wd rx ry:Int) (sizes places plies ah bF:Lz) (hz:Is sizes) (gR:sizes.length≤maxLen) (fQ:KR places) (Bb:places.length≤1000000) (hR:DT ah) (Hw:ah.length≤6) (hlo:Is bF) (hy:E9 plies) (jT:plies.length≤1000000) (hB: ∀e,e∈plies→(nL 1 e).length≤1000) (aD:Lz) (pe:Int) (S7:Te 15 [fW sn bz ms ps us ss os,LS ln wd rx ry sizes places] [oL 1 aD,oI pe]) (JT:pe=0→KY sizes places bz.length aD):Tg 22 [fW sn bz ms ps us ss os,fM ln wd rx ry sizes places plies,oL 7 ah,oL 1 bF] (GPs ah sizes places aD plies (Ys pe ln wd aD ah bF plies)):=by
 refine aH ?_
 refine ae Tryz.func22 ?_
 repeat' (conv=>whnf
          first
  |(refine az (fun h=>?_) (fun h=>?_))
  |(refine bC (fun h=>?_) (fun h=>?_))
  |(have h7:=(JT (by assumption)).2.1;refine ak (xs:=aD) (JT (by assumption)).1 (by omega) (by omega) ?_;rintro _ ⟨poly,rfl,agH,agG⟩ S8;obtain⟨fN,pp,Y8,hpq⟩:=PU hy (i:=i) (by omega);have agF:pp.length≤maxLen:=(by have h3:pp.length≤1000:=hB _ (List.mem_of_getElem? Y8);simp only[maxLen];omega);obtain⟨g,u,k,f,q,x,y,sz,Ep,yx,hsz⟩:=I5 fQ hz (JT (by assumption)).2.2.1 (j:=j) (by omega))
  |(have h7:=(JT (by assumption)).2.1;have h8:=(hn.1 (by assumption)).n;have h9:=LQ QJ (plies:=plies) (by omega) h8 (by omega) hj;refine And.intro ⟨by simp[tr],by simp[tr,aT];omega,by simp[tr,maxLen];omega⟩ ?_)
  |(refine ag rfl (S7) ?_;rintro _ rfl)
  |(refine ag rfl (Av ln wd rx ry sizes places plies aD ah bF (JT (by assumption)).1 hR Hw hlo hy jT hB) ?_;rintro _ ⟨n,rfl,hn⟩)
  |(refine ag rfl (uR ln wd rx ry sizes places plies ah poly hR agH agG (i:Int) (j:Int) fN g u k q x y sz f pp hpq agF (by omega) (by simpa using Y8) (by omega) Ep yx hsz) ?_;rintro _ ⟨p1,q1,l1,s1,x1,d1,e1,rfl,Q9,Xn⟩)
  |exact dh rfl (bJ 6 rfl) (bN rfl) ⟨_,_,rfl,iff_of_false (by assumption) (fun hh=>absurd hh.pe (by assumption)),fun h0=>absurd h0 (by assumption),fun _=>rfl⟩
  |exact dh rfl (bJ 6 rfl) (bN rfl) ⟨_,_,rfl,iff_of_false (by assumption) (fun hh=>absurd (hn.2 hh.sp) (by assumption)),fun h0=>absurd h0 (by assumption),fun _=>rfl⟩
  |exact dh rfl (bJ 6 rfl) (bN rfl) ⟨_,_,rfl,iff_of_false (by assumption) (PX (i:=i) (j:=j) (by omega) (by omega) Y8 S8 (fun hh=>absurd (Q9.2 hh) (by assumption))),fun h0=>absurd h0 (by assumption),fun _=>rfl⟩
  |exact dh rfl (eO rfl rfl (xs:=zs) rfl (by omega)) (bN rfl) ⟨_,_,rfl,iff_of_true rfl ⟨by assumption,hn.1 (by assumption),fun a k ha hk=>hha a k (by omega) hk⟩,fun _=>by rw[dS rfl,hzs,show plies.length=i by omega],fun h=>absurd rfl h⟩
  |(apply aS [2,5,10,13,14,39,40,43,44,45] [] [13,45] [(4,7),(8,6)] (Z0 (cU ln wd rx ry sizes places plies) ah sizes places aD plies i) (aD.length) [bn 8 6 zs.length,iV .i64 0];(conv=>whnf);exact⟨rfl,rfl,rfl,rfl⟩;exact rfl;exact rfl;exact .cons (av.au (xs:=[cU ln wd rx ry sizes places plies]) rfl _) (.cons (av.au (xs:=zs) rfl _) .nil);exact⟨0,zs,by omega,rfl,rfl,rfl,by simpa[kz]using hzs,fun k hk=>by omega⟩;rintro _ _ _ ⟨j,xQ,hj,rfl,rfl,rfl,QJ,hhb⟩)
  |(refine aj [2,5,10,13,14,39,40,43,44,45] [] ?_;(conv=>whnf);exact⟨rfl,_,[_,_],_, .cons (av.au (xs:=[cU ln wd rx ry sizes places plies]) rfl _) (.cons (av.au (av.snoc (xs:=xQ) rfl [tI _,tI _,tI _,tI _,_,tB _]) _) .nil),Z0.next (by omega) (by have:=(JT (by assumption)).2.1;omega) QJ hhb Y8 S8 Ep hsz (Q9.1 (by assumption)) (Xn (by assumption)) (by simp[tr]),rfl,rfl,by omega⟩)
  |(apply dI [2,5,10,13,39,40] [] [13,40] [(4,7),(8,6)] (Z1 (cU ln wd rx ry sizes places plies) ah sizes places aD plies) (plies.length) [bn 8 6 0,iV .i64 0] (dL.iL 13 6 rfl);(conv=>whnf);exact⟨rfl,rfl,rfl,rfl⟩;exact rfl;exact rfl;exact .cons (av.au (xs:=[cU ln wd rx ry sizes places plies]) rfl _) (.cons (av.au av.nil _) .nil);exact⟨0,[],by omega,rfl,rfl,rfl,rfl,fun a k ha=>by omega⟩;rintro _ _ _ ⟨i,zs,hi,rfl,rfl,rfl,hzs,hha⟩)
  |(refine aj [2,5,10,13,39,40] [] ?_;(conv=>whnf);exact⟨rfl,_,[_,_],_, .cons (av.au (xs:=[cU ln wd rx ry sizes places plies]) rfl _) (.cons (av.au (xs:=xQ) rfl _) .nil),Z1.next (by omega) (hn.1 (by assumption)).n hj (by omega) (by have:=(JT (by assumption)).2.1;omega) QJ hha hhb,rfl,rfl,by omega⟩))
 all_goals (conv=>whnf)
end Go.aR.Cd
end
section
namespace Go.aR.Cd
open Go Go.Proofs
set_option maxRecDepth 100000
set_option maxHeartbeats 1000000
variable [BQ]
def Pq6 (e:List T):Prop:=(nL 1 e).length≤6
structure FwS (np nr:Nat) (plies:Lz):Prop where
 p:np≤12
 r:nr≤6
 q: ∀e,e∈plies→Pq6 e
structure FwC (sizes places plies ah bF:Lz):Prop where
 q:places.length≤20
 l:bF.length≤12
 f:FwS plies.length ah.length plies
structure SO (sn:ByteArray) (bz ms ps us ss os sizes places plies ah bF:Lz):Prop where
 YY:gZ sn bz ms ps us ss os
 hz:Is sizes
 gR:sizes.length≤maxLen
 hp:KR places
 fQ:places.length≤maxLen
 hy:E9 plies
 jT:plies.length≤maxLen
 hR:DT ah
 Hw:ah.length≤maxLen
 hlo:Is bF
def Le (size:Int) (c:List T):Bool:=decide (nI 3 c=size)&& !nB 5 c
def RCt (size:Int) (cuts:Lz) (m:Nat) (vs:List V):Prop:= ∃ (i:Nat) (n:Int),i≤cuts.length∧m=cuts.length - i∧vs=[iV .i64 n,iV .i64 (i:Int)]∧n=((cuts.take i).countP (Le size):Int)
theorem Dq {size:Int} {cuts:Lz} {i:Nat} {e:List T} (hs:cuts[((i:Int)).toNat]? =some e):(cuts.take (i+1)).countP (Le size)=(cuts.take i).countP (Le size)+if Le size e=true then 1 else 0:=by
 have hs':cuts[i]? =some e:=by simpa using hs
 rw[List.take_add_one,hs',List.countP_append]
 simp[List.countP_cons]
theorem RCt.hit {size p q l s:Int} {x:T} {d:Bool} {cuts:Lz} {i:Nat} {n:Int} (hi:(i:Int) < (cuts.length:Int)) (hl:cuts.length≤1000000) (hn:n=((cuts.take i).countP (Le size):Int)) (hs:cuts[((i:Int)).toNat]? =some [tI p,tI q,tI l,tI s,x,tB d]) (h1:s=size) (h2:(!d)=true):RCt size cuts (cuts.length - (i+1)) [iV .i64 (IntKind.i64.wrap (n+1)),iV .i64 (IntKind.i64.wrap ((i:Int)+1))]:=by
 have hb:(cuts.take i).countP (Le size)≤i:=Nat.le_trans List.countP_le_length (by rw[List.length_take];omega)
 refine⟨i+1,n+1,by omega,rfl,by rw[bi (by omega) (by omega),bi (by omega) (by omega)];rfl,?_⟩
 rw[Dq hs,if_pos (by subst h1;simp[Le,nI,nB];simpa using h2),hn]
 rfl
theorem RCt.fB {size p q l s:Int} {x:T} {d:Bool} {cuts:Lz} {i:Nat} {n:Int} (hi:(i:Int) < (cuts.length:Int)) (hl:cuts.length≤1000000) (hn:n=((cuts.take i).countP (Le size):Int)) (hs:cuts[((i:Int)).toNat]? =some [tI p,tI q,tI l,tI s,x,tB d]) (h:s≠size∨(!d)=false):RCt size cuts (cuts.length - (i+1)) [iV .i64 n,iV .i64 (IntKind.i64.wrap ((i:Int)+1))]:=by
 refine⟨i+1,n,by omega,rfl,by rw[bi (by omega) (by omega)];rfl,?_⟩
 rw[Dq hs,if_neg (by
  rcases h with h|h
  · simp[Le,nI,h]
  · simp[Le,nI,nB];intro _;simpa using h),hn]
 rfl
end Go.aR.Cd
end
section
namespace Go.aR.Cd
open Go Go.Proofs
set_option maxRecDepth 100000
set_option maxHeartbeats 1000000
variable [BQ]
theorem Jk {ah sizes places aD plies:Lz} {n:Nat} {c:List T} (h:c∈gM ah sizes places aD plies n): ∃a k,a < n∧k < aD.length∧c=Dn ah sizes places (pu plies a) a k (nL 0 (pu aD k)):=by
 simp only[gM,kz,List.mem_flatMap,List.mem_range,List.mem_map]at h
 obtain⟨a,ha,k,hk,rfl⟩:=h
 exact⟨a,k,ha,hk,rfl⟩
def szP (sizes:Lz) (e:List T):Int:=nI 0 (qm sizes (nI 0 e))
theorem Sc (xs:Lz) (k:Nat):qm xs (k:Int)=pu xs k:=by simp[qm,pu]
theorem RX (ah sizes places:Lz) (e:List T) (i k:Nat) (poly:Lz):nI 3 (Dn ah sizes places e i k poly)=szP sizes (pu places k):=by
 show nI 0 (qm sizes (nI 0 (qm places (k:Int))))=_
 rw[Sc]
 rfl
end Go.aR.Cd
end
section
namespace Go.aR
open Go
def Ym (R:TypeId→List T→Prop):List Field→List T→Prop
 | [],ts=>ts=[]
 |f::fs,ts=> ∃a b,ts=a++b∧R f.type a∧Ym R fs b
def TT (P:Program):Nat→TypeId→List T→Prop
 |0,_,_=>False
 |d+1,t,ts=>
  match P.underlying t with
  |some .bool=> ∃b,ts=[.val (.bool b)]
  |some (.int k)=> ∃n,ts=[.val (.int k n)]∧(Lit.int k n).wf=true
  |some .string=> ∃s,ts=[.val (.string s)]∧s.size≤maxLen
  |some (.slice e)=> ∃xs,ts=[.aA (P.cellsOf e) xs]∧xs.length≤maxLen∧ ∀x,x∈xs→TT P d e x
  |some (.struct fs)=>Ym (TT P d) fs.toList ts
  |_=>False
def tg (P:Program):Nat→List Field→Option Nat
 |off,[]=>some off
 |off,f::r=>if f.offset=off then tg P (off+P.cellsOf f.type) r else none
def iB (P:Program):Nat→TypeId→Bool
 |0,_=>false
 |d+1,t=>
  match P.underlying t with
  |some .bool|some (.int _)|some .string=>P.cellsOf t==1
  |some (.slice e)=>P.cellsOf t==1&&decide (0 < P.cellsOf e)&&iB P d e
  |some (.struct fs)=>tg P 0 fs.toList==some (P.cellsOf t)&&fs.toList.all fun f=>iB P d f.type
  |_=>false
def OM (w:World) (ts:List T) (cs:List Value):Prop:=
 ts.length=cs.length∧ ∀ (i:Nat) (t:T) (x:Value),ts[i]? =some t→cs[i]? =some x→RT w (fun _=>False) t x
theorem OM.append {w:World} {a b:List T} {c d:List Value} (h:OM w a c) (k:OM w b d):OM w (a++b) (c++d):=by
 refine⟨by simp[h.1,k.1],fun i t x ht hx=>?_⟩
 by_cases hi:i < a.length
 · rw[List.getElem?_append_left hi]at ht
   rw[List.getElem?_append_left (by rw[←h.1];exact hi)]at hx
   exact h.2 i t x ht hx
 · rw[List.getElem?_append_right (by omega)]at ht
   rw[List.getElem?_append_right (by rw[←h.1];omega), ←h.1]at hx
   exact k.2 _ t x ht hx
theorem qK {α β:Type} {f:α→Option β}: ∀ {l:List α} {r:List β},l.mapM f=some r→r.length=l.length∧ ∀ (i:Nat) (x:α),l[i]? =some x→ ∃y,r[i]? =some y∧f x=some y
 | [],r,h=>by simp at h;subst h;simp
 |x::l,r,h=>by
  simp only[List.mapM_cons,Option.bind_eq_bind,Option.bind_eq_some_iff]at h
  obtain⟨y,hy,r',dl,h⟩:=h
  simp only[pure,Option.some.injEq]at h
  subst h
  obtain⟨h1,h2⟩:=qK dl
  refine⟨by simp[h1],fun i z hz=>?_⟩
  cases i with
  |zero=>simp only[List.getElem?_cons_zero,Option.some.injEq]at hz;subst hz;exact⟨y,rfl,hy⟩
  |succ i=>simpa using h2 i z (by simpa using hz)
theorem EW {w:World} {b off n:Nat} {cs:List Value} (h:w.cells? 0 ⟨b,off,none⟩ n=some cs):cs.length=n∧ ∀ (j:Nat) (x:Value),cs[j]? =some x→w.cell? ⟨b,off+j,none⟩=some x:=by
 unfold World.cells? at h
 simp only[Nat.zero_le,if_true]at h
 obtain⟨h1,h2⟩:=qK h
 simp only[List.length_range]at h1
 refine⟨h1,fun j x hx=>?_⟩
 have hj:j < n:=by rw[←h1];exact(List.getElem?_eq_some_iff.1 hx).1
 obtain⟨y,hy,hc⟩:=h2 j j (by simp[hj])
 rw[hx]at hy
 simp only[Option.some.injEq]at hy
 subst hy
 simpa[Addr.add_lit]using hc
theorem GA {α:Type} (cs:List α) (off n:Nat):(cs.drop off).take n++cs.drop (off+n)=cs.drop off:=by
 rw[←List.drop_drop]
 exact List.take_append_drop n (cs.drop off)
theorem yY {H:Type} {enc:TypeId×Value→H} {P:Program} {w:World}: ∀ (d:Nat) (t:TypeId),iB P d t=true→ ∀ (fuel:Nat) (sp:Nat→Bool) (hd:Bool) (cs:List Value) (x:DataW H×List MemPlace),
 DataW.trod enc P w 0 sp hd fuel t cs=some x→cs.length=P.cellsOf t→ ∃ts,OM w ts cs∧TT P d t ts:=by
 intro d
 induction d with
 |zero=>intro t h;simp[iB]at h
 |succ d ih=>
  intro t hok fuel sp hd cs x h hlen
  cases fuel with
  |zero=>simp[DataW.trod]at h
  |succ fuel=>
   have one: ∀ {v:Value} {q:T},cs=[v]→RT w (fun _=>False) q v→OM w [q] cs:=by
    intro v q hcs hr
    subst hcs
    refine⟨rfl,fun i t x ht hx=>?_⟩
    cases i with
    |zero=>simp only[List.getElem?_cons_zero,Option.some.injEq]at ht hx;subst ht;subst hx;exact hr
    |succ i=>simp at ht
   unfold iB at hok
   unfold TT
   cases hu:P.underlying t with
   |none=>simp[hu]at hok
   |some dsc=>
    simp only[hu]at hok
    cases dsc with
    |bool=>
     simp only[beq_iff_eq]at hok
     rw[hok]at hlen
     obtain⟨v,rfl⟩:=List.length_eq_one_iff.1 hlen
     simp only[DataW.trod,hu]at h
     cases v<;>simp at h
     exact⟨_,one rfl (.val rfl),_,rfl⟩
    |int k=>
     simp only[beq_iff_eq]at hok
     rw[hok]at hlen
     obtain⟨v,rfl⟩:=List.length_eq_one_iff.1 hlen
     simp only[DataW.trod,hu]at h
     cases v<;>simp at h
     obtain⟨⟨rfl,hwf⟩,_⟩:=h
     exact⟨_,one rfl (.val rfl),_,rfl,hwf⟩
    |string=>
     simp only[beq_iff_eq]at hok
     rw[hok]at hlen
     obtain⟨v,rfl⟩:=List.length_eq_one_iff.1 hlen
     simp only[DataW.trod,hu]at h
     cases v<;>simp at h
     exact⟨_,one rfl (.val rfl),_,rfl,h.1⟩
    |slice e=>
     simp only[Bool.and_eq_true,beq_iff_eq,decide_eq_true_eq]at hok
     obtain⟨⟨hone,hpos⟩,hde⟩:=hok
     rw[hone]at hlen
     obtain⟨v,rfl⟩:=List.length_eq_one_iff.1 hlen
     cases v with
     |slice a len cap=>
      cases a with
      |none=>
       have h0:len=0∧cap=0:=by
        cases len<;>cases cap<;>simp[DataW.trod,hu]at h<;>simp
       obtain⟨rfl,rfl⟩:=h0
       exact⟨_,one rfl (.nil (sz:=P.cellsOf e)),[],rfl,by simp,by simp⟩
      |some a=>
       simp only[DataW.trod,hu]at h
       split at h
       · rename_i hc
         obtain⟨_,hlc,hcm⟩:=hc
         simp only[Option.bind_eq_some_iff]at h
         obtain⟨elems,hel,_⟩:=h
         obtain⟨k1,k2⟩:=qK hel
         simp only[List.length_range]at k1
         by_cases hz:len=0
         · subst hz
           exact⟨_,one rfl (.nil (sz:=P.cellsOf e)),[],rfl,by simp,by simp⟩
         ·
          have Xx: ∀i,i < len→ ∃ci xi,w.cells? 0 (a.add (i * P.cellsOf e)) (P.cellsOf e)=some ci∧DataW.trod enc P w 0 sp hd fuel e ci=some xi:=by
           intro i hi
           obtain⟨y,_,hy⟩:=k2 i i (by simp[hi])
           simp only[Option.bind_eq_some_iff]at hy
           obtain⟨ci,h1,h2⟩:=hy
           exact⟨ci,y,h1,h2⟩
          have Oc:a.spot=none:=by
           obtain⟨ci,_,h1,_⟩:=Xx 0 (by omega)
           simp only[Nat.zero_mul,Addr.add_zero']at h1
           unfold World.cells? at h1
           simp only[Nat.zero_le,if_true]at h1
           obtain⟨_,q2⟩:=qK h1
           obtain⟨y,_,hy⟩:=q2 0 0 (by simp[hpos])
           simp only[Addr.add_zero']at hy
           unfold World.cell? at hy
           split at hy
           · split at hy
             · simp at hy
             · rename_i hs;simpa using hs
           · simp at hy
          obtain⟨b,off,spot⟩:=a
          simp only at Oc
          subst Oc
          have hch: ∀i, ∃ts:List T,i < len→ ∃ci,(ci.length=P.cellsOf e∧ ∀ (j:Nat) (x:Value),ci[j]? =some x→w.cell? ⟨b,off+i * P.cellsOf e+j,none⟩=some x)∧OM w ts ci∧TT P d e ts:=by
           intro i
           by_cases hi:i < len
           · obtain⟨ci,xi,h1,h2⟩:=Xx i hi
             rw[Addr.add_lit]at h1
             have hg:=EW h1
             obtain⟨ts,t1,t2⟩:=ih e hde fuel sp hd ci xi h2 hg.1
             exact⟨ts,fun _=>⟨ci,hg,t1,t2⟩⟩
           · exact⟨[],fun h=>absurd h hi⟩
          obtain⟨g,hg⟩:=Classical.axiomOfChoice hch
          have hxs: ∀ (i:Nat) (el:List T),((List.range len).map g)[i]? =some el→i < len∧el=g i:=by
           intro i el hel
           have hi:i < len:=by have:=(List.getElem?_eq_some_iff.1 hel).1;simpa using this
           simp[hi]at hel
           exact⟨hi,hel.symm⟩
          have hbs:b < w.heap.size:=by
           obtain⟨ci,⟨q1,q2⟩,_⟩:=hg 0 (by omega)
           have h0:0 < ci.length:=by rw[q1];exact hpos
           have:=q2 0 ci[0] (by simp[h0])
           rcases Nat.lt_or_ge b w.heap.size with hl|hl
           · exact hl
           · simp[World.cell?,Array.getElem?_eq_none hl]at this
          refine⟨_,one rfl (.aA (sz:=P.cellsOf e) (xs:=(List.range len).map g) (fun i j=>(w.cell? ⟨b,off+i * P.cellsOf e+j,none⟩).getD undef) (by simp) hlc hbs (fun h=>h) ?_ ?_ ?_),(List.range len).map g,rfl,by simp;omega,?_⟩
          · intro el hel
            simp only[List.mem_map,List.mem_range]at hel
            obtain⟨i,hi,rfl⟩:=hel
            obtain⟨ci,q1,q2,_⟩:=hg i hi
            rw[q2.1,q1.1]
          · intro i el j c hel hj
            obtain⟨hi,rfl⟩:=hxs i el hel
            obtain⟨ci,q1,q2,_⟩:=hg i hi
            have yw:j < ci.length:=by rw[←q2.1];exact(List.getElem?_eq_some_iff.1 hj).1
            rw[q1.2 j ci[j] (by simp[yw])];rfl
          · intro i el j c hel hj
            obtain⟨hi,rfl⟩:=hxs i el hel
            obtain⟨ci,q1,q2,_⟩:=hg i hi
            have yw:j < ci.length:=by rw[←q2.1];exact(List.getElem?_eq_some_iff.1 hj).1
            rw[q1.2 j ci[j] (by simp[yw])]
            exact q2.2 j c ci[j] hj (by simp[yw])
          · intro el hel
            simp only[List.mem_map,List.mem_range]at hel
            obtain⟨i,hi,rfl⟩:=hel
            exact(hg i hi).choose_spec.2.2
       · simp at h
     |_=>simp[DataW.trod,hu]at h
    |struct fs=>
     simp only[Bool.and_eq_true,beq_iff_eq,List.all_eq_true]at hok
     obtain⟨htl,hall⟩:=hok
     simp only[DataW.trod,hu]at h
     rw[if_pos hlen]at h
     simp only[Option.map_eq_some_iff]at h
     obtain⟨xs,hxs,_⟩:=h
     have go: ∀ (l:List Field) (off:Nat) (ys:List (DataW H×List MemPlace)),(∀f,f∈l→iB P d f.type=true)→tg P off l=some cs.length→off≤cs.length→
      l.mapM (fun f=>DataW.trod enc P w 0 sp hd fuel f.type ((cs.drop f.offset).take (P.cellsOf f.type)))=some ys→ ∃ts,OM w ts (cs.drop off)∧Ym (TT P d) l ts:=by
      intro l
      induction l with
      |nil=>
       intro off ys _ ht agM _
       simp only[tg,Option.some.injEq]at ht
       subst ht
       exact⟨[],⟨by simp,by simp⟩,rfl⟩
      |cons f l ihl=>
       intro off ys hf ht agM hm
       simp only[tg]at ht
       split at ht
       · rename_i hfo
         simp only[List.mapM_cons,Option.bind_eq_bind,Option.bind_eq_some_iff]at hm
         obtain⟨y,hy,ys',aeY,_⟩:=hm
         have hend:off+P.cellsOf f.type≤cs.length:=by
          have mono: ∀ (l:List Field) (o e:Nat),tg P o l=some e→o≤e:=by
           intro l
           induction l with
           |nil=>intro o e h;simp only[tg,Option.some.injEq]at h;omega
           |cons f l ih=>intro o e h;simp only[tg]at h;split at h;exact Nat.le_trans (Nat.le_add_right _ _) (ih _ _ h);simp at h
          exact mono l _ _ ht
         obtain⟨ts2,r2,t2⟩:=ihl (off+P.cellsOf f.type) ys' (fun g hg=>hf g (by simp[hg])) ht hend aeY
         rw[hfo]at hy
         obtain⟨ts1,r1,t1⟩:=ih f.type (hf f (by simp)) fuel sp hd _ y hy (by simp;omega)
         refine⟨ts1++ts2,?_,ts1,ts2,rfl,t1,t2⟩
         rw[←GA cs off (P.cellsOf f.type)]
         exact r1.append r2
       · simp at ht
     have:=go fs.toList 0 xs (fun f hf=>hall f hf) (by rw[htl,hlen]) (Nat.zero_le _) hxs
     simpa using this
    |_=>simp at hok
end Go.aR
end
section
namespace Go.aR
open Go Go.RowKit Go.ChangeShapes Go.WideShapes
variable {H:Type} {enc:TypeId×Value→H} {P:Program}
def LX (P:Program) (t:TypeId) (ts:List T):W:=
 match jw P t with
 |some true=> .agg (ts.map .t)
 |_=>match ts with
  | [x]=> .one (.t x)
  |_=> .agg (ts.map .t)
theorem KD {W:World} {sp:Nat→Bool} {base d:Nat} {t:TypeId} {v:Value} {x:DataW H} {p:List MemPlace} {ρ:Env} (hok:Value.okWide P W .any base t v) (hr:DataW.Trod enc P W 0 sp true t v x p) (hd:iB P (d+1) t=true):
 ∃ts,TT P (d+1) t ts∧RW W (fun _=>False) ρ (LX P t ts) v:=by
 obtain⟨fuel,hr⟩:=hr
 unfold Value.okWide at hok
 have Bk:=hd
 unfold iB at Bk
 cases hu:P.underlying t with
 |none=>simp[hu]at Bk
 |some dsc=>
  simp only[hu]at hok Bk
  have rq:jw P t=some false→v.oneCell'=true→P.cellsOf t=1→ ∃ts,TT P (d+1) t ts∧RW W (fun _=>False) ρ (LX P t ts) v:=by
   intro hagg hv hone
   have hvc:v.cells.toList=[v]:=by cases v<;>simp[Value.oneCell']at hv<;>rfl
   rw[hvc]at hr
   obtain⟨ts,h1,h2⟩:=yY (d+1) t hd fuel sp true [v] _ hr (by simp[hone])
   refine⟨ts,h2,?_⟩
   have hl:ts.length=1:=by simpa using h1.1
   obtain⟨q,rfl⟩:=List.length_eq_one_iff.1 hl
   simp only[LX,hagg]
   exact⟨h1.2 0 q v rfl rfl,hv⟩
  cases dsc with
  |struct fs=>
   simp only at hok
   obtain⟨cs,rfl,hsz,_⟩:=hok
   obtain⟨ts,h1,h2⟩:=yY (d+1) t hd fuel sp true cs.toList _ hr (by simpa using hsz)
   refine⟨ts,h2,?_⟩
   have hagg:jw P t=some true:=by simp[jw,hu]
   simp only[LX,hagg]
   refine⟨cs,rfl,by simpa using h1.1,fun k c x hk hx=>?_⟩
   simp only[List.getElem?_map,Option.map_eq_some_iff]at hk
   obtain⟨q,hq,rfl⟩:=hk
   have:=h1.2 k q x hq (by simpa using hx)
   exact⟨this,this.cell⟩
  |bool=>
   simp only[beq_iff_eq]at Bk
   refine rq (by simp[jw,hu]) ?_ Bk
   cases v<;>simp_all[Cell.okWide,Cell.ok,Value.oneCell']
  |int k=>
   simp only[beq_iff_eq]at Bk
   refine rq (by simp[jw,hu]) ?_ Bk
   cases v<;>simp_all[Cell.okWide,Cell.ok,Value.oneCell']
  |string=>
   simp only[beq_iff_eq]at Bk
   refine rq (by simp[jw,hu]) ?_ Bk
   cases v<;>simp_all[Cell.okWide,Cell.ok,Value.oneCell']
  |slice e=>
   simp only[Bool.and_eq_true,beq_iff_eq]at Bk
   refine rq (by simp[jw,hu]) ?_ Bk.1.1
   cases v<;>simp_all[Cell.okWide,Cell.ok,Value.oneCell']
  |_=>simp at Bk
def Typed (P:Program) (d:Nat):List TypeId→List W→Prop
 | [],us=>us=[]
 |t::ts,us=> ∃a r,us=LX P t a::r∧TT P d t a∧Typed P d ts r
theorem z7 {W:World} {base d:Nat} {ρ:Env}: ∀ {ts:List TypeId} {vs:List Value} {ds:List (DataW H)} {ps:List MemPlace},DataW.TrodAll enc P W 0 (fun _=>true) true ts vs ds ps→
 (∀ (j:Nat) (t:TypeId) (v:Value),ts[j]? =some t→vs[j]? =some v→Value.okWide P W .any base t v)→(∀t,t∈ts→iB P (d+1) t=true)→ ∃us,Typed P (d+1) ts us∧vq W (fun _=>False) ρ us vs
 | [],vs,ds,ps,h,_,_=>by
   obtain⟨rfl,_⟩:=trodAll_nil h
   exact⟨[],rfl,rfl,by simp⟩
 |t::ts,vs,ds,ps,h,hval,Zl=>by
  obtain⟨v,vs',x,ds',p,q,rfl,rfl,rfl,h1,h2⟩:=trodAll_cons h
  obtain⟨a,ha,Zb⟩:=KD (ρ:=ρ) (hval 0 t v rfl rfl) h1 (Zl t (by simp))
  obtain⟨us,hu,hl,hru⟩:=z7 (ρ:=ρ) h2 (fun j t' v' ht hv=>hval (j+1) t' v' (by simpa using ht) (by simpa using hv)) (fun t' ht=>Zl t' (by simp[ht]))
  refine⟨LX P t a::us,⟨a,us,rfl,ha,hu⟩,by simp[hl],fun k u y hk hy=>?_⟩
  cases k with
  |zero=>
   simp only[List.getElem?_cons_zero,Option.some.injEq]at hk hy
   subst hk
   subst hy
   exact Zb
  |succ k=>exact hru k u y (by simpa using hk) (by simpa using hy)
theorem xB (hl:laidOutB P=true) {W W':World} (hb:Below W.heap.size W W'): ∀ {ts:List TypeId} {vs:List Value} {ds:List (DataW H)} {ps:List MemPlace},DataW.TrodAll enc P W 0 (fun _=>true) true ts vs ds ps→
 (∀t,t∈ts→P.readableRec t=true∧t < P.types.size)→DataW.TrodAll enc P W' 0 (fun b=>decide (b < W.heap.size)) true ts vs ds ps
 | [],vs,ds,ps,h,_=>by
   obtain⟨rfl,rfl,rfl⟩:=trodAll_nil h
   exact trodAll_mk0
 |t::ts,vs,ds,ps,h,ht=>by
  have hlt:=h.lt
  obtain⟨v,vs',x,ds',p,q,rfl,rfl,rfl,h1,h2⟩:=trodAll_cons h
  have h3:=Below.trod hl (ht t (by simp)).1 (ht t (by simp)).2 h1 hb (fun z hz=>hlt z (by simp[hz]))
  exact trodAll_cons_mk h3 (xB hl hb h2 (fun t' h'=>ht t' (by simp[h'])))
theorem BI {W W':World} (h:cJ (fun b=>W.heap.size≤b) W W'):Below W.heap.size W W':=
 ⟨h.os,h.tape,h.output,h.size,fun k hk=>h.block k hk (by omega)⟩
theorem G9 {f:FuncId} {fn:Func} {s:ChangeSpec} {d:Nat} {W:World} {base:Nat} {args:Array Value} {ds gs:List (DataW H)} {before:List MemPlace}
 (hl:laidOutB P=true) (hvars:s.vars=[]) (hres:fn.resultTypes= #[4]) (XE:P.underlying 4=some .bool) (WK: ∀ds:List (DataW H),ds.length=fn.params.size→(s.fn H ds).results=[.lit (.bool true)]∧(s.fn H ds).args=ds∧(s.fn H ds).vars=[])
 (Zl: ∀t,t∈fn.params.toList→iB P (d+1) t=true) (hrd: ∀t,t∈fn.params.toList→P.readableRec t=true∧t < P.types.size)
 (XL: ∀us,Typed P (d+1) fn.params.toList us→Fn P f us [] (.w (.one (.t (.val (.bool true))))) [])
 (hval: ∀ (j:Nat) t v,fn.params[j]? =some t→args[j]? =some v→Value.okWide P W .any base t v)
 (Xp:yR (fun b=>W.heap.size≤b) (fun _=>False) W)
 (hW:DataW.Whole enc P fn.params.toList s.vars false W args.toList ds gs before):
 Calls P f args W fun e W'=> ∃v,e= .returned v∧s.post enc P fn false true false false W args v W':=by
 have hW':=hW
 obtain⟨p,q,hA,hV,rfl,hfz,Hq⟩:=hW
 rw[hvars]at hV
 obtain⟨rfl,rfl⟩:=trodVars_none hV
 obtain⟨us,hu,hru⟩:=z7 (ρ:=fun _=>none) hA (fun j t v ht hv=>hval j t v (by simpa using ht) (by simpa using hv)) Zl
 have hH:HR (fun b=>oM (fun _=>none) [] b∨W.heap.size≤b) (fun _=>False) (fun _=>none) (bg 4) [] W:=
  ⟨rfl,rfl,fun t v hv=>by simp[find]at hv,fun id b hb=>by simp[find]at hb,fun id id' b b' c hb=>by simp[find]at hb,fun _ _=>rfl,fun _ h=>h.elim,fun b hb=> .inr hb,Xp.sub (fun b hb hm=>hm.elim (fun ho=>by obtain⟨_,_,hf,_⟩:=ho;simp[find]at hf) (fun hl=>hl)) (fun _ h=>h)⟩
 refine(XL us hu W (fun _=>False) (fun _=>none) args hH hru).mono ?_
 rintro e W' ⟨x,A',ρ',F',rfl,hv,_,dJ,_,_⟩
 have hM:(fun b=>oM (fun _=>none) [] b∨W.heap.size≤b)=fun b=>W.heap.size≤b:=by funext b;simp[oM,find]
 rw[hM]at dJ
 have hb:=BI dJ
 have hx:x= .bool true:=V.bh (u:= .w (.one (.t (.val (.bool true))))) rfl hv
 subst hx
 have hlen:ds.length=fn.params.size:=by
  have len: ∀ {ts:List TypeId} {vs:List Value} {ds:List (DataW H)} {ps:List MemPlace},DataW.TrodAll enc P W 0 (fun _=>true) true ts vs ds ps→ds.length=ts.length:=by
   intro ts
   induction ts with
   |nil=>intro vs ds ps h;obtain⟨_,rfl,_⟩:=trodAll_nil h;rfl
   |cons t ts ih=>intro vs ds ps h;obtain⟨_,_,_,_,_,_,_,rfl,_,_,h2⟩:=trodAll_cons h;simp[ih h2]
  simpa using len hA
 obtain⟨s1,s2,s3⟩:=WK (ds++[]) (by simpa using hlen)
 refine⟨_,rfl,ds,[],_,[],p,[],hW',?_,?_,?_,hb.frame _,fun h=>by simp at h⟩
 · rw[s1,hres]
   exact trodAll_mk1 ⟨1,by simp[DataW.trod,Value.cells,XE]⟩
 · rw[s2]
   simpa using xB hl hb hA hrd
 · rw[s3,hvars]
   rfl
end Go.aR
end
section
namespace Go.aR.Cd
open Go Go.Proofs
set_option maxRecDepth 100000
set_option maxHeartbeats 1000000
def GTr (ts:List W):Prop:=ts=[oB true]
inductive Sh where
 |int
 |u8
 |bool
 |str
 |sl (cs:List Sh)
mutual
def IsT:Sh→T→Prop
 | .int,t=> ∃n,t= .val (.int .i64 n)
 | .u8,t=> ∃n:Int,t= .val (.int .u8 n)∧0≤n∧n < 256
 | .bool,t=> ∃b,t= .val (.bool b)
 | .str,t=> ∃s,t= .val (.string s)∧s.size≤maxLen
 | .sl cs,t=> ∃xs,t= .aA cs.length xs∧xs.length≤maxLen∧ ∀x,x∈xs→jb cs x
def jb:List Sh→List T→Prop
 | [],ts=>ts=[]
 |s::r,ts=> ∃t q,ts=t::q∧IsT s t∧jb r q
end
def qy (f:TypeId→Option (List Sh)):List Field→Option (List Sh)
 | []=>some []
 |x::r=>match f x.type,qy f r with
  |some a,some b=>some (a++b)
  |_,_=>none
def shapeOf (P:Program):Nat→TypeId→Option (List Sh)
 |0,_=>none
 |d+1,t=>match P.underlying t with
  |some .bool=>some [.bool]
  |some (.int .i64)=>some [.int]
  |some (.int .u8)=>some [.u8]
  |some .string=>some [.str]
  |some (.slice e)=>match shapeOf P d e with
   |some cs=>if P.cellsOf e=cs.length then some [.sl cs]else none
   |none=>none
  |some (.struct fs)=>qy (shapeOf P d) fs.toList
  |_=>none
theorem jb.append: ∀ {a b:List Sh} {x y:List T},jb a x→jb b y→jb (a++b) (x++y)
 | [],b,x,y,h,k=>by simp only[jb]at h;subst h;exact k
 |s::r,b,x,y,h,k=>by
  obtain⟨t,q,rfl,h1,h2⟩:=h
  exact⟨t,q++y,rfl,h1,h2.append k⟩
theorem nx {P:Program}: ∀ {d:Nat} {t:TypeId} {ts:List T} {eN:List Sh},TT P d t ts→shapeOf P d t=some eN→jb eN ts
 |0,t,ts,eN,h,_=>h.elim
 |d+1,t,ts,eN,h,hs=>by
  have fields: ∀ {fs:List Field} {ts:List T} {eN:List Sh},Ym (TT P d) fs ts→qy (shapeOf P d) fs=some eN→jb eN ts:=by
   intro fs
   induction fs with
   |nil=>
    intro ts eN h hs
    simp only[qy,Option.some.injEq]at hs
    subst hs
    simpa[jb,Ym]using h
   |cons f r ih=>
    intro ts eN h hs
    obtain⟨a,b,rfl,h1,h2⟩:=h
    simp only[qy]at hs
    split at hs
    · rename_i x y hx hy
      simp only[Option.some.injEq]at hs
      subst hs
      exact(nx h1 hx).append (ih h2 hy)
    · simp at hs
  simp only[TT]at h
  simp only[shapeOf]at hs
  split at h
  · rename_i hu
    simp only[hu,Option.some.injEq]at hs
    subst hs
    obtain⟨b,rfl⟩:=h
    exact⟨_,_,rfl,⟨b,rfl⟩,rfl⟩
  · rename_i k hu
    obtain⟨n,rfl,hw⟩:=h
    cases k<;>simp only[hu]at hs<;>simp at hs<;>subst hs
    all_goals first
     |exact⟨_,_,rfl,⟨n,rfl⟩,rfl⟩
     |(refine⟨_,_,rfl,⟨n,rfl,?_⟩,rfl⟩
       simp only[Lit.wf,Bool.and_eq_true,decide_eq_true_eq]at hw
       have h1:(0:Int)≤n:=hw.1
       have h2:n≤(255:Int):=hw.2
       exact⟨h1,by omega⟩)
  · rename_i hu
    simp only[hu,Option.some.injEq]at hs
    subst hs
    obtain⟨s,rfl,hs⟩:=h
    exact⟨_,_,rfl,⟨s,rfl,hs⟩,rfl⟩
  · rename_i e hu
    simp only[hu]at hs
    obtain⟨xs,rfl,h1,h2⟩:=h
    split at hs
    · rename_i cs hcs
      split at hs
      · rename_i hlen
        simp only[Option.some.injEq]at hs
        subst hs
        exact⟨_,_,rfl,⟨xs,by rw[hlen],h1,fun x hx=>nx (h2 x hx) hcs⟩,rfl⟩
      · simp at hs
    · simp at hs
  · rename_i fs hu
    simp only[hu]at hs
    exact fields h hs
  · exact h.elim
abbrev OA:List Sh:=[.str, .sl [.int, .int]]
abbrev I7:List Sh:=[.str, .sl OA, .int, .sl [.int, .int], .sl [.int, .int], .sl [.int], .bool]
abbrev opS:List Sh:=[.str, .int, .int, .sl [.int], .sl [.int]]
abbrev NS:List Sh:=[.int, .int, .int, .int, .bool, .int]
abbrev I6:List Sh:=[.int, .int, .int, .bool, .int, .int, .int]
abbrev PV:List Sh:=[.int, .sl [.int, .int, .int, .int]]
abbrev bdS:List Sh:=[.int, .int, .int, .int, .int, .int]
abbrev ctS:List Sh:=[.int, .int, .int, .int, .sl [.int], .bool]
abbrev grS:List Sh:=[.int, .int, .int, .int, .sl [.int]]
abbrev OF:List Sh:=[.str, .sl [.str], .sl [.int], .sl I7, .sl [.int, .int, .bool], .sl NS, .sl opS, .int, .int, .int, .int, .sl [.int], .sl I6, .sl PV, .sl bdS, .sl ctS]
theorem aeO {e:List T} (h:jb [.int] e):IsI e:=by
 obtain⟨_,_,rfl,⟨a,rfl⟩,rfl⟩:=h
 exact⟨a,rfl⟩
theorem Ek {xs:Lz} (h: ∀x,x∈xs→jb [.int] x):Is xs:=fun e he=>aeO (h e he)
theorem PF {xs:Lz} (h: ∀x,x∈xs→jb [.int, .int] x):bY xs:=fun e he=>by
 obtain⟨_,_,rfl,⟨a,rfl⟩,_,_,rfl,⟨b,rfl⟩,rfl⟩:=h e he
 exact⟨a,b,rfl⟩
theorem adE {xs:Lz} (h: ∀x,x∈xs→jb [.str] x):Yn xs:=fun e he=>by
 obtain⟨_,_,rfl,⟨a,rfl,ha⟩,rfl⟩:=h e he
 exact⟨a,rfl,ha⟩
theorem RO {xs:Lz} (h: ∀x,x∈xs→jb OA x):kq xs:=fun e he=>by
 obtain⟨_,_,rfl,⟨s,rfl,hs⟩,_,_,rfl,⟨ys,rfl,hl,hy⟩,rfl⟩:=h e he
 exact⟨s,ys,rfl,hs,PF hy,hl⟩
theorem adR {xs:Lz} (h: ∀x,x∈xs→jb I7 x): ∀e,e∈xs→NA e:=fun e he=>by
 obtain⟨_,_,rfl,⟨s,rfl,hs⟩,_,_,rfl,⟨es,rfl,hel,jI⟩,_,_,rfl,⟨g,rfl⟩,_,_,rfl,⟨ns,rfl,hnl,hns⟩,_,_,rfl,⟨cs,rfl,dA,hcs⟩,_,_,rfl,⟨ws,rfl,BT,Hl⟩,_,_,rfl,⟨m,rfl⟩,rfl⟩:=h e he
 exact⟨s,es,g,ns,cs,ws,m,rfl,hs,⟨RO jI,hel⟩,⟨PF hns,hnl⟩,⟨PF hcs,dA⟩,Ek Hl,BT⟩
theorem abK {xs:Lz} (h: ∀x,x∈xs→jb [.int, .int, .bool] x): ∀e,e∈xs→Yw e:=fun e he=>by
 obtain⟨_,_,rfl,⟨a,rfl⟩,_,_,rfl,⟨b,rfl⟩,_,_,rfl,⟨c,rfl⟩,rfl⟩:=h e he
 exact⟨a,b,c,rfl⟩
theorem adK {xs:Lz} (h: ∀x,x∈xs→jb NS x): ∀e,e∈xs→Yy e:=fun e he=>by
 obtain⟨_,_,rfl,⟨a,rfl⟩,_,_,rfl,⟨b,rfl⟩,_,_,rfl,⟨c,rfl⟩,_,_,rfl,⟨d,rfl⟩,_,_,rfl,⟨q,rfl⟩,_,_,rfl,⟨f,rfl⟩,rfl⟩:=h e he
 exact⟨a,b,c,d,q,f,rfl⟩
theorem aeB {xs:Lz} (h: ∀x,x∈xs→jb opS x): ∀e,e∈xs→Fc e:=fun e he=>by
 obtain⟨_,_,rfl,⟨s,rfl,hs⟩,_,_,rfl,⟨a,rfl⟩,_,_,rfl,⟨b,rfl⟩,_,_,rfl,⟨af,rfl,Mt,Ti⟩,_,_,rfl,⟨us,rfl,En,fP⟩,rfl⟩:=h e he
 exact⟨s,a,b,af,us,rfl,hs,⟨Ek Ti,Mt⟩,Ek fP,En⟩
theorem VO {xs:Lz} (h: ∀x,x∈xs→jb I6 x):KR xs:=fun e he=>by
 obtain⟨_,_,rfl,⟨a,rfl⟩,_,_,rfl,⟨b,rfl⟩,_,_,rfl,⟨c,rfl⟩,_,_,rfl,⟨d,rfl⟩,_,_,rfl,⟨q,rfl⟩,_,_,rfl,⟨f,rfl⟩,_,_,rfl,⟨g,rfl⟩,rfl⟩:=h e he
 exact⟨a,b,c,d,q,f,g,rfl⟩
theorem VH {xs:Lz} (h: ∀x,x∈xs→jb PV x):SA xs:=fun e he=>by
 obtain⟨_,_,rfl,⟨a,rfl⟩,_,_,rfl,⟨q,rfl,_⟩,rfl⟩:=h e he
 exact⟨a,q,rfl⟩
end Go.aR.Cd
end
section
namespace Go.aR.Cd
open Go Go.Proofs
set_option maxRecDepth 100000
set_option maxHeartbeats 1000000
abbrev NU:List Sh:=[.str, .int, .int, .int, .int, .int, .sl [.int, .int, .int, .int]]
theorem VG {xs:Lz} (h: ∀x,x∈xs→jb [.int, .int, .int, .int] x):DE xs:=fun e he=>by
 obtain⟨_,_,rfl,⟨a,rfl⟩,_,_,rfl,⟨b,rfl⟩,_,_,rfl,⟨c,rfl⟩,_,_,rfl,⟨d,rfl⟩,rfl⟩:=h e he
 exact⟨a,b,c,d,rfl⟩
theorem adP {xs:Lz} (h: ∀x,x∈xs→jb PV x):E9 xs:=fun e he=>by
 obtain⟨_,_,rfl,⟨a,rfl⟩,_,_,rfl,⟨q,rfl,_,hq⟩,rfl⟩:=h e he
 exact⟨a,q,rfl,VG hq⟩
theorem adN {xs:Lz} (h: ∀x,x∈xs→jb NU x):DT xs:=fun e he=>by
 obtain⟨_,_,rfl,⟨s,rfl,hs⟩,_,_,rfl,⟨a,rfl⟩,_,_,rfl,⟨b,rfl⟩,_,_,rfl,⟨c,rfl⟩,_,_,rfl,⟨d,rfl⟩,_,_,rfl,⟨g,rfl⟩,_,_,rfl,⟨fl,rfl,hl,hf⟩,rfl⟩:=h e he
 exact⟨s,a,b,c,d,g,fl,rfl,hs,VG hf,hl⟩
end Go.aR.Cd
end
section
namespace Go.aR
open Go
variable {P:Program} {w:World} {A:Nat→Prop} {ρ:Env}
def Yv (a b:T):Prop:=a=b∨(a=fk∧ ∃s,b= .aA s [])
def LeE (e e':List T):Prop:=e.length=e'.length∧ ∀ (k:Nat) (a b:T),e[k]? =some a→e'[k]? =some b→Yv a b
def LeL (xs ys:Lz):Prop:=xs.length=ys.length∧ ∀ (i:Nat) (e e':List T),xs[i]? =some e→ys[i]? =some e'→LeE e e'
theorem RT.le1 {a b:T} {v:Value} (h:Yv a b) (hr:RT w A a v):RT w A b v:=by
 rcases h with rfl|⟨rfl,s,rfl⟩
 · exact hr
 · cases hr
   exact RT.nil
theorem RT.deep {sz:Nat} {xs ys:Lz} {v:Value} (hle:LeL xs ys) (h:RT w A (.aA sz xs) v):RT w A (.aA sz ys) v:=by
 obtain⟨hl,he⟩:=hle
 have back: ∀ {i:Nat} {e':List T},ys[i]? =some e'→ ∃e,xs[i]? =some e∧LeE e e':=by
  intro i e' hi
  have hlt:i < xs.length:=by have:=(List.getElem?_eq_some_iff.1 hi).1;omega
  exact⟨xs[i],by simp[hlt],he i _ _ (by simp[hlt]) hi⟩
 cases h with
 |nil=>
  have:ys=[]:=by cases ys with|nil=>rfl|cons=>simp at hl
  subst this
  exact RT.nil
 |aA f h1 h2 h3 h4 h5 h6 h7=>
  refine .aA f (by omega) h2 h3 h4 (fun e' he'=>?_) (fun i e' j c' hi hj=>?_) (fun i e' j c' hi hj=>?_)
  · obtain⟨i,hi,rfl⟩:=List.getElem_of_mem he'
    obtain⟨e,g1,g2,_⟩:=back (i:=i) (e':=ys[i]) (by simp[hi])
    rw[←g2]
    exact h5 e (List.mem_of_getElem? g1)
  · obtain⟨e,g1,g2,g3⟩:=back hi
    have hlt:j < e.length:=by have:=(List.getElem?_eq_some_iff.1 hj).1;omega
    exact h6 i e j e[j] g1 (by simp[hlt])
  · obtain⟨e,g1,g2,g3⟩:=back hi
    have hlt:j < e.length:=by have:=(List.getElem?_eq_some_iff.1 hj).1;omega
    exact RT.le1 (g3 j e[j] c' (by simp[hlt]) hj) (h7 i e j e[j] g1 (by simp[hlt]))
theorem Fn.Sd {f:FuncId} {args args':List W} {hin hout:List (Nat×bu)} {res:V} (hle: ∀ (w:World) (A:Nat→Prop) (ρ:Env) (xs:List Value),vq w A ρ args' xs→vq w A ρ args xs) (h:Fn P f args hin res hout):Fn P f args' hin res hout:=
 fun w A ρ xs hH hx=>h w A ρ xs hH (hle w A ρ xs.toList hx)
end Go.aR
end
section
namespace Go.aR.Cd
open Go Go.Proofs
set_option maxRecDepth 100000
set_option maxHeartbeats 1000000
variable [BQ]
def wj (e:List T):List T:=e.set 6 (.val (.slice none 0 0))
def Ih (e:List T):List T:=e.set 6 (.aA 4 [])
theorem R5 {e:List T} (h:SF e):SF (Ih e):=by
 obtain⟨id,w,l,a,b,c,fl,rfl,h1,h2,h3⟩:=h
 exact⟨id,w,l,a,b,c,[],rfl,h1,fun e he=>by simp at he,by simp⟩
theorem HG {hp:HS} {d id sz len:Nat} {rows:List (List C)} {xs:Lz} (hf:find hp id=some (.row sz rows)) (hR:av rows xs) (hl:len=xs.length):cW (d+1) hp (.own id sz 0 len)=some (.aA sz xs):=by
 have hl':0+len≤rows.length:=by rw[hR.len];omega
 simp only[cW,hf,true_and,hl',if_true]
 rw[hR,vF,sI,hl]
 simp
end Go.aR.Cd
end
section
namespace Go.aR.Cd
open Go Go.Proofs
set_option maxRecDepth 100000
set_option maxHeartbeats 1000000
abbrev csT (sn:ByteArray) (bz ms ps us ss os:Lz) (ln wd rx ry:Int) (sizes places plies bs cuts:Lz):List T:=
 [.val (.string sn), .aA 1 bz, .aA 1 ms, .aA 7 ps, .aA 3 us, .aA 6 ss, .aA 5 os,tI ln,tI wd,tI rx,tI ry, .aA 1 sizes, .aA 7 places, .aA 2 plies, .aA 6 bs, .aA 6 cuts]
theorem ajM {xs:Lz} (h: ∀x,x∈xs→jb ctS x):Im xs:=fun e he=>by
 obtain⟨_,_,rfl,⟨a,rfl⟩,_,_,rfl,⟨b,rfl⟩,_,_,rfl,⟨c,rfl⟩,_,_,rfl,⟨d,rfl⟩,_,_,rfl,⟨rs,rfl,_⟩,_,_,rfl,⟨f,rfl⟩,rfl⟩:=h e he
 exact⟨a,b,c,d,rs,f,rfl⟩
abbrev KX:Prop:=Te 21 [] [oB true]
end Go.aR.Cd
end
section
namespace Go.aR
open Go
theorem LJ {us:List W} {k sz:Nat} {xs ys:Lz} (hle:LeL xs ys) (hk:us[k]? =some (.one (.t (.aA sz xs)))) (w:World) (A:Nat→Prop) (ρ:Env) (vs:List Value) (h:vq w A ρ us vs):vq w A ρ (us.set k (.one (.t (.aA sz ys)))) vs:=by
 refine⟨by rw[List.length_set];exact h.1,fun q u x hu hx=>?_⟩
 by_cases hq:k=q
 · subst hq
   have hlt:=(List.getElem?_eq_some_iff.1 hk).1
   rw[List.getElem?_set_self hlt,Option.some.injEq]at hu
   subst hu
   obtain⟨h1,h2⟩:=h.2 k _ x hk hx
   exact⟨RT.deep hle h1,h2⟩
 · rw[List.getElem?_set_ne hq]at hu
   exact h.2 q u x hu hx
end Go.aR
namespace Go.aR.Cd
open Go Go.Proofs
set_option maxRecDepth 100000
set_option maxHeartbeats 1000000
theorem L4 (ah:Lz):LeL (ah.map wj) (ah.map Ih):=by
 refine⟨by simp,fun i e e' h1 h2=>?_⟩
 simp only[List.getElem?_map,Option.map_eq_some_iff]at h1 h2
 obtain⟨a,ha,rfl⟩:=h1
 obtain⟨b,hb,rfl⟩:=h2
 rw[ha]at hb
 cases hb
 refine⟨by simp[wj,Ih],fun k x y h1 h2=>?_⟩
 unfold wj at h1
 unfold Ih at h2
 by_cases hk:6=k
 · subst hk
   have h6:6 < a.length:=by have:=(List.getElem?_eq_some_iff.1 h1).1;simpa using this
   rw[List.getElem?_set_self h6]at h1 h2
   cases h1
   cases h2
   exact .inr ⟨rfl,4,rfl⟩
 · rw[List.getElem?_set_ne hk]at h1 h2
   rw[h1]at h2
   cases h2
   exact .inl rfl
variable [BQ]
theorem R4 {ah:Lz} (h:DT ah):DT (ah.map Ih):=fun e he=>by
 obtain⟨a,ha,rfl⟩:=List.mem_map.1 he
 exact R5 (h a ha)
omit [BQ]in
theorem X7 {ah:Lz} (hR:DT ah) (r:Int):nL 6 (qm (ah.map Ih) r)=[]:=by
 unfold qm
 rw[List.getElem?_map]
 cases hr:ah[r.toNat]? with
 |none=>rfl
 |some a=>
  obtain⟨id,w,l,a,b,c,fl,rfl,_⟩:=hR _ (List.mem_of_getElem? hr)
  rfl
theorem X6 {ah:Lz} (hR:DT ah) (l:Int) (ps poly:Lz):(Lc l ps (ah.map Ih) poly).1=false:=by
 unfold Lc
 rw[X7 hR]
 rfl
omit [BQ]in
theorem Ct {g:Int} {fi:Nat→Option Nat} {places:Lz} (h: ∀j p,places[j]? =some p→nI 0 p=g→(fi j).isSome=true): ∀n, ∃zs,eD g fi places n=some zs
 |0=>⟨[],rfl⟩
 |n+1=>by
  obtain⟨zs,hz⟩:=Ct h n
  simp only[eD,hz]
  cases hp:places[n]? with
  |none=>exact⟨zs,rfl⟩
  |some p=>
   simp only
   by_cases hg:nI 0 p=g
   · rw[if_pos hg]
     obtain⟨i,hi⟩:=Option.isSome_iff_exists.1 (h n p hp hg)
     rw[hi]
     exact⟨_,rfl⟩
   · rw[if_neg hg]
     exact⟨zs,rfl⟩
theorem I9 {ah sizes places aD plies:Lz} (hR:DT ah) (hp:aD.length=places.length) {g:Int} {a:Nat} (ha:a < plies.length):
 ∃zs,DJ sizes places plies (gM (ah.map Ih) sizes places aD plies plies.length) g (a:Int)=some zs:=by
 refine Ct (fun j p hj hg=>?_) _
 unfold F4
 rw[List.findIdx?_isSome,List.any_eq_true]
 have yw:=(List.getElem?_eq_some_iff.1 hj).1
 refine⟨Dn (ah.map Ih) sizes places (pu plies a) a j (nL 0 (pu aD j)),?_,?_⟩
 · simp only[gM,kz,List.mem_flatMap,List.mem_range,List.mem_map]
   exact⟨a,ha,j,by omega,rfl⟩
 · have e3:nI 3 (Dn (ah.map Ih) sizes places (pu plies a) a j (nL 0 (pu aD j)))=vI sizes g:=by
    rw[RX]
    show nI 0 (qm sizes (nI 0 (pu places j)))=_
    rw[show pu places j=p from xy hj,hg]
    rfl
   have e5:nB 5 (Dn (ah.map Ih) sizes places (pu plies a) a j (nL 0 (pu aD j)))=false:=X6 hR _ _ _
   simp only[pY,e3,e5,Bool.not_false,Bool.and_true,Bool.and_eq_true,decide_eq_true_eq,and_true]
   exact⟨⟨rfl,rfl⟩,rfl⟩
omit [BQ]in
theorem zc {sizes places plies cuts:Lz} {e:List T}: ∀n:Nat,(∀k:Nat,k < n→ ∃zs,DJ sizes places plies cuts (nI 1 e) (nI 4 e+(k:Int))=some zs)→(jl sizes places plies cuts e n).length=n
 |0,_=>by simp[jl]
 |n+1,h=>by
  have ih:=zc n (fun k hk=>h k (by omega))
  obtain⟨zs,hz⟩:=h n (by omega)
  simp[jl,ih,hz]
omit [BQ]in
theorem zb {sizes places plies cuts bs:Lz} (hB: ∀e,e∈bs→SQ sizes plies e) (h: ∀ (g:Int) (a:Nat),a < plies.length→ ∃zs,DJ sizes places plies cuts g (a:Int)=some zs): ∀k:Nat,k≤bs.length→((iF sizes places plies cuts bs k).length:Int)=uh (bs.take k)
 |0,_=>by simp[iF,uh]
 |k+1,hk=>by
  have ih:=zb hB h k (by omega)
  have hlt:k < bs.length:=by omega
  obtain⟨t,g,s,l,f,o,he,hg,h1,h2,h3⟩:=hB bs[k] (List.getElem_mem hlt)
  have hs:bs[k]? =some (jK t g s l f o):=by rw[←he];simp[hlt]
  have hn:(jl sizes places plies cuts (jK t g s l f o) (o - f).toNat).length=(o - f).toNat:=zc _ (fun q hq=>by
   have:=h g (f.toNat+q) (by omega)
   rw[show((f.toNat+q:Nat):Int)=f+(q:Int) by omega]at this
   exact this)
  have e1:(nI 5 (jK t g s l f o) - nI 4 (jK t g s l f o)).toNat=(o - f).toNat:=rfl
  rw[List.take_add_one,hs]
  simp only[iF,hs,Option.toList_some,e1]
  rw[B2,List.length_append,hn, ←ih]
  omega
theorem Gx (sn:ByteArray) (bz ms ps us ss os:Lz) (ln wd rx ry:Int) (sizes places plies ah bF:Lz) (hC:SO sn bz ms ps us ss os sizes places plies ah bF) (hq:places.length≤20) (hr:ah.length≤6) (hp:plies.length≤12) (h6: ∀e,e∈plies→Pq6 e):
 ∃ts,Fn Tryz.prog 22 [fW sn bz ms ps us ss os,fM ln wd rx ry sizes places plies,oL 7 (ah.map wj),oL 1 bF] [] (aO ts) []∧(aO ts).cV=true∧ ∃cuts e,ts=[oL 6 cuts,oI e]∧Im cuts∧cuts.length≤1000∧
  (e=0→ ∀ (g:Int) (a:Nat),a < plies.length→ ∃zs,DJ sizes places plies cuts g (a:Int)=some zs):=by
 obtain⟨t1,f1,i1,e1,JT⟩:=yp sn bz ms ps us ss os hC.YY ln wd rx ry sizes places hC.hz hC.gR hC.hp (by omega)
 obtain⟨ts,f,i,cuts,e,rfl,h2,h3,h4⟩:=xg sn bz ms ps us ss os hC.YY ln wd rx ry sizes places plies (ah.map Ih) bF hC.hz hC.gR hC.hp (by omega) (R4 hC.hR) (by simpa using hr) hC.hlo hC.hy (by omega) (fun e he=>by have h3:(nL 1 e).length≤6:=h6 e he;omega) _ _ ⟨t1,f1,i1,e1⟩ JT
 refine⟨_,f.Sd (fun w A ρ xs hx=>?_),i,cuts,e,rfl,?_,?_,fun h0=>?_⟩
 · exact LJ (us:=[fW sn bz ms ps us ss os,fM ln wd rx ry sizes places plies,oL 7 (ah.map wj),oL 1 bF]) (k:=2) (L4 ah) rfl w A ρ xs hx
 · by_cases h0:e=0
   · rw[h3 h0]
     intro c hc
     obtain⟨a,k,_,_,rfl⟩:=Jk hc
     exact⟨_,_,_,_,_,_,rfl⟩
   · rw[h4 h0]
     exact fun c hc=>by cases hc
 · by_cases h0:e=0
   · rw[h3 h0,Dl]
     have h5:=(JT (h2.1 h0).pe).2.1
     have:plies.length * (VP sn bz ms ps us ss os ln wd rx ry sizes places).1.length≤12 * 20:=Nat.mul_le_mul hp (by omega)
     omega
   · rw[h4 h0]
     simp
 · rw[h3 h0]
   exact fun g a ha=>I9 hC.hR (JT (h2.1 h0).pe).2.1 ha
theorem O3 (sn:ByteArray) (bz ms ps us ss os:Lz) (hS:gZ sn bz ms ps us ss os) (ln wd rx ry:Int) (sizes places plies:Lz) (hL:xK sizes places plies) (cuts bs:Lz) (hc:Im cuts) (dA:cuts.length≤1000) (hb:B0 bs) (Ig:bs.length≤60):
 ∃ck gs,(∃ts,Fn Tryz.prog 24 [fW sn bz ms ps us ss os,fM ln wd rx ry sizes places plies,oL 6 bs,oL 6 cuts] [] (aO ts) []∧(aO ts).cV=true∧ts=[oL 5 gs,oI ck])∧
  (ck=0→((∀ (g:Int) (a:Nat),a < plies.length→ ∃zs,DJ sizes places plies cuts g (a:Int)=some zs)→(gs.length:Int)=uh bs)∧
    (gs.length≤240→ ∃ts,Fn Tryz.prog 25 [fW sn bz ms ps us ss os,fM ln wd rx ry sizes places plies,oL 6 bs,oL 6 cuts,oL 5 gs] [] (aO ts) []∧(aO ts).cV=true∧ts=[oI 0])):=by
 obtain⟨e0,Tf,yA⟩:=xz sn bz ms ps us ss os hS ln wd rx ry sizes places plies hL bs hb (by simp only[maxLen];omega)
 have h1:=yA cuts hc (by simp only[maxLen];omega)
 obtain⟨ts,f,i,rfl⟩:=BN sn bz ms ps us ss os ln wd rx ry sizes places plies bs cuts hL hb (by omega) hc (by simp only[maxLen];omega) _ h1 (fun h0=>⟨(Tf (zS h0).1).1,E1 hb (Tf (zS h0).1).2⟩)
 by_cases h0:zT e0 plies.length places.length cuts=0
 · refine⟨0,iF sizes places plies cuts bs bs.length,⟨_,f,i,by rw[h0];rfl⟩,fun _=>⟨fun hp=>?_,fun hl=>?_⟩⟩
   · rw[zb (E1 hb (Tf (zS h0).1).2) hp _ (Nat.le_refl _),List.take_length]
   · rw[h0]at h1
     obtain⟨ts,f,i,n,rfl,_,hn,_⟩:=xA sn bz ms ps us ss os ln wd rx ry sizes places plies bs cuts (iF sizes places plies cuts bs bs.length) hL hb (by omega) hc (by omega) (FC (by have:=hL.Bb;simp only[maxLen];omega) _) (by simp only[maxLen];omega) 0 h1 (fun _=>⟨E1 hb (Tf (zS h0).1).2,(zS h0).2.2⟩)
     rw[hn (LF (Tf (zS h0).1).2 hb hl)]at f i
     exact⟨_,f,i,rfl⟩
 · refine⟨zT e0 plies.length places.length cuts,[],⟨_,f,i,by unfold LG;rw[if_neg h0]⟩,fun h=>absurd h h0⟩
end Go.aR.Cd
end
section
namespace Go.aR.Cd
open Go Go.Proofs
set_option maxRecDepth 100000
set_option maxHeartbeats 2000000
variable [BQ]
structure FwR (nr:Nat) (plies:Lz):Prop where
 r:nr≤6
 q: ∀e,e∈plies→Pq6 e
theorem J9 (ln wd rx ry:Int) (sizes places plies ah bF:Lz) (hy:E9 plies) (jT:plies.length≤maxLen) (hR:DT ah) (Hw:ah.length≤maxLen): ∃ts,Fn Tryz.prog 20 [fM ln wd rx ry sizes places plies, .one (.t fk),oL 7 ah,oL 1 bF] [] (aO ts) []∧(aO ts).cV=true∧GBt (FwR ah.length plies) ts:=by
 refine ae Tryz.func20 ?_
 repeat' (conv=>whnf
          first
  |(refine az (fun h=>?_) (fun h=>?_))
  |(refine rA (fun h=>?_) (fun h=>?_))
  |(refine bC (fun h=>?_) (fun h=>?_))
  |(refine aF (fun h=>?_) (fun h=>?_))
  |(refine ak (xs:=plies) hy (by omega) (by omega) ?_;rintro _ ⟨lo,q,rfl,hq⟩ hs)
  |(refine ak (xs:=ah) hR (by omega) (by omega) ?_;rintro _ ⟨id,w1,l1,a2,b2,c2,fl,rfl,bG,hfl,Ew⟩ sC)
  |(refine iK (by omega) (by omega) ?_;intro bb)
  |(refine dm (by omega) (by omega) ?_)
  |(refine And.intro (by kernel_rfl) ?_)
  |(refine And.intro (by omega) ?_)
  |exact Zy rfl rfl (fun hb=>absurd hb (by decide))
  |exact Zy rfl rfl (fun _=>⟨by omega,hpre.all (by omega)⟩)
  |(apply aS [4,11] [] [11] [(4,7)] (ON Pq6 plies [[cU ln wd rx ry sizes places plies]]) (plies.length) [iV .i64 0];(conv=>whnf);exact⟨rfl,rfl,rfl,rfl⟩;exact rfl;exact rfl;exact .cons (av.au (xs:=[cU ln wd rx ry sizes places plies]) rfl _) .nil;exact⟨0,by omega,Pre.zero,rfl,rfl,rfl⟩;rintro _ _ _ ⟨i,hi,hpre,rfl,rfl,rfl⟩)
  |(refine aj [4,11] [] ?_;(conv=>whnf);exact⟨rfl,_,[_],_, .cons (av.au (xs:=[cU ln wd rx ry sizes places plies]) rfl _) .nil,ON.next (by omega) jT hpre hs (show q.length≤6 by omega),rfl,rfl,by omega⟩)
  |(apply aS [2,4,10] [] [10] [(4,7)] (Ij (cU ln wd rx ry sizes places plies) ah.length) (ah.length) [iV .i64 0];(conv=>whnf);exact⟨rfl,rfl,rfl,rfl⟩;exact rfl;exact rfl;exact .cons (av.au (xs:=[cU ln wd rx ry sizes places plies]) rfl _) .nil;exact⟨0,by omega,rfl,rfl,rfl⟩;rintro _ _ _ ⟨i,hi,rfl,rfl,rfl⟩)
  |(refine aj [2,4,10] [] ?_;(conv=>whnf);exact⟨rfl,_,[_],_, .cons (av.au (xs:=[cU ln wd rx ry sizes places plies]) rfl _) .nil,Ij.next (by omega) Hw,rfl,rfl,by omega⟩)
  |(apply aS [1,2,4,9] [] [9] [(4,7)] (Ij (cU ln wd rx ry sizes places plies) 0) (0) [iV .i64 0];(conv=>whnf);exact⟨rfl,rfl,rfl,rfl⟩;exact rfl;exact rfl;exact .cons (av.au (xs:=[cU ln wd rx ry sizes places plies]) rfl _) .nil;exact⟨0,by omega,rfl,rfl,rfl⟩;rintro _ _ _ ⟨i,hi,rfl,rfl,rfl⟩)
  |(refine aj [1,2,4,9] [] ?_;(conv=>whnf);exact⟨rfl,_,[_],_, .cons (av.au (xs:=[cU ln wd rx ry sizes places plies]) rfl _) .nil,Ij.next (by omega) (by decide),rfl,rfl,by omega⟩)
  |(exfalso;omega))
 all_goals (conv=>whnf)
def ZM (row:List T) (ah:Lz) (m:Nat) (vs:List V) (xss:List (Lz)):Prop:= ∃ (i:Nat) (zs:Lz),i≤ah.length∧m=ah.length - i∧vs=[bn 8 7 zs.length,iV .i64 (i:Int)]∧xss=[[row],zs]∧zs=(ah.take i).map wj
theorem ZM.next {row:List T} {ah zs:Lz} {i n:Nat} {e:List T} (hi:(i:Int) < (ah.length:Int)) (hl:ah.length≤6) (hz:zs=(ah.take i).map wj) (hs:ah[((i:Int)).toNat]? =some e) (hn:n=zs.length+1):ZM row ah (ah.length - (i+1)) [bn 8 7 n,iV .i64 (IntKind.i64.wrap ((i:Int)+1))] [[row],zs++[wj e]]:=by
 have hs':ah[i]? =some e:=by simpa using hs
 subst hn
 refine⟨i+1,_,by omega,rfl,by rw[bi (by omega) (by omega)];simp,rfl,?_⟩
 rw[List.take_add_one,hs',hz]
 simp
theorem O4 {ah zs:Lz} {i:Nat} (hz:zs=(ah.take i).map wj) (hi:i≤ah.length):zs.length=i:=by
 subst hz
 simp
 omega
theorem Rr {sn:ByteArray} {bz ms ps us ss os:Lz} {ln wd rx ry:Int} {sizes places plies zs bF ah:Lz} {rows:List (List C)} {id len i:Nat} (hR:av rows zs) (hl:len=zs.length) (hz:zs=(ah.take i).map wj) (hi:ah.length≤i):
 bE (bI [(id,bu.row 7 rows)]) [fW sn bz ms ps us ss os,fM ln wd rx ry sizes places plies, .one (.own id 7 0 len),oL 1 bF]=some [fW sn bz ms ps us ss os,fM ln wd rx ry sizes places plies,oL 7 (ah.map wj),oL 1 bF]:=by
 have h2:cW 6 [(id,bu.row 7 rows)] (.own id 7 0 len)=some (.aA 7 zs):=HG (d:=5) (by simp only[find,if_true]) hR hl
 have h3: ∀t,cW 6 [(id,bu.row 7 rows)] (.t t)=some t:=fun t=>rfl
 rw[List.take_of_length_le hi]at hz
 rw[hz]at h2
 simp only[bE,bI,h2,h3,Option.map_some]
 rfl
theorem Ix {a b:Nat} {gs:Lz} {w:Int} (ha:a≤8) (hb:b≤3) (h:(gs.length:Int)=w) (hw:w=((b * a:Nat):Int)):(gs.length:Int)=IntKind.i64.wrap ((a:Int) * (b:Int))∧gs.length≤240:=by
 have h2:b * a≤3 * 8:=Nat.mul_le_mul hb ha
 rw[←Int.natCast_mul,Nat.mul_comm a b]
 generalize b * a=q at h2 hw
 rw[bi (by omega) (by omega)]
 omega
theorem ki (sn:ByteArray) (bz ms ps us ss os:Lz) (ln wd rx ry:Int) (sizes places plies Yg Dm ah bF:Lz) (hC:SO sn bz ms ps us ss os sizes places plies ah bF) (n:Int) (bf:Bool) (Hv:bf=true→(sizes.length≤3∧places.length≤8∧plies.length≤8)∧xK sizes places plies) (h1: ∃ts,Fn Tryz.prog 19 [oCs sn bz ms ps us ss os ln wd rx ry sizes places plies Yg Dm, .one (.t fk)] [] (aO ts) []∧(aO ts).cV=true∧ts=[oB bf]) (ha:KX): ∃ts,Fn Tryz.prog 7 [oCs sn bz ms ps us ss os ln wd rx ry sizes places plies Yg Dm, .agg [.t (.aA 7 ah), .t (.aA 1 bF)], .one (.t (.val (.int .u8 n)))] [] (aO ts) []∧(aO ts).cV=true∧GTr ts:=by
 refine ae Tryz.func7 ?_
 repeat' (conv=>whnf
          first
  |(refine az (fun h=>?_) (fun h=>?_))
  |(refine rA (fun h=>?_) (fun h=>?_))
  |(refine bC (fun h=>?_) (fun h=>?_))
  |(refine aF (fun h=>?_) (fun h=>?_))
  |(refine ak (xs:=ah) hC.hR (by omega) (by omega) ?_;rintro _ ⟨id,w1,l1,a1,b1,c1,fl,rfl,bG,hfl,Ew⟩ hs)
  |(have h8:=O4 hz hi;have h9:=(lp (dB (by assumption))).r;refine And.intro ⟨by simp[tr],by simp[tr,aT];omega,by simp[tr,maxLen];omega⟩ ?_)
  |(refine iK (by omega) (by omega) ?_;intro bb)
  |(refine dm (by omega) (by omega) ?_)
  |(refine And.intro (by kernel_rfl) ?_)
  |(refine And.intro (by omega) ?_)
  |(refine ag rfl (h1) ?_;rintro _ rfl)
  |(refine aB rfl (h1) ?_;rintro _ rfl)
  |(refine ag rfl (J9 ln wd rx ry sizes places plies ah bF hC.hy hC.jT hC.hR hC.Hw) ?_;rintro _ ⟨b2,rfl,lp⟩)
  |(refine aB rfl (J9 ln wd rx ry sizes places plies ah bF hC.hy hC.jT hC.hR hC.Hw) ?_;rintro _ ⟨b2,rfl,lp⟩)
  |(refine ag rfl (ha) ?_;rintro _ rfl)
  |(refine aB rfl (ha) ?_;rintro _ rfl)
  |(refine OZ 8 rfl (by rfl) (Rr (rows:=tr zs) rfl (by simp) hz (by omega)) (Gx sn bz ms ps us ss os ln wd rx ry sizes places plies ah bF hC (by have:=(Hv (dB (by assumption))).1;omega) (lp (dB (by assumption))).r (by have:=(Hv (dB (by assumption))).1;omega) (lp (dB (by assumption))).q) ?_;rintro _ ⟨cuts,e,rfl,Xz,ahZ,Ep⟩)
  |(refine ag rfl (tW ln wd rx ry sizes places plies hC.hz (by have:=(Hv (dB (by assumption))).1;omega) (Hv (dB (by assumption))).2.hy (by have:=(Hv (dB (by assumption))).1;omega) _) ?_;rintro _ ⟨bs,f,rfl,hB,hBl,hw⟩)
  |(refine aB rfl (tW ln wd rx ry sizes places plies hC.hz (by have:=(Hv (dB (by assumption))).1;omega) (Hv (dB (by assumption))).2.hy (by have:=(Hv (dB (by assumption))).1;omega) _) ?_;rintro _ ⟨bs,f,rfl,hB,hBl,hw⟩)
  |(have hsw:=O3 sn bz ms ps us ss os hC.YY ln wd rx ry sizes places plies (Hv (dB (by assumption))).2 cuts bs Xz ahZ hB hBl;obtain⟨ck,gs,afQ,QM⟩:=hsw;refine ag rfl afQ ?_;rintro _ rfl)
  |(have hl9:=Ix (Hv (dB (by assumption))).1.2.2 (Hv (dB (by assumption))).1.1 ((QM (by omega)).1 (Ep (by omega))) (hw (by omega));refine ag rfl ((QM (by omega)).2 hl9.2) ?_;rintro _ rfl)
  |exact g1 rfl rfl rfl
  |(exfalso;have hl9:=Ix (Hv (dB (by assumption))).1.2.2 (Hv (dB (by assumption))).1.1 ((QM (by omega)).1 (Ep (by omega))) (hw (by omega));omega)
  |(exfalso;omega)
  |(apply dI [2,3,7,8,9,10] [] [9,10] [(4,16),(8,7)] (ZM (csT sn bz ms ps us ss os ln wd rx ry sizes places plies Yg Dm) ah) (ah.length) [bn 8 7 0,iV .i64 0] (dL.iL 9 7 rfl);(conv=>whnf);exact⟨rfl,rfl,rfl,rfl⟩;exact rfl;exact rfl;exact .cons (av.au (xs:=[csT sn bz ms ps us ss os ln wd rx ry sizes places plies Yg Dm]) rfl _) (.cons (av.au av.nil _) .nil);exact⟨0,[],by omega,rfl,rfl,rfl,rfl⟩;rintro _ _ _ ⟨i,zs,hi,rfl,rfl,rfl,hz⟩)
  |(refine aj [2,3,7,8,9,10] [] ?_;(conv=>whnf);exact⟨rfl,_,[_,_],_, .cons (av.au (xs:=[csT sn bz ms ps us ss os ln wd rx ry sizes places plies Yg Dm]) rfl _) (.cons (av.au (av.snoc (xs:=zs) rfl [_,tI _,tI _,tI _,tI _,tI _,_]) _) .nil),ZM.next (e:=[_,tI _,tI _,tI _,tI _,tI _,_]) (by omega) (lp (dB (by assumption))).r hz hs (by simp[tr]),rfl,rfl,by omega⟩)
  |(exfalso;omega))
 all_goals (conv=>whnf)
abbrev Kv:List Sh:=[.sl NU, .sl [.int]]
theorem G8 (hw:KX) {x y:List T} {n:Int} (h:jb OF x) (h2:jb Kv y):Fn Tryz.prog 7 [.agg (x.map .t), .agg (y.map .t), .one (.t (.val (.int .u8 n)))] [] (bV true) []:=by
 obtain⟨_,_,rfl,⟨sn,rfl,JB⟩,_,_,rfl,⟨bz,rfl,l1,m1⟩,_,_,rfl,⟨ms,rfl,l2,m2⟩,_,_,rfl,⟨ps,rfl,l3,m3⟩,_,_,rfl,⟨us,rfl,l4,m4⟩,_,_,rfl,⟨ss,rfl,l5,m5⟩,_,_,rfl,⟨os,rfl,l6,m6⟩,
  _,_,rfl,⟨ln,rfl⟩,_,_,rfl,⟨wd,rfl⟩,_,_,rfl,⟨rx,rfl⟩,_,_,rfl,⟨ry,rfl⟩,_,_,rfl,⟨sizes,rfl,l7,m7⟩,_,_,rfl,⟨places,rfl,l8,m8⟩,_,_,rfl,⟨plies,rfl,l9,m9⟩,_,_,rfl,⟨bs,rfl,N3,m10⟩,_,_,rfl,⟨cuts,rfl,l11,m11⟩,rfl⟩:=h
 obtain⟨_,_,rfl,⟨ah,rfl,l12,m12⟩,_,_,rfl,⟨bF,rfl,l13,m13⟩,rfl⟩:=h2
 have hS:gZ sn bz ms ps us ss os:=⟨JB,adE m1,l1,Ek m2,l2,adR m3,l3,abK m4,l4,adK m5,l5,aeB m6,l6⟩
 have hC:SO sn bz ms ps us ss os sizes places plies ah bF:=⟨hS,Ek m7,l7,VO m8,l8,adP m9,l9,adN m12,l12,Ek m13⟩
 obtain⟨t1,f1,i1,bS,rfl⟩:=qa sn bz ms ps us ss os hS (sizes.length:Int)
 obtain⟨t3,f3,i3,b3,rfl⟩:=sG ln wd rx ry sizes places plies (VH m9) l9
 obtain⟨ts,f,i,rfl⟩:=sH sn bz ms ps us ss os ln wd rx ry sizes places plies bs cuts (ajM m11) l11 bS b3 ⟨_,f1,i1,rfl⟩ ⟨_,f3,i3,rfl⟩
 obtain⟨ts,f,_,rfl⟩:=ki sn bz ms ps us ss os ln wd rx ry sizes places plies bs cuts ah bF hC n _ (fun hb=>by
  simp only[uK,qd,Bool.and_eq_true,decide_eq_true_eq]at hb
  exact⟨⟨hb.1.1.1.1,hb.1.1.2,hb.2.1.1⟩,⟨Ek m7,by have:=hb.1.1.1.1;omega,VO m8,by have:=hb.1.1.2;omega,VH m9,by have:=hb.2.1.1;omega⟩⟩) ⟨_,f,i,rfl⟩ hw
 exact f
end Go.aR.Cd
end
section
namespace Go.aR.Cd
open Go Go.Proofs
set_option maxRecDepth 100000
theorem EV {Tb:Tables} {F F':Array Func}: ∀l:List ResultVar,cP ⟨Tb,F⟩ l=cP ⟨Tb,F'⟩ l
 | []=>rfl
 | .tmp t::r=>by simp only[cP,EV (F:=F) (F':=F') r]
 | .cell t ty::r=>by
   simp only[cP,EV (F:=F) (F':=F') r]
   rfl
theorem Qw {n m:Nat} {fn:Func} {rs:List ResultVar} {c:Rc} {rv:List Rv} {a b:Bool} (h:Tryz.prog.funcs[n]? =some fn) (hi:Ox Tryz.progTables fn=some (m,rs,c)) (h4:cP ⟨Tryz.progTables, #[]⟩ rs=some rv) (h5:ga m c=true):BR Tryz.prog n ⟨m,c,rv,a,b⟩:=by
 obtain⟨b,h1,h2,h3,rfl⟩:=wS (P:=Tryz.prog) hi
 exact⟨fn,b,h,h1,h2,h3,(EV _).trans h4,h5⟩
def bK {n m:Nat} {fn:Func} {rs:List ResultVar} {c:Rc} {rv:List Rv} (h:Tryz.prog.funcs[n]? =some fn) (a b:Bool) (hi:Ox Tryz.progTables fn=some (m,rs,c):=by conv=>lhs;cbv) (h4:cP ⟨Tryz.progTables, #[]⟩ rs=some rv:=by conv=>lhs;cbv) (h5:ga m c=true:=by kernel_rfl): {fr:Ad // BR Tryz.prog n fr}:=⟨⟨m,c,rv,a,b⟩,Qw h hi h4 h5⟩
def TU:=bK Tryz.func239 true true
def z65:=bK Tryz.func65 true false
def UH:=bK Tryz.func140 true false
def z198:=bK Tryz.func198 true false
def T0:=bK Tryz.func224 true false
def TZ:=bK Tryz.func225 true false
def Uf:=bK Tryz.func200 true false
def z141:=bK Tryz.func141 true false
def z229:=bK Tryz.func229 true false
def T5:=bK Tryz.func215 true false
def Ui:=bK Tryz.func192 true false
def Uk:=bK Tryz.func190 true false
def TQ:=bK Tryz.func241 true false
def US:=bK Tryz.func122 true false
def TO:=bK Tryz.func243 true false
def TY:=bK Tryz.func230 true false
def z201:=bK Tryz.func201 true false
def Uo:=bK Tryz.func184 true false
def z88:=bK Tryz.func88 true false
def z236:=bK Tryz.func236 true false
def T1:=bK Tryz.func223 true false
def z83:=bK Tryz.func83 true false
def TJ:=bK Tryz.func248 true false
def z167:=bK Tryz.func167 true false
def z139:=bK Tryz.func139 true false
def UU:=bK Tryz.func120 true false
def z107:=bK Tryz.func107 true false
def UX:=bK Tryz.func106 true false
def z80:=bK Tryz.func80 true false
def z222:=bK Tryz.func222 true false
def z159:=bK Tryz.func159 true false
def z55:=bK Tryz.func55 true false
def TM:=bK Tryz.func245 true false
def z233:=bK Tryz.func233 true false
def T2:=bK Tryz.func221 true false
def T3:=bK Tryz.func220 true false
def T7:=bK Tryz.func211 true false
def T9:=bK Tryz.func205 true false
def Um:=bK Tryz.func188 true false
def Uw:=bK Tryz.func169 true false
def UA:=bK Tryz.func161 true false
def z152:=bK Tryz.func152 true false
def z148:=bK Tryz.func148 true false
def UP:=bK Tryz.func126 true false
def UT:=bK Tryz.func121 true false
def TL:=bK Tryz.func246 true false
def z105:=bK Tryz.func105 true false
def z79:=bK Tryz.func79 true false
def TP:=bK Tryz.func242 true false
def TR:=bK Tryz.func240 true false
def TV:=bK Tryz.func237 true false
def z218:=bK Tryz.func218 true false
def T4:=bK Tryz.func217 true false
def Uh:=bK Tryz.func197 true false
def Ut:=bK Tryz.func177 true false
def Uu:=bK Tryz.func174 true false
def z156:=bK Tryz.func156 true false
def UG:=bK Tryz.func142 true false
def UW:=bK Tryz.func108 true false
def z44:=bK Tryz.func44 false false
def TI:=bK Tryz.func249 true false
def TN:=bK Tryz.func244 true false
def z232:=bK Tryz.func232 true false
def TX:=bK Tryz.func231 true false
def z213:=bK Tryz.func213 true false
def z212:=bK Tryz.func212 true false
def z210:=bK Tryz.func210 true false
def Uj:=bK Tryz.func191 true false
def Ul:=bK Tryz.func189 true false
def Un:=bK Tryz.func187 true false
def z182:=bK Tryz.func182 true false
def Up:=bK Tryz.func181 true false
def z168:=bK Tryz.func168 true false
def z162:=bK Tryz.func162 true false
def UQ:=bK Tryz.func125 true false
def z92:=bK Tryz.func92 true false
def z74:=bK Tryz.func74 true false
def z51:=bK Tryz.func51 true false
def z43:=bK Tryz.func43 true false
def TH:=bK Tryz.func254 true false
def TK:=bK Tryz.func247 true false
def Uv:=bK Tryz.func170 true false
def z160:=bK Tryz.func160 true false
def UF:=bK Tryz.func149 true false
def UM:=bK Tryz.func132 true false
def z81:=bK Tryz.func81 true false
def z57:=bK Tryz.func57 true false
def z46:=bK Tryz.func46 true true
def z45:=bK Tryz.func45 true false
def z31:=bK Tryz.func31 true false
def T6:=bK Tryz.func214 true false
def Ue:=bK Tryz.func202 true false
def z183:=bK Tryz.func183 true false
def Uq:=bK Tryz.func180 true false
def Ur:=bK Tryz.func178 true false
def z175:=bK Tryz.func175 true false
def z173:=bK Tryz.func173 true true
def Ux:=bK Tryz.func166 true false
def Uy:=bK Tryz.func165 true false
def z157:=bK Tryz.func157 true false
def UC:=bK Tryz.func155 true false
def z154:=bK Tryz.func154 true false
def UE:=bK Tryz.func151 false false
def UK:=bK Tryz.func134 true false
def z130:=bK Tryz.func130 true false
def UN:=bK Tryz.func129 true false
def z124:=bK Tryz.func124 true false
def UR:=bK Tryz.func123 true false
def z119:=bK Tryz.func119 true false
def UZ:=bK Tryz.func102 true false
def U0:=bK Tryz.func101 true false
def U1:=bK Tryz.func100 true false
def z96:=bK Tryz.func96 true false
def z90:=bK Tryz.func90 true false
def z82:=bK Tryz.func82 true false
def z78:=bK Tryz.func78 true false
def z76:=bK Tryz.func76 true false
def z73:=bK Tryz.func73 true false
def z72:=bK Tryz.func72 true false
def z71:=bK Tryz.func71 true false
def z56:=bK Tryz.func56 true false
def z54:=bK Tryz.func54 true false
def z41:=bK Tryz.func41 true false
def z25:=bK Tryz.func25 true false
def z24:=bK Tryz.func24 false false
def TW:=bK Tryz.func235 true false
def z234:=bK Tryz.func234 true false
def T8:=bK Tryz.func209 true false
def Ug:=bK Tryz.func199 true false
def z193:=bK Tryz.func193 true false
def z164:=bK Tryz.func164 true false
def Uz:=bK Tryz.func163 true false
def UB:=bK Tryz.func158 true false
def UD:=bK Tryz.func153 true false
def z138:=bK Tryz.func138 true false
def UI:=bK Tryz.func136 true false
def UJ:=bK Tryz.func135 true false
def UL:=bK Tryz.func133 true false
def z131:=bK Tryz.func131 true false
def UO:=bK Tryz.func128 true false
def z127:=bK Tryz.func127 true false
def UY:=bK Tryz.func104 true false
def z98:=bK Tryz.func98 true false
def z97:=bK Tryz.func97 true false
def z95:=bK Tryz.func95 true false
def z94:=bK Tryz.func94 true true
def z77:=bK Tryz.func77 true false
def z75:=bK Tryz.func75 true false
def z70:=bK Tryz.func70 true true
def z53:=bK Tryz.func53 true false
def z52:=bK Tryz.func52 true false
def z50:=bK Tryz.func50 true false
def z40:=bK Tryz.func40 true false
def z39:=bK Tryz.func39 true true
def z30:=bK Tryz.func30 true false
def z21:=bK Tryz.func21 true false
end Go.aR.Cd
end
section
namespace Go.aR.Cd
open Go Go.Proofs
set_option maxRecDepth 100000
def XV:List (Nat×Ad):=[(239,TU.1),(65,z65.1),(140,UH.1),(198,z198.1),(224,T0.1),(225,TZ.1),(200,Uf.1),(141,z141.1),(229,z229.1),(215,T5.1),(192,Ui.1),(190,Uk.1),(241,TQ.1),(122,US.1),(243,TO.1),(230,TY.1),(201,z201.1),(184,Uo.1),(88,z88.1),(236,z236.1),(223,T1.1),(83,z83.1),(248,TJ.1),(167,z167.1),(139,z139.1),(120,UU.1),(107,z107.1),(106,UX.1),(80,z80.1),(222,z222.1),(159,z159.1),(55,z55.1),(245,TM.1),(233,z233.1),(221,T2.1),(220,T3.1),(211,T7.1),(205,T9.1),(188,Um.1),(169,Uw.1),(161,UA.1),(152,z152.1),(148,z148.1),(126,UP.1),(121,UT.1),(246,TL.1),(105,z105.1),(79,z79.1),(242,TP.1),(240,TR.1),(237,TV.1),(218,z218.1),(217,T4.1),(197,Uh.1),(177,Ut.1),(174,Uu.1),(156,z156.1),(142,UG.1),(108,UW.1),(44,z44.1),(249,TI.1),(244,TN.1),(232,z232.1),(231,TX.1),(213,z213.1),(212,z212.1),(210,z210.1),(191,Uj.1),(189,Ul.1),(187,Un.1),(182,z182.1),(181,Up.1),(168,z168.1),(162,z162.1),(125,UQ.1),(92,z92.1),(74,z74.1),(51,z51.1),(43,z43.1),(254,TH.1),(247,TK.1),(170,Uv.1),(160,z160.1),(149,UF.1),(132,UM.1),(81,z81.1),(57,z57.1),(46,z46.1),(45,z45.1),(31,z31.1),(214,T6.1),(202,Ue.1),(183,z183.1),(180,Uq.1),(178,Ur.1),(175,z175.1),(173,z173.1),(166,Ux.1),(165,Uy.1),(157,z157.1),(155,UC.1),(154,z154.1),(151,UE.1),(134,UK.1),(130,z130.1),(129,UN.1),(124,z124.1),(123,UR.1),(119,z119.1),(102,UZ.1),(101,U0.1),(100,U1.1),(96,z96.1),(90,z90.1),(82,z82.1),(78,z78.1),(76,z76.1),(73,z73.1),(72,z72.1),(71,z71.1),(56,z56.1),(54,z54.1),(41,z41.1),(25,z25.1),(24,z24.1),(235,TW.1),(234,z234.1),(209,T8.1),(199,Ug.1),(193,z193.1),(164,z164.1),(163,Uz.1),(158,UB.1),(153,UD.1),(138,z138.1),(136,UI.1),(135,UJ.1),(133,UL.1),(131,z131.1),(128,UO.1),(127,z127.1),(104,UY.1),(98,z98.1),(97,z97.1),(95,z95.1),(94,z94.1),(77,z77.1),(75,z75.1),(70,z70.1),(53,z53.1),(52,z52.1),(50,z50.1),(40,z40.1),(39,z39.1),(30,z30.1),(21,z21.1)]
abbrev yE:Nat→Option Ad:=find XV
theorem Rx:Gr Tryz.prog yE:=Db (show KZ Tryz.prog XV from⟨TU.2,z65.2,UH.2,z198.2,T0.2,TZ.2,Uf.2,z141.2,z229.2,T5.2,Ui.2,Uk.2,TQ.2,US.2,TO.2,TY.2,z201.2,Uo.2,z88.2,z236.2,T1.2,z83.2,TJ.2,z167.2,z139.2,UU.2,z107.2,UX.2,z80.2,z222.2,z159.2,z55.2,TM.2,z233.2,T2.2,T3.2,T7.2,T9.2,Um.2,Uw.2,UA.2,z152.2,z148.2,UP.2,UT.2,TL.2,z105.2,z79.2,TP.2,TR.2,TV.2,z218.2,T4.2,Uh.2,Ut.2,Uu.2,z156.2,UG.2,UW.2,z44.2,TI.2,TN.2,z232.2,TX.2,z213.2,z212.2,z210.2,Uj.2,Ul.2,Un.2,z182.2,Up.2,z168.2,z162.2,UQ.2,z92.2,z74.2,z51.2,z43.2,TH.2,TK.2,Uv.2,z160.2,UF.2,UM.2,z81.2,z57.2,z46.2,z45.2,z31.2,T6.2,Ue.2,z183.2,Uq.2,Ur.2,z175.2,z173.2,Ux.2,Uy.2,z157.2,UC.2,z154.2,UE.2,UK.2,z130.2,UN.2,z124.2,UR.2,z119.2,UZ.2,U0.2,U1.2,z96.2,z90.2,z82.2,z78.2,z76.2,z73.2,z72.2,z71.2,z56.2,z54.2,z41.2,z25.2,z24.2,TW.2,z234.2,T8.2,Ug.2,z193.2,z164.2,Uz.2,UB.2,UD.2,z138.2,UI.2,UJ.2,UL.2,z131.2,UO.2,z127.2,UY.2,z98.2,z97.2,z95.2,z94.2,z77.2,z75.2,z70.2,z53.2,z52.2,z50.2,z40.2,z39.2,z30.2,z21.2,trivial⟩)
abbrev ZK:={l:List (Nat×List W×V) // Aa Tryz.prog (nj l)}
def tz:ZK:=⟨[],Lx⟩
theorem IG {l:ZK} {f:Nat} {fr:Ad} {a:List W} {v:V} (h:yE f=some fr) (hE:lW false Tryz.prog (bO false Tryz.prog yE (nj l.1) 10000 60).1 (bO false Tryz.prog yE (nj l.1) 10000 60).2 10000 fr a (fun v'=>XX v' v)=true):Fn Tryz.prog f a [] v []∧v.cV=true:=MF (fuel:=10000) (d:=60) Rx l.2 h hE
def jL (l:ZK) (f:Nat) (a:List W) (v:V) {fr:Ad} (h:yE f=some fr:=by rfl) (hE:lW false Tryz.prog (bO false Tryz.prog yE (nj l.1) 10000 60).1 (bO false Tryz.prog yE (nj l.1) 10000 60).2 10000 fr a (fun v'=>XX v' v)=true:=by kernel_rfl):ZK:=⟨(f,a,v)::l.1,IJ l.2 (IG h hE)⟩
def tb1:=jL tz 65 [.one (.t (i 0)),.one (.t (i 0))] (.w (.one (.t (i 0))))
def tb2:=jL tb1 177 [.agg [.t (bo false),.t nl,.t nl],.agg [.t (bo false),.t nl,.t nl]] (.w (.one (.t (i 0))))
def tb3:=jL tb2 65 [.one (.t (i 100)),.one (.t (i 0))] (.w (.one (.t (i 1))))
def tb4:=jL tb3 55 [.one (.t (.aA 2 [[i 0,i 0],[i 10,i 0],[i 10,i 10],[i 0,i 10]]))] (.w (.one (.t (i 0))))
def tb5:=jL tb4 160 [.one (.t (.aA 2 [[.val (.string ⟨#[108,111,119]⟩),.aA 2 [[i 0,i 0],[i 10,i 0]]],[.val (.string ⟨#[114,105,103,104,116]⟩),.aA 2 [[i 10,i 0],[i 10,i 10]]],[.val (.string ⟨#[104,105,103,104]⟩),.aA 2 [[i 10,i 10],[i 0,i 10]]],[.val (.string ⟨#[108,101,102,116]⟩),.aA 2 [[i 0,i 10],[i 0,i 0]]]]))] (.w (.one (.t (i 0))))
def tb6:=jL tb5 132 [.agg [.t (.val (.string ⟨#[102,114,111,110,116]⟩)),.t (.aA 2 [[.val (.string ⟨#[108,111,119]⟩),.aA 2 [[i 0,i 0],[i 10,i 0]]],[.val (.string ⟨#[114,105,103,104,116]⟩),.aA 2 [[i 10,i 0],[i 10,i 10]]],[.val (.string ⟨#[104,105,103,104]⟩),.aA 2 [[i 10,i 10],[i 0,i 10]]],[.val (.string ⟨#[108,101,102,116]⟩),.aA 2 [[i 0,i 10],[i 0,i 0]]]]),.t (i 1),.t nl,.t (.aA 2 [[i 0,i 0],[i 1,i 0],[i 1,i 0],[i 0,i 0]]),.t (.aA 1 [[i 0],[i 0],[i 0],[i 0]]),.t (bo false)],.one (.t (i 0))] (.ef [.one (.t (.aA 2 [[.val (.string ⟨#[108,111,119]⟩),.aA 2 [[i 0,i 0],[i 10,i 0]]],[.val (.string ⟨#[114,105,103,104,116]⟩),.aA 2 [[i 10,i 0],[i 10,i 10]]],[.val (.string ⟨#[104,105,103,104]⟩),.aA 2 [[i 10,i 10],[i 0,i 10]]],[.val (.string ⟨#[108,101,102,116]⟩),.aA 2 [[i 0,i 10],[i 0,i 0]]]])),.one (.t (i 0))])
def tb7:=jL tb6 74 [.agg [.t (.val (.string ⟨#[115,104,105,114,116]⟩)),.t (.aA 1 [[.val (.string ⟨#[83]⟩)],[.val (.string ⟨#[77]⟩)]]),.t (.aA 1 [[i 0],[i 2]]),.t (.aA 7 [[.val (.string ⟨#[102,114,111,110,116]⟩),.aA 2 [[.val (.string ⟨#[108,111,119]⟩),.aA 2 [[i 0,i 0],[i 10,i 0]]],[.val (.string ⟨#[114,105,103,104,116]⟩),.aA 2 [[i 10,i 0],[i 10,i 10]]],[.val (.string ⟨#[104,105,103,104]⟩),.aA 2 [[i 10,i 10],[i 0,i 10]]],[.val (.string ⟨#[108,101,102,116]⟩),.aA 2 [[i 0,i 10],[i 0,i 0]]]],i 1,nl,.aA 2 [[i 0,i 0],[i 1,i 0],[i 1,i 0],[i 0,i 0]],.aA 1 [[i 0],[i 0],[i 0],[i 0]],bo false]]),.t (.aA 3 [[i 0,i 2,bo true]]),.t nl,.t (.aA 5 [[.val (.string ⟨#[106,111,105,110]⟩),i 0,i 100,nl,.aA 1 [[i 0]]]])]] (.w (.one (.t (i 0))))
def tb8:=jL tb7 243 [.one (.t (.aA 1 [[u 1]])),.one (.t (.aA 1 [[u 1]]))] (.ef [.one (.t (.aA 1 [[u 1]])),.one (.t (.aA 1 [])),.one (.t (bo true))])
def tb9:=jL tb8 229 [.agg [.t (bo false),.t (.aA 1 [])],.one (.t (.aA 1 [[u 1]]))] (.w (.agg [.t (bo false),.t (.aA 1 []),.t (.aA 1 [[u 1]])]))
def adC:=jL tb9 233 [.one (.t (i 0)),.one (.t (i 1))] (.ef [.agg [.t (bo false),.t (.aA 1 []),.t (.aA 1 [[u 1]])],.one (.t (bo true))])
def adB:=jL adC 243 [.one (.t (.aA 1 [[u 10]])),.one (.t (.aA 1 [[u 1]]))] (.ef [.one (.t (.aA 1 [[u 10]])),.one (.t (.aA 1 [])),.one (.t (bo true))])
def adA:=jL adB 229 [.agg [.t (bo false),.t (.aA 1 [[u 10]])],.one (.t (.aA 1 [[u 1]]))] (.w (.agg [.t (bo false),.t (.aA 1 [[u 10]]),.t (.aA 1 [[u 1]])]))
def acZ:=jL adA 233 [.one (.t (i 10)),.one (.t (i 1))] (.ef [.agg [.t (bo false),.t (.aA 1 [[u 10]]),.t (.aA 1 [[u 1]])],.one (.t (bo true))])
def acY:=jL acZ 190 [.agg [.t (i 0),.t (i 10)]] (.w (.agg [.t (bo false),.t (.aA 1 []),.t (.aA 1 [[u 1]]),.t (bo false),.t (.aA 1 [[u 10]]),.t (.aA 1 [[u 1]])]))
def acX:=jL acY 190 [.agg [.t (i 0),.t (i 0)]] (.w (.agg [.t (bo false),.t (.aA 1 []),.t (.aA 1 [[u 1]]),.t (bo false),.t (.aA 1 []),.t (.aA 1 [[u 1]])]))
def acW:=jL acX 190 [.agg [.t (i 10),.t (i 0)]] (.w (.agg [.t (bo false),.t (.aA 1 [[u 10]]),.t (.aA 1 [[u 1]]),.t (bo false),.t (.aA 1 []),.t (.aA 1 [[u 1]])]))
def acV:=jL acW 198 [.agg [.t (bo false),.t (.aA 1 []),.t (.aA 1 [[u 1]])]] (.w (.agg [.t (bo false),.t (.aA 1 []),.t (.aA 1 [[u 1]])]))
def acU:=jL acV 198 [.agg [.t (bo false),.t (.aA 1 [[u 10]]),.t (.aA 1 [[u 1]])]] (.w (.agg [.t (bo false),.t (.aA 1 [[u 10]]),.t (.aA 1 [[u 1]])]))
def acT:=jL acU 200 [.agg [.t (bo false),.t (.aA 1 [[u 10]])],.agg [.t (bo false),.t (.aA 1 [[u 1]])]] (.w (.agg [.t (bo false),.t (.aA 1 [[u 10]])]))
def acS:=jL acT 200 [.agg [.t (bo false),.t (.aA 1 [])],.agg [.t (bo false),.t (.aA 1 [[u 1]])]] (.w (.agg [.t (bo false),.t (.aA 1 [])]))
def acR:=jL acS 225 [.one (.t (.aA 1 [[u 1]])),.one (.t (.aA 1 [[u 1]]))] (.w (.one (.t (.aA 1 [[u 1]]))))
def acQ:=jL acR 236 [.agg [.t (bo false),.t (.aA 1 [[u 10]]),.t (.aA 1 [[u 1]])],.agg [.t (bo false),.t (.aA 1 []),.t (.aA 1 [[u 1]])]] (.w (.agg [.t (bo false),.t (.aA 1 [[u 10]]),.t (.aA 1 [[u 1]])]))
def acP:=jL acQ 236 [.agg [.t (bo false),.t (.aA 1 []),.t (.aA 1 [[u 1]])],.agg [.t (bo false),.t (.aA 1 []),.t (.aA 1 [[u 1]])]] (.w (.agg [.t (bo false),.t (.aA 1 []),.t (.aA 1 [[u 1]])]))
def acO:=jL acP 215 [.agg [.t (bo false),.t (.aA 1 []),.t (.aA 1 [[u 1]])],.agg [.t (bo false),.t (.aA 1 []),.t (.aA 1 [[u 1]])]] (.w (.agg [.t (bo false),.t (.aA 1 []),.t (.aA 1 [[u 1]])]))
def acN:=jL acO 192 [.agg [.t (bo false),.t (.aA 1 [[u 10]]),.t (.aA 1 [[u 1]]),.t (bo false),.t (.aA 1 []),.t (.aA 1 [[u 1]])],.agg [.t (bo false),.t (.aA 1 []),.t (.aA 1 [[u 1]]),.t (bo false),.t (.aA 1 []),.t (.aA 1 [[u 1]])]] (.w (.agg [.t (bo false),.t (.aA 1 [[u 10]]),.t (.aA 1 [[u 1]]),.t (bo false),.t (.aA 1 []),.t (.aA 1 [[u 1]])]))
def acM:=jL acN 229 [.agg [.t (bo true),.t (.aA 1 [[u 10]])],.one (.t (.aA 1 [[u 1]]))] (.w (.agg [.t (bo true),.t (.aA 1 [[u 10]]),.t (.aA 1 [[u 1]])]))
def acL:=jL acM 198 [.agg [.t (bo true),.t (.aA 1 [[u 10]]),.t (.aA 1 [[u 1]])]] (.w (.agg [.t (bo true),.t (.aA 1 [[u 10]]),.t (.aA 1 [[u 1]])]))
def acK:=jL acL 215 [.agg [.t (bo false),.t (.aA 1 []),.t (.aA 1 [[u 1]])],.agg [.t (bo false),.t (.aA 1 [[u 10]]),.t (.aA 1 [[u 1]])]] (.w (.agg [.t (bo true),.t (.aA 1 [[u 10]]),.t (.aA 1 [[u 1]])]))
def acJ:=jL acK 192 [.agg [.t (bo false),.t (.aA 1 []),.t (.aA 1 [[u 1]]),.t (bo false),.t (.aA 1 []),.t (.aA 1 [[u 1]])],.agg [.t (bo false),.t (.aA 1 []),.t (.aA 1 [[u 1]]),.t (bo false),.t (.aA 1 [[u 10]]),.t (.aA 1 [[u 1]])]] (.w (.agg [.t (bo false),.t (.aA 1 []),.t (.aA 1 [[u 1]]),.t (bo true),.t (.aA 1 [[u 10]]),.t (.aA 1 [[u 1]])]))
def acI:=jL acJ 230 [.agg [.t (bo false),.t (.aA 1 []),.t (.aA 1 [[u 1]])],.agg [.t (bo false),.t (.aA 1 []),.t (.aA 1 [[u 1]])]] (.w (.agg [.t (bo false),.t (.aA 1 []),.t (.aA 1 [[u 1]])]))
def acH:=jL acI 225 [.one (.t (.aA 1 [[u 10]])),.one (.t (.aA 1 [[u 10]]))] (.w (.one (.t (.aA 1 [[u 100]]))))
def acG:=jL acH 243 [.one (.t (.aA 1 [[u 100]])),.one (.t (.aA 1 [[u 1]]))] (.ef [.one (.t (.aA 1 [[u 100]])),.one (.t (.aA 1 [])),.one (.t (bo true))])
def acF:=jL acG 229 [.agg [.t (bo true),.t (.aA 1 [[u 100]])],.one (.t (.aA 1 [[u 1]]))] (.w (.agg [.t (bo true),.t (.aA 1 [[u 100]]),.t (.aA 1 [[u 1]])]))
def acE:=jL acF 229 [.agg [.t (bo false),.t (.aA 1 [[u 100]])],.one (.t (.aA 1 [[u 1]]))] (.w (.agg [.t (bo false),.t (.aA 1 [[u 100]]),.t (.aA 1 [[u 1]])]))
def acD:=jL acE 215 [.agg [.t (bo false),.t (.aA 1 []),.t (.aA 1 [[u 1]])],.agg [.t (bo true),.t (.aA 1 [[u 100]]),.t (.aA 1 [[u 1]])]] (.w (.agg [.t (bo false),.t (.aA 1 [[u 100]]),.t (.aA 1 [[u 1]])]))
def acC:=jL acD 243 [.one (.t (.aA 1 [[u 100]])),.one (.t (.aA 1 [[u 100]]))] (.ef [.one (.t (.aA 1 [[u 1]])),.one (.t (.aA 1 [])),.one (.t (bo true))])
def acB:=jL acC 210 [.agg [.t (bo false),.t (.aA 1 [[u 100]]),.t (.aA 1 [[u 1]])],.agg [.t (bo false),.t (.aA 1 [[u 100]]),.t (.aA 1 [[u 1]])]] (.ef [.agg [.t (bo false),.t (.aA 1 [[u 1]]),.t (.aA 1 [[u 1]])],.one (.t (bo true))])
def acA:=jL acB 236 [.agg [.t (bo false),.t (.aA 1 [[u 10]]),.t (.aA 1 [[u 1]])],.agg [.t (bo true),.t (.aA 1 [[u 10]]),.t (.aA 1 [[u 1]])]] (.w (.agg [.t (bo false),.t (.aA 1 []),.t (.aA 1 [[u 1]])]))
def abZ:=jL acA 214 [.agg [.t (bo false),.t (.aA 1 []),.t (.aA 1 [[u 1]])]] (.ef [.one (.t (i 0)),.one (.t (bo true))])
def abY:=jL abZ 191 [.agg [.t (bo false),.t (.aA 1 []),.t (.aA 1 [[u 1]]),.t (bo false),.t (.aA 1 []),.t (.aA 1 [[u 1]])]] (.ef [.agg [.t (i 0),.t (i 0)],.one (.t (i 0))])
def abX:=jL abY 190 [.agg [.t (i 10),.t (i 10)]] (.w (.agg [.t (bo false),.t (.aA 1 [[u 10]]),.t (.aA 1 [[u 1]]),.t (bo false),.t (.aA 1 [[u 10]]),.t (.aA 1 [[u 1]])]))
def abW:=jL abX 215 [.agg [.t (bo false),.t (.aA 1 [[u 10]]),.t (.aA 1 [[u 1]])],.agg [.t (bo false),.t (.aA 1 [[u 10]]),.t (.aA 1 [[u 1]])]] (.w (.agg [.t (bo false),.t (.aA 1 []),.t (.aA 1 [[u 1]])]))
def abV:=jL abW 192 [.agg [.t (bo false),.t (.aA 1 [[u 10]]),.t (.aA 1 [[u 1]]),.t (bo false),.t (.aA 1 [[u 10]]),.t (.aA 1 [[u 1]])],.agg [.t (bo false),.t (.aA 1 [[u 10]]),.t (.aA 1 [[u 1]]),.t (bo false),.t (.aA 1 []),.t (.aA 1 [[u 1]])]] (.w (.agg [.t (bo false),.t (.aA 1 []),.t (.aA 1 [[u 1]]),.t (bo false),.t (.aA 1 [[u 10]]),.t (.aA 1 [[u 1]])]))
def abU:=jL abV 215 [.agg [.t (bo false),.t (.aA 1 [[u 100]]),.t (.aA 1 [[u 1]])],.agg [.t (bo false),.t (.aA 1 []),.t (.aA 1 [[u 1]])]] (.w (.agg [.t (bo false),.t (.aA 1 [[u 100]]),.t (.aA 1 [[u 1]])]))
def abT:=jL abU 192 [.agg [.t (bo false),.t (.aA 1 []),.t (.aA 1 [[u 1]]),.t (bo false),.t (.aA 1 [[u 10]]),.t (.aA 1 [[u 1]])],.agg [.t (bo false),.t (.aA 1 [[u 10]]),.t (.aA 1 [[u 1]]),.t (bo false),.t (.aA 1 [[u 10]]),.t (.aA 1 [[u 1]])]] (.w (.agg [.t (bo true),.t (.aA 1 [[u 10]]),.t (.aA 1 [[u 1]]),.t (bo false),.t (.aA 1 []),.t (.aA 1 [[u 1]])]))
def abS:=jL abT 100 [.agg [.t (.val (.string ⟨#[115,104,105,114,116]⟩)),.t (.aA 1 [[.val (.string ⟨#[83]⟩)],[.val (.string ⟨#[77]⟩)]]),.t (.aA 1 [[i 0],[i 2]]),.t (.aA 7 [[.val (.string ⟨#[102,114,111,110,116]⟩),.aA 2 [[.val (.string ⟨#[108,111,119]⟩),.aA 2 [[i 0,i 0],[i 10,i 0]]],[.val (.string ⟨#[114,105,103,104,116]⟩),.aA 2 [[i 10,i 0],[i 10,i 10]]],[.val (.string ⟨#[104,105,103,104]⟩),.aA 2 [[i 10,i 10],[i 0,i 10]]],[.val (.string ⟨#[108,101,102,116]⟩),.aA 2 [[i 0,i 10],[i 0,i 0]]]],i 1,nl,.aA 2 [[i 0,i 0],[i 1,i 0],[i 1,i 0],[i 0,i 0]],.aA 1 [[i 0],[i 0],[i 0],[i 0]],bo false]]),.t (.aA 3 [[i 0,i 2,bo true]]),.t nl,.t (.aA 5 [[.val (.string ⟨#[106,111,105,110]⟩),i 0,i 100,nl,.aA 1 [[i 0]]]])],.one (.t (i 0)),.one (.t (i 0))] (.ef [.one (.t (.aA 2 [[i 0,i 0],[i 10,i 0],[i 10,i 10],[i 0,i 10]])),.one (.t (i 0))])
def abR:=jL abS 55 [.one (.t (.aA 2 [[i 20,i 10],[i 10,i 10],[i 10,i 0],[i 20,i 0]]))] (.w (.one (.t (i 0))))
def abQ:=jL abR 72 [.agg [.t (.val (.string ⟨#[115,104,105,114,116]⟩)),.t (.aA 1 [[.val (.string ⟨#[83]⟩)],[.val (.string ⟨#[77]⟩)]]),.t (.aA 1 [[i 0],[i 2]]),.t (.aA 7 [[.val (.string ⟨#[102,114,111,110,116]⟩),.aA 2 [[.val (.string ⟨#[108,111,119]⟩),.aA 2 [[i 0,i 0],[i 10,i 0]]],[.val (.string ⟨#[114,105,103,104,116]⟩),.aA 2 [[i 10,i 0],[i 10,i 10]]],[.val (.string ⟨#[104,105,103,104]⟩),.aA 2 [[i 10,i 10],[i 0,i 10]]],[.val (.string ⟨#[108,101,102,116]⟩),.aA 2 [[i 0,i 10],[i 0,i 0]]]],i 1,nl,.aA 2 [[i 0,i 0],[i 1,i 0],[i 1,i 0],[i 0,i 0]],.aA 1 [[i 0],[i 0],[i 0],[i 0]],bo false]]),.t (.aA 3 [[i 0,i 2,bo true]]),.t nl,.t (.aA 5 [[.val (.string ⟨#[106,111,105,110]⟩),i 0,i 100,nl,.aA 1 [[i 0]]]])],.agg [.t (i 20),.t (i 10),.t (i 0),.t (i 0),.t (.aA 1 [[i 0]]),.t (.aA 7 [[i 0,i 0,i 0,bo false,i 0,i 0,i 0],[i 0,i 0,i 1,bo true,i 0,i 20,i 0]])]] (.w (.one (.t (i 0))))
def abP:=jL abQ 43 [.agg [.t (.val (.string ⟨#[115,104,105,114,116]⟩)),.t (.aA 1 [[.val (.string ⟨#[83]⟩)],[.val (.string ⟨#[77]⟩)]]),.t (.aA 1 [[i 0],[i 2]]),.t (.aA 7 [[.val (.string ⟨#[102,114,111,110,116]⟩),.aA 2 [[.val (.string ⟨#[108,111,119]⟩),.aA 2 [[i 0,i 0],[i 10,i 0]]],[.val (.string ⟨#[114,105,103,104,116]⟩),.aA 2 [[i 10,i 0],[i 10,i 10]]],[.val (.string ⟨#[104,105,103,104]⟩),.aA 2 [[i 10,i 10],[i 0,i 10]]],[.val (.string ⟨#[108,101,102,116]⟩),.aA 2 [[i 0,i 10],[i 0,i 0]]]],i 1,nl,.aA 2 [[i 0,i 0],[i 1,i 0],[i 1,i 0],[i 0,i 0]],.aA 1 [[i 0],[i 0],[i 0],[i 0]],bo false]]),.t (.aA 3 [[i 0,i 2,bo true]]),.t nl,.t (.aA 5 [[.val (.string ⟨#[106,111,105,110]⟩),i 0,i 100,nl,.aA 1 [[i 0]]]])],.agg [.t (i 20),.t (i 10),.t (i 0),.t (i 0),.t (.aA 1 [[i 0]]),.t (.aA 7 [[i 0,i 0,i 0,bo false,i 0,i 0,i 0],[i 0,i 0,i 1,bo true,i 0,i 20,i 0]]),.t (.aA 2 [[i 0,.aA 4 [[i 0,i 0,i 20,i 0]]],[i 1,.aA 4 [[i 1,i 0,i 20,i 0]]]])],.one (.t (.aA 6 [[i 1,i 0,i 0,i 0,i 0,i 1],[i 2,i 0,i 0,i 1,i 1,i 2]])),.one (.t (.aA 6 [[i 0,i 0,i 0,i 0,.aA 1 [[i 0]],bo false],[i 0,i 1,i 0,i 0,.aA 1 [[i 0]],bo false],[i 1,i 0,i 1,i 0,.aA 1 [[i 1]],bo false],[i 1,i 1,i 1,i 0,.aA 1 [[i 1]],bo false]]))] (.w (.one (.t (i 0))))
theorem KC:Fn Tryz.prog 21 [] [] (.w (.one (.t (bo true)))) []:=(IG (l:=abP) (f:=21) (fr:=z21.1) rfl (by kernel_rfl)).1
#print axioms KC
end Go.aR.Cd
end
section
namespace Go.Proofs.YtcaeamnhfodfoaaGreat
open Go.ChangeShapes Go.WideShapes Go.ChangeAt Go.RowKit
set_option maxRecDepth 100000
theorem Dw:(Rows.assemblyWholeRow.inPlace==Tryz.prog.inPlace 7)=true:=by kernel_rfl
theorem M0:(Rows.assemblyWholeRow.unfollowed==Tryz.prog.unfollowed 7)=true:=by kernel_rfl
theorem M1:(Rows.assemblyWholeRow.recurses==Tryz.prog.recurses 7)=true:=by kernel_rfl
theorem HV:(Rows.assemblyWholeRow.named==Tryz.prog.varsNamed 7)=true:=by kernel_rfl
theorem Yd:(Rows.assemblyWholeRow.wf (OpenSpec.ofChange Rows.assemblyWholeSpec)&&laidOutB Tryz.prog&&mapsRowed Tryz.prog&&Tryz.f7.params.all (Tryz.prog.readableRec ·)&&namedTie Tryz.prog Rows.assemblyWholeRow.named Rows.assemblyWholeSpec.vars&& (Rows.assemblyWholeRow.stops== [])&& (Tryz.prog.stops== [])&& (Rows.assemblyWholeRow.knobs== [])&& (Tryz.prog.stopKnobs== []))=true:=by kernel_rfl
theorem M3:joinedFacts Tryz.prog 7 Tryz.f7 Rows.assemblyWholeSpec Rows.assemblyWholeRow=true:=by
 unfold joinedFacts
 rw[Yd,Dw,M0,M1,HV]
 kernel_rfl
end Go.Proofs.YtcaeamnhfodfoaaGreat
end
section
namespace Go.Proofs.YtcaeamnhfodfoaaGreat
open Go.aR Go.ChangeShapes Go.WideShapes Go.ChangeAt Go.RowKit
theorem Tryz.own:ownKnob Tryz.prog.godebug=none:=by kernel_rfl
theorem Tryz.laidOut:laidOutB Tryz.prog=true:=by kernel_rfl
def Ye:Value:= .agg #[.string ⟨#[]⟩, .slice none 0 0, .slice none 0 0, .slice none 0 0, .slice none 0 0, .slice none 0 0, .slice none 0 0, .int .i64 0, .int .i64 0, .int .i64 0, .int .i64 0, .slice none 0 0, .slice none 0 0, .slice none 0 0, .slice none 0 0, .slice none 0 0]
def R0:Value:= .agg #[.slice none 0 0, .slice none 0 0]
set_option maxRecDepth 100000 in
theorem EG (XL: ∀us,Typed Tryz.prog 12 Tryz.f7.params.toList us→aR.Fn Tryz.prog 7 us [] (.w (.one (.t (.val (.bool true))))) []) (os:Os) (started:os.Started) (H:Type) (enc:TypeId×Value→H):
 ReturnsInHanded {} Tryz.checked os 7 .any (Rows.assemblyWholeSpec.pre6 enc Tryz.prog Tryz.f7 Rows.assemblyWholeRow.domain false) (Rows.assemblyWholeSpec.post enc Tryz.prog Tryz.f7 false true false false):=by
 refine returnsInHanded_of_change (C:=Tryz.checked) Tryz.own started (by kernel_rfl) Tryz.func7
  (ChangeSpec.witness6 (enc:=enc) (C:=Tryz.checked) false ⟨#[], #[Ye,R0, .int .u8 0],[]⟩ 8 (by kernel_rfl) (by kernel_rfl) (by kernel_rfl) (by kernel_rfl)) ?_
 intro W base args ds gs before hval hW _ _
 refine G9 (P:=Tryz.prog) (d:=11) (s:=Rows.assemblyWholeSpec) Tryz.laidOut rfl (by kernel_rfl) Tryz.underlying4 ?_ ?_ ?_ XL hval (fun g vs hg=>by simp[B8,Lw]at hg) hW
 · intro ds hds
   rw[Tryz.params7]at hds
   match ds,hds with
   | [a,b,c],_=>exact⟨rfl,rfl,rfl⟩
 · have:(Tryz.f7.params.toList.all fun t=>iB Tryz.prog 12 t)=true:=by kernel_rfl
   exact List.all_eq_true.1 this
 · have:(Tryz.f7.params.toList.all fun t=>Tryz.prog.readableRec t&&decide (t < Tryz.prog.types.size))=true:=by kernel_rfl
   intro t ht
   have:=List.all_eq_true.1 this t ht
   simpa using this
theorem HA:Tryz.pinned.checked.prog.funcNamed Rows.assemblyWholeRow.func=some 7:=by kernel_rfl
theorem J2:Tryz.f7.isInstance Tryz.pinned.checked.prog Rows.assemblyWholeRow.origin Rows.assemblyWholeRow.targs:=of_decide_eq_true (by kernel_rfl)
theorem JZ:Tryz.f7.isWrapper Tryz.pinned.checked.prog Rows.assemblyWholeRow.wrapper Rows.assemblyWholeRow.mainSum:=by
 unfold Func.isWrapper;first|(rw[if_pos (by decide+kernel)];kernel_rfl)|(rw[if_neg (by decide+kernel)];exact⟨rfl,rfl⟩)
theorem J0 (XL: ∀us,Typed Tryz.prog 12 Tryz.f7.params.toList us→aR.Fn Tryz.prog 7 us [] (.w (.one (.t (.val (.bool true))))) []):Rows.AssemblyWholeSaid:=
 OpenClaim.holds_of_wide 7 Tryz.f7 rfl rfl rfl rfl rfl rfl rfl ⟨rfl,rfl,rfl,rfl,rfl⟩ rfl rfl rfl rfl rfl HA Tryz.func7 M3 J2 JZ
  (fun os started H enc _=>EG XL os started H enc)
end Go.Proofs.YtcaeamnhfodfoaaGreat
end
